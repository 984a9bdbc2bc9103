/- What a message to a coordinator asks of other functions. No condition. -/
import Derived.Test.YtnkcmkegjckncaaDoorJ4
import Derived.Test.YtnkcmkegjckncaaDoorJ1

/- What a tick comes to, job by job. No condition. -/
namespace Go.Proofs.YtnkcmkegjckncaaDoor
open Go.RowKit

/-- a job that may be, as far as a tick looks at it -/
def JobOk (j : JobD) : Prop := (1 ≤ j.2.1 ∧ j.2.1 ≤ 3) ∧ j.2.2.1.length ≤ 10 ∧ j.2.2.2.1.length ≤ 4 ∧ (∀ t ∈ j.2.2.1, 0 ≤ t.2.2.1) ∧ 0 ≤ j.2.2.2.2.2.1 ∧ j.2.2.2.2.2.1 ≤ 1048576
theorem up_ge {l : List ND} {m : Int} (h : allUpto (upAt l m) l.length = true) : ∀ i, i < l.length → (i : Int) ≤ (pGet tyN l i).1
  | 0, hi => by
    have := allUpto_iff.1 h 0 hi
    unfold upAt at this
    simp only [Bool.and_eq_true, pLe, decide_eq_true_eq] at this
    exact this.1.1
  | i + 1, hi => by
    have ih := up_ge h i (by omega)
    have := allUpto_iff.1 h (i + 1) hi
    unfold upAt at this
    simp only [Bool.and_eq_true, Bool.or_eq_true, pLt, decide_eq_true_eq] at this
    have h2 := this.2.resolve_left (by omega)
    rw [Nat.add_sub_cancel] at h2
    have : ((i + 1 : Nat) : Int) = (i : Int) + 1 := by omega
    omega
theorem up_len {l : List ND} {m : Int} (h : allUpto (upAt l m) l.length = true) (hm : m ≤ 4) : l.length ≤ 4 := by
  rcases Nat.eq_zero_or_pos l.length with h0 | h0
  · omega
  · have h1 := up_ge h (l.length - 1) (by omega)
    have := allUpto_iff.1 h (l.length - 1) (by omega)
    unfold upAt at this
    simp only [Bool.and_eq_true, pLt, decide_eq_true_eq] at this
    omega
theorem deskF_zero {c : CfgD} {d : DeskD} (h : deskF c d = 0) : (1 ≤ c.1 ∧ c.1 ≤ 4) ∧ d.2.1.length ≤ 6 ∧ ∀ i, i < d.2.1.length → jobAt c d i = true := by
  obtain ⟨cn, cl, cp, u⟩ := c; obtain ⟨dn, dj, u2⟩ := d; cases u; cases u2
  have hc : pEq (cfgF (cn, cl, cp, ())) 0 = true := by
    cases hq : pEq (cfgF (cn, cl, cp, ())) 0 with
    | true => rfl
    | false => rw [deskF_eq, hq, cond_false] at h; rw [h] at hq; cases hq
  have hs := inF_iff.1 (cfgF_sites4 (c := (cn, cl, cp, ())) (by simpa [pEq, pNe] using hc))
  rw [deskF_eq, hc, cond_true] at h
  cases hq : (inF dn 1 1048577 && pLe (pInt dj.length) 6 && allUpto (Go.Proofs.YtnkcmkegjckncaaDoor.jobAt (cn, cl, cp, ()) (dn, dj, ())) dj.length) with
  | false => rw [hq] at h; cases h
  | true =>
    simp only [Bool.and_eq_true] at hq
    refine ⟨hs, ?_, fun i hi => allUpto_iff.1 hq.2 i hi⟩
    have : (dj.length : Int) ≤ 6 := of_decide_eq_true hq.1.2
    show dj.length ≤ 6
    omega
theorem jobs_ok {c : CfgD} {d : DeskD} (h : deskF c d = 0) : ∀ j ∈ d.2.1, JobOk j := by
  obtain ⟨hc, _, hj⟩ := deskF_zero h
  intro j hm
  obtain ⟨i, hi, rfl⟩ := List.getElem_of_mem hm
  have h1 := hj i hi
  unfold Go.Proofs.YtnkcmkegjckncaaDoor.jobAt at h1
  rw [Bool.and_eq_true, pGet_lt (t := tyJob) hi] at h1
  generalize d.2.1[i] = j at h1
  obtain ⟨jn, js, jt, ja, jq, jg, u⟩ := j
  cases u
  obtain ⟨cn, cl, cp, u⟩ := c; cases u
  have h2 := h1.1
  rw [jobF_eq] at h2
  simp only [Bool.and_eq_true] at h2
  obtain ⟨⟨⟨⟨⟨⟨⟨⟨_, _⟩, hg⟩, hs⟩, ht⟩, _⟩, htk⟩, hup⟩, _⟩ := h2
  have ht' : (jt.length : Int) ≤ 10 := of_decide_eq_true ht
  refine ⟨inF_iff.1 hs, ?_, up_len hup hc.2, fun t htm => ?_, (inF_iff.1 hg).1, (inF_iff.1 hg).2⟩
  · show jt.length ≤ 10; omega
  · obtain ⟨k, hk, rfl⟩ := List.getElem_of_mem htm
    have := allUpto_iff.1 htk k hk
    unfold taskAt at this
    simp only [Bool.and_eq_true] at this
    rw [pGet_lt (t := tyTask) hk] at this
    have h3 := this.1.1.1
    unfold taskF at h3
    simp only [Bool.and_eq_true] at h3
    exact (inF_iff.1 h3.1.1.1.1.2).1
/-- the state of a tick at a job -/
structure TickAt (dj : List JobD) (k : Nat) (s : TS) : Prop where
  jobs : ∃ P : List JobD, s.1 = P ++ dj.drop k ∧ P.length ≤ k ∧ (∀ q ∈ P, JobOk q) ∧ ∀ q ∈ P, ∀ j, k ≤ j → j < dj.length → q.1 < (pGet tyJob dj j).1
  msgs : s.2.1.length ≤ 4 * k
  reps : s.2.2.length ≤ k
end Go.Proofs.YtnkcmkegjckncaaDoor

/- What a turn's beginning comes to. No condition. -/
namespace Go.Proofs.YtnkcmkegjckncaaDoor
open Go.RowKit

theorem begE_desk {c : CfgD} {l m : Int} {d : DeskD} (h : pNe (deskF c d) 0 = true) : begE c l m d = deskF c d := by
  rw [begE_eq]
  have : pEq (deskF c d) 0 = false := by simpa [pEq, pNe] using h
  rw [this]; rfl
theorem desk_zero {c : CfgD} {d : DeskD} (h : pNe (deskF c d) 0 = false) : deskF c d = 0 := by simpa [pNe] using h
theorem begE_rest {c : CfgD} {l m : Int} {d : DeskD} (h : deskF c d = 0) : begE c l m d = cond (placeF c l) (cond (pLe 0 m && pLt m c.1) 0 2) 6 := by
  rw [begE_eq, h]; rfl
theorem rooms_ok {c : CfgD} {d : DeskD} (h : deskF c d = 0) : pRoom (pLen d.2.1) 80 ∧ ∀ q ∈ d.2.1, pRoom (pLen q.2.2.1) 56 ∧ pRoom (pLen q.2.2.2.1) 8 := by
  have h1 := (deskF_zero h).2.1
  refine ⟨show d.2.1.length * 80 ≤ _ by omega, fun q hq => ?_⟩
  have := jobs_ok h q hq
  have a := this.2.1
  have b := this.2.2.1
  exact ⟨show q.2.2.1.length * 56 ≤ _ by omega, show q.2.2.2.1.length * 8 ≤ _ by omega⟩


end Go.Proofs.YtnkcmkegjckncaaDoor

/- A job by its number; its last task; places. No condition. -/
namespace Go.Proofs.YtnkcmkegjckncaaDoor
open Go.RowKit

theorem find_at {l : List JobD} {n : Int} (h : pLt (idxKeyJ l n) 0 = false) : ∃ i : Nat, idxKeyJ l n = (i : Int) ∧ i < l.length ∧ (pGet tyJob l i).1 = n := by
  have hg : pGe (idxKeyJ l n) 0 = true := by
    unfold pLt at h; unfold pGe
    rw [decide_eq_false_iff_not] at h
    rw [decide_eq_true_eq]
    exact Int.not_lt.1 h
  unfold idxKeyJ at hg ⊢
  rw [idxOf_ge] at hg
  by_cases hx : ∃ i, i < l.length ∧ keyAtJ l n i = true ∧ ∀ j, j < i → keyAtJ l n j = false
  · obtain ⟨i, a, b, c⟩ := hx
    exact ⟨i, idxOf_hit a c b, a, by unfold keyAtJ pEq at b; exact of_decide_eq_true b⟩
  · exfalso
    have all : ∀ k, ∀ j, j < k → j < l.length → keyAtJ l n j = false := by
      intro k
      induction k with
      | zero => intro j hj; omega
      | succ k ih =>
        intro j hj hjl
        by_cases hjk : j < k
        · exact ih j hjk hjl
        · cases hq : keyAtJ l n j with
          | false => rfl
          | true => exact absurd ⟨j, hjl, hq, fun i hi => ih i (by omega) (by omega)⟩ hx
    obtain ⟨j, h1, h2⟩ := anyUpto_iff.1 hg
    rw [all (j + 1) j (by omega) h1] at h2
    cases h2
end Go.Proofs.YtnkcmkegjckncaaDoor

/- Loops of a turn whose desk is kept. No condition. -/
namespace Go.Proofs.YtnkcmkegjckncaaDoor
open Go.RowKit

/-- those that do not know are told -/
theorem tellX_vc (q : Nat) (w : WorkX) (n : Int) (a : List ND) (Fin : Int × WorkK × Unit → Prop) (ha : a.length ≤ 1000) (hm : w.2.2.2.2.2.2.1.length ≤ 1000000)
    (hF : Fin ((a.length : Int), keepW w (w.2.2.2.2.2.2.1 ++ saysM w.2.2.2.2.1 true n a), ())) :
    tellXInv w n a ((0 : Int), keepW w w.2.2.2.2.2.2.1, ()) ∧ ∀ (y : kden false tI × denCells (kWorkX q) × PUnit), tellXInv w n a y → bif pLt y.1 (pInt (pLen a)) then pIn y.1 (pLen a) ∧
      pRoom (pPlus (pLen y.2.1.2.2.2.2.2.2.2.1) (pLen [((4 : Int), y.2.1.2.2.2.2.1, (pGet tyN a (pNat y.1)).1, y.2.1.2.2.2.2.1, n, (0 : Int), (0 : Int), (0 : Int), (0 : Int), (0 : Int), false, (0 : Int), ())])) 96 ∧
      pIn (pSubI .i64 (pInt (pLen (pApp y.2.1.2.2.2.2.2.2.2.1 [((4 : Int), y.2.1.2.2.2.2.1, (pGet tyN a (pNat y.1)).1, y.2.1.2.2.2.2.1, n, (0 : Int), (0 : Int), (0 : Int), (0 : Int), (0 : Int), false, (0 : Int), ())]))) 1) (pLen (pApp y.2.1.2.2.2.2.2.2.2.1 [((4 : Int), y.2.1.2.2.2.2.1, (pGet tyN a (pNat y.1)).1, y.2.1.2.2.2.2.1, n, (0 : Int), (0 : Int), (0 : Int), (0 : Int), (0 : Int), false, (0 : Int), ())])) ∧
      tellXInv w n a (pAdd .i64 y.1 1, (y.2.1.1, y.2.1.2.1, y.2.1.2.2.1, y.2.1.2.2.2.1, y.2.1.2.2.2.2.1, y.2.1.2.2.2.2.2.1, (),
        (let M := pApp y.2.1.2.2.2.2.2.2.2.1 [((4 : Int), y.2.1.2.2.2.2.1, (pGet tyN a (pNat y.1)).1, y.2.1.2.2.2.2.1, n, (0 : Int), (0 : Int), (0 : Int), (0 : Int), (0 : Int), false, (0 : Int), ())]
         let i := pNat (pSubI .i64 (pInt (pLen M)) 1)
         let m := pGet tyMsg M i
         pSet M i (m.1, m.2.1, m.2.2.1, m.2.2.2.1, m.2.2.2.2.1, m.2.2.2.2.2.1, m.2.2.2.2.2.2.1, m.2.2.2.2.2.2.2.1, m.2.2.2.2.2.2.2.2.1, m.2.2.2.2.2.2.2.2.2.1, true, m.2.2.2.2.2.2.2.2.2.2.2)), y.2.1.2.2.2.2.2.2.2.2), ()) ∧
      Nat.le (Nat.succ (tellXMu w n a (pAdd .i64 y.1 1, (y.2.1.1, y.2.1.2.1, y.2.1.2.2.1, y.2.1.2.2.2.1, y.2.1.2.2.2.2.1, y.2.1.2.2.2.2.2.1, (),
        (let M := pApp y.2.1.2.2.2.2.2.2.2.1 [((4 : Int), y.2.1.2.2.2.2.1, (pGet tyN a (pNat y.1)).1, y.2.1.2.2.2.2.1, n, (0 : Int), (0 : Int), (0 : Int), (0 : Int), (0 : Int), false, (0 : Int), ())]
         let i := pNat (pSubI .i64 (pInt (pLen M)) 1)
         let m := pGet tyMsg M i
         pSet M i (m.1, m.2.1, m.2.2.1, m.2.2.2.1, m.2.2.2.2.1, m.2.2.2.2.2.1, m.2.2.2.2.2.2.1, m.2.2.2.2.2.2.2.1, m.2.2.2.2.2.2.2.2.1, m.2.2.2.2.2.2.2.2.2.1, true, m.2.2.2.2.2.2.2.2.2.2.2)), y.2.1.2.2.2.2.2.2.2.2), ()))) (tellXMu w n a y) else Fin y := by
  refine ⟨StepInv.start ?_, fun y hy => ?_⟩
  · show (keepW w w.2.2.2.2.2.2.1, ()) = (keepW w (w.2.2.2.2.2.2.1 ++ []), ())
    rw [List.append_nil]
  rcases StepInv.round (show a.length < 4611686018427387904 by omega) hy with ⟨k, rfl, hk, hb, hT⟩ | rfl
  · rw [bif_true (by rw [pLt_coe]; exact decide_eq_true hk)]
    have hx : (w.2.2.2.2.2.2.1 ++ saysM w.2.2.2.2.1 true n (a.take k)).length ≤ 1001000 := by
      rw [List.length_append, saysM_len, List.length_take]; omega
    dsimp only [keepW]
    rw [pNat_coe]
    generalize hX : w.2.2.2.2.2.2.1 ++ saysM w.2.2.2.2.1 true n (a.take k) = X at *
    rw [last_pos (by omega), pNat_coe, last_get (t := tyMsg), last_set]
    refine ⟨pIn_coe.2 hk, app_room (by omega), pIn_coe.2 (by unfold pLen pApp; rw [List.length_append]; exact Nat.lt_succ_self _), hT _ ?_⟩
    rw [saysM_take hk, ← List.append_assoc, hX]
    rfl
  · rw [bif_false (by rw [pLt_coe]; exact decide_eq_false (Nat.lt_irrefl _))]
    rw [List.take_length]
    exact hF

/-- what is sent where a job ends -/
theorem endsX_vc (q : Nat) (w : WorkX) (n : Int) (a : List ND) (Fin : Int × WorkK × Unit → Prop) (ha : a.length ≤ 1000) (hm : w.2.2.2.2.2.2.1.length ≤ 1000000)
    (hF : Fin ((a.length : Int), keepW w (w.2.2.2.2.2.2.1 ++ saysM w.2.2.2.2.1 false n a), ())) :
    kendXInv w n a ((0 : Int), keepW w w.2.2.2.2.2.2.1, ()) ∧ ∀ (y : kden false tI × denCells (kWorkX q) × PUnit), kendXInv w n a y → bif pLt y.1 (pInt (pLen a)) then pIn y.1 (pLen a) ∧
      pRoom (pPlus (pLen y.2.1.2.2.2.2.2.2.2.1) (pLen [((4 : Int), y.2.1.2.2.2.2.1, (pGet tyN a (pNat y.1)).1, y.2.1.2.2.2.2.1, n, (0 : Int), (0 : Int), (0 : Int), (0 : Int), (0 : Int), false, (0 : Int), ())])) 96 ∧
      pIn (pSubI .i64 (pInt (pLen (pApp y.2.1.2.2.2.2.2.2.2.1 [((4 : Int), y.2.1.2.2.2.2.1, (pGet tyN a (pNat y.1)).1, y.2.1.2.2.2.2.1, n, (0 : Int), (0 : Int), (0 : Int), (0 : Int), (0 : Int), false, (0 : Int), ())]))) 1) (pLen (pApp y.2.1.2.2.2.2.2.2.2.1 [((4 : Int), y.2.1.2.2.2.2.1, (pGet tyN a (pNat y.1)).1, y.2.1.2.2.2.2.1, n, (0 : Int), (0 : Int), (0 : Int), (0 : Int), (0 : Int), false, (0 : Int), ())])) ∧
      kendXInv w n a (pAdd .i64 y.1 1, (y.2.1.1, y.2.1.2.1, y.2.1.2.2.1, y.2.1.2.2.2.1, y.2.1.2.2.2.2.1, y.2.1.2.2.2.2.2.1, (), pApp y.2.1.2.2.2.2.2.2.2.1 [((4 : Int), y.2.1.2.2.2.2.1, (pGet tyN a (pNat y.1)).1, y.2.1.2.2.2.2.1, n, (0 : Int), (0 : Int), (0 : Int), (0 : Int), (0 : Int), false, (0 : Int), ())], y.2.1.2.2.2.2.2.2.2.2), ()) ∧
      Nat.le (Nat.succ (kendXMu w n a (pAdd .i64 y.1 1, (y.2.1.1, y.2.1.2.1, y.2.1.2.2.1, y.2.1.2.2.2.1, y.2.1.2.2.2.2.1, y.2.1.2.2.2.2.2.1, (), pApp y.2.1.2.2.2.2.2.2.2.1 [((4 : Int), y.2.1.2.2.2.2.1, (pGet tyN a (pNat y.1)).1, y.2.1.2.2.2.2.1, n, (0 : Int), (0 : Int), (0 : Int), (0 : Int), (0 : Int), false, (0 : Int), ())], y.2.1.2.2.2.2.2.2.2.2), ()))) (kendXMu w n a y) else Fin y := by
  refine ⟨StepInv.start ?_, fun y hy => ?_⟩
  · show (keepW w w.2.2.2.2.2.2.1, ()) = (keepW w (w.2.2.2.2.2.2.1 ++ []), ())
    rw [List.append_nil]
  rcases StepInv.round (show a.length < 4611686018427387904 by omega) hy with ⟨k, rfl, hk, hb, hT⟩ | rfl
  · rw [bif_true (by rw [pLt_coe]; exact decide_eq_true hk)]
    have hx : (w.2.2.2.2.2.2.1 ++ saysM w.2.2.2.2.1 false n (a.take k)).length ≤ 1001000 := by
      rw [List.length_append, saysM_len, List.length_take]; omega
    dsimp only [keepW]
    rw [pNat_coe]
    generalize hX : w.2.2.2.2.2.2.1 ++ saysM w.2.2.2.2.1 false n (a.take k) = X at *
    rw [last_pos (by omega)]
    refine ⟨pIn_coe.2 hk, app_room (by omega), pIn_coe.2 (by unfold pLen pApp; rw [List.length_append]; exact Nat.lt_succ_self _), hT _ ?_⟩
    rw [saysM_take hk, ← List.append_assoc, hX]
    rfl
  · rw [bif_false (by rw [pLt_coe]; exact decide_eq_false (Nat.lt_irrefl _))]
    rw [List.take_length]
    exact hF

theorem toldX_vc (q : Nat) (t : TurnX) (me n : Int) (a : List ND) (Fin : Int × TurnK × Unit → Prop) (ha : a.length ≤ 1000) (hm : t.2.1.length ≤ 1000000)
    (hF : Fin ((a.length : Int), keepTn t (t.2.1 ++ saysM me true n a), ())) :
    toldXInv t me n a ((0 : Int), keepTn t t.2.1, ()) ∧ ∀ (y : kden false tI × denCells (kTurnX q) × PUnit), toldXInv t me n a y → bif pLt y.1 (pInt (pLen a)) then pIn y.1 (pLen a) ∧ pRoom (pPlus (pLen y.2.1.2.2.1) (pLen [(let b := aboutF me 4 (pGet tyN a (pNat y.1)).1 n; (b.1, b.2.1, b.2.2.1, b.2.2.2.1, b.2.2.2.2.1, b.2.2.2.2.2.1, b.2.2.2.2.2.2.1, b.2.2.2.2.2.2.2.1, b.2.2.2.2.2.2.2.2.1, b.2.2.2.2.2.2.2.2.2.1, true, b.2.2.2.2.2.2.2.2.2.2.2))])) 96 ∧
      toldXInv t me n a (pAdd .i64 y.1 1, (y.2.1.1, (), pApp y.2.1.2.2.1 [(let b := aboutF me 4 (pGet tyN a (pNat y.1)).1 n; (b.1, b.2.1, b.2.2.1, b.2.2.2.1, b.2.2.2.2.1, b.2.2.2.2.2.1, b.2.2.2.2.2.2.1, b.2.2.2.2.2.2.2.1, b.2.2.2.2.2.2.2.2.1, b.2.2.2.2.2.2.2.2.2.1, true, b.2.2.2.2.2.2.2.2.2.2.2))], y.2.1.2.2.2), ()) ∧
      Nat.le (Nat.succ (toldXMu t me n a (pAdd .i64 y.1 1, (y.2.1.1, (), pApp y.2.1.2.2.1 [(let b := aboutF me 4 (pGet tyN a (pNat y.1)).1 n; (b.1, b.2.1, b.2.2.1, b.2.2.2.1, b.2.2.2.2.1, b.2.2.2.2.2.1, b.2.2.2.2.2.2.1, b.2.2.2.2.2.2.2.1, b.2.2.2.2.2.2.2.2.1, b.2.2.2.2.2.2.2.2.2.1, true, b.2.2.2.2.2.2.2.2.2.2.2))], y.2.1.2.2.2), ()))) (toldXMu t me n a y) else Fin y := by
  refine ⟨StepInv.start ?_, fun y hy => ?_⟩
  · show (keepTn t t.2.1, ()) = (keepTn t (t.2.1 ++ []), ())
    rw [List.append_nil]
  rcases StepInv.round (show a.length < 4611686018427387904 by omega) hy with ⟨k, rfl, hk, hb, hT⟩ | rfl
  · rw [bif_true (by rw [pLt_coe]; exact decide_eq_true hk)]
    have hx : (t.2.1 ++ saysM me true n (a.take k)).length ≤ 1001000 := by
      rw [List.length_append, saysM_len, List.length_take]; omega
    dsimp only [keepTn]
    rw [pNat_coe]
    generalize hX : t.2.1 ++ saysM me true n (a.take k) = X at *
    refine ⟨pIn_coe.2 hk, app_room (by omega), hT _ ?_⟩
    rw [saysM_take hk, ← List.append_assoc, hX]
    rfl
  · rw [bif_false (by rw [pLt_coe]; exact decide_eq_false (Nat.lt_irrefl _))]
    rw [List.take_length]
    exact hF

theorem endedX_vc (q : Nat) (t : TurnX) (me n : Int) (a : List ND) (Fin : Int × TurnK × Unit → Prop) (ha : a.length ≤ 1000) (hm : t.2.1.length ≤ 1000000)
    (hF : Fin ((a.length : Int), keepTn t (t.2.1 ++ saysM me false n a), ())) :
    endedXInv t me n a ((0 : Int), keepTn t t.2.1, ()) ∧ ∀ (y : kden false tI × denCells (kTurnX q) × PUnit), endedXInv t me n a y → bif pLt y.1 (pInt (pLen a)) then pIn y.1 (pLen a) ∧ pRoom (pPlus (pLen y.2.1.2.2.1) (pLen [aboutF me 4 (pGet tyN a (pNat y.1)).1 n])) 96 ∧
      endedXInv t me n a (pAdd .i64 y.1 1, (y.2.1.1, (), pApp y.2.1.2.2.1 [aboutF me 4 (pGet tyN a (pNat y.1)).1 n], y.2.1.2.2.2), ()) ∧
      Nat.le (Nat.succ (endedXMu t me n a (pAdd .i64 y.1 1, (y.2.1.1, (), pApp y.2.1.2.2.1 [aboutF me 4 (pGet tyN a (pNat y.1)).1 n], y.2.1.2.2.2), ()))) (endedXMu t me n a y) else Fin y := by
  refine ⟨StepInv.start ?_, fun y hy => ?_⟩
  · show (keepTn t t.2.1, ()) = (keepTn t (t.2.1 ++ []), ())
    rw [List.append_nil]
  rcases StepInv.round (show a.length < 4611686018427387904 by omega) hy with ⟨k, rfl, hk, hb, hT⟩ | rfl
  · rw [bif_true (by rw [pLt_coe]; exact decide_eq_true hk)]
    have hx : (t.2.1 ++ saysM me false n (a.take k)).length ≤ 1001000 := by
      rw [List.length_append, saysM_len, List.length_take]; omega
    dsimp only [keepTn]
    rw [pNat_coe]
    generalize hX : t.2.1 ++ saysM me false n (a.take k) = X at *
    refine ⟨pIn_coe.2 hk, app_room (by omega), hT _ ?_⟩
    rw [saysM_take hk, ← List.append_assoc, hX]
    rfl
  · rw [bif_false (by rw [pLt_coe]; exact decide_eq_false (Nat.lt_irrefl _))]
    rw [List.take_length]
    exact hF

end Go.Proofs.YtnkcmkegjckncaaDoor

/- What a client's call comes to, in plain words. No condition. -/
namespace Go.Proofs.YtnkcmkegjckncaaDoor
open Go.RowKit

theorem pSet_get {t : Ty} {xs : List t.den} {i : Nat} : pSet xs i (pGet t xs i) = xs := by
  by_cases h : i < xs.length
  · rw [pGet_lt h]; unfold pSet; exact List.set_getElem_self h
  · unfold pSet; exact List.set_eq_of_length_le (Nat.le_of_not_lt h)
theorem pSet_pSet {α : Type} {xs : List α} {i : Nat} {a b : α} : pSet (pSet xs i a) i b = pSet xs i b := by unfold pSet; exact List.set_set ..
theorem pGet_set_eq {t : Ty} {xs : List t.den} {i : Nat} {v : t.den} (hi : i < xs.length) : pGet t (pSet xs i v) i = v := by rw [pGet_set hi, if_pos rfl]
theorem turn_eq {a b : TurnD} (h1 : a.1 = b.1) (h2 : a.2.1 = b.2.1) (h3 : a.2.2.1 = b.2.2.1) (h4 : a.2.2.2.1 = b.2.2.2.1) (h5 : a.2.2.2.2.1 = b.2.2.2.2.1) (h6 : a.2.2.2.2.2.1 = b.2.2.2.2.2.1) (h7 : a.2.2.2.2.2.2.1 = b.2.2.2.2.2.2.1) : a = b := by
  obtain ⟨a1, a2, a3, a4, a5, a6, a7, ⟨⟩⟩ := a
  obtain ⟨b1, b2, b3, b4, b5, b6, b7, ⟨⟩⟩ := b
  have h1 : a1 = b1 := h1
  have h2 : a2 = b2 := h2
  have h3 : a3 = b3 := h3
  have h4 : a4 = b4 := h4
  have h5 : a5 = b5 := h5
  have h6 : a6 = b6 := h6
  have h7 : a7 = b7 := h7
  rw [h1, h2, h3, h4, h5, h6, h7]
theorem turn_to {a b d : TurnD} (hd : d = b) (h1 : a.1 = b.1) (h2 : a.2.1 = b.2.1) (h3 : a.2.2.1 = b.2.2.1) (h4 : a.2.2.2.1 = b.2.2.2.1) (h5 : a.2.2.2.2.1 = b.2.2.2.2.1) (h6 : a.2.2.2.2.2.1 = b.2.2.2.2.2.1) (h7 : a.2.2.2.2.2.2.1 = b.2.2.2.2.2.2.1) : a = d := (turn_eq h1 h2 h3 h4 h5 h6 h7).trans hd.symm
theorem nz_of {a : Int} (h : 1 ≤ a) : pNz a := by unfold pNz; omega
end Go.Proofs.YtnkcmkegjckncaaDoor

/- Plain words of coordinators' turns: what comes of a message. No condition. -/
namespace Go.Proofs.YtnkcmkegjckncaaDoor
open Go.RowKit
abbrev pTxn : Par := .agg [.rd tI, .rd tI]
abbrev wTxn : TyW := wStruct [wInt, wInt]
abbrev wMsg : TyW := wStruct [wInt, wInt, wInt, wTxn, wInt, wInt, wInt, wInt, wInt, wBool, wInt]
abbrev tyParts : Ty := .pair .bool (.pair .bool (.pair .bool (.pair .bool (.pair .bool (.pair .bool (.pair .bool (.pair .bool .unit)))))))
abbrev PartsD := Bool × Bool × Bool × Bool × Bool × Bool × Bool × Bool × Unit
def messagesT : List PartsD := [(false, false, false, false, false, false, false, false, ()), (true, true, false, false, true, false, false, false, ()), (false, true, true, false, true, false, false, false, ()), (true, true, false, true, false, false, false, false, ()), (false, false, false, false, false, true, false, false, ()), (true, true, true, true, true, false, true, false, ()), (false, true, false, false, true, false, true, false, ()), (true, true, false, true, false, true, false, false, ()), (false, false, false, false, false, false, false, false, ()), (false, false, false, false, false, false, false, false, ())]
def tabsM : Nat → Option Gl := look [(0, Gl.rows tyParts messagesT)]
abbrev MsgR := Int × Int × Int × Int × Int × Int × Int × Int × Int × Bool × Int × Unit

def txnF (c : CfgD) (s n : Int) : Bool := pLe 0 s && pLt s c.1 && inF n 1 1048576
def codeF (e : Int) : Bool := pEq e 0 || pEq e 11 || pEq e 8
def msgRange (c : CfgD) (m : MsgD) : Bool :=
  pLe 0 m.2.1 && pLt m.2.1 c.1 && pLe 0 m.2.2.1 && pLt m.2.2.1 c.1 && txnF c m.2.2.2.1 m.2.2.2.2.1 && placeF c m.2.2.2.2.2.1 && inF m.2.2.2.2.2.2.1 0 7 && inF m.2.2.2.2.2.2.2.1 0 1073741824 && inF m.2.2.2.2.2.2.2.2.1 0 1048576 &&
    inF m.2.2.2.2.2.2.2.2.2.1 0 1048576 && codeF m.2.2.2.2.2.2.2.2.2.2.2.1
/-- has a message just what its kind has? -/
def msgFormR (r : PartsD) (m : MsgD) : Bool :=
  (r.1 || pEq m.2.2.2.2.2.1 0) && (r.2.1 || pEq m.2.2.2.2.2.2.1 0) && (r.2.2.1 || pEq m.2.2.2.2.2.2.2.1 0) && (r.2.2.2.1 || pEq m.2.2.2.2.2.2.2.2.1 0) && (r.2.2.2.2.1 || pEq m.2.2.2.2.2.2.2.2.2.1 0) &&
    (r.2.2.2.2.2.1 || !m.2.2.2.2.2.2.2.2.2.2.1) && (r.2.2.2.2.2.2.1 || pEq m.2.2.2.2.2.2.2.2.2.2.2.1 0) && (pEq m.2.2.2.2.2.2.2.2.2.2.2.1 0 || (pEq m.2.2.2.2.2.2.2.1 0 && pEq m.2.2.2.2.2.2.2.2.1 0))
def msgForm (m : MsgD) : Bool := msgFormR (pGet tyParts messagesT (pNat m.1)) m
def msgF (c : CfgD) (m : MsgD) : Int := cond (pEq (cfgF c) 0) (cond (inF m.1 1 9) (cond (msgRange c m) (cond (msgForm m) 0 4) 2) 3) (cfgF c)
/-- the tables lie where they are to lie -/
def TabsM (W : World) : Prop := ∀ g gl, tabsM g = some gl → GlobR W (fun b => b < W.heap.size) g gl
theorem tabsM_ok : ∀ W, TabsM W → ∀ g gl, tabsM g = some gl → GlobR W (fun b => b < W.heap.size) g gl := fun _ h => h

/-- a row from which some are taken away: so far -/
def DelAt {t : Ty} (p : t.den → Bool) (xs : List t.den) (y : Int × Int × List t.den × Unit) : Prop :=
  ∃ (i j : Nat) (zs : List t.den), y = ((j : Int), (i : Int), zs, ()) ∧ i < j ∧ j ≤ xs.length ∧ zs.length = xs.length ∧ zs.take i = (xs.take j).filter (fun x => !p x) ∧ zs.drop j = xs.drop j
def isN (x : Int) (a : ND) : Bool := pEq a.1 x
def idxFrom (l : List ND) (x : Int) : Int := idxOf (fun j => isN x (pGet tyN l j)) l.length
def dropN (l : List ND) (x : Int) : List ND := l.filter fun a => !isN x a
def idxAInv (l : List ND) (x : Int) : Int × Unit → Prop := FindInv (fun j => isN x (pGet tyN l j)) l.length
def idxAMu (l : List ND) (_ : Int) : Int × Unit → Nat := UpMu l.length
def delNInv (l : List ND) (x : Int) : Int × Int × List ND × Unit → Prop := DelAt (t := tyN) (isN x) l
def delNMu (l : List ND) (_ : Int) : Int × Int × List ND × Unit → Nat := fun y => l.length - y.1.toNat

/-- nothing comes of it -/
def quietT (d : DeskD) : TurnD := (d.1, d.2.1, [], [], [], 0, 0, ())
/-- is a task the one that is answered? -/
def fitsT (cn : Int) (k : TaskD) (z : MsgD) : Bool :=
  !(k.2.2.2.2.2.2.1 || pNe k.2.2.2.2.2.1 z.2.2.2.2.2.2.2.2.2.1 || pNot (pBeq k.1 (pEq z.1 6)) || pNe k.2.2.1 z.2.2.2.2.2.2.1 || (pNot (pEq z.1 6) && pNe k.2.1 z.2.2.2.2.2.1) || pNe z.2.1 (pRem k.2.2.1 cn))
def doneK (k : TaskD) (z : MsgD) : TaskD :=
  cond (pEq z.1 6) (k.1, k.2.1, k.2.2.1, k.2.2.2.1, k.2.2.2.2.1, k.2.2.2.2.2.1, true, k.2.2.2.2.2.2.2)
    (k.1, k.2.1, k.2.2.1, z.2.2.2.2.2.2.2.1, z.2.2.2.2.2.2.2.2.1, k.2.2.2.2.2.1, true, k.2.2.2.2.2.2.2)
def answT (cn l m : Int) (d : DeskD) (i : Nat) (j : JobD) (z : MsgD) : TurnD :=
  cond (pLt (pSubI .i64 (pInt j.2.2.1.length) 1) 0) (quietT d)
    (cond (fitsT cn (pGet tyTask j.2.2.1 (j.2.2.1.length - 1)) z)
      (cond (pNe z.2.2.2.2.2.2.2.2.2.2.2.1 0 && pEq z.1 6) (d.1, pDel d.2.1 i, saysM m false j.1 (handsF cn l j.2.2.1), [], [(m, 3, j.1, z.2.2.2.2.2.2.1, z.2.2.2.2.2.2.2.1, z.2.2.2.2.2.2.2.2.2.2.2.1, ())], 0, 0, ())
        (d.1, pSet d.2.1 i (j.1, j.2.1, cond (pNe z.2.2.2.2.2.2.2.2.2.2.2.1 0) (j.2.2.1.take (j.2.2.1.length - 1)) (pSet j.2.2.1 (j.2.2.1.length - 1) (doneK (pGet tyTask j.2.2.1 (j.2.2.1.length - 1)) z)), j.2.2.2.1, j.2.2.2.2.1, 0, ()),
          [], [], [(m, cond (pEq z.1 6) 3 2, j.1, z.2.2.2.2.2.2.1, z.2.2.2.2.2.2.2.1, z.2.2.2.2.2.2.2.2.2.2.2.1, ())], 0, 0, ()))
      (quietT d))
/-- is a task's read the one that is told of? -/
def mineT (z : MsgD) (t : TaskD) : Bool := !t.1 && pEq t.2.1 z.2.2.2.2.2.1 && pEq t.2.2.1 z.2.2.2.2.2.2.1 && pEq t.2.2.2.2.1 z.2.2.2.2.2.2.2.2.1
def markT (z : MsgD) (t : TaskD) : TaskD := cond (mineT z t && z.2.2.2.2.2.2.2.2.2.2.1) (t.1, t.2.1, t.2.2.1, t.2.2.2.1, t.2.2.2.2.1, t.2.2.2.2.2.1, t.2.2.2.2.2.2.1, true, ()) t
def markK (z : MsgD) (ts : List TaskD) (k : Nat) : List TaskD := (ts.take k).map (markT z) ++ ts.drop k
def mineN (z : MsgD) (ts : List TaskD) (k : Nat) : Nat := ((ts.take k).filter (mineT z)).length
def leftT (t : TaskD) : Bool := !t.1 && !t.2.2.2.2.2.2.2.1
def sureT (cn l m : Int) (d : DeskD) (i : Nat) (j : JobD) (z : MsgD) : TurnD :=
  cond (pNe j.2.1 2 || pNe z.2.1 (pRem z.2.2.2.2.2.2.1 cn)) (quietT d)
    (cond (j.2.2.1.any (mineT z))
      (cond z.2.2.2.2.2.2.2.2.2.2.1
        (cond ((j.2.2.1.map (markT z)).any leftT) (d.1, pSet d.2.1 i (j.1, j.2.1, j.2.2.1.map (markT z), j.2.2.2), [], [], [], 0, 0, ())
          (commitW cn l m d.1 d.2.1 i (j.1, j.2.1, j.2.2.1.map (markT z), j.2.2.2) 0))
        (d.1, pDel d.2.1 i, saysM m false j.1 (handsF cn l j.2.2.1), [], [(m, 4, j.1, 0, 0, 11, ())], 0, 0, ()))
      (quietT d))
def ackT (m : Int) (d : DeskD) (i : Nat) (j : JobD) (z : MsgD) : TurnD :=
  cond (pNe j.2.1 3) (quietT d)
    (cond (pEq (pInt (dropN j.2.2.2.1 z.2.1).length) 0) (d.1, pDel d.2.1 i, [], [(4, m, j.1, 0, 0, 0, false, [], ())], [], 0, 0, ())
      (d.1, pSet d.2.1 i (j.1, j.2.1, j.2.2.1, dropN j.2.2.2.1 z.2.1, j.2.2.2.2), [], [], [], 0, 0, ()))
def askedT (m : Int) (d : DeskD) (j : JobD) (z : MsgD) : TurnD :=
  cond (pEq j.2.1 3 && pGe (hasF j.2.2.2.1 z.2.1) 0) (d.1, d.2.1, [decM m true j.1 z.2.1], [], [], 0, 0, ()) (quietT d)
def heaE (c : CfgD) (l m : Int) (d : DeskD) (z : MsgD) : Int :=
  cond (pEq (begE c l m d) 0) (cond (pEq (msgF c z) 0) (cond (pEq z.2.2.1 m && pEq z.2.2.2.1 m) (cond (pLt z.1 5) 3 0) 2) (msgF c z)) (begE c l m d)
def heaT (c : CfgD) (l m : Int) (d : DeskD) (z : MsgD) : TurnD :=
  cond (pEq (heaE c l m d z) 0)
    (cond (pLt (idxKeyJ d.2.1 z.2.2.2.2.1) 0) (cond (pEq z.1 9) (d.1, d.2.1, [decM m false z.2.2.2.2.1 z.2.1], [], [], 0, 0, ()) (quietT d))
      (cond (pEq z.1 5 || pEq z.1 6) (answT c.1 l m d (pNat (idxKeyJ d.2.1 z.2.2.2.2.1)) (pGet tyJob d.2.1 (pNat (idxKeyJ d.2.1 z.2.2.2.2.1))) z)
        (cond (pEq z.1 7) (sureT c.1 l m d (pNat (idxKeyJ d.2.1 z.2.2.2.2.1)) (pGet tyJob d.2.1 (pNat (idxKeyJ d.2.1 z.2.2.2.2.1))) z)
          (cond (pEq z.1 8) (ackT m d (pNat (idxKeyJ d.2.1 z.2.2.2.2.1)) (pGet tyJob d.2.1 (pNat (idxKeyJ d.2.1 z.2.2.2.2.1))) z)
            (askedT m d (pGet tyJob d.2.1 (pNat (idxKeyJ d.2.1 z.2.2.2.2.1))) z))))) noTurn

/- loops -/
def sureInv (z : MsgD) (ts : List TaskD) : Int × Bool × Bool × List TaskD × Unit → Prop := StepInv (fun k => ((ts.take k).any (mineT z), ((ts.take k).map (markT z)).any leftT, markK z ts k, ())) ts.length
def sureMu (_ : MsgD) (ts : List TaskD) : Int × Bool × Bool × List TaskD × Unit → Nat := StepMu ts.length
def madeAInv (z : MsgD) (ts : List TaskD) : Int × Int × List TaskD × Unit → Prop := StepInv (fun k => ((mineN z ts k : Int), markK z ts k, ())) ts.length
def madeAMu (_ : MsgD) (ts : List TaskD) : Int × Int × List TaskD × Unit → Nat := StepMu ts.length
def madeBInv (ts : List TaskD) : Int × Unit → Prop := UpInv (fun j => !leftT (pGet tyTask ts j)) ts.length
def madeBMu (ts : List TaskD) : Int × Unit → Nat := UpMu ts.length
/-- the job that a message tells of -/
abbrev hJob (dj : List JobD) (zn : Int) : JobD := pGet tyJob dj (pNat (idxKeyJ dj zn))


end Go.Proofs.YtnkcmkegjckncaaDoor

/- Contracts, and what the evaluator says, as plain propositions: ChV. Printed by vc.py. -/
namespace Go.Proofs.YtnkcmkegjckncaaDoor
open Go.RowKit Go.ChangeShapes Go.WideShapes Go.Deep

abbrev cownN_S : Shape := ⟨[pDesk], []⟩
abbrev cownN_f : Shape.den cownN_S → denVars [.agg 0 vDeskN] := fun x => ((x.1.1.1, x.1.1.2.1, ()), ())
abbrev cownN_p : Shape.den cownN_S → List Prop := fun x => [pRoom (pLen x.1.1.2.1) 80, (∀ q ∈ x.1.1.2.1, pRoom (pLen q.2.2.1) 56 ∧ pRoom (pLen q.2.2.2.1) 8), pLen x.1.1.2.1 < 4611686018427387904]
def ccownN : Ctr := shCtr cownN_S cownN_p [] [.agg 0 vDeskN] cownN_f
def cDeskCopyN : Ctr := shCtr cownN_S cownN_p [] [.agg 0 vDeskN] cownN_f
abbrev commit1_S : Shape := ⟨[pTask], []⟩
abbrev commit1_f : Shape.den commit1_S → denVars [.slot 0 false .bool] := fun x => (x.1.1.1, ())
abbrev commit1_p : Shape.den commit1_S → List Prop := fun _ => []
def ccommit1 : Ctr := shCtr commit1_S commit1_p [] [.slot 0 false .bool] commit1_f
abbrev idxW_S : Shape := ⟨[.one (.rd (.sl tyTask)), .one (.lit (.fn 64 []))], []⟩
abbrev idxW_f : Shape.den idxW_S → denVars [.slot 0 false tI] := fun x => (anyWrite x.1.1, ())
abbrev idxW_p : Shape.den idxW_S → List Prop := fun x => [pLen x.1.1 < 4611686018427387904]
def cidxW : Ctr := shCtr idxW_S idxW_p [] [.slot 0 false tI] idxW_f
abbrev anyW_f : Shape.den idxW_S → denVars [.slot 0 false .bool] := fun x => (pGe (anyWrite x.1.1) 0, ())
def canyW : Ctr := shCtr idxW_S idxW_p [] [.slot 0 false .bool] anyW_f
abbrev acked1_S : Shape := ⟨[.one (.rd tI), .one (.lit (.pt 0 0))], [.box [.rd tI, .rd tI, .rd tI, .rd tI, .rd tI, .rd tI, .rd tI, .rd tI, .rd tI, .rd tI, .rd .bool, .rd tI]]⟩
abbrev acked1_f : Shape.den acked1_S → denVars [.slot 0 false .bool] := fun x => (pEq x.1.1 x.2.1.2.1, ())
abbrev acked1_p : Shape.den acked1_S → List Prop := fun _ => []
def cacked1 : Ctr := shCtr acked1_S acked1_p [] [.slot 0 false .bool] acked1_f
abbrev idxA_S : Shape := ⟨[.one (.rd (.sl tyN)), .one (.lit (.fn 46 [(0, 0)]))], [.box [.rd tI, .rd tI, .rd tI, .rd tI, .rd tI, .rd tI, .rd tI, .rd tI, .rd tI, .rd tI, .rd .bool, .rd tI]]⟩
abbrev idxA_f : Shape.den idxA_S → denVars [.slot 0 false tI] := fun x => (idxFrom x.1.1 x.2.1.2.1, ())
abbrev idxA_p : Shape.den idxA_S → List Prop := fun x => [pLen x.1.1 < 4611686018427387904]
def cidxA : Ctr := shCtr idxA_S idxA_p [] [.slot 0 false tI] idxA_f
abbrev delN_S : Shape := ⟨[.one (.own 0), .one (.lit (.fn 46 [(1, 0)]))], [.row tyN, .box [.rd tI, .rd tI, .rd tI, .rd tI, .rd tI, .rd tI, .rd tI, .rd tI, .rd tI, .rd tI, .rd .bool, .rd tI]]⟩
abbrev delN_f : Shape.den delN_S → denVars [.slot 0 true tyN] := fun x => (dropN x.2.1 x.2.2.1.2.1, ())
abbrev delN_p : Shape.den delN_S → List Prop := fun x => [pLen x.2.1 < 4611686018427387904]
def cdelN : Ctr := shCtr delN_S delN_p [0] [.slot 0 true tyN] delN_f
abbrev eqsChV : List TypeId := [101, 73, 32, 29, 96]

abbrev cownN_v0 (dj : List JobD) (y0 : kden Bool.false tI × denCells vDeskN × PUnit) := pGet tyJob dj (pNat y0.1)
abbrev cownN_v1 (dj : List JobD) (y0 : kden Bool.false tI × denCells vDeskN × PUnit) := (pAdd IntKind.i64 y0.1 (1 : Int), (y0.2.1.1, pApp y0.2.1.2.1 (cownN_v0 dj y0 :: vnil (Int × Int × List (Bool × Int × Int × Int × Int × Int × Bool × Bool × PUnit) × List (Int × PUnit) × Int × Int × PUnit)), ()), ())

def cownN_VC (dn : Int) (dj : (List JobD)) : Prop :=
  cownInv dn dj ((0 : Int), (dn, vnil (Int × Int × List (Bool × Int × Int × Int × Int × Int × Bool × Bool × PUnit) × List (Int × PUnit) × Int × Int × PUnit), ()), ()) ∧ ∀ (y0 : kden Bool.false tI × denCells vDeskN × PUnit), cownInv dn dj y0 →
 bif pLt y0.1 (pInt (pLen dj)) then pIn y0.1 (pLen dj) ∧ pRoom (pLen (cownN_v0 dj y0).2.2.1) 56 ∧ pRoom (pLen (cownN_v0 dj y0).2.2.2.1) 8 ∧ pRoom (pPlus (pLen y0.2.1.2.1) (pLen (cownN_v0 dj y0 :: vnil (Int × Int × List (Bool × Int × Int ×
 Int × Int × Int × Bool × Bool × PUnit) × List (Int × PUnit) × Int × Int × PUnit)))) 80 ∧ cownInv dn dj (cownN_v1 dj y0) ∧ Nat.le (Nat.succ (cownMu dn dj (cownN_v1 dj y0))) (cownMu dn dj y0) else y0.2 = ((dn, dj, ()), ())
set_option maxRecDepth 100000 in
theorem cownN_meets (hcloneT : Mt 58 ccloneT) (hcloneN : Mt 59 ccloneN) (h : ∀ (dn : Int) (dj : (List JobD)), (∀ p ∈ cownN_p ⟨((dn, dj, ()), ()), ()⟩, p) → cownN_VC dn dj) : Mt 31 ccownN :=
  meets_vc (E := envN Tryd.prog (fun _ => none) [(58, (false, ccloneT)), (59, (false, ccloneN))] eqsChV [(25, [2, 3])] []) (envN_ok (fun p hp => (by simp only [List.mem_cons, List.not_mem_nil, or_false] at hp; rcases hp with rfl | rfl; exact hcloneT; exact hcloneN)) (by kernel_rfl)) cownN_S (fun x => fun ky9 st9 => look [(3, (⟨[.slot 12 false tI, .box 40 vDeskN], cownInv x.1.1.1 x.1.1.2.1, cownMu x.1.1.1 x.1.1.2.1⟩ : Ann))] ky9) Tryd.func31 (by kernel_rfl) (by kernel_rfl) cownN_p [] [.agg 0 vDeskN] cownN_f (fun x => cownN_VC x.1.1.1 x.1.1.2.1) (fun x => by kernel_rfl) (fun x hp => h x.1.1.1 x.1.1.2.1 hp)

abbrev DeskCopyN_v0 (dj : List JobD) (y0 : kden Bool.false tI × denCells vDeskN × PUnit) := pGet tyJob dj (pNat y0.1)
abbrev DeskCopyN_v1 (dj : List JobD) (y0 : kden Bool.false tI × denCells vDeskN × PUnit) := (pAdd IntKind.i64 y0.1 (1 : Int), (y0.2.1.1, pApp y0.2.1.2.1 (DeskCopyN_v0 dj y0 :: vnil (Int × Int × List (Bool × Int × Int × Int × Int × Int × Bool × Bool × PUnit) × List (Int × PUnit) × Int × Int × PUnit)), ()), ())

def DeskCopyN_VC (dn : Int) (dj : (List JobD)) : Prop :=
  deskCopyInv dn dj ((0 : Int), (dn, vnil (Int × Int × List (Bool × Int × Int × Int × Int × Int × Bool × Bool × PUnit) × List (Int × PUnit) × Int × Int × PUnit), ()), ()) ∧ ∀ (y0 : kden Bool.false tI × denCells vDeskN × PUnit), deskCopyInv dn
 dj y0 → bif pLt y0.1 (pInt (pLen dj)) then pIn y0.1 (pLen dj) ∧ pRoom (pLen (DeskCopyN_v0 dj y0).2.2.1) 56 ∧ pRoom (pLen (DeskCopyN_v0 dj y0).2.2.2.1) 8 ∧ pRoom (pPlus (pLen y0.2.1.2.1) (pLen (DeskCopyN_v0 dj y0 :: vnil (Int × Int × List
 (Bool × Int × Int × Int × Int × Int × Bool × Bool × PUnit) × List (Int × PUnit) × Int × Int × PUnit)))) 80 ∧ deskCopyInv dn dj (DeskCopyN_v1 dj y0) ∧ Nat.le (Nat.succ (deskCopyMu dn dj (DeskCopyN_v1 dj y0))) (deskCopyMu dn dj y0) else y0.2
 = ((dn, dj, ()), ())
set_option maxRecDepth 100000 in
theorem DeskCopyN_meets (hTasksCopy : Mt 9 cTasksCopy) (hintsCopy : Mt 10 cintsCopy) (h : ∀ (dn : Int) (dj : (List JobD)), (∀ p ∈ cownN_p ⟨((dn, dj, ()), ()), ()⟩, p) → DeskCopyN_VC dn dj) : Mt 4 cDeskCopyN :=
  meets_vc (E := envN Tryd.prog (fun _ => none) [(9, (false, cTasksCopy)), (10, (false, cintsCopy))] eqsChV [(25, [2, 3])] []) (envN_ok (fun p hp => (by simp only [List.mem_cons, List.not_mem_nil, or_false] at hp; rcases hp with rfl | rfl; exact hTasksCopy; exact hintsCopy)) (by kernel_rfl)) cownN_S (fun x => fun ky9 st9 => look [(3, (⟨[.slot 4 false tI, .box 40 vDeskN], deskCopyInv x.1.1.1 x.1.1.2.1, deskCopyMu x.1.1.1 x.1.1.2.1⟩ : Ann))] ky9) Tryd.func4 (by kernel_rfl) (by kernel_rfl) cownN_p [] [.agg 0 vDeskN] cownN_f (fun x => DeskCopyN_VC x.1.1.1 x.1.1.2.1) (fun x => by kernel_rfl) (fun x hp => h x.1.1.1 x.1.1.2.1 hp)

def commit1_VC (tw : Bool) (tl : Int) (tk : Int) (tv : Int) (te : Int) (ta : Int) (td : Bool) (ts : Bool) : Prop :=
  (tw, ()) = (tw, ())
set_option maxRecDepth 100000 in
theorem commit1_meets  (h : ∀ (tw : Bool) (tl : Int) (tk : Int) (tv : Int) (te : Int) (ta : Int) (td : Bool) (ts : Bool), commit1_VC tw tl tk tv te ta td ts) : Mt 64 ccommit1 :=
  meets_vc (E := envN Tryd.prog (fun _ => none) [] eqsChV [(25, [2, 3])] []) (envN_ok (fun p hp => by cases hp) (by kernel_rfl)) commit1_S (fun x => fun ky9 st9 => look [] ky9) Tryd.func64 (by kernel_rfl) (by kernel_rfl) commit1_p [] [.slot 0 false .bool] commit1_f (fun x => commit1_VC x.1.1.1 x.1.1.2.1 x.1.1.2.2.1 x.1.1.2.2.2.1 x.1.1.2.2.2.2.1 x.1.1.2.2.2.2.2.1 x.1.1.2.2.2.2.2.2.1 x.1.1.2.2.2.2.2.2.2.1) (fun x => by kernel_rfl) (fun x _ => h x.1.1.1 x.1.1.2.1 x.1.1.2.2.1 x.1.1.2.2.2.1 x.1.1.2.2.2.2.1 x.1.1.2.2.2.2.2.1 x.1.1.2.2.2.2.2.2.1 x.1.1.2.2.2.2.2.2.2.1)

def idxW_VC (l : (List TaskD)) : Prop :=
  idxWInv l ((0 : Int), ()) ∧ ∀ (y0 : kden Bool.false tI × PUnit), idxWInv l y0 → bif pLt y0.1 (pInt (pLen l)) then pIn y0.1 (pLen l) ∧ bif (pGet tyTask l (pNat y0.1)).1 then y0 = (anyWrite l, ()) else idxWInv l (pAdd IntKind.i64 y0.1 (1 :
 Int), ()) ∧ Nat.le (Nat.succ (idxWMu l (pAdd IntKind.i64 y0.1 (1 : Int), ()))) (idxWMu l y0) else ((-1 : Int), ()) = (anyWrite l, ())
set_option maxRecDepth 100000 in
theorem idxW_meets (hcommit1 : Mt 64 ccommit1) (h : ∀ (l : (List TaskD)), (∀ p ∈ idxW_p ⟨(l, (), ()), ()⟩, p) → idxW_VC l) : Mt 73 cidxW :=
  meets_vc (E := envN Tryd.prog (fun _ => none) [(64, (false, ccommit1))] eqsChV [(25, [2, 3])] []) (envN_ok (fun p hp => (by simp only [List.mem_cons, List.not_mem_nil, or_false] at hp; rcases hp with rfl; exact hcommit1)) (by kernel_rfl)) idxW_S (fun x => fun ky9 st9 => look [(2, (⟨[.slot 8 false tI], idxWInv x.1.1, idxWMu x.1.1⟩ : Ann))] ky9) Tryd.func73 (by kernel_rfl) (by kernel_rfl) idxW_p [] [.slot 0 false tI] idxW_f (fun x => idxW_VC x.1.1) (fun x => by kernel_rfl) (fun x hp => h x.1.1 hp)

def anyW_VC (l : (List TaskD)) : Prop :=
  Nat.le (Nat.succ (pLen l)) 4611686018427387904 ∧ (pGe (anyWrite l) (0 : Int), ()) = (pGe (anyWrite l) (0 : Int), ())
set_option maxRecDepth 100000 in
theorem anyW_meets (hidxW : Mt 73 cidxW) (h : ∀ (l : (List TaskD)), (∀ p ∈ idxW_p ⟨(l, (), ()), ()⟩, p) → anyW_VC l) : Mt 63 canyW :=
  meets_vc (E := envN Tryd.prog (fun _ => none) [(73, (false, cidxW))] eqsChV [(25, [2, 3])] []) (envN_ok (fun p hp => (by simp only [List.mem_cons, List.not_mem_nil, or_false] at hp; rcases hp with rfl; exact hidxW)) (by kernel_rfl)) idxW_S (fun x => fun ky9 st9 => look [] ky9) Tryd.func63 (by kernel_rfl) (by kernel_rfl) idxW_p [] [.slot 0 false .bool] anyW_f (fun x => anyW_VC x.1.1) (fun x => by kernel_rfl) (fun x hp => h x.1.1 hp)

def acked1_VC (s : Int) (zk : Int) (zu : Int) (zv : Int) (zs : Int) (zn : Int) (zl : Int) (zy : Int) (za : Int) (ze : Int) (zq : Int) (zg : Bool) (zc : Int) : Prop :=
  (pEq s zu, ()) = (pEq s zu, ())
set_option maxRecDepth 100000 in
theorem acked1_meets  (h : ∀ (s : Int) (zk : Int) (zu : Int) (zv : Int) (zs : Int) (zn : Int) (zl : Int) (zy : Int) (za : Int) (ze : Int) (zq : Int) (zg : Bool) (zc : Int), acked1_VC s zk zu zv zs zn zl zy za ze zq zg zc) : Mt 46 cacked1 :=
  meets_vc (E := envN Tryd.prog (fun _ => none) [] eqsChV [(25, [2, 3])] []) (envN_ok (fun p hp => by cases hp) (by kernel_rfl)) acked1_S (fun x => fun ky9 st9 => look [] ky9) Tryd.func46 (by kernel_rfl) (by kernel_rfl) acked1_p [] [.slot 0 false .bool] acked1_f (fun x => acked1_VC x.1.1 x.2.1.1 x.2.1.2.1 x.2.1.2.2.1 x.2.1.2.2.2.1 x.2.1.2.2.2.2.1 x.2.1.2.2.2.2.2.1 x.2.1.2.2.2.2.2.2.1 x.2.1.2.2.2.2.2.2.2.1 x.2.1.2.2.2.2.2.2.2.2.1 x.2.1.2.2.2.2.2.2.2.2.2.1 x.2.1.2.2.2.2.2.2.2.2.2.2.1 x.2.1.2.2.2.2.2.2.2.2.2.2.2.1) (fun x => by kernel_rfl) (fun x _ => h x.1.1 x.2.1.1 x.2.1.2.1 x.2.1.2.2.1 x.2.1.2.2.2.1 x.2.1.2.2.2.2.1 x.2.1.2.2.2.2.2.1 x.2.1.2.2.2.2.2.2.1 x.2.1.2.2.2.2.2.2.2.1 x.2.1.2.2.2.2.2.2.2.2.1 x.2.1.2.2.2.2.2.2.2.2.2.1 x.2.1.2.2.2.2.2.2.2.2.2.2.1 x.2.1.2.2.2.2.2.2.2.2.2.2.2.1)

def idxA_VC (l : (List ND)) (zk : Int) (zu : Int) (zv : Int) (zs : Int) (zn : Int) (zl : Int) (zy : Int) (za : Int) (ze : Int) (zq : Int) (zg : Bool) (zc : Int) : Prop :=
  idxAInv l zu ((0 : Int), ()) ∧ ∀ (y0 : kden Bool.false tI × PUnit), idxAInv l zu y0 → bif pLt y0.1 (pInt (pLen l)) then pIn y0.1 (pLen l) ∧ bif pEq (pGet tyN l (pNat y0.1)).1 zu then y0 = (idxFrom l zu, ()) else idxAInv l zu (pAdd
 IntKind.i64 y0.1 (1 : Int), ()) ∧ Nat.le (Nat.succ (idxAMu l zu (pAdd IntKind.i64 y0.1 (1 : Int), ()))) (idxAMu l zu y0) else ((-1 : Int), ()) = (idxFrom l zu, ())
set_option maxRecDepth 100000 in
theorem idxA_meets (hacked1 : Mt 46 cacked1) (h : ∀ (l : (List ND)) (zk : Int) (zu : Int) (zv : Int) (zs : Int) (zn : Int) (zl : Int) (zy : Int) (za : Int) (ze : Int) (zq : Int) (zg : Bool) (zc : Int), (∀ p ∈ idxA_p ⟨(l, (), ()), ((zk, zu, zv, zs, zn, zl, zy, za, ze, zq, zg, zc, ()), ())⟩, p) → idxA_VC l zk zu zv zs zn zl zy za ze zq zg zc) : Mt 66 cidxA :=
  meets_vc (E := envN Tryd.prog (fun _ => none) [(46, (false, cacked1))] eqsChV [(25, [2, 3])] []) (envN_ok (fun p hp => (by simp only [List.mem_cons, List.not_mem_nil, or_false] at hp; rcases hp with rfl; exact hacked1)) (by kernel_rfl)) idxA_S (fun x => fun ky9 st9 => look [(2, (⟨[.slot 8 false tI], idxAInv x.1.1 x.2.1.2.1, idxAMu x.1.1 x.2.1.2.1⟩ : Ann))] ky9) Tryd.func66 (by kernel_rfl) (by kernel_rfl) idxA_p [] [.slot 0 false tI] idxA_f (fun x => idxA_VC x.1.1 x.2.1.1 x.2.1.2.1 x.2.1.2.2.1 x.2.1.2.2.2.1 x.2.1.2.2.2.2.1 x.2.1.2.2.2.2.2.1 x.2.1.2.2.2.2.2.2.1 x.2.1.2.2.2.2.2.2.2.1 x.2.1.2.2.2.2.2.2.2.2.1 x.2.1.2.2.2.2.2.2.2.2.2.1 x.2.1.2.2.2.2.2.2.2.2.2.2.1 x.2.1.2.2.2.2.2.2.2.2.2.2.2.1) (fun x => by kernel_rfl) (fun x hp => h x.1.1 x.2.1.1 x.2.1.2.1 x.2.1.2.2.1 x.2.1.2.2.2.1 x.2.1.2.2.2.2.1 x.2.1.2.2.2.2.2.1 x.2.1.2.2.2.2.2.2.1 x.2.1.2.2.2.2.2.2.2.1 x.2.1.2.2.2.2.2.2.2.2.1 x.2.1.2.2.2.2.2.2.2.2.2.1 x.2.1.2.2.2.2.2.2.2.2.2.2.1 x.2.1.2.2.2.2.2.2.2.2.2.2.2.1 hp)

abbrev delN_v0 (y0 : kden Bool.false tI × kden Bool.false tI × List (Ty.den tyN) × PUnit) := (pAdd IntKind.i64 y0.1 (1 : Int), pAdd IntKind.i64 y0.2.1 (1 : Int), pSet y0.2.2.1 (pNat y0.2.1) (pGet tyN y0.2.2.1 (pNat y0.1)), ())

def delN_VC (l : (List ND)) (zk : Int) (zu : Int) (zv : Int) (zs : Int) (zn : Int) (zl : Int) (zy : Int) (za : Int) (ze : Int) (zq : Int) (zg : Bool) (zc : Int) : Prop :=
  Nat.le (Nat.succ (pLen l)) 4611686018427387904 ∧ bif pEq (idxFrom l zu) (-1 : Int) then (l, ()) = (dropN l zu, ()) else delNInv l zu (pAdd IntKind.i64 (idxFrom l zu) (1 : Int), idxFrom l zu, l, ()) ∧ ∀ (y0 : kden Bool.false tI × kden
 Bool.false tI × List (Ty.den tyN) × PUnit), delNInv l zu y0 → bif pLt y0.1 (pInt (pLen y0.2.2.1)) then pIn y0.1 (pLen y0.2.2.1) ∧ bif pNot (pEq (pGet tyN y0.2.2.1 (pNat y0.1)).1 zu) then pIn y0.2.1 (pLen y0.2.2.1) ∧ delNInv l zu (delN_v0
 y0) ∧ Nat.le (Nat.succ (delNMu l zu (delN_v0 y0))) (delNMu l zu y0) else delNInv l zu (pAdd IntKind.i64 y0.1 (1 : Int), y0.2) ∧ Nat.le (Nat.succ (delNMu l zu (pAdd IntKind.i64 y0.1 (1 : Int), y0.2))) (delNMu l zu y0) else pTo y0.2.1 (pLen
 y0.2.2.1) ∧ pBelow (pNat y0.2.1) (pLen y0.2.2.1) ∧ pTo y0.2.1 (pLen (pClr y0.2.2.1 (pNat y0.2.1) ((0 : Int), ()))) ∧ (pSub (pClr y0.2.2.1 (pNat y0.2.1) ((0 : Int), ())) 0 (pNat y0.2.1), ()) = (dropN l zu, ())
set_option maxRecDepth 100000 in
theorem delN_meets (hacked1 : Mt 46 cacked1) (hidxA : Mt 66 cidxA) (h : ∀ (l : (List ND)) (zk : Int) (zu : Int) (zv : Int) (zs : Int) (zn : Int) (zl : Int) (zy : Int) (za : Int) (ze : Int) (zq : Int) (zg : Bool) (zc : Int), (∀ p ∈ delN_p ⟨((), (), ()), (l, (zk, zu, zv, zs, zn, zl, zy, za, ze, zq, zg, zc, ()), ())⟩, p) → delN_VC l zk zu zv zs zn zl zy za ze zq zg zc) : Mt 45 cdelN :=
  meets_vc (E := envN Tryd.prog (fun _ => none) [(46, (false, cacked1)), (66, (false, cidxA))] eqsChV [(25, [2, 3])] []) (envN_ok (fun p hp => (by simp only [List.mem_cons, List.not_mem_nil, or_false] at hp; rcases hp with rfl | rfl; exact hacked1; exact hidxA)) (by kernel_rfl)) delN_S (fun x => fun ky9 st9 => look [(5, (⟨[.slot 6 false tI, .slot 5 false tI, .row 0 tyN], delNInv x.2.1 x.2.2.1.2.1, delNMu x.2.1 x.2.2.1.2.1⟩ : Ann))] ky9) Tryd.func45 (by kernel_rfl) (by kernel_rfl) delN_p [0] [.slot 0 true tyN] delN_f (fun x => delN_VC x.2.1 x.2.2.1.1 x.2.2.1.2.1 x.2.2.1.2.2.1 x.2.2.1.2.2.2.1 x.2.2.1.2.2.2.2.1 x.2.2.1.2.2.2.2.2.1 x.2.2.1.2.2.2.2.2.2.1 x.2.2.1.2.2.2.2.2.2.2.1 x.2.2.1.2.2.2.2.2.2.2.2.1 x.2.2.1.2.2.2.2.2.2.2.2.2.1 x.2.2.1.2.2.2.2.2.2.2.2.2.2.1 x.2.2.1.2.2.2.2.2.2.2.2.2.2.2.1) (fun x => by kernel_rfl) (fun x hp => h x.2.1 x.2.2.1.1 x.2.2.1.2.1 x.2.2.1.2.2.1 x.2.2.1.2.2.2.1 x.2.2.1.2.2.2.2.1 x.2.2.1.2.2.2.2.2.1 x.2.2.1.2.2.2.2.2.2.1 x.2.2.1.2.2.2.2.2.2.2.1 x.2.2.1.2.2.2.2.2.2.2.2.1 x.2.2.1.2.2.2.2.2.2.2.2.2.1 x.2.2.1.2.2.2.2.2.2.2.2.2.2.1 x.2.2.1.2.2.2.2.2.2.2.2.2.2.2.1 hp)


end Go.Proofs.YtnkcmkegjckncaaDoor

/- Rows from which some are taken away. No condition. -/
namespace Go.Proofs.YtnkcmkegjckncaaDoor
open Go.RowKit

theorem DelAt.start {t : Ty} {p : t.den → Bool} {xs : List t.den} {i : Nat} (hi : i < xs.length) (hb : i < 4611686018427387904) (hlow : ∀ j, j < i → p (pGet t xs j) = false) (hp : p (pGet t xs i) = true) :
    DelAt p xs (pAdd .i64 (i : Int) 1, (i : Int), xs, ()) := by
  refine ⟨i, i + 1, xs, by rw [pAdd1 hb], by omega, hi, rfl, ?_, rfl⟩
  rw [List.take_succ_eq_append_getElem hi, List.filter_append]
  have h1 : (xs.take i).filter (fun x => !p x) = xs.take i := by
    rw [List.filter_eq_self]
    intro x hx
    obtain ⟨j, hj, rfl⟩ := List.getElem_of_mem hx
    have hj' : j < i := by simp at hj; omega
    have := hlow j hj'
    rw [pGet_lt (by omega)] at this
    simp only [List.getElem_take, this, Bool.not_false]
  rw [h1, List.filter_cons_of_neg (by rw [pGet_lt hi] at hp; simp [hp])]
  simp
theorem DelAt.at {t : Ty} {xs zs : List t.den} {j : Nat} (hj : j < xs.length) (hl : zs.length = xs.length) (hd : zs.drop j = xs.drop j) : pGet t zs j = pGet t xs j := by
  have e : (zs.drop j)[0]? = (xs.drop j)[0]? := by rw [hd]
  rw [List.getElem?_drop, List.getElem?_drop, Nat.add_zero] at e
  unfold pGet
  rw [List.getD_eq_getElem?_getD, List.getD_eq_getElem?_getD, e]
theorem DelAt.step {t : Ty} {p : t.den → Bool} {xs zs : List t.den} {i j : Nat} (hij : i < j) (hj : j < xs.length) (hb : j < 4611686018427387904) (hl : zs.length = xs.length) (ht : zs.take i = (xs.take j).filter (fun x => !p x)) (hd : zs.drop j = xs.drop j) :
    (p (pGet t xs j) = false → DelAt p xs (pAdd .i64 (j : Int) 1, pAdd .i64 (i : Int) 1, pSet zs i (pGet t xs j), ())) ∧ (p (pGet t xs j) = true → DelAt p xs (pAdd .i64 (j : Int) 1, (i : Int), zs, ())) := by
  have hdr : ∀ l : List t.den, l.drop (j + 1) = (l.drop j).drop 1 := fun l => by rw [List.drop_drop]
  have htk : xs.take (j + 1) = xs.take j ++ [pGet t xs j] := by rw [List.take_succ_eq_append_getElem hj, pGet_lt hj]
  refine ⟨fun hp => ⟨i + 1, j + 1, _, by rw [pAdd1 hb, pAdd1 (by omega)], by omega, hj, by unfold pSet; simpa using hl, ?_, ?_⟩, fun hp => ⟨i, j + 1, zs, by rw [pAdd1 hb], by omega, hj, hl, ?_, by rw [hdr, hd, ← hdr]⟩⟩
  · rw [htk, List.filter_append, ← ht, List.filter_cons_of_pos (by simp [hp]), List.filter_nil]
    unfold pSet
    have hi : i < (zs.set i (pGet t xs j)).length := by simp; omega
    rw [List.take_succ_eq_append_getElem hi, List.getElem_set_self, List.take_set_of_le (Nat.le_refl i)]
  · unfold pSet
    rw [List.drop_set_of_lt (by omega), hdr, hd, ← hdr]
  · rw [htk, List.filter_append, ← ht, List.filter_cons_of_neg (by simp [hp])]
    simp
theorem DelAt.done {t : Ty} {p : t.den → Bool} {xs zs : List t.den} {i : Nat} {d : t.den} (hi : i < xs.length) (hl : zs.length = xs.length) (ht : zs.take i = (xs.take xs.length).filter (fun x => !p x)) : pSub (pClr zs i d) 0 i = xs.filter (fun x => !p x) := by
  unfold pSub pClr
  rw [List.drop_zero, List.take_append_of_le_length (by simp; omega), List.take_take, Nat.min_self, ht, List.take_length]
theorem clr_len {α : Type} {zs : List α} {i : Nat} {d : α} (hi : i ≤ zs.length) : (pClr zs i d).length = zs.length := by unfold pClr; simp; omega
theorem idxOf_cases {p : Nat → Bool} {n : Nat} : (idxOf p n = -1 ∧ ∀ j, j < n → p j = false) ∨ ∃ i : Nat, idxOf p n = (i : Int) ∧ i < n ∧ p i = true ∧ ∀ j, j < i → p j = false := by
  unfold idxOf
  cases hq : (List.range n).find? p with
  | none =>
    refine .inl ⟨rfl, fun j hj => ?_⟩
    rw [List.find?_eq_none] at hq
    simpa using hq j (by simpa using hj)
  | some i =>
    rw [List.find?_range_eq_some] at hq
    exact .inr ⟨i, rfl, by simpa using hq.2.1, hq.1, fun j hj => by simpa using hq.2.2 j hj⟩
theorem keep_all {t : Ty} {p : t.den → Bool} {xs : List t.den} (h : ∀ j, j < xs.length → p (pGet t xs j) = false) : xs.filter (fun x => !p x) = xs := by
  rw [List.filter_eq_self]
  intro x hx
  obtain ⟨j, hj, rfl⟩ := List.getElem_of_mem hx
  have := h j hj
  rw [pGet_lt hj] at this
  simp [this]

theorem mu_step {n k : Nat} (h : k < n) (hb : k < 4611686018427387904) : Nat.le (Nat.succ (n - (pAdd .i64 (k : Int) 1).toNat)) (n - ((k : Nat) : Int).toNat) := by
  rw [pAdd1 hb, Int.toNat_natCast, Int.toNat_natCast]; exact Nat.le_of_eq (by omega)


end Go.Proofs.YtnkcmkegjckncaaDoor

/- What a message to a coordinator asks of other functions. No condition. -/
namespace Go.Proofs.YtnkcmkegjckncaaDoor
open Go.RowKit

theorem cownN_ok : Meets Tryd.prog (fun _ => none) 31 ccownN := cownN_meets cloneT_ok cloneN_ok fun dn dj hp => by
  have h : pRoom (pLen dj) 80 := hp (pRoom (pLen dj) 80) (by simp)
  have hq : ∀ q ∈ dj, pRoom (pLen q.2.2.1) 56 ∧ pRoom (pLen q.2.2.2.1) 8 := hp (∀ q ∈ dj, pRoom (pLen q.2.2.1) 56 ∧ pRoom (pLen q.2.2.2.1) 8) (by simp)
  clear hp
  delta cownN_VC
  refine ⟨StepInv.start rfl, fun y hy => ?_⟩
  rcases StepInv.round (show dj.length < 4611686018427387904 from lt62 h (by decide)) hy with ⟨k, rfl, hk, hb, hT⟩ | rfl
  · rw [bif_true (by simp [pLt_coe, pLen, hk])]
    delta cownN_v1 cownN_v0
    dsimp only
    rw [pNat_coe]
    have hm := hq (pGet tyJob dj k) (by rw [pGet_lt (t := tyJob) hk]; exact List.getElem_mem hk)
    exact ⟨pIn_coe.2 hk, hm.1, hm.2, room_le h (take_len1 hk), hT _ (by rw [take_app (t := tyJob) hk])⟩
  · rw [bif_false (by simp [pLt_coe, pLen])]
    simp only [List.take_length]
theorem DeskCopyN_ok : Meets Tryd.prog (fun _ => none) 4 cDeskCopyN := DeskCopyN_meets TasksCopy_ok intsCopy_ok fun dn dj hp => by
  have h : pRoom (pLen dj) 80 := hp (pRoom (pLen dj) 80) (by simp)
  have hq : ∀ q ∈ dj, pRoom (pLen q.2.2.1) 56 ∧ pRoom (pLen q.2.2.2.1) 8 := hp (∀ q ∈ dj, pRoom (pLen q.2.2.1) 56 ∧ pRoom (pLen q.2.2.2.1) 8) (by simp)
  clear hp
  delta DeskCopyN_VC
  refine ⟨StepInv.start rfl, fun y hy => ?_⟩
  rcases StepInv.round (show dj.length < 4611686018427387904 from lt62 h (by decide)) hy with ⟨k, rfl, hk, hb, hT⟩ | rfl
  · rw [bif_true (by simp [pLt_coe, pLen, hk])]
    delta DeskCopyN_v1 DeskCopyN_v0
    dsimp only
    rw [pNat_coe]
    have hm := hq (pGet tyJob dj k) (by rw [pGet_lt (t := tyJob) hk]; exact List.getElem_mem hk)
    exact ⟨pIn_coe.2 hk, hm.1, hm.2, room_le h (take_len1 hk), hT _ (by rw [take_app (t := tyJob) hk])⟩
  · rw [bif_false (by simp [pLt_coe, pLen])]
    simp only [List.take_length]
theorem commit1_ok : Meets Tryd.prog (fun _ => none) 64 ccommit1 := commit1_meets fun _ _ _ _ _ _ _ _ => rfl
theorem idxW_ok : Meets Tryd.prog (fun _ => none) 73 cidxW := idxW_meets commit1_ok fun l hp => by
  have hl : l.length < 4611686018427387904 := hp _ List.mem_cons_self
  clear hp
  delta idxW_VC
  refine ⟨UpInv.start, fun y hy => ?_⟩
  rcases FindInv.round hl hy with ⟨k, rfl, hk, hb, hT, hF⟩ | ⟨rfl, hT⟩
  · rw [bif_true (by simp [pLt_coe, pLen, hk]), pNat_coe]
    refine ⟨pIn_coe.2 hk, bif_ok (fun h => ?_) fun h => hF h⟩
    exact congrArg (·, ()) (hT h).symm
  · rw [bif_false (by simp [pLt_coe, pLen])]
    exact congrArg (·, ()) hT.symm
theorem anyW_ok : Meets Tryd.prog (fun _ => none) 63 canyW := anyW_meets idxW_ok fun l hp => ⟨hp _ List.mem_cons_self, rfl⟩


theorem acked1_ok : Meets Tryd.prog (fun _ => none) 46 cacked1 := acked1_meets fun _ _ _ _ _ _ _ _ _ _ _ _ _ => rfl
theorem idxA_ok : Meets Tryd.prog (fun _ => none) 66 cidxA := idxA_meets acked1_ok fun l _ x _ _ _ _ _ _ _ _ _ _ hp => by
  have hl : l.length < 4611686018427387904 := hp _ List.mem_cons_self
  clear hp
  delta idxA_VC
  refine ⟨UpInv.start, fun y hy => ?_⟩
  rcases FindInv.round hl hy with ⟨k, rfl, hk, hb, hT, hF⟩ | ⟨rfl, hT⟩
  · rw [bif_true (by simp [pLt_coe, pLen, hk]), pNat_coe]
    refine ⟨pIn_coe.2 hk, bif_ok (fun h => ?_) fun h => hF h⟩
    exact congrArg (·, ()) (hT h).symm
  · rw [bif_false (by simp [pLt_coe, pLen])]
    exact congrArg (·, ()) hT.symm
theorem delN_ok : Meets Tryd.prog (fun _ => none) 45 cdelN := delN_meets acked1_ok idxA_ok fun ls _ x _ _ _ _ _ _ _ _ _ _ hp => by
  have hl : ls.length < 4611686018427387904 := hp _ List.mem_cons_self
  clear hp
  delta delN_VC
  refine ⟨hl, ?_⟩
  rcases idxOf_cases (p := fun j => isN x (pGet tyN ls j)) (n := ls.length) with ⟨h1, h2⟩ | ⟨i, h1, hi, h3, h4⟩
  · rw [show idxFrom ls x = -1 from h1, bif_true (by rfl)]
    exact congrArg (·, ()) (keep_all (t := tyN) h2).symm
  · rw [show idxFrom ls x = (i : Int) from h1, bif_false (by simp [pEq] <;> omega)]
    refine ⟨DelAt.start (t := tyN) hi (by omega) h4 h3, fun y hy => ?_⟩
    obtain ⟨a, j, zs, rfl, haj, hj, hzl, ht, hd⟩ := hy
    delta delN_v0
    dsimp only
    have hzl' : zs.length = ls.length := hzl
    rw [show pLen zs = ls.length from hzl]
    by_cases hjn : j < ls.length
    · rw [bif_true (by simp [pLt_coe, hjn]), pNat_coe, pNat_coe, DelAt.at (t := tyN) hjn hzl hd]
      obtain ⟨s1, s2⟩ := DelAt.step (t := tyN) (p := isN x) haj hjn (by omega) hzl ht hd
      refine ⟨pIn_coe.2 hjn, bif_ok (fun h => ⟨pIn_coe.2 (by omega), s1 (by simpa [isN, pNot] using h), mu_step hjn (by omega)⟩) fun h => ⟨s2 (by simpa [isN, pNot] using h), mu_step hjn (by omega)⟩⟩
    · obtain rfl : j = ls.length := by omega
      rw [bif_false (by simp [pLt_coe]), pNat_coe]
      refine ⟨pTo_coe.2 (by omega), haj, pTo_coe.2 (by show a ≤ (pClr zs a _).length; rw [clr_len (by omega)]; omega), congrArg (·, ()) (DelAt.done (t := tyN) haj hzl ht)⟩


end Go.Proofs.YtnkcmkegjckncaaDoor
