/- The law CoordHears: for every input it returns true and turns nothing. No condition. -/
import Derived.Test.YtnkcmkegjckncaaDoorJ11
import Derived.Test.YtnkcmkegjckncaaDoorFacts

/- What comes of a message is small; the law's condition. No condition. -/
namespace Go.Proofs.YtnkcmkegjckncaaDoor
open Go.RowKit

theorem sameInts_refl (l : List ND) : sameIntsF l l = true := by
  unfold sameIntsF
  rw [Bool.and_eq_true]
  exact ⟨by simp, allUpto_true fun j _ => by unfold eqNAt; simp [pEq]⟩
theorem sameTasks_refl (l : List TaskD) : sameTasksF l l = true := by
  unfold sameTasksF
  rw [Bool.and_eq_true]
  exact ⟨by simp, allUpto_true fun j _ => by unfold eqTaskAt eqTask; simp [pEq, pBeq, pAndB]⟩
theorem sameJob_refl (j : JobD) : sameJobF j j = true := by
  unfold sameJobF
  rw [sameTasks_refl, sameInts_refl]
  simp [pNe, pNot]
theorem sameDesk_refl (d : DeskD) : sameDeskF d d = true := by
  unfold sameDeskF
  rw [Bool.and_eq_true, Bool.and_eq_true]
  exact ⟨by simp [pEq], by simp, allUpto_true fun j _ => sameJob_refl _⟩
theorem sameMsgs_refl (l : List MsgD) : sameMsgsF l l = true := by
  unfold sameMsgsF
  rw [Bool.and_eq_true]
  exact ⟨by simp, allUpto_true fun j _ => by unfold eqMsgAt eqMsg; simp [pEq, pBeq, pAndB]⟩
theorem sameRec_refl (r : RecD) : sameRecF r r = true := by
  unfold sameRecF
  rw [sameInts_refl]
  simp [pEq, pBeq]
theorem sameRecs_refl (l : List RecD) : sameRecsF l l = true := by
  unfold sameRecsF
  rw [Bool.and_eq_true]
  exact ⟨by simp, allUpto_true fun j _ => sameRec_refl _⟩
theorem sameReps_refl (l : List RepD) : sameRepsF l l = true := by
  unfold sameRepsF
  rw [Bool.and_eq_true]
  exact ⟨by simp, allUpto_true fun j _ => by unfold eqRepAt eqRep; simp [pEq, pAndB]⟩
theorem sameTurn_refl (t : TurnD) : sameTurnF t t = true := by
  unfold sameTurnF
  rw [sameDesk_refl, sameMsgs_refl, sameRecs_refl, sameReps_refl]
  simp [pEq]

/-- a turn that is small -/
def TurnSmall (t : TurnD) : Prop := t.2.1.length < 4611686018427387904 ∧ (∀ q ∈ t.2.1, pLen q.2.2.1 < 4611686018427387904 ∧ pLen q.2.2.2.1 < 4611686018427387904) ∧ t.2.2.1.length < 4611686018427387904 ∧ t.2.2.2.1.length < 4611686018427387904 ∧
  (∀ q ∈ t.2.2.2.1, pLen q.2.2.2.2.2.2.2.1 < 4611686018427387904) ∧ t.2.2.2.2.1.length < 4611686018427387904
theorem noTurn_small : TurnSmall noTurn := ⟨by decide, (fun _ h => by cases h), by decide, by decide, (fun _ h => by cases h), by decide⟩
theorem small_mk {t : TurnD} (h1 : t.2.1.length ≤ 1000) (h2 : ∀ q ∈ t.2.1, q.2.2.1.length ≤ 1000 ∧ q.2.2.2.1.length ≤ 1000) (h3 : t.2.2.1.length ≤ 1000) (h4 : t.2.2.2.1.length ≤ 1000) (h5 : ∀ q ∈ t.2.2.2.1, q.2.2.2.2.2.2.2.1.length ≤ 1000) (h6 : t.2.2.2.2.1.length ≤ 1000) : TurnSmall t :=
  ⟨by omega, fun q hq => ⟨by have := (h2 q hq).1; show q.2.2.1.length < _; omega, by have := (h2 q hq).2; show q.2.2.2.1.length < _; omega⟩, by omega, by omega, fun q hq => by have := h5 q hq; show q.2.2.2.2.2.2.2.1.length < _; omega, by omega⟩
theorem mem_pSet {xs : List JobD} {i : Nat} {v q : JobD} (h : q ∈ pSet xs i v) : q ∈ xs ∨ q = v := List.mem_or_eq_of_mem_set h
theorem mem_pDel {xs : List JobD} {i : Nat} {q : JobD} (h : q ∈ pDel xs i) : q ∈ xs := by
  unfold pDel at h
  rcases List.mem_append.1 h with h | h
  · exact List.mem_of_mem_take h
  · exact List.mem_of_mem_drop h
theorem pDel_le {xs : List JobD} {i : Nat} : (pDel xs i).length ≤ xs.length := by
  unfold pDel
  rw [List.length_append, List.length_take, List.length_drop]
  omega
theorem commitW_small {cn l m n : Int} {dj : List JobD} {i : Nat} {j : JobD} {su : Int} (hc : 1 ≤ cn ∧ cn ≤ 4) (hn : dj.length ≤ 6) (hd : ∀ q ∈ dj, q.2.2.1.length ≤ 1000 ∧ q.2.2.2.1.length ≤ 1000) (hj : j.2.2.1.length ≤ 10) : TurnSmall (commitW cn l m n dj i j su) := by
  have hh := handsF_len (cn := cn) (l := l) (ts := j.2.2.1) hc
  have hs := saysM_len m true j.1 (handsF cn l j.2.2.1)
  unfold commitW
  cases pEq (pInt (handsF cn l j.2.2.1).length) 0 with
  | true => exact small_mk (Nat.le_trans pDel_le (by omega)) (fun q hq => hd q (mem_pDel hq)) (Nat.zero_le _) (Nat.zero_le _) (fun _ h => by cases h) (by show (1 : Nat) ≤ 1000; decide)
  | false =>
    refine small_mk ?_ (fun q hq => ?_) ?_ ?_ (fun q hq => ?_) (by show (1 : Nat) ≤ 1000; decide)
    · show (pSet dj i _).length ≤ 1000
      rw [pSet_len]; omega
    · rcases mem_pSet hq with h | rfl
      · exact hd q h
      · exact ⟨by show j.2.2.1.length ≤ 1000; omega, by show (handsF cn l j.2.2.1).length ≤ 1000; omega⟩
    · show (saysM m true j.1 (handsF cn l j.2.2.1)).length ≤ 1000
      omega
    · show (cond (anyUpto (writeAt j.2.2.1) j.2.2.1.length) _ _ : List RecD).length ≤ 1000
      cases anyUpto (writeAt j.2.2.1) j.2.2.1.length
      · exact Nat.zero_le _
      · show (1 : Nat) ≤ 1000; decide
    · have hq : q ∈ (cond (anyUpto (writeAt j.2.2.1) j.2.2.1.length) [((3 : Int), m, j.1, (0 : Int), (0 : Int), (0 : Int), false, handsF cn l j.2.2.1, ())] [] : List RecD) := hq
      cases h : anyUpto (writeAt j.2.2.1) j.2.2.1.length with
      | false => rw [h] at hq; cases hq
      | true =>
        rw [h, cond_true, List.mem_singleton] at hq
        subst hq
        show (handsF cn l j.2.2.1).length ≤ 1000
        omega
theorem put_small {n : Int} {dj : List JobD} {i : Nat} {v : JobD} {ms : List MsgD} {ps : List RepD} (hn : dj.length ≤ 6) (hd : ∀ q ∈ dj, q.2.2.1.length ≤ 1000 ∧ q.2.2.2.1.length ≤ 1000) (h1 : v.2.2.1.length ≤ 1000) (h2 : v.2.2.2.1.length ≤ 1000) (h3 : ms.length ≤ 1000) (h4 : ps.length ≤ 1000) :
    TurnSmall (n, pSet dj i v, ms, [], ps, 0, 0, ()) := by
  refine small_mk ?_ (fun q hq => ?_) h3 (Nat.zero_le _) (fun _ h => by cases h) h4
  · show (pSet dj i v).length ≤ 1000
    rw [pSet_len]; omega
  · rcases mem_pSet hq with h | rfl
    · exact hd q h
    · exact ⟨h1, h2⟩
theorem del_small {n : Int} {dj : List JobD} {i : Nat} {ms : List MsgD} {rs : List RecD} {ps : List RepD} (hn : dj.length ≤ 6) (hd : ∀ q ∈ dj, q.2.2.1.length ≤ 1000 ∧ q.2.2.2.1.length ≤ 1000) (h3 : ms.length ≤ 1000) (h4 : rs.length ≤ 1000) (h5 : ∀ q ∈ rs, q.2.2.2.2.2.2.2.1.length ≤ 1000) (h6 : ps.length ≤ 1000) :
    TurnSmall (n, pDel dj i, ms, rs, ps, 0, 0, ()) :=
  small_mk (Nat.le_trans pDel_le (by omega)) (fun q hq => hd q (mem_pDel hq)) h3 h4 h5 h6
theorem heaT_small (c : CfgD) (l m : Int) (d : DeskD) (z : MsgD) : TurnSmall (heaT c l m d z) := by
  by_cases hE : heaE c l m d z = 0
  rotate_left
  · rw [heaT_no hE]; exact noTurn_small
  obtain ⟨hb, -, -, -, -⟩ := hea_inv hE
  obtain ⟨hz, -⟩ := beg_zero hb
  have hn : d.2.1.length ≤ 6 := (deskF_zero hz).2.1
  have hc := (deskF_zero hz).1
  have hd : ∀ q ∈ d.2.1, q.2.2.1.length ≤ 1000 ∧ q.2.2.2.1.length ≤ 1000 := fun q hq => by
    have := jobs_ok hz q hq
    exact ⟨Nat.le_trans this.2.1 (by decide), Nat.le_trans this.2.2.1 (by decide)⟩
  have hq : TurnSmall (quietT d) := small_mk (by show d.2.1.length ≤ 1000; omega) hd (Nat.zero_le _) (Nat.zero_le _) (fun _ h => by cases h) (Nat.zero_le _)
  have hone : ∀ (x : MsgD), TurnSmall (d.1, d.2.1, [x], [], [], 0, 0, ()) := fun x => small_mk (by show d.2.1.length ≤ 1000; omega) hd (by show (1 : Nat) ≤ 1000; decide) (Nat.zero_le _) (fun _ h => by cases h) (Nat.zero_le _)
  obtain ⟨k, z⟩ := z
  cases n : pLt (idxKeyJ d.2.1 z.2.2.2.1) 0 with
  | true =>
    rw [heaT_none hE n]
    cases pEq k 9 with
    | true => exact hone _
    | false => exact hq
  | false =>
    obtain ⟨i, hI, hi, -⟩ := find_at n
    rw [heaT_some hE hI]
    have hj := jobs_ok hz (pGet tyJob d.2.1 i) (by rw [pGet_lt (t := tyJob) hi]; exact List.getElem_mem hi)
    generalize pGet tyJob d.2.1 i = j at hj
    have hj1 : j.2.2.1.length ≤ 10 := hj.2.1
    have hj2 : j.2.2.2.1.length ≤ 4 := hj.2.2.1
    have hs : (saysM m false j.1 (handsF c.1 l j.2.2.1)).length ≤ 1000 := by
      have := handsF_len (cn := c.1) (l := l) (ts := j.2.2.1) hc
      rw [saysM_len]; omega
    have one : ∀ (x : RepD), ([x] : List RepD).length ≤ 1000 := fun _ => by show (1 : Nat) ≤ 1000; decide
    cases (pEq k 5 || pEq k 6) with
    | true =>
      rw [cond_true]
      unfold answT
      dsimp only
      cases pLt (pSubI .i64 (pInt j.2.2.1.length) 1) 0 with
      | true => exact hq
      | false =>
        rw [cond_false]
        cases fitsT c.1 (pGet tyTask j.2.2.1 (j.2.2.1.length - 1)) (k, z) with
        | false => exact hq
        | true =>
          rw [cond_true]
          cases (pNe z.2.2.2.2.2.2.2.2.2.2.1 0 && pEq k 6) with
          | true => exact del_small hn hd hs (Nat.zero_le _) (fun _ h => by cases h) (one _)
          | false =>
            refine put_small hn hd ?_ (by show j.2.2.2.1.length ≤ 1000; omega) (Nat.zero_le _) (one _)
            dsimp only
            cases pNe z.2.2.2.2.2.2.2.2.2.2.1 0 with
            | true => exact Nat.le_trans (List.length_take_le' _ _) (by omega)
            | false => rw [cond_false, pSet_len]; omega
    | false =>
      rw [cond_false]
      cases pEq k 7 with
      | true =>
        rw [cond_true]
        have hml : (j.2.2.1.map (markT (k, z))).length ≤ 10 := by rw [List.length_map]; exact hj1
        unfold sureT
        dsimp only
        cases (pNe j.2.1 2 || pNe z.1 (pRem z.2.2.2.2.2.1 c.1)) with
        | true => exact hq
        | false =>
          rw [cond_false]
          cases j.2.2.1.any (mineT (k, z)) with
          | false => exact hq
          | true =>
            rw [cond_true]
            cases z.2.2.2.2.2.2.2.2.2.1 with
            | false => exact del_small hn hd hs (Nat.zero_le _) (fun _ h => by cases h) (one _)
            | true =>
              rw [cond_true]
              cases (j.2.2.1.map (markT (k, z))).any leftT with
              | true => exact put_small hn hd (by show (j.2.2.1.map (markT (k, z))).length ≤ 1000; omega) (by show j.2.2.2.1.length ≤ 1000; omega) (Nat.zero_le _) (Nat.zero_le _)
              | false => exact commitW_small hc hn hd hml
      | false =>
        rw [cond_false]
        cases pEq k 8 with
        | true =>
          rw [cond_true]
          unfold ackT
          dsimp only
          cases pNe j.2.1 3 with
          | true => exact hq
          | false =>
            rw [cond_false]
            cases pEq (pInt (dropN j.2.2.2.1 z.1).length) 0 with
            | true =>
              refine del_small hn hd (Nat.zero_le _) (by show (1 : Nat) ≤ 1000; decide) (fun q h => ?_) (Nat.zero_le _)
              rw [List.mem_singleton.1 h]
              exact Nat.zero_le _
            | false =>
              refine put_small hn hd (by show j.2.2.1.length ≤ 1000; omega) ?_ (Nat.zero_le _) (Nat.zero_le _)
              have : (dropN j.2.2.2.1 z.1).length ≤ j.2.2.2.1.length := List.length_filter_le _ _
              show (dropN j.2.2.2.1 z.1).length ≤ 1000
              omega
        | false =>
          rw [cond_false]
          unfold askedT
          cases (pEq j.2.1 3 && pGe (hasF j.2.2.2.1 ((k, z) : MsgD).2.1) 0) with
          | true => exact hone _
          | false => exact hq
theorem DeskCopyF_ok : Meets Tryd.prog (fun _ => none) 4 cDeskCopyF := meets_frz DeskCopy_ok rfl fun _ => rfl
theorem coordHears_vc (c : CfgD) (l m : Int) (d : DeskD) (z : MsgD) (k1 : pLen c.2.1 < 4611686018427387904) (k2 : pRoom (pLen d.2.1) 80) (k3 : ∀ q ∈ d.2.1, pRoom (pLen q.2.2.1) 56 ∧ pRoom (pLen q.2.2.2.1) 8) : CoordHears_VC c l m d z := by
  have a2 : pLen d.2.1 < 4611686018427387904 := lt62 k2 (by decide)
  have a3 : ∀ q ∈ d.2.1, pLen q.2.2.1 < 4611686018427387904 ∧ pLen q.2.2.2.1 < 4611686018427387904 := fun q hq => ⟨lt62 (k3 q hq).1 (by decide), lt62 (k3 q hq).2 (by decide)⟩
  obtain ⟨s1, s2, s3, s4, s5, s6⟩ := heaT_small c l m d z
  delta CoordHears_VC
  refine ⟨k2, k3, a2, k1, a2, a3, k1, a2, a3, ?_⟩
  rw [bif_true (show pEq _ _ = true by simp [pEq])]
  refine ⟨s1, s2, s3, s4, s5, s6, ?_⟩
  rw [bif_true (sameTurn_refl _)]
  exact ⟨a2, a3, congrArg (·, ()) (sameDesk_refl _)⟩


end Go.Proofs.YtnkcmkegjckncaaDoor

/- The law CoordHears: for every input it returns true and turns nothing. No condition. -/
namespace Go.Proofs.YtnkcmkegjckncaaDoor
open Go.RowKit Go.ChangeShapes Go.WideShapes Go.ChangeAt Go.Deep

def bools0 : List (List Bool) := [[false, false, false, false, false, false, false, false], [true, true, false, false, true, false, false, false], [false, true, true, false, true, false, false, false], [true, true, false, true, false, false, false, false], [false, false, false, false, false, true, false, false], [true, true, true, true, true, false, true, false], [false, true, false, false, true, false, true, false], [true, true, false, true, false, true, false, false], [false, false, false, false, false, false, false, false], [false, false, false, false, false, false, false, false]]
theorem table0 {W : World} (hc : ∀ i j r b, i < 10 → j < 8 → bools0[i]? = some r → r[j]? = some b → W.cell? ⟨0, i * 8 + j, none⟩ = some (.bool b)) : GlobR W (fun b => b < W.heap.size) 0 (.rows tyParts messagesT) := by
  have h0 := hc 0 0 _ _ (by decide) (by decide) rfl rfl
  refine glob_rows (cell_lt h0) (bools0.map fun r => r.map .bool) (fun i hi => ?_) fun i us j u hi hj => ?_
  · have hi : i < 10 := hi
    match i, hi with
    | 0, _ => exact ⟨_, rfl, ⟨[_], _, rfl, rfl, ⟨[_], _, rfl, rfl, ⟨[_], _, rfl, rfl, ⟨[_], _, rfl, rfl, ⟨[_], _, rfl, rfl, ⟨[_], _, rfl, rfl, ⟨[_], _, rfl, rfl, ⟨[_], _, rfl, rfl, rfl⟩⟩⟩⟩⟩⟩⟩⟩⟩
    | 1, _ => exact ⟨_, rfl, ⟨[_], _, rfl, rfl, ⟨[_], _, rfl, rfl, ⟨[_], _, rfl, rfl, ⟨[_], _, rfl, rfl, ⟨[_], _, rfl, rfl, ⟨[_], _, rfl, rfl, ⟨[_], _, rfl, rfl, ⟨[_], _, rfl, rfl, rfl⟩⟩⟩⟩⟩⟩⟩⟩⟩
    | 2, _ => exact ⟨_, rfl, ⟨[_], _, rfl, rfl, ⟨[_], _, rfl, rfl, ⟨[_], _, rfl, rfl, ⟨[_], _, rfl, rfl, ⟨[_], _, rfl, rfl, ⟨[_], _, rfl, rfl, ⟨[_], _, rfl, rfl, ⟨[_], _, rfl, rfl, rfl⟩⟩⟩⟩⟩⟩⟩⟩⟩
    | 3, _ => exact ⟨_, rfl, ⟨[_], _, rfl, rfl, ⟨[_], _, rfl, rfl, ⟨[_], _, rfl, rfl, ⟨[_], _, rfl, rfl, ⟨[_], _, rfl, rfl, ⟨[_], _, rfl, rfl, ⟨[_], _, rfl, rfl, ⟨[_], _, rfl, rfl, rfl⟩⟩⟩⟩⟩⟩⟩⟩⟩
    | 4, _ => exact ⟨_, rfl, ⟨[_], _, rfl, rfl, ⟨[_], _, rfl, rfl, ⟨[_], _, rfl, rfl, ⟨[_], _, rfl, rfl, ⟨[_], _, rfl, rfl, ⟨[_], _, rfl, rfl, ⟨[_], _, rfl, rfl, ⟨[_], _, rfl, rfl, rfl⟩⟩⟩⟩⟩⟩⟩⟩⟩
    | 5, _ => exact ⟨_, rfl, ⟨[_], _, rfl, rfl, ⟨[_], _, rfl, rfl, ⟨[_], _, rfl, rfl, ⟨[_], _, rfl, rfl, ⟨[_], _, rfl, rfl, ⟨[_], _, rfl, rfl, ⟨[_], _, rfl, rfl, ⟨[_], _, rfl, rfl, rfl⟩⟩⟩⟩⟩⟩⟩⟩⟩
    | 6, _ => exact ⟨_, rfl, ⟨[_], _, rfl, rfl, ⟨[_], _, rfl, rfl, ⟨[_], _, rfl, rfl, ⟨[_], _, rfl, rfl, ⟨[_], _, rfl, rfl, ⟨[_], _, rfl, rfl, ⟨[_], _, rfl, rfl, ⟨[_], _, rfl, rfl, rfl⟩⟩⟩⟩⟩⟩⟩⟩⟩
    | 7, _ => exact ⟨_, rfl, ⟨[_], _, rfl, rfl, ⟨[_], _, rfl, rfl, ⟨[_], _, rfl, rfl, ⟨[_], _, rfl, rfl, ⟨[_], _, rfl, rfl, ⟨[_], _, rfl, rfl, ⟨[_], _, rfl, rfl, ⟨[_], _, rfl, rfl, rfl⟩⟩⟩⟩⟩⟩⟩⟩⟩
    | 8, _ => exact ⟨_, rfl, ⟨[_], _, rfl, rfl, ⟨[_], _, rfl, rfl, ⟨[_], _, rfl, rfl, ⟨[_], _, rfl, rfl, ⟨[_], _, rfl, rfl, ⟨[_], _, rfl, rfl, ⟨[_], _, rfl, rfl, ⟨[_], _, rfl, rfl, rfl⟩⟩⟩⟩⟩⟩⟩⟩⟩
    | 9, _ => exact ⟨_, rfl, ⟨[_], _, rfl, rfl, ⟨[_], _, rfl, rfl, ⟨[_], _, rfl, rfl, ⟨[_], _, rfl, rfl, ⟨[_], _, rfl, rfl, ⟨[_], _, rfl, rfl, ⟨[_], _, rfl, rfl, ⟨[_], _, rfl, rfl, rfl⟩⟩⟩⟩⟩⟩⟩⟩⟩
  · rw [List.getElem?_map] at hi
    cases hr : bools0[i]? with
    | none => rw [hr] at hi; cases hi
    | some r =>
      rw [hr] at hi
      simp only [Option.map_some, Option.some.injEq] at hi
      subst hi
      rw [List.getElem?_map] at hj
      cases hb : r[j]? with
      | none => rw [hb] at hj; cases hj
      | some b =>
        rw [hb] at hj
        simp only [Option.map_some, Option.some.injEq] at hj
        subst hj
        have hi : i < 10 := (List.getElem?_eq_some_iff.1 hr).1
        have h8 : ∀ r ∈ bools0, r.length = 8 := by decide
        have hj : j < 8 := by
          have := (List.getElem?_eq_some_iff.1 hb).1
          rw [h8 r (List.mem_of_getElem? hr)] at this; exact this
        exact hc i j r b hi hj hr hb
theorem laid0 {W : World} {cs : Array Value} {p : List MemPlace} {base fuel : Nat} {sp : Nat → Bool} {held : Bool} (hvar : W.var? Tryd.prog "reredos/wire.messages" = some cs)
    (hd : DataW.trod (fun _ => ()) Tryd.prog W base sp held fuel 81 cs.toList = some (.agg (bools0.map fun r => .agg (r.map fun b => .lit (.bool b))), p)) : GlobR W (fun b => b < W.heap.size) 0 (.rows tyParts messagesT) := by
  have hc := cells_of_rows (m := 8) (eb := 4) (rows := bools0) Tryd.underlying81 Tryd.underlying80 (by kernel_rfl) Tryd.underlying4 (by kernel_rfl) (by decide) hd
  refine table0 fun i j r b hi hj hr hb => ?_
  have := hc i j r b hi hj hr hb
  have h2 := World.var?_cell (show Tryd.prog.globalNamed "reredos/wire.messages" = some 0 by kernel_rfl) hvar (i * 8 + j)
  rw [h2]
  simpa using this

set_option maxRecDepth 100000 in
theorem laidTabs {W : World} (h : laidMetH Tryd.prog Rows.coordHearsRow.laid W) : TabsM W := by
  obtain ⟨ps, ⟨g0, t0, cs0, fu0, p0, q0, hg0, ht0, hvar0, hd0, _, _⟩, _⟩ := h
  obtain rfl := Option.some.inj ((show Tryd.prog.globalNamed "reredos/wire.messages" = some 0 by kernel_rfl).symm.trans hg0)
  obtain rfl := Option.some.inj ((show (Tryd.prog.globals[0]?).map (·.type) = some 81 by kernel_rfl).symm.trans ht0)
  have G0 := laid0 hvar0 hd0
  intro g gl hgl
  unfold tabsM at hgl
  rw [look_cons] at hgl
  split at hgl
  · rename_i h; subst h; cases hgl; exact G0
  cases hgl

noncomputable def laidWorld_ (os : Os) : World :=
  { World.holding Tryd.prog os ⟨#[], #[], []⟩ with heap := ((World.holding Tryd.prog os ⟨#[], #[], []⟩).heap.modify 0 fun
      | .cells _ t frozen => .cells #[.bool false, .bool false, .bool false, .bool false, .bool false, .bool false, .bool false, .bool false, .bool true, .bool true, .bool false, .bool false, .bool true, .bool false, .bool false, .bool false, .bool false, .bool true, .bool true, .bool false, .bool true, .bool false, .bool false, .bool false, .bool true, .bool true, .bool false, .bool true, .bool false, .bool false, .bool false, .bool false, .bool false, .bool false, .bool false, .bool false, .bool false, .bool true, .bool false, .bool false, .bool true, .bool true, .bool true, .bool true, .bool true, .bool false, .bool true, .bool false, .bool false, .bool true, .bool false, .bool false, .bool true, .bool false, .bool true, .bool false, .bool true, .bool true, .bool false, .bool true, .bool false, .bool true, .bool false, .bool false, .bool false, .bool false, .bool false, .bool false, .bool false, .bool false, .bool false, .bool false, .bool false, .bool false, .bool false, .bool false, .bool false, .bool false, .bool false, .bool false] t frozen
      | o => o) }
def wit : Array Value := #[.agg #[.int .i64 0, .slice none 0 0, .int .i64 0], .int .i64 0, .int .i64 0, .agg #[.int .i64 0, .slice none 0 0], .agg #[.int .i64 0, .int .i64 0, .int .i64 0, .int .i64 0, .int .i64 0, .int .i64 0, .int .i64 0, .int .i64 0, .int .i64 0, .int .i64 0, .bool false, .int .i64 0]]
theorem laid_met_ (os : Os) : laidMet Tryd.prog Rows.coordHearsRow.laid ((laidWorld_ os).forCall (fun _ _ => 0) ⟨#[], wit, []⟩).memory :=
  laidMet_of_run' 8 (by kernel_rfl) (by kernel_rfl)
theorem reads_ (os : Os) {H : Type} (enc : TypeId × Value → H) : ∃ places, DataW.whole enc Tryd.prog ((laidWorld_ os).forCall (fun _ _ => 0) ⟨#[], wit, []⟩).memory Tryd.f3.params.toList Rows.coordHearsSpec.vars false wit.toList 8 = some ([.agg [.lit (.int .i64 0), .nil, .lit (.int .i64 0)], .lit (.int .i64 0), .lit (.int .i64 0), .agg [.lit (.int .i64 0), .nil], .agg [.lit (.int .i64 0), .lit (.int .i64 0), .lit (.int .i64 0), .agg [.lit (.int .i64 0), .lit (.int .i64 0)], .lit (.int .i64 0), .lit (.int .i64 0), .lit (.int .i64 0), .lit (.int .i64 0), .lit (.int .i64 0), .lit (.bool false), .lit (.int .i64 0)]], [], places) :=
  ⟨[], by kernel_rfl⟩

set_option maxRecDepth 100000 in
theorem coordHears_lifted (os : Os) (started : os.Started) (H : Type) (enc : TypeId × Value → H) (F : Stop.Interp) :
    ReturnsInHanded {} Tryd.checked os 3 .any ((OpenSpec.ofChange Rows.coordHearsSpec).preRow enc Tryd.prog Tryd.f3 Rows.coordHearsRow.domain false Rows.coordHearsRow.laid) (((OpenSpec.ofChange Rows.coordHearsSpec).at F).post enc Tryd.prog Tryd.f3 false true false false) := by
  obtain ⟨places, hx⟩ := reads_ os enc
  refine lift_card started _ _ Rows.coordHearsSpec Rows.coordHearsRow.laid Tryd.func3 (by kernel_rfl) rfl rfl (by kernel_rfl) ?_
    (witness_row_at (enc := enc) (C := Tryd.checked) false (laidWorld_ os) wit rfl (by kernel_rfl) (by kernel_rfl) (by kernel_rfl)
      (OpenSpec.preRow_of_cond 8 hx (by kernel_rfl) (fun k hk => by cases hk) (by kernel_rfl) (laid_met_ os))) ?_
  · intro ds hds
    match ds, hds with
    | [_, _, _, _, _], _ => rfl
  · intro W base args ds p hA hval hlt hsz hL
    refine CoordHears_walk DeskCopyF_ok.any Hear_ok Heard_ok sameTurn_ok.any sameDesk_ok.any (fun x h => ?_) W base args ds p hA hval hlt hsz (laidTabs hL)
    have c1 : x.1.2.1.length * 16 ≤ 140737488351232 := h.1.2.1.1
    have c2 : x.2.2.2.1.2.1.length * 80 ≤ 140737488351232 := h.2.2.2.1.2.1.1
    exact coordHears_vc _ _ _ _ _ (lt62 c1 (by decide)) c2 fun q hq => ⟨(h.2.2.2.1.2.1.2 q hq).2.2.1.1, (h.2.2.2.1.2.1.2 q hq).2.2.2.1.1⟩

set_option maxRecDepth 100000 in
set_option maxHeartbeats 4000000 in
theorem coordHears_closed : joinedFacts Tryd.prog 3 Tryd.f3 (OpenSpec.ofChange Rows.coordHearsSpec).bare Rows.coordHearsRow = true := by
  unfold joinedFacts
  exact and_b (and_b (and_b (and_b (and_b (and_b (and_b (and_b (and_b (and_b (and_b (and_b (and_b (and_b (and_b (and_b (and_b (and_b (and_b (and_b (and_b (and_b (and_b (and_b (and_b (and_b (and_b (and_b (and_b (and_b (and_b ((by kernel_rfl)) Tryd.laidOut) pg_mapsRowed) (by kernel_rfl)) (by kernel_rfl)) (by kernel_rfl)) pg_stops) (by kernel_rfl)) pg_stopKnobs) (by kernel_rfl)) (by kernel_rfl)) (by kernel_rfl)) (by kernel_rfl)) (by kernel_rfl)) (by kernel_rfl)) (by kernel_rfl)) (by kernel_rfl)) (by kernel_rfl)) (by kernel_rfl)) (by kernel_rfl)) (by kernel_rfl)) (by kernel_rfl)) pg_plainKeys) (by kernel_rfl)) pg_stopsHeard) pg_mayEnter) pg_lifted) pg_make) (by kernel_rfl)) (by kernel_rfl)) (by kernel_rfl)) (by kernel_rfl)

theorem coordHears_said : Rows.CoordHearsSaid :=
  OpenClaim.holds_of_cond 3 Tryd.f3 rfl rfl rfl rfl rfl rfl rfl ⟨rfl, rfl, rfl, rfl, rfl⟩ rfl rfl rfl rfl rfl (by kernel_rfl) Tryd.func3 coordHears_closed
    (of_decide_eq_true (by kernel_rfl)) (by unfold Func.isWrapper; rw [if_neg (of_decide_eq_false (by kernel_rfl))]; exact ⟨rfl, rfl⟩)
    (fun os started H enc _ F => by rw [OpenClaim.pre_eq_preRow]; exact coordHears_lifted os started H enc F)

theorem coordHears_stand : Tryd.f3.params.all (fun t => !Tryd.pinned.checked.prog.wantsStandIn t) = true := by kernel_rfl
theorem coordHears_plain (f : FuncId) (fn : Func) (hf : Tryd.pinned.checked.prog.funcNamed "reredos/reredoslaw.CoordHears" = some f) (hfn : Tryd.pinned.checked.prog.funcs[f]? = some fn) :
    false = Tryd.pinned.checked.prog.looks [] ∧ ∀ (j : Nat) t, fn.params[j]? = some t → Tryd.pinned.checked.prog.wantsStandIn t = false := by
  obtain rfl : f = 3 := Option.some.inj ((show Tryd.prog.funcNamed "reredos/reredoslaw.CoordHears" = some 3 by kernel_rfl).symm.trans hf) |>.symm
  obtain rfl : fn = Tryd.f3 := (Option.some.inj (Tryd.func3.symm.trans hfn)).symm
  refine ⟨pg_looks, fun j t ht => ?_⟩
  have h := Array.all_eq_true_iff_forall_mem.1 coordHears_stand t (Array.mem_of_getElem? ht)
  simpa using h
theorem coordHears_wf : Rows.coordHearsRow.wfByText (OpenSpec.ofChange Rows.coordHearsSpec) = true := by kernel_rfl
theorem coordHears_goes : false = Rows.coordHearsRow.goesBy Tryd.pinned.checked.prog := by kernel_rfl

/-- CoordHears: the statement. -/
theorem coordHears_holds : Rows.CoordHearsCardSaid :=
  Claim7.holds_tied_plain_at .later [] _ _ _ _ coordHears_said (fun _ h => by cases h) coordHears_wf (fun _ h => by cases h) coordHears_row_tie rfl ⟨rfl, rfl⟩ pg_main rfl coordHears_plain coordHears_goes


end Go.Proofs.YtnkcmkegjckncaaDoor
