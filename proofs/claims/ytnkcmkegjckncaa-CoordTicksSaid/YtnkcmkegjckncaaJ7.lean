/- Contracts, and what the evaluator says, as plain propositions: CwV. Printed by vc.py. -/
import Derived.Test.YtnkcmkegjckncaaJ4
import Derived.Test.YtnkcmkegjckncaaJ6
import Derived.Test.YtnkcmkegjckncaaJ5
import Derived.Test.YtnkcmkegjckncaaJ1

/- coord.Tick meets its contract. No condition. -/
namespace Go.Proofs.Ytnkcmkegjckncaa
open Go.RowKit

theorem begE_desk {c : CfgD} {l m : Int} {d : DeskD} (h : pNe (deskF c d) 0 = true) : begE c l m d = deskF c d := by
  rw [begE_eq]
  have : pEq (deskF c d) 0 = false := by simpa [pEq, pNe] using h
  rw [this]; rfl
theorem desk_zero {c : CfgD} {d : DeskD} (h : pNe (deskF c d) 0 = false) : deskF c d = 0 := by simpa [pNe] using h
theorem begE_rest {c : CfgD} {l m : Int} {d : DeskD} (h : deskF c d = 0) : begE c l m d = cond (placeF c l) (cond (pLe 0 m && pLt m c.1) 0 2) 6 := by
  rw [begE_eq, h]; rfl
theorem tickF_no {c : CfgD} {l m : Int} {d : DeskD} (h : begE c l m d ≠ 0) : tickF c l m d = noTurn := by
  unfold tickF
  have : pEq (begE c l m d) 0 = false := by simpa [pEq] using h
  rw [this]; rfl
theorem patience_le {c : CfgD} {d : DeskD} (h : deskF c d = 0) : c.2.2.1 ≤ 1048576 := by
  obtain ⟨cn, cl, cp, u⟩ := c; obtain ⟨dn, dj, u2⟩ := d; cases u; cases u2
  have hc : pEq (cfgF (cn, cl, cp, ())) 0 = true := by
    cases hq : pEq (cfgF (cn, cl, cp, ())) 0 with
    | true => rfl
    | false => rw [deskF_eq, hq, cond_false] at h; rw [h] at hq; cases hq
  have hz : cfgF (cn, cl, cp, ()) = 0 := by simpa [pEq] using hc
  unfold cfgF at hz
  cases h1 : inF cn 1 4 with
  | false => simp only [h1, cond_false] at hz; cases hz
  | true =>
    simp only [h1, cond_true] at hz
    cases h2 : inF (pInt cl.length) 1 6 with
    | false => simp only [h2, cond_false] at hz; cases hz
    | true =>
      simp only [h2, cond_true] at hz
      cases h3 : pEq (firstE (labE cl) cl.length) 0 with
      | false => simp only [h3, cond_false] at hz; rw [hz] at h3; cases h3
      | true =>
        simp only [h3, cond_true] at hz
        cases h4 : inF cp 1 1048576 with
        | false => simp only [h4, cond_false] at hz; cases hz
        | true => exact (inF_iff.1 h4).2
theorem rooms_ok {c : CfgD} {d : DeskD} (h : deskF c d = 0) : pRoom (pLen d.2.1) 80 ∧ ∀ q ∈ d.2.1, pRoom (pLen q.2.2.1) 56 ∧ pRoom (pLen q.2.2.2.1) 8 := by
  have h1 := (deskF_zero h).2.1
  refine ⟨show d.2.1.length * 80 ≤ _ by omega, fun q hq => ?_⟩
  have := jobs_ok h q hq
  have a := this.2.1
  have b := this.2.2.1
  exact ⟨show q.2.2.1.length * 56 ≤ _ by omega, show q.2.2.2.1.length * 8 ≤ _ by omega⟩

theorem Tick_ok : Meets Try.prog (fun _ => none) 6 cTick := Tick_meets (kkbegin_ok cCheck_ok cown_ok) (kkplace_ok indexJ_ok) (kklate_ok (kktell_ok kksend_ok) kkreply_ok (kkend_ok kksend_ok (kksites_ok hasN_ok sort_ok) (kkdrop_ok delJ_ok))) fun cn cl cp l m dn dj hp => by
  have h1 : pLen cl < 4611686018427387904 := hp (pLen cl < 4611686018427387904) (by simp)
  have h2 : pLen dj < 4611686018427387904 := hp (pLen dj < 4611686018427387904) (by simp)
  have h3 : ∀ q ∈ dj, pLen q.2.2.1 < 4611686018427387904 ∧ pLen q.2.2.2.1 < 4611686018427387904 := hp (∀ q ∈ dj, pLen q.2.2.1 < 4611686018427387904 ∧ pLen q.2.2.2.1 < 4611686018427387904) (by simp)
  clear hp
  have no : ∀ e : Int, e ≠ 0 → begE (cn, cl, cp, ()) l m (dn, dj, ()) = e → (Tick_v0, e, ()) = Tick_v1 cn cl cp l m dn dj := fun e he hb => by
    show (noTurn, e, ()) = (tickF (cn, cl, cp, ()) l m (dn, dj, ()), begE (cn, cl, cp, ()) l m (dn, dj, ()), ())
    rw [tickF_no (by rw [hb]; exact he), hb]
  delta Tick_VC
  refine ⟨h1, h2, h3, bif_ok (fun he => bif_ok (fun _ => no _ (by simpa [pNe] using he) (begE_desk he)) fun h => by rw [he] at h; cases h) fun he => ?_⟩
  have hz := desk_zero he
  have hr := begE_rest (l := l) (m := m) hz
  refine bif_ok (fun h => no 6 (by decide) ?_) fun hl1 => bif_ok (fun h => no 6 (by decide) ?_) fun hl2 => bif_ok (fun h => no 2 (by decide) ?_) fun hm1 => bif_ok (fun h => no 2 (by decide) ?_) fun hm2 => ?_
  · rw [hr]
    have : placeF (cn, cl, cp, ()) l = false := by unfold placeF; grind [pLt, pLe, pGt, pGe, pEq, pNe, pNot, pAndB, pBeq, pInt, pLen, inF, pIn, pTo, pNat]
    rw [this]; rfl
  · rw [hr]
    have : placeF (cn, cl, cp, ()) l = false := by unfold placeF; grind [pLt, pLe, pGt, pGe, pEq, pNe, pNot, pAndB, pBeq, pInt, pLen, inF, pIn, pTo, pNat]
    rw [this]; rfl
  · rw [hr]
    have h4 : placeF (cn, cl, cp, ()) l = true := by unfold placeF; grind [pLt, pLe, pGt, pGe, pEq, pNe, pNot, pAndB, pBeq, pInt, pLen, inF, pIn, pTo, pNat]
    have h5 : (pLe 0 m && pLt m cn) = false := by grind [pLt, pLe, pGt, pGe, pEq, pNe, pNot, pAndB, pBeq, pInt, pLen, inF, pIn, pTo, pNat]
    rw [h4, h5]; rfl
  · rw [hr]
    have h4 : placeF (cn, cl, cp, ()) l = true := by unfold placeF; grind [pLt, pLe, pGt, pGe, pEq, pNe, pNot, pAndB, pBeq, pInt, pLen, inF, pIn, pTo, pNat]
    have h5 : (pLe 0 m && pLt m cn) = false := by grind [pLt, pLe, pGt, pGe, pEq, pNe, pNot, pAndB, pBeq, pInt, pLen, inF, pIn, pTo, pNat]
    rw [h4, h5]; rfl
  have hb : begE (cn, cl, cp, ()) l m (dn, dj, ()) = 0 := by
    have h4 : placeF (cn, cl, cp, ()) l = true := by unfold placeF; grind [pLt, pLe, pGt, pGe, pEq, pNe, pNot, pAndB, pBeq, pInt, pLen, inF, pIn, pTo, pNat]
    have h5 : (pLe 0 m && pLt m cn) = true := by grind [pLt, pLe, pGt, pGe, pEq, pNe, pNot, pAndB, pBeq, pInt, pLen, inF, pIn, pTo, pNat]
    rw [hr, h4]
    show cond (pLe 0 m && pLt m cn) (0 : Int) 2 = 0
    rw [h5]; rfl
  have hrm := rooms_ok hz
  have hcs := (deskF_zero hz).1
  have hn6 : dj.length ≤ 6 := (deskF_zero hz).2.1
  have hpt : cp ≤ 1048576 := patience_le hz
  refine ⟨hrm.1, hrm.2, h2, StepInv.start rfl, fun y hy => ?_⟩
  rcases StepInv.round h2 hy with ⟨k, rfl, hk, hkb, hT⟩ | rfl
  rotate_left
  · rw [bif_false (by rw [pLt_coe]; exact decide_eq_false (Nat.lt_irrefl _))]
    show (turnOf dn (tickK (cn, cl, cp, ()) l m dj dj.length), 0, ()) = (tickF (cn, cl, cp, ()) l m (dn, dj, ()), begE (cn, cl, cp, ()) l m (dn, dj, ()), ())
    rw [hb]
    unfold tickF
    rw [hb]
    rfl
  rw [bif_true (by rw [pLt_coe]; exact decide_eq_true hk)]
  have hk : k < dj.length := hk
  obtain ⟨hS, hms, hrs⟩ := tick_all hz hpt l m k (Nat.le_of_lt hk)
  obtain ⟨P, R, e1, e2, e3, e4, e5, e6⟩ := tick_find hz (tick_all hz hpt l m k (Nat.le_of_lt hk)) hk
  have hjk := jobs_ok hz (pGet tyJob dj k) (by rw [pGet_lt (t := tyJob) hk]; exact List.getElem_mem hk)
  have hT' : ∀ z, z = workOf (cn, cl, cp, ()) l m (turnOf dn (stepS (cn, cl, cp, ()) l m (tickK (cn, cl, cp, ()) l m dj k) (pGet tyJob dj k).1)) → _ := fun z hz => hT (z, ()) (by rw [hz]; rfl)
  clear hT
  have hst : stepS (cn, cl, cp, ()) l m (tickK (cn, cl, cp, ()) l m dj k) (pGet tyJob dj k).1 = cond (pLt (pAdd .i64 (pGet tyJob dj k).2.2.2.2.2.1 1) cp) (P ++ ageJ (pGet tyJob dj k) (pAdd .i64 (pGet tyJob dj k).2.2.2.2.2.1 1) :: R, (tickK (cn, cl, cp, ()) l m dj k).2.1, (tickK (cn, cl, cp, ()) l m dj k).2.2)
      (cond (pEq (pGet tyJob dj k).2.1 3) (P ++ ageJ (pGet tyJob dj k) 0 :: R, (tickK (cn, cl, cp, ()) l m dj k).2.1 ++ saysM m true (pGet tyJob dj k).1 (pGet tyJob dj k).2.2.2.1, (tickK (cn, cl, cp, ()) l m dj k).2.2)
        (P ++ R, (tickK (cn, cl, cp, ()) l m dj k).2.1 ++ saysM m false (pGet tyJob dj k).1 (handsF cn l (pGet tyJob dj k).2.2.1), (tickK (cn, cl, cp, ()) l m dj k).2.2 ++ waitR m (pGet tyJob dj k))) := by
    unfold stepS lateS
    rw [e6, pNat_coe, e1, app_at, app_set, app_set, app_del]
  rw [hst] at hT'
  clear hst hS
  -- the words of this round
  generalize hs0 : tickK (cn, cl, cp, ()) l m dj k = s at *
  obtain ⟨sj, sm, sr⟩ := s
  have e1 : sj = P ++ pGet tyJob dj k :: R := e1
  have e6 : idxKeyJ sj (pGet tyJob dj k).1 = (P.length : Int) := e6
  have hms : sm.length ≤ 4 * k := hms
  have hrs : sr.length ≤ k := hrs
  generalize hj0 : pGet tyJob dj k = j at *
  have hg : pAdd .i64 j.2.2.2.2.2.1 1 = j.2.2.2.2.2.1 + 1 := pAdd_in (by have := hjk.2.2.2.2; omega)
  let Y : Int × WorkD × Unit := ((k : Int), workOf (cn, cl, cp, ()) l m (turnOf dn (sj, sm, sr)), ())
  have q3 : Tick_v3 dj Y = (P.length : Int) := by
    show idxKeyJ sj (pGet tyJob dj (pNat (k : Int))).1 = _
    rw [pNat_coe, hj0]; exact e6
  have q4 : Tick_v4 dj Y = j := by
    show pGet tyJob sj (pNat (Tick_v3 dj Y)) = j
    rw [q3, pNat_coe, e1]; exact app_at
  have q5 : Tick_v5 dj Y = P ++ ageJ j (pAdd .i64 j.2.2.2.2.2.1 1) :: R := by
    show pSet sj (pNat (Tick_v3 dj Y)) ((Tick_v4 dj Y).1, (Tick_v4 dj Y).2.1, (Tick_v4 dj Y).2.2.1, (Tick_v4 dj Y).2.2.2.1, (Tick_v4 dj Y).2.2.2.2.1, pAdd .i64 (Tick_v4 dj Y).2.2.2.2.2.1 1, ()) = _
    rw [q3, q4, pNat_coe, e1, app_set]; rfl
  have q6 : Tick_v6 dj Y = ageJ j (pAdd .i64 j.2.2.2.2.2.1 1) := by
    show pGet tyJob (Tick_v5 dj Y) (pNat (Tick_v3 dj Y)) = _
    rw [q3, q5, pNat_coe]; exact app_at
  have q8 : Tick_v8 dj Y = P ++ ageJ j 0 :: R := by
    show pSet (Tick_v5 dj Y) (pNat (Tick_v3 dj Y)) ((Tick_v6 dj Y).1, (Tick_v6 dj Y).2.1, (Tick_v6 dj Y).2.2.1, (Tick_v6 dj Y).2.2.2.1, (Tick_v6 dj Y).2.2.2.2.1, (0 : Int), ()) = _
    rw [q3, q5, q6, pNat_coe, app_set]; rfl
  have q11 : Tick_v11 dj Y = ageJ j 0 := by
    show pGet tyJob (Tick_v8 dj Y) (pNat (Tick_v3 dj Y)) = _
    rw [q3, q8, pNat_coe]; exact app_at
  have hlen : ∀ j' : JobD, (P ++ j' :: R).length = P.length + R.length + 1 := fun j' => by rw [List.length_append]; simp; omega
  have hR : R.length ≤ 6 := by rw [e2, List.length_drop]; show dj.length - (k + 1) ≤ 6; omega
  have in3 : pIn (Tick_v3 dj Y) (pLen (Tick_v2 Y)) := by
    rw [q3]
    refine pIn_coe.2 ?_
    show P.length < sj.length
    rw [e1, hlen]; omega
  have in35 : pIn (Tick_v3 dj Y) (pLen (Tick_v5 dj Y)) := by
    rw [q3, q5]
    refine pIn_coe.2 ?_
    show P.length < (P ++ _ :: R).length
    rw [hlen]; omega
  have hsl : pLen (Tick_v2 Y) < 4611686018427387904 := by
    show sj.length < _
    rw [e1, hlen]; omega
  have hhl := handsF_len (cn := cn) (l := l) (ts := j.2.2.1) hcs
  have hsh : sortN (sitesK cn l (Tick_v6 dj Y).2.2.1 (Tick_v6 dj Y).2.2.1.length) = handsF cn l j.2.2.1 := by
    rw [q6]; exact sites_hands hcs hjk.2.2.2.1
  have has : (sortN (sitesK cn l (Tick_v6 dj Y).2.2.1 (Tick_v6 dj Y).2.2.1.length)).length ≤ 1000 := by rw [hsh]; omega
  have hmw : sm.length ≤ 1000000 := by omega
  have hlate : ∀ {b : Bool}, pGe (Tick_v6 dj Y).2.2.2.2.2.1 cp = b → pLt (pAdd .i64 j.2.2.2.2.2.1 1) cp = !b := by
    intro b hb
    rw [q6] at hb
    have hb : pGe (pAdd .i64 j.2.2.2.2.2.1 1) cp = b := hb
    rw [← hb]
    unfold pGe pLt
    rw [Bool.eq_iff_iff]
    simp
  refine ⟨pIn_coe.2 hk, hsl, in3, in3, in35, bif_ok (fun c1 => ⟨in35, ?_⟩) fun c1 => ?_⟩
  rotate_left
  · have hnl := hlate c1
    refine hT' (Tick_v54 dj Y) ?_
    rw [hnl, Bool.not_false, cond_true]
    show (cn, cl, cp, l, m, dn, Tick_v5 dj Y, sm, [], sr, 0, 0, ()) = _
    rw [q5]; rfl
  have hnl := hlate c1
  rw [Bool.not_true] at hnl
  rw [hnl, cond_false] at hT'
  refine bif_ok (fun c2 => ?_) fun c2 => ?_
  · rw [q6] at c2
    have c2 : pEq j.2.1 3 = true := c2
    rw [c2, cond_true] at hT'
    refine tell_vc (Tick_v10 dj Y) (Tick_v11 dj Y).1 (Tick_v11 dj Y).2.2.2.1 _ ?_ hmw (hT' (withM (Tick_v10 dj Y) (sm ++ saysM m true (Tick_v11 dj Y).1 (Tick_v11 dj Y).2.2.2.1)) ?_)
    · rw [q11]
      have := hjk.2.2.1
      show j.2.2.2.1.length ≤ 1000
      omega
    · show (cn, cl, cp, l, m, dn, Tick_v8 dj Y, sm ++ saysM m true (Tick_v11 dj Y).1 (Tick_v11 dj Y).2.2.2.1, [], sr, 0, 0, ()) = _
      rw [q8, q11]; rfl
  have c2 : pEq j.2.1 3 = false := by rw [q6] at c2; exact c2
  rw [c2, cond_false] at hT'
  have endfin : ∀ (w : WorkD), w = workOf (cn, cl, cp, ()) l m (dn, P ++ ageJ j (pAdd .i64 j.2.2.2.2.2.1 1) :: R, sm, [], sr ++ waitR m j, 0, 0, ()) →
      let w1 : WorkD := withM w (w.2.2.2.2.2.2.2.1 ++ saysM w.2.2.2.2.1 false (Tick_v6 dj Y).1 (sortN (sitesK cn l (Tick_v6 dj Y).2.2.1 (Tick_v6 dj Y).2.2.1.length)))
      pIn (Tick_v3 dj Y) (pLen w1.2.2.2.2.2.2.1) ∧ pAdd .i64 (Tick_v3 dj Y) 1 = pAdd .i64 (Tick_v3 dj Y) 1 ∧ Nat.le (Nat.succ (pLen w1.2.2.2.2.2.2.1)) 4611686018427387904 ∧
        tickInv cn cl cp l m dn dj (pAdd .i64 (k : Int) 1, (w1.1, w1.2.1, w1.2.2.1, w1.2.2.2.1, w1.2.2.2.2.1, w1.2.2.2.2.2.1, pDel w1.2.2.2.2.2.2.1 (pNat (Tick_v3 dj Y)), w1.2.2.2.2.2.2.2), ()) ∧
        Nat.le (Nat.succ (tickMu cn cl cp l m dn dj (pAdd .i64 (k : Int) 1, (w1.1, w1.2.1, w1.2.2.1, w1.2.2.2.1, w1.2.2.2.2.1, w1.2.2.2.2.2.1, pDel w1.2.2.2.2.2.2.1 (pNat (Tick_v3 dj Y)), w1.2.2.2.2.2.2.2), ()))) (tickMu cn cl cp l m dn dj Y) := by
    intro w hw
    subst hw
    refine ⟨?_, rfl, ?_, hT' _ ?_⟩
    · rw [q3]
      refine pIn_coe.2 ?_
      show P.length < (P ++ _ :: R).length
      rw [hlen]; omega
    · show (P ++ _ :: R).length < _
      rw [hlen]; omega
    · show (cn, cl, cp, l, m, dn, pDel (P ++ _ :: R) (pNat (Tick_v3 dj Y)), sm ++ saysM m false (Tick_v6 dj Y).1 (sortN (sitesK cn l (Tick_v6 dj Y).2.2.1 (Tick_v6 dj Y).2.2.1.length)), [], sr ++ waitR m j, 0, 0, ()) = _
      rw [hsh, q3, pNat_coe, app_del, q6]; rfl
  have hlenI : Tick_v29 dj Y = (j.2.2.1.length : Int) - 1 := by
    show pSubI .i64 (pInt (pLen (Tick_v6 dj Y).2.2.1)) 1 = _
    rw [q6]
    have := hjk.2.1
    exact pSubI_in (show -9223372036854775808 ≤ (j.2.2.1.length : Int) - 1 ∧ (j.2.2.1.length : Int) - 1 ≤ 9223372036854775807 by omega)
  refine bif_ok (fun c3 => ?_) fun c3 => ?_
  · have c3 : pEq j.2.1 2 = true := by rw [q6] at c3; exact c3
    refine ⟨app_room (show (sr.length + 1) * 48 ≤ 140737488351232 by omega), in35, ?_⟩
    refine end_vc (Tick_v21 dj Y) (Tick_v6 dj Y).2.2.1 0 _ hcs (by rw [q6]; exact hjk.2.1) ?_
    refine ends_vc (Tick_v21 dj Y) (Tick_v6 dj Y).1 (sortN (sitesK cn l (Tick_v6 dj Y).2.2.1 (Tick_v6 dj Y).2.2.1.length)) _ has hmw ?_
    refine endfin (Tick_v21 dj Y) ?_
    show (cn, cl, cp, l, m, dn, Tick_v5 dj Y, sm, [], sr ++ [(m, 4, (Tick_v6 dj Y).1, 0, 0, 14, ())], 0, 0, ()) = _
    rw [q5]
    have hw : waitR m j = [(m, 4, j.1, 0, 0, 14, ())] := by unfold waitR; rw [c3, cond_true]
    rw [hw, q6]
    rfl
  have c3 : pEq j.2.1 2 = false := by rw [q6] at c3; exact c3
  refine bif_ok (fun c4 => ?_) fun c4 => ?_
  · rw [hlenI] at c4
    have hpos : 0 < j.2.2.1.length := by
      have : (j.2.2.1.length : Int) - 1 ≥ 0 := of_decide_eq_true c4
      omega
    have q29 : Tick_v29 dj Y = ((j.2.2.1.length - 1 : Nat) : Int) := by rw [hlenI]; omega
    have q30 : Tick_v30 dj Y = pGet tyTask j.2.2.1 (j.2.2.1.length - 1) := by
      show pGet tyTask (Tick_v6 dj Y).2.2.1 (pNat (Tick_v29 dj Y)) = _
      rw [q29, pNat_coe, q6]; rfl
    have in29 : pIn (Tick_v29 dj Y) (pLen (Tick_v6 dj Y).2.2.1) := by
      rw [q29, q6]
      refine pIn_coe.2 ?_
      show j.2.2.1.length - 1 < j.2.2.1.length
      omega
    have hgt : pGt (pInt j.2.2.1.length) 0 = true := decide_eq_true (show (j.2.2.1.length : Int) > 0 by omega)
    refine ⟨in29, bif_ok (fun c5 => ⟨in29, bif_ok (fun c6 => ⟨in29, app_room (show (sr.length + 1) * 48 ≤ 140737488351232 by omega), in35, ?_⟩) fun c6 => ⟨in29, app_room (show (sr.length + 1) * 48 ≤ 140737488351232 by omega), in35, ?_⟩⟩) fun c5 => ⟨in35, ?_⟩⟩
    · rw [q30] at c5 c6
      have ho : openT j.2.2.1 = true := by unfold openT; rw [hgt, Bool.true_and]; exact c5
      refine end_vc (Tick_v35 dj Y) (Tick_v6 dj Y).2.2.1 0 _ hcs (by rw [q6]; exact hjk.2.1) ?_
      refine ends_vc (Tick_v35 dj Y) (Tick_v6 dj Y).1 (sortN (sitesK cn l (Tick_v6 dj Y).2.2.1 (Tick_v6 dj Y).2.2.1.length)) _ has hmw ?_
      refine endfin (Tick_v35 dj Y) ?_
      show (cn, cl, cp, l, m, dn, Tick_v5 dj Y, sm, [], sr ++ [(m, 3, (Tick_v6 dj Y).1, (Tick_v30 dj Y).2.2.1, 0, 14, ())], 0, 0, ()) = _
      rw [q5]
      have hw : waitR m j = [(m, 3, j.1, (pGet tyTask j.2.2.1 (j.2.2.1.length - 1)).2.2.1, 0, 14, ())] := by unfold waitR; rw [c3, cond_false, ho, cond_true, c6, cond_true]
      rw [hw, q30, q6]
      rfl
    · rw [q30] at c5 c6
      have ho : openT j.2.2.1 = true := by unfold openT; rw [hgt, Bool.true_and]; exact c5
      refine end_vc (Tick_v45 dj Y) (Tick_v6 dj Y).2.2.1 0 _ hcs (by rw [q6]; exact hjk.2.1) ?_
      refine ends_vc (Tick_v45 dj Y) (Tick_v6 dj Y).1 (sortN (sitesK cn l (Tick_v6 dj Y).2.2.1 (Tick_v6 dj Y).2.2.1.length)) _ has hmw ?_
      refine endfin (Tick_v45 dj Y) ?_
      show (cn, cl, cp, l, m, dn, Tick_v5 dj Y, sm, [], sr ++ [(m, 2, (Tick_v6 dj Y).1, (Tick_v30 dj Y).2.2.1, 0, 14, ())], 0, 0, ()) = _
      rw [q5]
      have hw : waitR m j = [(m, 2, j.1, (pGet tyTask j.2.2.1 (j.2.2.1.length - 1)).2.2.1, 0, 14, ())] := by unfold waitR; rw [c3, cond_false, ho, cond_true, c6, cond_false]
      rw [hw, q30, q6]
      rfl
    · rw [q30] at c5
      have ho : openT j.2.2.1 = false := by unfold openT; rw [hgt, Bool.true_and]; exact c5
      refine end_vc (Tick_v54 dj Y) (Tick_v6 dj Y).2.2.1 0 _ hcs (by rw [q6]; exact hjk.2.1) ?_
      refine ends_vc (Tick_v54 dj Y) (Tick_v6 dj Y).1 (sortN (sitesK cn l (Tick_v6 dj Y).2.2.1 (Tick_v6 dj Y).2.2.1.length)) _ has hmw ?_
      refine endfin (Tick_v54 dj Y) ?_
      show (cn, cl, cp, l, m, dn, Tick_v5 dj Y, sm, [], sr, 0, 0, ()) = _
      rw [q5]
      have hw : waitR m j = [] := by unfold waitR; rw [c3, cond_false, ho, cond_false]
      rw [hw, List.append_nil]
      rfl
  · rw [hlenI] at c4
    have hpos : j.2.2.1.length = 0 := by
      have : ¬ ((j.2.2.1.length : Int) - 1 ≥ 0) := of_decide_eq_false c4
      omega
    have ho : openT j.2.2.1 = false := by unfold openT; rw [hpos]; rfl
    refine ⟨in35, ?_⟩
    refine end_vc (Tick_v54 dj Y) (Tick_v6 dj Y).2.2.1 0 _ hcs (by rw [q6]; exact hjk.2.1) ?_
    refine ends_vc (Tick_v54 dj Y) (Tick_v6 dj Y).1 (sortN (sitesK cn l (Tick_v6 dj Y).2.2.1 (Tick_v6 dj Y).2.2.1.length)) _ has hmw ?_
    refine endfin (Tick_v54 dj Y) ?_
    show (cn, cl, cp, l, m, dn, Tick_v5 dj Y, sm, [], sr, 0, 0, ()) = _
    rw [q5]
    have hw : waitR m j = [] := by unfold waitR; rw [c3, cond_false, ho, cond_false]
    rw [hw, List.append_nil]
    rfl


end Go.Proofs.Ytnkcmkegjckncaa

/- Contracts, and what the evaluator says, as plain propositions: CwV. Printed by vc.py. -/
namespace Go.Proofs.Ytnkcmkegjckncaa
open Go.RowKit Go.ChangeShapes Go.WideShapes Go.Deep

abbrev Ticked_S : Shape := ⟨[pCfg, .one (.rd tI), .one (.rd tI), pDesk], []⟩
abbrev Ticked_f : Shape.den Ticked_S → denVars [.agg 0 kTurn, .slot 1 false tI] := fun x => (tickF (x.1.1.1, x.1.1.2.1, x.1.1.2.2.1, ()) x.1.2.1 x.1.2.2.1 (x.1.2.2.2.1.1, x.1.2.2.2.1.2.1, ()), begE (x.1.1.1, x.1.1.2.1, x.1.1.2.2.1, ()) x.1.2.1 x.1.2.2.1 (x.1.2.2.2.1.1, x.1.2.2.2.1.2.1, ()), ())
abbrev Ticked_p : Shape.den Ticked_S → List Prop := fun x => [pLen x.1.1.2.1 < 4611686018427387904, pLen x.1.2.2.2.1.2.1 < 4611686018427387904, (∀ q ∈ x.1.2.2.2.1.2.1, pLen q.2.2.1 < 4611686018427387904 ∧ pLen q.2.2.2.1 < 4611686018427387904)]
def cTicked : Ctr := shCtr Ticked_S Ticked_p [] [.agg 0 kTurn, .slot 1 false tI] Ticked_f
abbrev DeskCopyF_S : Shape := ⟨[pDesk], []⟩
abbrev DeskCopyF_f : Shape.den DeskCopyF_S → denVars [.agg 0 vDeskF] := fun x => ((x.1.1.1, x.1.1.2.1, ()), ())
abbrev DeskCopyF_p : Shape.den DeskCopyF_S → List Prop := fun x => [pRoom (pLen x.1.1.2.1) 80, (∀ q ∈ x.1.1.2.1, pRoom (pLen q.2.2.1) 56 ∧ pRoom (pLen q.2.2.2.1) 8), pLen x.1.1.2.1 < 4611686018427387904]
def cDeskCopyF : Ctr := shCtr DeskCopyF_S DeskCopyF_p [] [.agg 0 vDeskF] DeskCopyF_f
abbrev eqsCwV : List TypeId := [96, 64, 81, 76, 62]

noncomputable abbrev ektold : Env := envI Try.prog (fun _ => none) [(34, (false, cabout))] [] eqsCwV [] [] false
noncomputable def kktold : CtrK := inlC ektold (fun ky9 st9 => look [(2, (⟨[.slot 6 false tI, .box (ptI st9 1) kTurn], toldInv (boxD tyTurn st9 (ptI st9 1)) (slotI st9 0) (cellD tI st9 (ptI st9 5) 0) (crowD tyN st9 (ptI st9 5) 3), toldMu (boxD tyTurn st9 (ptI st9 1)) (slotI st9 0) (cellD tI st9 (ptI st9 5) 0) (crowD tyN st9 (ptI st9 5) 3)⟩ : Ann))] ky9) Try.f19
theorem kktold_ok (habout : Mt 34 cabout) : MeetsK Try.prog (fun _ => none) 19 false kktold :=
  meets_inl (E := ektold) (envI_ok (fun p hp => (by simp only [List.mem_cons, List.not_mem_nil, or_false] at hp; rcases hp with rfl; exact habout)) (fun p hp => by cases hp) (by kernel_rfl)) _ Try.func19 (by kernel_rfl) (by kernel_rfl)

noncomputable abbrev ekended : Env := envI Try.prog (fun _ => none) [(34, (false, cabout)), (43, (false, chands)), (44, (false, cwithout))] [] eqsCwV [] [] false
noncomputable def kkended : CtrK := inlC ekended (fun ky9 st9 => look [(4, (⟨[.slot 12 false tI, .box (ptI st9 3) kTurn], endedInv (boxD tyTurn st9 (ptI st9 3)) (slotI st9 2) (cellD tI st9 (ptI st9 10) 0) (rowD tyN st9 11), endedMu (boxD tyTurn st9 (ptI st9 3)) (slotI st9 2) (cellD tI st9 (ptI st9 10) 0) (rowD tyN st9 11)⟩ : Ann))] ky9) Try.f20
theorem kkended_ok (habout : Mt 34 cabout) (hhands : Mt 43 chands) (hwithout : Mt 44 cwithout) : MeetsK Try.prog (fun _ => none) 20 false kkended :=
  meets_inl (E := ekended) (envI_ok (fun p hp => (by simp only [List.mem_cons, List.not_mem_nil, or_false] at hp; rcases hp with rfl | rfl | rfl; exact habout; exact hhands; exact hwithout)) (fun p hp => by cases hp) (by kernel_rfl)) _ Try.func20 (by kernel_rfl) (by kernel_rfl)

abbrev Ticked_v0 (cn : Int) (cl : List LabD) (cp : Int) (l : Int) (m : Int) (dn : Int) (dj : List JobD) := (tickF (cn, cl, cp, ()) l m (dn, dj, ()), begE (cn, cl, cp, ()) l m (dn, dj, ()), ())
abbrev Ticked_v1 (dj : List JobD) (y2 : kden Bool.false tI × denCells kTurn × PUnit) := idxKeyJ y2.2.1.2.1 (pGet tyJob dj (pNat y2.1)).1
abbrev Ticked_v2 (dj : List JobD) (y2 : kden Bool.false tI × denCells kTurn × PUnit) := pGet tyJob y2.2.1.2.1 (pNat (Ticked_v1 dj y2))
abbrev Ticked_v3 (_ : Int) (_ : List LabD) (_ : Int) (_ : Int) (_ : Int) (_ : Int) (dj : List JobD) (y2 : kden Bool.false tI × denCells kTurn × PUnit) := (pAdd IntKind.i64 y2.1 (1 : Int), (y2.2.1.1, pSet y2.2.1.2.1 (pNat (Ticked_v1 dj y2)) ((Ticked_v2 dj y2).1, (Ticked_v2 dj y2).2.1, (Ticked_v2 dj y2).2.2.1, (Ticked_v2 dj y2).2.2.2.1, (Ticked_v2 dj y2).2.2.2.2.1, pAdd IntKind.i64 (Ticked_v2
 dj y2).2.2.2.2.2.1 (1 : Int), ()), y2.2.1.2.2), ())
abbrev Ticked_v4 (cn : Int) (cl : List LabD) (cp : Int) (l : Int) (m : Int) (dn : Int) (dj : List JobD) (y2 : kden Bool.false tI × denCells kTurn × PUnit) := tickedMu cn cl cp l m dn dj y2
abbrev Ticked_v5 (dj : List JobD) (y2 : kden Bool.false tI × denCells kTurn × PUnit) := pSet y2.2.1.2.1 (pNat (Ticked_v1 dj y2)) ((Ticked_v2 dj y2).1, (Ticked_v2 dj y2).2.1, (Ticked_v2 dj y2).2.2.1, (Ticked_v2 dj y2).2.2.2.1, (Ticked_v2 dj y2).2.2.2.2.1, (0 : Int), ())
abbrev Ticked_v6 (dj : List JobD) (y2 : kden Bool.false tI × denCells kTurn × PUnit) := (y2.2.1.1, Ticked_v5 dj y2, y2.2.1.2.2)
abbrev Ticked_v7 (m : Int) (dj : List JobD) (y2 : kden Bool.false tI × denCells kTurn × PUnit) (y13 : kden Bool.false tI × denCells kTurn × PUnit) := aboutF m (4 : Int) (pGet tyN (Ticked_v2 dj y2).2.2.2.1 (pNat y13.1)).1 (Ticked_v2 dj y2).1
abbrev Ticked_v8 (m : Int) (dj : List JobD) (y2 : kden Bool.false tI × denCells kTurn × PUnit) (y13 : kden Bool.false tI × denCells kTurn × PUnit) := ((Ticked_v7 m dj y2 y13).1, (Ticked_v7 m dj y2 y13).2.1, (Ticked_v7 m dj y2 y13).2.2.1, (Ticked_v7 m dj y2 y13).2.2.2.1, (Ticked_v7 m dj y2 y13).2.2.2.2.1, (Ticked_v7 m dj y2 y13).2.2.2.2.2.1, (Ticked_v7 m dj y2 y13).2.2.2.2.2.2.1,
 (Ticked_v7 m dj y2 y13).2.2.2.2.2.2.2.1, (Ticked_v7 m dj y2 y13).2.2.2.2.2.2.2.2.1, (Ticked_v7 m dj y2 y13).2.2.2.2.2.2.2.2.2.1, Bool.true, (Ticked_v7 m dj y2 y13).2.2.2.2.2.2.2.2.2.2.2) :: vnil (Int × Int × Int × Int × Int × Int × Int ×
 Int × Int × Int × Bool × Int × PUnit)
abbrev Ticked_v9 (_ : Int) (_ : List LabD) (_ : Int) (_ : Int) (m : Int) (_ : Int) (dj : List JobD) (y2 : kden Bool.false tI × denCells kTurn × PUnit) (y13 : kden Bool.false tI × denCells kTurn × PUnit) := (pAdd IntKind.i64 y13.1 (1 : Int), (y13.2.1.1, y13.2.1.2.1, pApp y13.2.1.2.2.1 (Ticked_v8 m dj y2 y13), y13.2.1.2.2.2), ())
abbrev Ticked_v10 (dj : List JobD) (y2 : kden Bool.false tI × denCells kTurn × PUnit) := pGet tyTask (Ticked_v2 dj y2).2.2.1 (pNat (pSubI IntKind.i64 (pInt (pLen (Ticked_v2 dj y2).2.2.1)) (1 : Int)))
abbrev Ticked_v11 (m : Int) (dj : List JobD) (y2 : kden Bool.false tI × denCells kTurn × PUnit) := (m, (3 : Int), (Ticked_v2 dj y2).1, (Ticked_v10 dj y2).2.2.1, (0 : Int), (14 : Int), ()) :: vnil (Int × Int × Int × Int × Int × Int × PUnit)
abbrev Ticked_t12 (dj : List JobD) (y2 : kden Bool.false tI × denCells kTurn × PUnit) : Prop := Nat.le (Nat.succ (pLen (Ticked_v2 dj y2).2.2.1)) 1000
abbrev Ticked_v13 (m : Int) (dj : List JobD) (y2 : kden Bool.false tI × denCells kTurn × PUnit) := (y2.2.1.1, y2.2.1.2.1, y2.2.1.2.2.1, y2.2.1.2.2.2.1, pApp y2.2.1.2.2.2.2.1 (Ticked_v11 m dj y2), y2.2.1.2.2.2.2.2)
abbrev Ticked_v14 (cn : Int) (l : Int) (dj : List JobD) (y2 : kden Bool.false tI × denCells kTurn × PUnit) := pLen (handsF cn l (Ticked_v2 dj y2).2.2.1)
abbrev Ticked_v15 (cn : Int) (l : Int) (m : Int) (dj : List JobD) (y2 : kden Bool.false tI × denCells kTurn × PUnit) (y12 : kden Bool.false tI × denCells kTurn × PUnit) := aboutF m (4 : Int) (pGet tyN (handsF cn l (Ticked_v2 dj y2).2.2.1) (pNat y12.1)).1 (Ticked_v2 dj y2).1 :: vnil (Int × Int × Int × Int × Int × Int × Int × Int × Int × Int × Bool × Int × PUnit)
abbrev Ticked_v16 (cn : Int) (_ : List LabD) (_ : Int) (l : Int) (m : Int) (_ : Int) (dj : List JobD) (y2 : kden Bool.false tI × denCells kTurn × PUnit) (y12 : kden Bool.false tI × denCells kTurn × PUnit) := (pAdd IntKind.i64 y12.1 (1 : Int), (y12.2.1.1, y12.2.1.2.1, pApp y12.2.1.2.2.1 (Ticked_v15 cn l m dj y2 y12), y12.2.1.2.2.2), ())
abbrev Ticked_v17 (_ : Int) (_ : List LabD) (_ : Int) (_ : Int) (_ : Int) (_ : Int) (dj : List JobD) (y2 : kden Bool.false tI × denCells kTurn × PUnit) (y12 : kden Bool.false tI × denCells kTurn × PUnit) := (pAdd IntKind.i64 y2.1 (1 : Int), (y12.2.1.1, withoutF y12.2.1.2.1 (Ticked_v1 dj y2), y12.2.1.2.2), ())
abbrev Ticked_v18 (cn : Int) (l : Int) (m : Int) (dj : List JobD) (y2 : kden Bool.false tI × denCells kTurn × PUnit) (y11 : kden Bool.false tI × denCells kTurn × PUnit) := aboutF m (4 : Int) (pGet tyN (handsF cn l (Ticked_v2 dj y2).2.2.1) (pNat y11.1)).1 (Ticked_v2 dj y2).1 :: vnil (Int × Int × Int × Int × Int × Int × Int × Int × Int × Int × Bool × Int × PUnit)
abbrev Ticked_v19 (cn : Int) (_ : List LabD) (_ : Int) (l : Int) (m : Int) (_ : Int) (dj : List JobD) (y2 : kden Bool.false tI × denCells kTurn × PUnit) (y11 : kden Bool.false tI × denCells kTurn × PUnit) := (pAdd IntKind.i64 y11.1 (1 : Int), (y11.2.1.1, y11.2.1.2.1, pApp y11.2.1.2.2.1 (Ticked_v18 cn l m dj y2 y11), y11.2.1.2.2.2), ())
abbrev Ticked_v20 (_ : Int) (_ : List LabD) (_ : Int) (_ : Int) (_ : Int) (_ : Int) (dj : List JobD) (y2 : kden Bool.false tI × denCells kTurn × PUnit) (y11 : kden Bool.false tI × denCells kTurn × PUnit) := (pAdd IntKind.i64 y2.1 (1 : Int), (y11.2.1.1, withoutF y11.2.1.2.1 (Ticked_v1 dj y2), y11.2.1.2.2), ())
abbrev Ticked_v21 (m : Int) (dj : List JobD) (y2 : kden Bool.false tI × denCells kTurn × PUnit) := (m, (2 : Int), (Ticked_v2 dj y2).1, (Ticked_v10 dj y2).2.2.1, (0 : Int), (14 : Int), ()) :: vnil (Int × Int × Int × Int × Int × Int × PUnit)
abbrev Ticked_v22 (m : Int) (dj : List JobD) (y2 : kden Bool.false tI × denCells kTurn × PUnit) := (y2.2.1.1, y2.2.1.2.1, y2.2.1.2.2.1, y2.2.1.2.2.2.1, pApp y2.2.1.2.2.2.2.1 (Ticked_v21 m dj y2), y2.2.1.2.2.2.2.2)
abbrev Ticked_v23 (cn : Int) (l : Int) (m : Int) (dj : List JobD) (y2 : kden Bool.false tI × denCells kTurn × PUnit) (y10 : kden Bool.false tI × denCells kTurn × PUnit) := aboutF m (4 : Int) (pGet tyN (handsF cn l (Ticked_v2 dj y2).2.2.1) (pNat y10.1)).1 (Ticked_v2 dj y2).1 :: vnil (Int × Int × Int × Int × Int × Int × Int × Int × Int × Int × Bool × Int × PUnit)
abbrev Ticked_v24 (cn : Int) (_ : List LabD) (_ : Int) (l : Int) (m : Int) (_ : Int) (dj : List JobD) (y2 : kden Bool.false tI × denCells kTurn × PUnit) (y10 : kden Bool.false tI × denCells kTurn × PUnit) := (pAdd IntKind.i64 y10.1 (1 : Int), (y10.2.1.1, y10.2.1.2.1, pApp y10.2.1.2.2.1 (Ticked_v23 cn l m dj y2 y10), y10.2.1.2.2.2), ())
abbrev Ticked_v25 (_ : Int) (_ : List LabD) (_ : Int) (_ : Int) (_ : Int) (_ : Int) (dj : List JobD) (y2 : kden Bool.false tI × denCells kTurn × PUnit) (y10 : kden Bool.false tI × denCells kTurn × PUnit) := (pAdd IntKind.i64 y2.1 (1 : Int), (y10.2.1.1, withoutF y10.2.1.2.1 (Ticked_v1 dj y2), y10.2.1.2.2), ())
abbrev Ticked_v26 (cn : Int) (l : Int) (m : Int) (dj : List JobD) (y2 : kden Bool.false tI × denCells kTurn × PUnit) (y9 : kden Bool.false tI × denCells kTurn × PUnit) := aboutF m (4 : Int) (pGet tyN (handsF cn l (Ticked_v2 dj y2).2.2.1) (pNat y9.1)).1 (Ticked_v2 dj y2).1 :: vnil (Int × Int × Int × Int × Int × Int × Int × Int × Int × Int × Bool × Int × PUnit)
abbrev Ticked_v27 (cn : Int) (_ : List LabD) (_ : Int) (l : Int) (m : Int) (_ : Int) (dj : List JobD) (y2 : kden Bool.false tI × denCells kTurn × PUnit) (y9 : kden Bool.false tI × denCells kTurn × PUnit) := (pAdd IntKind.i64 y9.1 (1 : Int), (y9.2.1.1, y9.2.1.2.1, pApp y9.2.1.2.2.1 (Ticked_v26 cn l m dj y2 y9), y9.2.1.2.2.2), ())
abbrev Ticked_v28 (_ : Int) (_ : List LabD) (_ : Int) (_ : Int) (_ : Int) (_ : Int) (dj : List JobD) (y2 : kden Bool.false tI × denCells kTurn × PUnit) (y9 : kden Bool.false tI × denCells kTurn × PUnit) := (pAdd IntKind.i64 y2.1 (1 : Int), (y9.2.1.1, withoutF y9.2.1.2.1 (Ticked_v1 dj y2), y9.2.1.2.2), ())
abbrev Ticked_v29 (m : Int) (dj : List JobD) (y2 : kden Bool.false tI × denCells kTurn × PUnit) := pApp y2.2.1.2.2.2.2.1 ((m, (4 : Int), (Ticked_v2 dj y2).1, (0 : Int), (0 : Int), (14 : Int), ()) :: vnil (Int × Int × Int × Int × Int × Int × PUnit))
abbrev Ticked_v30 (m : Int) (dj : List JobD) (y2 : kden Bool.false tI × denCells kTurn × PUnit) := (y2.2.1.1, y2.2.1.2.1, y2.2.1.2.2.1, y2.2.1.2.2.2.1, Ticked_v29 m dj y2, y2.2.1.2.2.2.2.2)
abbrev Ticked_v31 (cn : Int) (l : Int) (m : Int) (dj : List JobD) (y2 : kden Bool.false tI × denCells kTurn × PUnit) (y8 : kden Bool.false tI × denCells kTurn × PUnit) := aboutF m (4 : Int) (pGet tyN (handsF cn l (Ticked_v2 dj y2).2.2.1) (pNat y8.1)).1 (Ticked_v2 dj y2).1 :: vnil (Int × Int × Int × Int × Int × Int × Int × Int × Int × Int × Bool × Int × PUnit)
abbrev Ticked_v32 (cn : Int) (_ : List LabD) (_ : Int) (l : Int) (m : Int) (_ : Int) (dj : List JobD) (y2 : kden Bool.false tI × denCells kTurn × PUnit) (y8 : kden Bool.false tI × denCells kTurn × PUnit) := (pAdd IntKind.i64 y8.1 (1 : Int), (y8.2.1.1, y8.2.1.2.1, pApp y8.2.1.2.2.1 (Ticked_v31 cn l m dj y2 y8), y8.2.1.2.2.2), ())
abbrev Ticked_v33 (_ : Int) (_ : List LabD) (_ : Int) (_ : Int) (_ : Int) (_ : Int) (dj : List JobD) (y2 : kden Bool.false tI × denCells kTurn × PUnit) (y8 : kden Bool.false tI × denCells kTurn × PUnit) := (pAdd IntKind.i64 y2.1 (1 : Int), (y8.2.1.1, withoutF y8.2.1.2.1 (Ticked_v1 dj y2), y8.2.1.2.2), ())
abbrev Ticked_v34 (cn : Int) (l : Int) (m : Int) (dj : List JobD) (y2 : kden Bool.false tI × denCells kTurn × PUnit) (y7 : kden Bool.false tI × denCells kTurn × PUnit) := aboutF m (4 : Int) (pGet tyN (handsF cn l (Ticked_v2 dj y2).2.2.1) (pNat y7.1)).1 (Ticked_v2 dj y2).1 :: vnil (Int × Int × Int × Int × Int × Int × Int × Int × Int × Int × Bool × Int × PUnit)
abbrev Ticked_v35 (cn : Int) (_ : List LabD) (_ : Int) (l : Int) (m : Int) (_ : Int) (dj : List JobD) (y2 : kden Bool.false tI × denCells kTurn × PUnit) (y7 : kden Bool.false tI × denCells kTurn × PUnit) := (pAdd IntKind.i64 y7.1 (1 : Int), (y7.2.1.1, y7.2.1.2.1, pApp y7.2.1.2.2.1 (Ticked_v34 cn l m dj y2 y7), y7.2.1.2.2.2), ())
abbrev Ticked_v36 (_ : Int) (_ : List LabD) (_ : Int) (_ : Int) (_ : Int) (_ : Int) (dj : List JobD) (y2 : kden Bool.false tI × denCells kTurn × PUnit) (y7 : kden Bool.false tI × denCells kTurn × PUnit) := (pAdd IntKind.i64 y2.1 (1 : Int), (y7.2.1.1, withoutF y7.2.1.2.1 (Ticked_v1 dj y2), y7.2.1.2.2), ())
abbrev Ticked_v37 (cn : Int) (l : Int) (m : Int) (dj : List JobD) (y2 : kden Bool.false tI × denCells kTurn × PUnit) (y6 : kden Bool.false tI × denCells kTurn × PUnit) := aboutF m (4 : Int) (pGet tyN (handsF cn l (Ticked_v2 dj y2).2.2.1) (pNat y6.1)).1 (Ticked_v2 dj y2).1 :: vnil (Int × Int × Int × Int × Int × Int × Int × Int × Int × Int × Bool × Int × PUnit)
abbrev Ticked_v38 (cn : Int) (_ : List LabD) (_ : Int) (l : Int) (m : Int) (_ : Int) (dj : List JobD) (y2 : kden Bool.false tI × denCells kTurn × PUnit) (y6 : kden Bool.false tI × denCells kTurn × PUnit) := (pAdd IntKind.i64 y6.1 (1 : Int), (y6.2.1.1, y6.2.1.2.1, pApp y6.2.1.2.2.1 (Ticked_v37 cn l m dj y2 y6), y6.2.1.2.2.2), ())
abbrev Ticked_v39 (_ : Int) (_ : List LabD) (_ : Int) (_ : Int) (_ : Int) (_ : Int) (dj : List JobD) (y2 : kden Bool.false tI × denCells kTurn × PUnit) (y6 : kden Bool.false tI × denCells kTurn × PUnit) := (pAdd IntKind.i64 y2.1 (1 : Int), (y6.2.1.1, withoutF y6.2.1.2.1 (Ticked_v1 dj y2), y6.2.1.2.2), ())
abbrev Ticked_v40 (cn : Int) (l : Int) (m : Int) (dj : List JobD) (y2 : kden Bool.false tI × denCells kTurn × PUnit) (y5 : kden Bool.false tI × denCells kTurn × PUnit) := aboutF m (4 : Int) (pGet tyN (handsF cn l (Ticked_v2 dj y2).2.2.1) (pNat y5.1)).1 (Ticked_v2 dj y2).1 :: vnil (Int × Int × Int × Int × Int × Int × Int × Int × Int × Int × Bool × Int × PUnit)
abbrev Ticked_v41 (cn : Int) (_ : List LabD) (_ : Int) (l : Int) (m : Int) (_ : Int) (dj : List JobD) (y2 : kden Bool.false tI × denCells kTurn × PUnit) (y5 : kden Bool.false tI × denCells kTurn × PUnit) := (pAdd IntKind.i64 y5.1 (1 : Int), (y5.2.1.1, y5.2.1.2.1, pApp y5.2.1.2.2.1 (Ticked_v40 cn l m dj y2 y5), y5.2.1.2.2.2), ())
abbrev Ticked_v42 (_ : Int) (_ : List LabD) (_ : Int) (_ : Int) (_ : Int) (_ : Int) (dj : List JobD) (y2 : kden Bool.false tI × denCells kTurn × PUnit) (y5 : kden Bool.false tI × denCells kTurn × PUnit) := (pAdd IntKind.i64 y2.1 (1 : Int), (y5.2.1.1, withoutF y5.2.1.2.1 (Ticked_v1 dj y2), y5.2.1.2.2), ())
abbrev Ticked_v43 (cn : Int) (l : Int) (m : Int) (dj : List JobD) (y2 : kden Bool.false tI × denCells kTurn × PUnit) (y4 : kden Bool.false tI × denCells kTurn × PUnit) := aboutF m (4 : Int) (pGet tyN (handsF cn l (Ticked_v2 dj y2).2.2.1) (pNat y4.1)).1 (Ticked_v2 dj y2).1 :: vnil (Int × Int × Int × Int × Int × Int × Int × Int × Int × Int × Bool × Int × PUnit)
abbrev Ticked_v44 (cn : Int) (_ : List LabD) (_ : Int) (l : Int) (m : Int) (_ : Int) (dj : List JobD) (y2 : kden Bool.false tI × denCells kTurn × PUnit) (y4 : kden Bool.false tI × denCells kTurn × PUnit) := (pAdd IntKind.i64 y4.1 (1 : Int), (y4.2.1.1, y4.2.1.2.1, pApp y4.2.1.2.2.1 (Ticked_v43 cn l m dj y2 y4), y4.2.1.2.2.2), ())
abbrev Ticked_v45 (_ : Int) (_ : List LabD) (_ : Int) (_ : Int) (_ : Int) (_ : Int) (dj : List JobD) (y2 : kden Bool.false tI × denCells kTurn × PUnit) (y4 : kden Bool.false tI × denCells kTurn × PUnit) := (pAdd IntKind.i64 y2.1 (1 : Int), (y4.2.1.1, withoutF y4.2.1.2.1 (Ticked_v1 dj y2), y4.2.1.2.2), ())
abbrev Ticked_v46 (cn : Int) (l : Int) (m : Int) (dj : List JobD) (y2 : kden Bool.false tI × denCells kTurn × PUnit) (y3 : kden Bool.false tI × denCells kTurn × PUnit) := aboutF m (4 : Int) (pGet tyN (handsF cn l (Ticked_v2 dj y2).2.2.1) (pNat y3.1)).1 (Ticked_v2 dj y2).1 :: vnil (Int × Int × Int × Int × Int × Int × Int × Int × Int × Int × Bool × Int × PUnit)
abbrev Ticked_v47 (cn : Int) (_ : List LabD) (_ : Int) (l : Int) (m : Int) (_ : Int) (dj : List JobD) (y2 : kden Bool.false tI × denCells kTurn × PUnit) (y3 : kden Bool.false tI × denCells kTurn × PUnit) := (pAdd IntKind.i64 y3.1 (1 : Int), (y3.2.1.1, y3.2.1.2.1, pApp y3.2.1.2.2.1 (Ticked_v46 cn l m dj y2 y3), y3.2.1.2.2.2), ())
abbrev Ticked_v48 (_ : Int) (_ : List LabD) (_ : Int) (_ : Int) (_ : Int) (_ : Int) (dj : List JobD) (y2 : kden Bool.false tI × denCells kTurn × PUnit) (y3 : kden Bool.false tI × denCells kTurn × PUnit) := (pAdd IntKind.i64 y2.1 (1 : Int), (y3.2.1.1, withoutF y3.2.1.2.1 (Ticked_v1 dj y2), y3.2.1.2.2), ())

def Ticked_VC (cn : Int) (cl : (List LabD)) (cp : Int) (l : Int) (m : Int) (dn : Int) (dj : (List JobD)) : Prop :=
  Nat.le (Nat.succ (pLen cl)) 4611686018427387904 ∧ Nat.le (Nat.succ (pLen dj)) 4611686018427387904 ∧ (∀ (q0 : Int × Int × List (Bool × Int × Int × Int × Int × Int × Bool × Bool × PUnit) × List (Int × PUnit) × Int × Int × PUnit), List.Mem q0
 dj → Nat.le (Nat.succ (pLen q0.2.2.1)) 4611686018427387904 ∧ Nat.le (Nat.succ (pLen q0.2.2.2.1)) 4611686018427387904) ∧ bif pNe (begE (cn, cl, cp, ()) l m (dn, dj, ())) (0 : Int) then (((0 : Int), vnil (Int × Int × List (Bool × Int × Int ×
 Int × Int × Int × Bool × Bool × PUnit) × List (Int × PUnit) × Int × Int × PUnit), vnil (Int × Int × Int × Int × Int × Int × Int × Int × Int × Int × Bool × Int × PUnit), vnil (Int × Int × Int × Int × Int × Int × Bool × List (Int × PUnit) ×
 PUnit), vnil (Int × Int × Int × Int × Int × Int × PUnit), (0 : Int), (0 : Int), ()), begE (cn, cl, cp, ()) l m (dn, dj, ()), ()) = Ticked_v0 cn cl cp l m dn dj else pRoom (pLen dj) 80 ∧ (∀ (q1 : Int × Int × List (Bool × Int × Int × Int ×
 Int × Int × Bool × Bool × PUnit) × List (Int × PUnit) × Int × Int × PUnit), List.Mem q1 dj → pRoom (pLen q1.2.2.1) 56 ∧ pRoom (pLen q1.2.2.2.1) 8) ∧ Nat.le (Nat.succ (pLen dj)) 4611686018427387904 ∧ tickedInv cn cl cp l m dn dj ((0 : Int),
 (dn, dj, vnil (Int × Int × Int × Int × Int × Int × Int × Int × Int × Int × Bool × Int × PUnit), vnil (Int × Int × Int × Int × Int × Int × Bool × List (Int × PUnit) × PUnit), vnil (Int × Int × Int × Int × Int × Int × PUnit), (0 : Int), (0 :
 Int), ()), ()) ∧ ∀ (y2 : kden Bool.false tI × denCells kTurn × PUnit), tickedInv cn cl cp l m dn dj y2 → bif pLt y2.1 (pInt (pLen dj)) then pIn y2.1 (pLen dj) ∧ Nat.le (Nat.succ (pLen y2.2.1.2.1)) 4611686018427387904 ∧ pIn (Ticked_v1 dj y2)
 (pLen y2.2.1.2.1) ∧ bif pLt (pAdd IntKind.i64 (Ticked_v2 dj y2).2.2.2.2.2.1 (1 : Int)) cp then pIn (Ticked_v1 dj y2) (pLen y2.2.1.2.1) ∧ tickedInv cn cl cp l m dn dj (Ticked_v3 cn cl cp l m dn dj y2) ∧ Nat.le (Nat.succ (tickedMu cn cl cp l
 m dn dj (Ticked_v3 cn cl cp l m dn dj y2))) (Ticked_v4 cn cl cp l m dn dj y2) else bif pEq (Ticked_v2 dj y2).2.1 (3 : Int) then pIn (Ticked_v1 dj y2) (pLen y2.2.1.2.1) ∧ toldInv (Ticked_v6 dj y2) m (Ticked_v2 dj y2).1 (Ticked_v2 dj
 y2).2.2.2.1 ((0 : Int), (y2.2.1.1, Ticked_v5 dj y2, y2.2.1.2.2), ()) ∧ ∀ (y13 : kden Bool.false tI × denCells kTurn × PUnit), toldInv (Ticked_v6 dj y2) m (Ticked_v2 dj y2).1 (Ticked_v2 dj y2).2.2.2.1 y13 → bif pLt y13.1 (pInt (pLen
 (Ticked_v2 dj y2).2.2.2.1)) then pIn y13.1 (pLen (Ticked_v2 dj y2).2.2.2.1) ∧ pRoom (pPlus (pLen y13.2.1.2.2.1) (pLen (Ticked_v8 m dj y2 y13))) 96 ∧ toldInv (Ticked_v6 dj y2) m (Ticked_v2 dj y2).1 (Ticked_v2 dj y2).2.2.2.1 (Ticked_v9 cn cl
 cp l m dn dj y2 y13) ∧ Nat.le (Nat.succ (toldMu (Ticked_v6 dj y2) m (Ticked_v2 dj y2).1 (Ticked_v2 dj y2).2.2.2.1 (Ticked_v9 cn cl cp l m dn dj y2 y13))) (toldMu (Ticked_v6 dj y2) m (Ticked_v2 dj y2).1 (Ticked_v2 dj y2).2.2.2.1 y13) else
 tickedInv cn cl cp l m dn dj (pAdd IntKind.i64 y2.1 (1 : Int), y13.2) ∧ Nat.le (Nat.succ (tickedMu cn cl cp l m dn dj (pAdd IntKind.i64 y2.1 (1 : Int), y13.2))) (Ticked_v4 cn cl cp l m dn dj y2) else bif pEq (Ticked_v2 dj y2).2.1 (1 : Int)
 then bif pGt (pInt (pLen (Ticked_v2 dj y2).2.2.1)) (0 : Int) then pIn (pSubI IntKind.i64 (pInt (pLen (Ticked_v2 dj y2).2.2.1)) (1 : Int)) (pLen (Ticked_v2 dj y2).2.2.1) ∧ bif pNot (Ticked_v10 dj y2).2.2.2.2.2.2.1 then pIn (pSubI IntKind.i64
 (pInt (pLen (Ticked_v2 dj y2).2.2.1)) (1 : Int)) (pLen (Ticked_v2 dj y2).2.2.1) ∧ bif (Ticked_v10 dj y2).1 then pIn (pSubI IntKind.i64 (pInt (pLen (Ticked_v2 dj y2).2.2.1)) (1 : Int)) (pLen (Ticked_v2 dj y2).2.2.1) ∧ bif pEq (Ticked_v2 dj
 y2).2.1 (2 : Int) then pRoom (pPlus (pLen y2.2.1.2.2.2.2.1) (pLen (Ticked_v11 m dj y2))) 48 ∧ pIn (Ticked_v1 dj y2) (pLen y2.2.1.2.1) ∧ inF cn (1 : Int) (4 : Int) = Bool.true ∧ Ticked_t12 dj y2 ∧ endedInv (Ticked_v13 m dj y2) m (Ticked_v2
 dj y2).1 (handsF cn l (Ticked_v2 dj y2).2.2.1) ((0 : Int), (y2.2.1.1, y2.2.1.2.1, y2.2.1.2.2.1, y2.2.1.2.2.2.1, pApp y2.2.1.2.2.2.2.1 (Ticked_v11 m dj y2), y2.2.1.2.2.2.2.2), ()) ∧ ∀ (y12 : kden Bool.false tI × denCells kTurn × PUnit),
 endedInv (Ticked_v13 m dj y2) m (Ticked_v2 dj y2).1 (handsF cn l (Ticked_v2 dj y2).2.2.1) y12 → bif pLt y12.1 (pInt (Ticked_v14 cn l dj y2)) then pIn y12.1 (Ticked_v14 cn l dj y2) ∧ pRoom (pPlus (pLen y12.2.1.2.2.1) (pLen (Ticked_v15 cn l m
 dj y2 y12))) 96 ∧ endedInv (Ticked_v13 m dj y2) m (Ticked_v2 dj y2).1 (handsF cn l (Ticked_v2 dj y2).2.2.1) (Ticked_v16 cn cl cp l m dn dj y2 y12) ∧ Nat.le (Nat.succ (endedMu (Ticked_v13 m dj y2) m (Ticked_v2 dj y2).1 (handsF cn l
 (Ticked_v2 dj y2).2.2.1) (Ticked_v16 cn cl cp l m dn dj y2 y12))) (endedMu (Ticked_v13 m dj y2) m (Ticked_v2 dj y2).1 (handsF cn l (Ticked_v2 dj y2).2.2.1) y12) else Nat.le (Nat.succ (pLen y12.2.1.2.1)) 1000 ∧ tickedInv cn cl cp l m dn dj
 (Ticked_v17 cn cl cp l m dn dj y2 y12) ∧ Nat.le (Nat.succ (tickedMu cn cl cp l m dn dj (Ticked_v17 cn cl cp l m dn dj y2 y12))) (Ticked_v4 cn cl cp l m dn dj y2) else pRoom (pPlus (pLen y2.2.1.2.2.2.2.1) (pLen (Ticked_v11 m dj y2))) 48 ∧
 pIn (Ticked_v1 dj y2) (pLen y2.2.1.2.1) ∧ inF cn (1 : Int) (4 : Int) = Bool.true ∧ Ticked_t12 dj y2 ∧ endedInv (Ticked_v13 m dj y2) m (Ticked_v2 dj y2).1 (handsF cn l (Ticked_v2 dj y2).2.2.1) ((0 : Int), (y2.2.1.1, y2.2.1.2.1, y2.2.1.2.2.1,
 y2.2.1.2.2.2.1, pApp y2.2.1.2.2.2.2.1 (Ticked_v11 m dj y2), y2.2.1.2.2.2.2.2), ()) ∧ ∀ (y11 : kden Bool.false tI × denCells kTurn × PUnit), endedInv (Ticked_v13 m dj y2) m (Ticked_v2 dj y2).1 (handsF cn l (Ticked_v2 dj y2).2.2.1) y11 → bif
 pLt y11.1 (pInt (Ticked_v14 cn l dj y2)) then pIn y11.1 (Ticked_v14 cn l dj y2) ∧ pRoom (pPlus (pLen y11.2.1.2.2.1) (pLen (Ticked_v18 cn l m dj y2 y11))) 96 ∧ endedInv (Ticked_v13 m dj y2) m (Ticked_v2 dj y2).1 (handsF cn l (Ticked_v2 dj
 y2).2.2.1) (Ticked_v19 cn cl cp l m dn dj y2 y11) ∧ Nat.le (Nat.succ (endedMu (Ticked_v13 m dj y2) m (Ticked_v2 dj y2).1 (handsF cn l (Ticked_v2 dj y2).2.2.1) (Ticked_v19 cn cl cp l m dn dj y2 y11))) (endedMu (Ticked_v13 m dj y2) m
 (Ticked_v2 dj y2).1 (handsF cn l (Ticked_v2 dj y2).2.2.1) y11) else Nat.le (Nat.succ (pLen y11.2.1.2.1)) 1000 ∧ tickedInv cn cl cp l m dn dj (Ticked_v20 cn cl cp l m dn dj y2 y11) ∧ Nat.le (Nat.succ (tickedMu cn cl cp l m dn dj (Ticked_v20
 cn cl cp l m dn dj y2 y11))) (Ticked_v4 cn cl cp l m dn dj y2) else pIn (pSubI IntKind.i64 (pInt (pLen (Ticked_v2 dj y2).2.2.1)) (1 : Int)) (pLen (Ticked_v2 dj y2).2.2.1) ∧ bif pEq (Ticked_v2 dj y2).2.1 (2 : Int) then pRoom (pPlus (pLen
 y2.2.1.2.2.2.2.1) (pLen (Ticked_v21 m dj y2))) 48 ∧ pIn (Ticked_v1 dj y2) (pLen y2.2.1.2.1) ∧ inF cn (1 : Int) (4 : Int) = Bool.true ∧ Ticked_t12 dj y2 ∧ endedInv (Ticked_v22 m dj y2) m (Ticked_v2 dj y2).1 (handsF cn l (Ticked_v2 dj
 y2).2.2.1) ((0 : Int), (y2.2.1.1, y2.2.1.2.1, y2.2.1.2.2.1, y2.2.1.2.2.2.1, pApp y2.2.1.2.2.2.2.1 (Ticked_v21 m dj y2), y2.2.1.2.2.2.2.2), ()) ∧ ∀ (y10 : kden Bool.false tI × denCells kTurn × PUnit), endedInv (Ticked_v22 m dj y2) m
 (Ticked_v2 dj y2).1 (handsF cn l (Ticked_v2 dj y2).2.2.1) y10 → bif pLt y10.1 (pInt (Ticked_v14 cn l dj y2)) then pIn y10.1 (Ticked_v14 cn l dj y2) ∧ pRoom (pPlus (pLen y10.2.1.2.2.1) (pLen (Ticked_v23 cn l m dj y2 y10))) 96 ∧ endedInv
 (Ticked_v22 m dj y2) m (Ticked_v2 dj y2).1 (handsF cn l (Ticked_v2 dj y2).2.2.1) (Ticked_v24 cn cl cp l m dn dj y2 y10) ∧ Nat.le (Nat.succ (endedMu (Ticked_v22 m dj y2) m (Ticked_v2 dj y2).1 (handsF cn l (Ticked_v2 dj y2).2.2.1) (Ticked_v24
 cn cl cp l m dn dj y2 y10))) (endedMu (Ticked_v22 m dj y2) m (Ticked_v2 dj y2).1 (handsF cn l (Ticked_v2 dj y2).2.2.1) y10) else Nat.le (Nat.succ (pLen y10.2.1.2.1)) 1000 ∧ tickedInv cn cl cp l m dn dj (Ticked_v25 cn cl cp l m dn dj y2 y10)
 ∧ Nat.le (Nat.succ (tickedMu cn cl cp l m dn dj (Ticked_v25 cn cl cp l m dn dj y2 y10))) (Ticked_v4 cn cl cp l m dn dj y2) else pRoom (pPlus (pLen y2.2.1.2.2.2.2.1) (pLen (Ticked_v21 m dj y2))) 48 ∧ pIn (Ticked_v1 dj y2) (pLen y2.2.1.2.1) ∧
 inF cn (1 : Int) (4 : Int) = Bool.true ∧ Ticked_t12 dj y2 ∧ endedInv (Ticked_v22 m dj y2) m (Ticked_v2 dj y2).1 (handsF cn l (Ticked_v2 dj y2).2.2.1) ((0 : Int), (y2.2.1.1, y2.2.1.2.1, y2.2.1.2.2.1, y2.2.1.2.2.2.1, pApp y2.2.1.2.2.2.2.1
 (Ticked_v21 m dj y2), y2.2.1.2.2.2.2.2), ()) ∧ ∀ (y9 : kden Bool.false tI × denCells kTurn × PUnit), endedInv (Ticked_v22 m dj y2) m (Ticked_v2 dj y2).1 (handsF cn l (Ticked_v2 dj y2).2.2.1) y9 → bif pLt y9.1 (pInt (Ticked_v14 cn l dj y2))
 then pIn y9.1 (Ticked_v14 cn l dj y2) ∧ pRoom (pPlus (pLen y9.2.1.2.2.1) (pLen (Ticked_v26 cn l m dj y2 y9))) 96 ∧ endedInv (Ticked_v22 m dj y2) m (Ticked_v2 dj y2).1 (handsF cn l (Ticked_v2 dj y2).2.2.1) (Ticked_v27 cn cl cp l m dn dj y2
 y9) ∧ Nat.le (Nat.succ (endedMu (Ticked_v22 m dj y2) m (Ticked_v2 dj y2).1 (handsF cn l (Ticked_v2 dj y2).2.2.1) (Ticked_v27 cn cl cp l m dn dj y2 y9))) (endedMu (Ticked_v22 m dj y2) m (Ticked_v2 dj y2).1 (handsF cn l (Ticked_v2 dj
 y2).2.2.1) y9) else Nat.le (Nat.succ (pLen y9.2.1.2.1)) 1000 ∧ tickedInv cn cl cp l m dn dj (Ticked_v28 cn cl cp l m dn dj y2 y9) ∧ Nat.le (Nat.succ (tickedMu cn cl cp l m dn dj (Ticked_v28 cn cl cp l m dn dj y2 y9))) (Ticked_v4 cn cl cp l
 m dn dj y2) else bif pEq (Ticked_v2 dj y2).2.1 (2 : Int) then pRoom (pPlus (pLen y2.2.1.2.2.2.2.1) (pLen ((m, (4 : Int), (Ticked_v2 dj y2).1, (0 : Int), (0 : Int), (14 : Int), ()) :: vnil (Int × Int × Int × Int × Int × Int × PUnit)))) 48 ∧
 pIn (Ticked_v1 dj y2) (pLen y2.2.1.2.1) ∧ inF cn (1 : Int) (4 : Int) = Bool.true ∧ Ticked_t12 dj y2 ∧ endedInv (Ticked_v30 m dj y2) m (Ticked_v2 dj y2).1 (handsF cn l (Ticked_v2 dj y2).2.2.1) ((0 : Int), (y2.2.1.1, y2.2.1.2.1, y2.2.1.2.2.1,
 y2.2.1.2.2.2.1, Ticked_v29 m dj y2, y2.2.1.2.2.2.2.2), ()) ∧ ∀ (y8 : kden Bool.false tI × denCells kTurn × PUnit), endedInv (Ticked_v30 m dj y2) m (Ticked_v2 dj y2).1 (handsF cn l (Ticked_v2 dj y2).2.2.1) y8 → bif pLt y8.1 (pInt (Ticked_v14
 cn l dj y2)) then pIn y8.1 (Ticked_v14 cn l dj y2) ∧ pRoom (pPlus (pLen y8.2.1.2.2.1) (pLen (Ticked_v31 cn l m dj y2 y8))) 96 ∧ endedInv (Ticked_v30 m dj y2) m (Ticked_v2 dj y2).1 (handsF cn l (Ticked_v2 dj y2).2.2.1) (Ticked_v32 cn cl cp l
 m dn dj y2 y8) ∧ Nat.le (Nat.succ (endedMu (Ticked_v30 m dj y2) m (Ticked_v2 dj y2).1 (handsF cn l (Ticked_v2 dj y2).2.2.1) (Ticked_v32 cn cl cp l m dn dj y2 y8))) (endedMu (Ticked_v30 m dj y2) m (Ticked_v2 dj y2).1 (handsF cn l (Ticked_v2
 dj y2).2.2.1) y8) else Nat.le (Nat.succ (pLen y8.2.1.2.1)) 1000 ∧ tickedInv cn cl cp l m dn dj (Ticked_v33 cn cl cp l m dn dj y2 y8) ∧ Nat.le (Nat.succ (tickedMu cn cl cp l m dn dj (Ticked_v33 cn cl cp l m dn dj y2 y8))) (Ticked_v4 cn cl cp
 l m dn dj y2) else pIn (Ticked_v1 dj y2) (pLen y2.2.1.2.1) ∧ inF cn (1 : Int) (4 : Int) = Bool.true ∧ Ticked_t12 dj y2 ∧ endedInv y2.2.1 m (Ticked_v2 dj y2).1 (handsF cn l (Ticked_v2 dj y2).2.2.1) ((0 : Int), y2.2) ∧ ∀ (y7 : kden Bool.false
 tI × denCells kTurn × PUnit), endedInv y2.2.1 m (Ticked_v2 dj y2).1 (handsF cn l (Ticked_v2 dj y2).2.2.1) y7 → bif pLt y7.1 (pInt (Ticked_v14 cn l dj y2)) then pIn y7.1 (Ticked_v14 cn l dj y2) ∧ pRoom (pPlus (pLen y7.2.1.2.2.1) (pLen
 (Ticked_v34 cn l m dj y2 y7))) 96 ∧ endedInv y2.2.1 m (Ticked_v2 dj y2).1 (handsF cn l (Ticked_v2 dj y2).2.2.1) (Ticked_v35 cn cl cp l m dn dj y2 y7) ∧ Nat.le (Nat.succ (endedMu y2.2.1 m (Ticked_v2 dj y2).1 (handsF cn l (Ticked_v2 dj
 y2).2.2.1) (Ticked_v35 cn cl cp l m dn dj y2 y7))) (endedMu y2.2.1 m (Ticked_v2 dj y2).1 (handsF cn l (Ticked_v2 dj y2).2.2.1) y7) else Nat.le (Nat.succ (pLen y7.2.1.2.1)) 1000 ∧ tickedInv cn cl cp l m dn dj (Ticked_v36 cn cl cp l m dn dj
 y2 y7) ∧ Nat.le (Nat.succ (tickedMu cn cl cp l m dn dj (Ticked_v36 cn cl cp l m dn dj y2 y7))) (Ticked_v4 cn cl cp l m dn dj y2) else bif pEq (Ticked_v2 dj y2).2.1 (2 : Int) then pRoom (pPlus (pLen y2.2.1.2.2.2.2.1) (pLen ((m, (4 : Int),
 (Ticked_v2 dj y2).1, (0 : Int), (0 : Int), (14 : Int), ()) :: vnil (Int × Int × Int × Int × Int × Int × PUnit)))) 48 ∧ pIn (Ticked_v1 dj y2) (pLen y2.2.1.2.1) ∧ inF cn (1 : Int) (4 : Int) = Bool.true ∧ Ticked_t12 dj y2 ∧ endedInv
 (Ticked_v30 m dj y2) m (Ticked_v2 dj y2).1 (handsF cn l (Ticked_v2 dj y2).2.2.1) ((0 : Int), (y2.2.1.1, y2.2.1.2.1, y2.2.1.2.2.1, y2.2.1.2.2.2.1, Ticked_v29 m dj y2, y2.2.1.2.2.2.2.2), ()) ∧ ∀ (y6 : kden Bool.false tI × denCells kTurn ×
 PUnit), endedInv (Ticked_v30 m dj y2) m (Ticked_v2 dj y2).1 (handsF cn l (Ticked_v2 dj y2).2.2.1) y6 → bif pLt y6.1 (pInt (Ticked_v14 cn l dj y2)) then pIn y6.1 (Ticked_v14 cn l dj y2) ∧ pRoom (pPlus (pLen y6.2.1.2.2.1) (pLen (Ticked_v37 cn
 l m dj y2 y6))) 96 ∧ endedInv (Ticked_v30 m dj y2) m (Ticked_v2 dj y2).1 (handsF cn l (Ticked_v2 dj y2).2.2.1) (Ticked_v38 cn cl cp l m dn dj y2 y6) ∧ Nat.le (Nat.succ (endedMu (Ticked_v30 m dj y2) m (Ticked_v2 dj y2).1 (handsF cn l
 (Ticked_v2 dj y2).2.2.1) (Ticked_v38 cn cl cp l m dn dj y2 y6))) (endedMu (Ticked_v30 m dj y2) m (Ticked_v2 dj y2).1 (handsF cn l (Ticked_v2 dj y2).2.2.1) y6) else Nat.le (Nat.succ (pLen y6.2.1.2.1)) 1000 ∧ tickedInv cn cl cp l m dn dj
 (Ticked_v39 cn cl cp l m dn dj y2 y6) ∧ Nat.le (Nat.succ (tickedMu cn cl cp l m dn dj (Ticked_v39 cn cl cp l m dn dj y2 y6))) (Ticked_v4 cn cl cp l m dn dj y2) else pIn (Ticked_v1 dj y2) (pLen y2.2.1.2.1) ∧ inF cn (1 : Int) (4 : Int) =
 Bool.true ∧ Ticked_t12 dj y2 ∧ endedInv y2.2.1 m (Ticked_v2 dj y2).1 (handsF cn l (Ticked_v2 dj y2).2.2.1) ((0 : Int), y2.2) ∧ ∀ (y5 : kden Bool.false tI × denCells kTurn × PUnit), endedInv y2.2.1 m (Ticked_v2 dj y2).1 (handsF cn l
 (Ticked_v2 dj y2).2.2.1) y5 → bif pLt y5.1 (pInt (Ticked_v14 cn l dj y2)) then pIn y5.1 (Ticked_v14 cn l dj y2) ∧ pRoom (pPlus (pLen y5.2.1.2.2.1) (pLen (Ticked_v40 cn l m dj y2 y5))) 96 ∧ endedInv y2.2.1 m (Ticked_v2 dj y2).1 (handsF cn l
 (Ticked_v2 dj y2).2.2.1) (Ticked_v41 cn cl cp l m dn dj y2 y5) ∧ Nat.le (Nat.succ (endedMu y2.2.1 m (Ticked_v2 dj y2).1 (handsF cn l (Ticked_v2 dj y2).2.2.1) (Ticked_v41 cn cl cp l m dn dj y2 y5))) (endedMu y2.2.1 m (Ticked_v2 dj y2).1
 (handsF cn l (Ticked_v2 dj y2).2.2.1) y5) else Nat.le (Nat.succ (pLen y5.2.1.2.1)) 1000 ∧ tickedInv cn cl cp l m dn dj (Ticked_v42 cn cl cp l m dn dj y2 y5) ∧ Nat.le (Nat.succ (tickedMu cn cl cp l m dn dj (Ticked_v42 cn cl cp l m dn dj y2
 y5))) (Ticked_v4 cn cl cp l m dn dj y2) else bif pEq (Ticked_v2 dj y2).2.1 (2 : Int) then pRoom (pPlus (pLen y2.2.1.2.2.2.2.1) (pLen ((m, (4 : Int), (Ticked_v2 dj y2).1, (0 : Int), (0 : Int), (14 : Int), ()) :: vnil (Int × Int × Int × Int ×
 Int × Int × PUnit)))) 48 ∧ pIn (Ticked_v1 dj y2) (pLen y2.2.1.2.1) ∧ inF cn (1 : Int) (4 : Int) = Bool.true ∧ Ticked_t12 dj y2 ∧ endedInv (Ticked_v30 m dj y2) m (Ticked_v2 dj y2).1 (handsF cn l (Ticked_v2 dj y2).2.2.1) ((0 : Int),
 (y2.2.1.1, y2.2.1.2.1, y2.2.1.2.2.1, y2.2.1.2.2.2.1, Ticked_v29 m dj y2, y2.2.1.2.2.2.2.2), ()) ∧ ∀ (y4 : kden Bool.false tI × denCells kTurn × PUnit), endedInv (Ticked_v30 m dj y2) m (Ticked_v2 dj y2).1 (handsF cn l (Ticked_v2 dj
 y2).2.2.1) y4 → bif pLt y4.1 (pInt (Ticked_v14 cn l dj y2)) then pIn y4.1 (Ticked_v14 cn l dj y2) ∧ pRoom (pPlus (pLen y4.2.1.2.2.1) (pLen (Ticked_v43 cn l m dj y2 y4))) 96 ∧ endedInv (Ticked_v30 m dj y2) m (Ticked_v2 dj y2).1 (handsF cn l
 (Ticked_v2 dj y2).2.2.1) (Ticked_v44 cn cl cp l m dn dj y2 y4) ∧ Nat.le (Nat.succ (endedMu (Ticked_v30 m dj y2) m (Ticked_v2 dj y2).1 (handsF cn l (Ticked_v2 dj y2).2.2.1) (Ticked_v44 cn cl cp l m dn dj y2 y4))) (endedMu (Ticked_v30 m dj
 y2) m (Ticked_v2 dj y2).1 (handsF cn l (Ticked_v2 dj y2).2.2.1) y4) else Nat.le (Nat.succ (pLen y4.2.1.2.1)) 1000 ∧ tickedInv cn cl cp l m dn dj (Ticked_v45 cn cl cp l m dn dj y2 y4) ∧ Nat.le (Nat.succ (tickedMu cn cl cp l m dn dj
 (Ticked_v45 cn cl cp l m dn dj y2 y4))) (Ticked_v4 cn cl cp l m dn dj y2) else pIn (Ticked_v1 dj y2) (pLen y2.2.1.2.1) ∧ inF cn (1 : Int) (4 : Int) = Bool.true ∧ Ticked_t12 dj y2 ∧ endedInv y2.2.1 m (Ticked_v2 dj y2).1 (handsF cn l
 (Ticked_v2 dj y2).2.2.1) ((0 : Int), y2.2) ∧ ∀ (y3 : kden Bool.false tI × denCells kTurn × PUnit), endedInv y2.2.1 m (Ticked_v2 dj y2).1 (handsF cn l (Ticked_v2 dj y2).2.2.1) y3 → bif pLt y3.1 (pInt (Ticked_v14 cn l dj y2)) then pIn y3.1
 (Ticked_v14 cn l dj y2) ∧ pRoom (pPlus (pLen y3.2.1.2.2.1) (pLen (Ticked_v46 cn l m dj y2 y3))) 96 ∧ endedInv y2.2.1 m (Ticked_v2 dj y2).1 (handsF cn l (Ticked_v2 dj y2).2.2.1) (Ticked_v47 cn cl cp l m dn dj y2 y3) ∧ Nat.le (Nat.succ
 (endedMu y2.2.1 m (Ticked_v2 dj y2).1 (handsF cn l (Ticked_v2 dj y2).2.2.1) (Ticked_v47 cn cl cp l m dn dj y2 y3))) (endedMu y2.2.1 m (Ticked_v2 dj y2).1 (handsF cn l (Ticked_v2 dj y2).2.2.1) y3) else Nat.le (Nat.succ (pLen y3.2.1.2.1))
 1000 ∧ tickedInv cn cl cp l m dn dj (Ticked_v48 cn cl cp l m dn dj y2 y3) ∧ Nat.le (Nat.succ (tickedMu cn cl cp l m dn dj (Ticked_v48 cn cl cp l m dn dj y2 y3))) (Ticked_v4 cn cl cp l m dn dj y2) else (y2.2.1, (0 : Int), ()) = Ticked_v0 cn
 cl cp l m dn dj
set_option maxRecDepth 100000 in
theorem Ticked_meets (hdeskFault : Mt 17 cdeskFault) (hDeskCopy : Mt 5 cDeskCopy) (hjobAt : Mt 18 cjobAt) (iktold : MeetsK Try.prog (fun _ => none) 19 false kktold) (ikended : MeetsK Try.prog (fun _ => none) 20 false kkended) (h : ∀ (cn : Int) (cl : (List LabD)) (cp : Int) (l : Int) (m : Int) (dn : Int) (dj : (List JobD)), (∀ p ∈ Ticked_p ⟨((cn, cl, cp, ()), l, m, (dn, dj, ()), ()), ()⟩, p) → Ticked_VC cn cl cp l m dn dj) : Mt 7 cTicked :=
  meets_vc (E := envI Try.prog (fun _ => none) [(17, (false, cdeskFault)), (5, (false, cDeskCopy)), (18, (false, cjobAt))] [(19, (false, kktold)), (20, (false, kkended))] eqsCwV [] [] false) (envI_ok (fun p hp => (by simp only [List.mem_cons, List.not_mem_nil, or_false] at hp; rcases hp with rfl | rfl | rfl; exact hdeskFault; exact hDeskCopy; exact hjobAt)) (fun p hp => (by simp only [List.mem_cons, List.not_mem_nil, or_false] at hp; rcases hp with rfl | rfl; exact iktold; exact ikended)) (by kernel_rfl)) Ticked_S (fun x => fun ky9 st9 => look [(6, (⟨[.slot 12 false tI, .box (ptI st9 11) kTurn], tickedInv x.1.1.1 x.1.1.2.1 x.1.1.2.2.1 x.1.2.1 x.1.2.2.1 x.1.2.2.2.1.1 x.1.2.2.2.1.2.1, tickedMu x.1.1.1 x.1.1.2.1 x.1.1.2.2.1 x.1.2.1 x.1.2.2.1 x.1.2.2.2.1.1 x.1.2.2.2.1.2.1⟩ : Ann))] ky9) Try.func7 (by kernel_rfl) (by kernel_rfl) Ticked_p [] [.agg 0 kTurn, .slot 1 false tI] Ticked_f (fun x => Ticked_VC x.1.1.1 x.1.1.2.1 x.1.1.2.2.1 x.1.2.1 x.1.2.2.1 x.1.2.2.2.1.1 x.1.2.2.2.1.2.1) (fun x => by kernel_rfl) (fun x hp => h x.1.1.1 x.1.1.2.1 x.1.1.2.2.1 x.1.2.1 x.1.2.2.1 x.1.2.2.2.1.1 x.1.2.2.2.1.2.1 hp)

abbrev CoordTicks_v0 (cn : Int) (cl : List LabD) (cp : Int) (l : Int) (m : Int) (dn : Int) (dj : List JobD) := tickF (cn, cl, cp, ()) l m (dn, dj, ())

def CoordTicks_VC (cn : Int) (cl : (List LabD)) (cp : Int) (l : Int) (m : Int) (dn : Int) (dj : (List JobD)) : Prop :=
  pRoom (pLen dj) 80 ∧ (∀ (q0 : Int × Int × List (Bool × Int × Int × Int × Int × Int × Bool × Bool × PUnit) × List (Int × PUnit) × Int × Int × PUnit), List.Mem q0 dj → pRoom (pLen q0.2.2.1) 56 ∧ pRoom (pLen q0.2.2.2.1) 8) ∧ Nat.le (Nat.succ
 (pLen dj)) 4611686018427387904 ∧ Nat.le (Nat.succ (pLen cl)) 4611686018427387904 ∧ Nat.le (Nat.succ (pLen dj)) 4611686018427387904 ∧ (∀ (q1 : Int × Int × List (Bool × Int × Int × Int × Int × Int × Bool × Bool × PUnit) × List (Int × PUnit) ×
 Int × Int × PUnit), List.Mem q1 dj → Nat.le (Nat.succ (pLen q1.2.2.1)) 4611686018427387904 ∧ Nat.le (Nat.succ (pLen q1.2.2.2.1)) 4611686018427387904) ∧ Nat.le (Nat.succ (pLen cl)) 4611686018427387904 ∧ Nat.le (Nat.succ (pLen dj))
 4611686018427387904 ∧ (∀ (q2 : Int × Int × List (Bool × Int × Int × Int × Int × Int × Bool × Bool × PUnit) × List (Int × PUnit) × Int × Int × PUnit), List.Mem q2 dj → Nat.le (Nat.succ (pLen q2.2.2.1)) 4611686018427387904 ∧ Nat.le (Nat.succ
 (pLen q2.2.2.2.1)) 4611686018427387904) ∧ bif pEq (begE (cn, cl, cp, ()) l m (dn, dj, ())) (begE (cn, cl, cp, ()) l m (dn, dj, ())) then Nat.le (Nat.succ (pLen (CoordTicks_v0 cn cl cp l m dn dj).2.1)) 4611686018427387904 ∧ (∀ (q3 : Int ×
 Int × List (Bool × Int × Int × Int × Int × Int × Bool × Bool × PUnit) × List (Int × PUnit) × Int × Int × PUnit), List.Mem q3 (CoordTicks_v0 cn cl cp l m dn dj).2.1 → Nat.le (Nat.succ (pLen q3.2.2.1)) 4611686018427387904 ∧ Nat.le (Nat.succ
 (pLen q3.2.2.2.1)) 4611686018427387904) ∧ Nat.le (Nat.succ (pLen (CoordTicks_v0 cn cl cp l m dn dj).2.2.1)) 4611686018427387904 ∧ Nat.le (Nat.succ (pLen (CoordTicks_v0 cn cl cp l m dn dj).2.2.2.1)) 4611686018427387904 ∧ (∀ (q4 : Int × Int ×
 Int × Int × Int × Int × Bool × List (Int × PUnit) × PUnit), List.Mem q4 (CoordTicks_v0 cn cl cp l m dn dj).2.2.2.1 → Nat.le (Nat.succ (pLen q4.2.2.2.2.2.2.2.1)) 4611686018427387904) ∧ Nat.le (Nat.succ (pLen (CoordTicks_v0 cn cl cp l m dn
 dj).2.2.2.2.1)) 4611686018427387904 ∧ bif sameTurnF (CoordTicks_v0 cn cl cp l m dn dj) (CoordTicks_v0 cn cl cp l m dn dj) then Nat.le (Nat.succ (pLen dj)) 4611686018427387904 ∧ (∀ (q5 : Int × Int × List (Bool × Int × Int × Int × Int × Int ×
 Bool × Bool × PUnit) × List (Int × PUnit) × Int × Int × PUnit), List.Mem q5 dj → Nat.le (Nat.succ (pLen q5.2.2.1)) 4611686018427387904 ∧ Nat.le (Nat.succ (pLen q5.2.2.2.1)) 4611686018427387904) ∧ (sameDeskF (dn, dj, ()) (dn, dj, ()), ()) =
 (Bool.true, ()) else (Bool.false, ()) = (Bool.true, ()) else (Bool.false, ()) = (Bool.true, ())
set_option maxRecDepth 100000 in
theorem CoordTicks_walk {H : Type} {enc : TypeId × Value → H} (hDeskCopyF : Mt 5 cDeskCopyF) (hTick : Mt 6 cTick) (hTicked : Mt 7 cTicked) (hsameTurn : Mt 8 csameTurn) (hsameDesk : Mt 9 csameDesk) (h : ∀ (x : denL [(true, wCfg), (false, wInt), (false, wInt), (true, wDesk)]), okL [(true, wCfg), (false, wInt), (false, wInt), (true, wDesk)] x → CoordTicks_VC x.1.1 x.1.2.1 x.1.2.2.1 x.2.1.1 x.2.2.1.1 x.2.2.2.1.1 x.2.2.2.1.2.1) : ∀ (W : World) (base : Nat) (args : Array Value) (ds : List (DataW H)) (p : List MemPlace), DataW.TrodAll enc Try.prog W 0 (fun _ => true) true Try.f3.params.toList args.toList ds p → (∀ (j : Nat) (t : TypeId) (v : Value), Try.f3.params[j]? = some t → args[j]? = some v → Value.okWide Try.prog W .any base t v) → (∀ x ∈ p, x.block < W.heap.size) → (DataW.weightsEach Try.prog Try.f3.params.toList ds).all (· ≤ reachBytes) = true → Calls Try.prog 3 args W fun e W1 => e = .returned (.bool true) ∧ Below W.heap.size W W1 :=
  law_walkL (E := envOf Try.prog [(5, (false, cDeskCopyF)), (6, (false, cTick)), (7, (false, cTicked)), (8, (false, csameTurn)), (9, (false, csameDesk))] eqsCwV) (envOf_ok (fun p hp => (by simp only [List.mem_cons, List.not_mem_nil, or_false] at hp; rcases hp with rfl | rfl | rfl | rfl | rfl; exact hDeskCopyF; exact hTick; exact hTicked; exact hsameTurn; exact hsameDesk)) (by kernel_rfl)) rfl Try.func3 (by kernel_rfl) [(true, wCfg), (false, wInt), (false, wInt), (true, wDesk)] (by kernel_rfl) (fun x => fun ky9 st9 => look [] ky9) (fun x => CoordTicks_VC x.1.1 x.1.2.1 x.1.2.2.1 x.2.1.1 x.2.2.1.1 x.2.2.2.1.1 x.2.2.2.1.2.1) (fun x => by kernel_rfl) h


end Go.Proofs.Ytnkcmkegjckncaa
