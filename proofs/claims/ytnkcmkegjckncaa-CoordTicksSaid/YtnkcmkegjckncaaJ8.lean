/- The law CoordTicks: for every input it returns true and turns nothing. No condition. -/
import Derived.Test.YtnkcmkegjckncaaJ7
import Derived.Test.YtnkcmkegjckncaaFrame

/- The document's tick meets its contract. No condition. -/
namespace Go.Proofs.Ytnkcmkegjckncaa
open Go.RowKit

theorem state2 {q : Int} (h : 1 ≤ q ∧ q ≤ 3) (a : pEq q 1 = false) (b : pEq q 3 = false) : pEq q 2 = true := by
  have a1 : q ≠ 1 := by simpa [pEq] using a
  have a2 : q ≠ 3 := by simpa [pEq] using b
  have : q = 2 := by omega
  rw [this]; rfl
theorem Ticked_ok : Meets Try.prog (fun _ => none) 7 cTicked := Ticked_meets deskFault_ok DeskCopy_ok jobAt_ok (kktold_ok about_ok) (kkended_ok about_ok hands_ok without_ok) fun cn cl cp l m dn dj hp => by
  have h1 : pLen cl < 4611686018427387904 := hp (pLen cl < 4611686018427387904) (by simp)
  have h2 : pLen dj < 4611686018427387904 := hp (pLen dj < 4611686018427387904) (by simp)
  have h3 : ∀ q ∈ dj, pLen q.2.2.1 < 4611686018427387904 ∧ pLen q.2.2.2.1 < 4611686018427387904 := hp (∀ q ∈ dj, pLen q.2.2.1 < 4611686018427387904 ∧ pLen q.2.2.2.1 < 4611686018427387904) (by simp)
  clear hp
  delta Ticked_VC
  refine ⟨h1, h2, h3, bif_ok (fun he => ?_) fun he => ?_⟩
  · show (noTurn, begE (cn, cl, cp, ()) l m (dn, dj, ()), ()) = (tickF (cn, cl, cp, ()) l m (dn, dj, ()), begE (cn, cl, cp, ()) l m (dn, dj, ()), ())
    rw [tickF_no (by simpa [pNe] using he)]
  have hb : begE (cn, cl, cp, ()) l m (dn, dj, ()) = 0 := by simpa [pNe] using he
  have hz : deskF (cn, cl, cp, ()) (dn, dj, ()) = 0 := by
    cases hq : pNe (deskF (cn, cl, cp, ()) (dn, dj, ())) 0 with
    | false => exact desk_zero hq
    | true =>
      rw [begE_desk hq] at hb
      exact hb
  have hrm := rooms_ok hz
  have hcs := (deskF_zero hz).1
  have hcI : inF cn 1 4 = true := inF_iff.2 hcs
  have hn6 : dj.length ≤ 6 := (deskF_zero hz).2.1
  have hpt : cp ≤ 1048576 := patience_le hz
  refine ⟨hrm.1, hrm.2, h2, StepInv.start rfl, fun y hy => ?_⟩
  rcases StepInv.round h2 hy with ⟨k, rfl, hk, hkb, hT⟩ | rfl
  rotate_left
  · rw [bif_false (by rw [pLt_coe]; exact decide_eq_false (Nat.lt_irrefl _))]
    show (turnOf dn (tickK (cn, cl, cp, ()) l m dj dj.length), 0, ()) = (tickF (cn, cl, cp, ()) l m (dn, dj, ()), begE (cn, cl, cp, ()) l m (dn, dj, ()), ())
    rw [hb]
    unfold tickF
    rw [hb]
    rfl
  rw [bif_true (by rw [pLt_coe]; exact decide_eq_true hk)]
  have hk : k < dj.length := hk
  obtain ⟨hS, hms, hrs⟩ := tick_all hz hpt l m k (Nat.le_of_lt hk)
  obtain ⟨P, R, e1, e2, e3, e4, e5, e6⟩ := tick_find hz (tick_all hz hpt l m k (Nat.le_of_lt hk)) hk
  have hjk := jobs_ok hz (pGet tyJob dj k) (by rw [pGet_lt (t := tyJob) hk]; exact List.getElem_mem hk)
  have hT' : ∀ z, z = turnOf dn (stepS (cn, cl, cp, ()) l m (tickK (cn, cl, cp, ()) l m dj k) (pGet tyJob dj k).1) → _ := fun z hz => hT (z, ()) (by rw [hz]; rfl)
  clear hT
  have hst : stepS (cn, cl, cp, ()) l m (tickK (cn, cl, cp, ()) l m dj k) (pGet tyJob dj k).1 = cond (pLt (pAdd .i64 (pGet tyJob dj k).2.2.2.2.2.1 1) cp) (P ++ ageJ (pGet tyJob dj k) (pAdd .i64 (pGet tyJob dj k).2.2.2.2.2.1 1) :: R, (tickK (cn, cl, cp, ()) l m dj k).2.1, (tickK (cn, cl, cp, ()) l m dj k).2.2)
      (cond (pEq (pGet tyJob dj k).2.1 3) (P ++ ageJ (pGet tyJob dj k) 0 :: R, (tickK (cn, cl, cp, ()) l m dj k).2.1 ++ saysM m true (pGet tyJob dj k).1 (pGet tyJob dj k).2.2.2.1, (tickK (cn, cl, cp, ()) l m dj k).2.2)
        (P ++ R, (tickK (cn, cl, cp, ()) l m dj k).2.1 ++ saysM m false (pGet tyJob dj k).1 (handsF cn l (pGet tyJob dj k).2.2.1), (tickK (cn, cl, cp, ()) l m dj k).2.2 ++ waitR m (pGet tyJob dj k))) := by
    unfold stepS lateS
    rw [e6, pNat_coe, e1, app_at, app_set, app_set, app_del]
  rw [hst] at hT'
  clear hst hS
  generalize hs0 : tickK (cn, cl, cp, ()) l m dj k = s at *
  obtain ⟨sj, sm, sr⟩ := s
  have e1 : sj = P ++ pGet tyJob dj k :: R := e1
  have e6 : idxKeyJ sj (pGet tyJob dj k).1 = (P.length : Int) := e6
  have hms : sm.length ≤ 4 * k := hms
  have hrs : sr.length ≤ k := hrs
  generalize hj0 : pGet tyJob dj k = j at *
  let Y : Int × TurnD × Unit := ((k : Int), turnOf dn (sj, sm, sr), ())
  have r1 : Ticked_v1 dj Y = (P.length : Int) := by
    show idxKeyJ sj (pGet tyJob dj (pNat (k : Int))).1 = _
    rw [pNat_coe, hj0]; exact e6
  have r2 : Ticked_v2 dj Y = j := by
    show pGet tyJob sj (pNat (Ticked_v1 dj Y)) = j
    rw [r1, pNat_coe, e1]; exact app_at
  have hlen : ∀ j' : JobD, (P ++ j' :: R).length = P.length + R.length + 1 := fun j' => by rw [List.length_append]; simp; omega
  have hR : R.length ≤ 6 := by rw [e2, List.length_drop]; show dj.length - (k + 1) ≤ 6; omega
  have hsj : sj.length = P.length + R.length + 1 := by rw [e1, hlen]
  have in1 : pIn (Ticked_v1 dj Y) (pLen sj) := by
    rw [r1]
    refine pIn_coe.2 ?_
    show P.length < sj.length
    omega
  have hsl : pLen sj < 4611686018427387904 := by
    show sj.length < _
    omega
  have hhl := handsF_len (cn := cn) (l := l) (ts := j.2.2.1) hcs
  have has : (handsF cn l (Ticked_v2 dj Y).2.2.1).length ≤ 1000 := by rw [r2]; omega
  have hmw : sm.length ≤ 1000000 := by omega
  have t12 : Ticked_t12 dj Y := by
    show (Ticked_v2 dj Y).2.2.1.length < 1000
    rw [r2]; have := hjk.2.1; omega
  refine ⟨pIn_coe.2 hk, hsl, in1, bif_ok (fun c1 => ⟨in1, ?_⟩) fun c1 => ?_⟩
  · rw [r2] at c1
    refine hT' (dn, pSet sj (pNat (Ticked_v1 dj Y)) (ageJ (Ticked_v2 dj Y) (pAdd .i64 (Ticked_v2 dj Y).2.2.2.2.2.1 1)), sm, [], sr, 0, 0, ()) ?_
    rw [c1, cond_true, r1, r2, pNat_coe, e1, app_set]; rfl
  rw [r2] at c1
  rw [c1, cond_false] at hT'
  refine bif_ok (fun c2 => ⟨in1, ?_⟩) fun c2 => ?_
  · rw [r2] at c2
    rw [c2, cond_true] at hT'
    refine told_vc (Ticked_v6 dj Y) m (Ticked_v2 dj Y).1 (Ticked_v2 dj Y).2.2.2.1 _ ?_ hmw (hT' (withMT (Ticked_v6 dj Y) (sm ++ saysM m true (Ticked_v2 dj Y).1 (Ticked_v2 dj Y).2.2.2.1)) ?_)
    · rw [r2]
      have := hjk.2.2.1
      omega
    · show (dn, pSet sj (pNat (Ticked_v1 dj Y)) (ageJ (Ticked_v2 dj Y) 0), sm ++ saysM m true (Ticked_v2 dj Y).1 (Ticked_v2 dj Y).2.2.2.1, [], sr, 0, 0, ()) = _
      rw [r1, r2, pNat_coe, e1, app_set]; rfl
  rw [r2] at c2
  rw [c2, cond_false] at hT'
  have endfin : ∀ (w : TurnD), w = (dn, sj, sm, [], sr ++ waitR m j, 0, 0, ()) →
      let w1 : TurnD := withMT w (w.2.2.1 ++ saysM m false (Ticked_v2 dj Y).1 (handsF cn l (Ticked_v2 dj Y).2.2.1))
      Nat.le (Nat.succ (pLen w1.2.1)) 1000 ∧ tickedInv cn cl cp l m dn dj (pAdd .i64 (k : Int) 1, (w1.1, withoutF w1.2.1 (Ticked_v1 dj Y), w1.2.2), ()) ∧
        Nat.le (Nat.succ (tickedMu cn cl cp l m dn dj (pAdd .i64 (k : Int) 1, (w1.1, withoutF w1.2.1 (Ticked_v1 dj Y), w1.2.2), ()))) (tickedMu cn cl cp l m dn dj Y) := by
    intro w hw
    subst hw
    refine ⟨?_, hT' _ ?_⟩
    · show sj.length < 1000
      omega
    · show (dn, withoutF sj (Ticked_v1 dj Y), sm ++ saysM m false (Ticked_v2 dj Y).1 (handsF cn l (Ticked_v2 dj Y).2.2.1), [], sr ++ waitR m j, 0, 0, ()) = _
      rw [r1, r2, withoutF_del (by omega), e1, app_del]; rfl
  have two : pEq j.2.1 1 = true → pEq j.2.1 2 = false := fun h => by
    have : j.2.1 = 1 := by simpa [pEq] using h
    rw [this]; rfl
  have tw2 : pEq j.2.1 1 = false → pEq j.2.1 2 = true := fun h => state2 hjk.1 h c2
  refine bif_ok (fun c3 => ?_) fun c3 => ?_
  rotate_left
  · rw [r2] at c3
    refine bif_ok (fun c7 => ⟨app_room (show (sr.length + 1) * 48 ≤ 140737488351232 by omega), in1, hcI, t12, ?_⟩) fun c7 => ?_
    · rw [r2] at c7
      have hw : waitR m j = [(m, 4, j.1, 0, 0, 14, ())] := by unfold waitR; rw [c7, cond_true]
      refine ended_vc (Ticked_v30 m dj Y) m (Ticked_v2 dj Y).1 (handsF cn l (Ticked_v2 dj Y).2.2.1) _ has hmw ?_
      refine endfin (Ticked_v30 m dj Y) ?_
      show (dn, sj, sm, [], sr ++ [(m, 4, (Ticked_v2 dj Y).1, 0, 0, 14, ())], 0, 0, ()) = _
      rw [hw, r2]
    · rw [r2] at c7
      rw [tw2 c3] at c7; cases c7
  rw [r2] at c3
  have c3b := two c3
  have no7 : ∀ {X : Prop}, pEq (Ticked_v2 dj Y).2.1 2 = true → X := fun h => by rw [r2, c3b] at h; cases h
  refine bif_ok (fun c4 => ?_) fun c4 => bif_ok (fun c7 => no7 c7) fun c7 => ⟨in1, hcI, t12, ?_⟩
  rotate_left
  · rw [r2] at c4
    have hpos : j.2.2.1.length = 0 := by
      have : ¬ ((j.2.2.1.length : Int) > 0) := of_decide_eq_false c4
      omega
    have ho : openT j.2.2.1 = false := by unfold openT; rw [hpos]; rfl
    refine ended_vc (turnOf dn (sj, sm, sr)) m (Ticked_v2 dj Y).1 (handsF cn l (Ticked_v2 dj Y).2.2.1) _ has hmw ?_
    refine endfin (turnOf dn (sj, sm, sr)) ?_
    show (dn, sj, sm, [], sr, 0, 0, ()) = _
    have hw : waitR m j = [] := by unfold waitR; rw [c3b, cond_false, ho, cond_false]
    rw [hw, List.append_nil]
  rw [r2] at c4
  have hpos : 0 < j.2.2.1.length := by
    have : (j.2.2.1.length : Int) > 0 := of_decide_eq_true c4
    omega
  have q29 : pSubI .i64 (pInt (pLen (Ticked_v2 dj Y).2.2.1)) 1 = ((j.2.2.1.length - 1 : Nat) : Int) := by
    rw [r2]
    have := hjk.2.1
    have e : pSubI .i64 ((j.2.2.1.length : Nat) : Int) 1 = (j.2.2.1.length : Int) - 1 := pSubI_in (show -9223372036854775808 ≤ (j.2.2.1.length : Int) - 1 ∧ (j.2.2.1.length : Int) - 1 ≤ 9223372036854775807 by omega)
    refine e.trans ?_
    omega
  have q10 : Ticked_v10 dj Y = pGet tyTask j.2.2.1 (j.2.2.1.length - 1) := by
    show pGet tyTask (Ticked_v2 dj Y).2.2.1 (pNat (pSubI .i64 (pInt (pLen (Ticked_v2 dj Y).2.2.1)) 1)) = _
    rw [q29, pNat_coe, r2]
  have in29 : pIn (pSubI .i64 (pInt (pLen (Ticked_v2 dj Y).2.2.1)) 1) (pLen (Ticked_v2 dj Y).2.2.1) := by
    rw [q29, r2]
    refine pIn_coe.2 ?_
    show j.2.2.1.length - 1 < j.2.2.1.length
    omega
  refine ⟨in29, bif_ok (fun c5 => ⟨in29, bif_ok (fun c6 => ⟨in29, bif_ok (fun c7 => no7 c7) fun _ => ⟨app_room (show (sr.length + 1) * 48 ≤ 140737488351232 by omega), in1, hcI, t12, ?_⟩⟩) fun c6 => ⟨in29, bif_ok (fun c7 => no7 c7) fun _ => ⟨app_room (show (sr.length + 1) * 48 ≤ 140737488351232 by omega), in1, hcI, t12, ?_⟩⟩⟩) fun c5 => bif_ok (fun c7 => no7 c7) fun _ => ⟨in1, hcI, t12, ?_⟩⟩
  · rw [q10] at c5 c6
    have ho : openT j.2.2.1 = true := by unfold openT; rw [show pGt (pInt j.2.2.1.length) 0 = true from c4, Bool.true_and]; exact c5
    refine ended_vc (Ticked_v13 m dj Y) m (Ticked_v2 dj Y).1 (handsF cn l (Ticked_v2 dj Y).2.2.1) _ has hmw ?_
    refine endfin (Ticked_v13 m dj Y) ?_
    show (dn, sj, sm, [], sr ++ [(m, 3, (Ticked_v2 dj Y).1, (Ticked_v10 dj Y).2.2.1, 0, 14, ())], 0, 0, ()) = _
    have hw : waitR m j = [(m, 3, j.1, (pGet tyTask j.2.2.1 (j.2.2.1.length - 1)).2.2.1, 0, 14, ())] := by unfold waitR; rw [c3b, cond_false, ho, cond_true, c6, cond_true]
    rw [hw, q10, r2]
  · rw [q10] at c5 c6
    have ho : openT j.2.2.1 = true := by unfold openT; rw [show pGt (pInt j.2.2.1.length) 0 = true from c4, Bool.true_and]; exact c5
    refine ended_vc (Ticked_v22 m dj Y) m (Ticked_v2 dj Y).1 (handsF cn l (Ticked_v2 dj Y).2.2.1) _ has hmw ?_
    refine endfin (Ticked_v22 m dj Y) ?_
    show (dn, sj, sm, [], sr ++ [(m, 2, (Ticked_v2 dj Y).1, (Ticked_v10 dj Y).2.2.1, 0, 14, ())], 0, 0, ()) = _
    have hw : waitR m j = [(m, 2, j.1, (pGet tyTask j.2.2.1 (j.2.2.1.length - 1)).2.2.1, 0, 14, ())] := by unfold waitR; rw [c3b, cond_false, ho, cond_true, c6, cond_false]
    rw [hw, q10, r2]
  · rw [q10] at c5
    have ho : openT j.2.2.1 = false := by unfold openT; rw [show pGt (pInt j.2.2.1.length) 0 = true from c4, Bool.true_and]; exact c5
    refine ended_vc (turnOf dn (sj, sm, sr)) m (Ticked_v2 dj Y).1 (handsF cn l (Ticked_v2 dj Y).2.2.1) _ has hmw ?_
    refine endfin (turnOf dn (sj, sm, sr)) ?_
    show (dn, sj, sm, [], sr, 0, 0, ()) = _
    have hw : waitR m j = [] := by unfold waitR; rw [c3b, cond_false, ho, cond_false]
    rw [hw, List.append_nil]


end Go.Proofs.Ytnkcmkegjckncaa

/- What is the same as itself; how much a tick holds. No condition. -/
namespace Go.Proofs.Ytnkcmkegjckncaa
open Go.RowKit

theorem sameInts_refl (l : List ND) : sameIntsF l l = true := by
  unfold sameIntsF
  rw [Bool.and_eq_true]
  exact ⟨by simp, allUpto_true fun j _ => by unfold eqNAt; simp [pEq]⟩
theorem sameTasks_refl (l : List TaskD) : sameTasksF l l = true := by
  unfold sameTasksF
  rw [Bool.and_eq_true]
  exact ⟨by simp, allUpto_true fun j _ => by unfold eqTaskAt eqTask; simp [pEq, pBeq, pAndB]⟩
theorem sameJob_refl (j : JobD) : sameJobF j j = true := by
  unfold sameJobF
  rw [sameTasks_refl, sameInts_refl]
  simp [pNe, pNot]
theorem sameDesk_refl (d : DeskD) : sameDeskF d d = true := by
  unfold sameDeskF
  rw [Bool.and_eq_true, Bool.and_eq_true]
  exact ⟨by simp [pEq], by simp, allUpto_true fun j _ => sameJob_refl _⟩
theorem sameMsgs_refl (l : List MsgD) : sameMsgsF l l = true := by
  unfold sameMsgsF
  rw [Bool.and_eq_true]
  exact ⟨by simp, allUpto_true fun j _ => by unfold eqMsgAt eqMsg; simp [pEq, pBeq, pAndB]⟩
theorem sameRec_refl (r : RecD) : sameRecF r r = true := by
  unfold sameRecF
  rw [sameInts_refl]
  simp [pEq, pBeq]
theorem sameRecs_refl (l : List RecD) : sameRecsF l l = true := by
  unfold sameRecsF
  rw [Bool.and_eq_true]
  exact ⟨by simp, allUpto_true fun j _ => sameRec_refl _⟩
theorem sameReps_refl (l : List RepD) : sameRepsF l l = true := by
  unfold sameRepsF
  rw [Bool.and_eq_true]
  exact ⟨by simp, allUpto_true fun j _ => by unfold eqRepAt eqRep; simp [pEq, pAndB]⟩
theorem sameTurn_refl (t : TurnD) : sameTurnF t t = true := by
  unfold sameTurnF
  rw [sameDesk_refl, sameMsgs_refl, sameRecs_refl, sameReps_refl]
  simp [pEq]

/-- a turn that is small -/
def TurnSmall (t : TurnD) : Prop := t.2.1.length < 4611686018427387904 ∧ (∀ q ∈ t.2.1, pLen q.2.2.1 < 4611686018427387904 ∧ pLen q.2.2.2.1 < 4611686018427387904) ∧ t.2.2.1.length < 4611686018427387904 ∧ t.2.2.2.1.length < 4611686018427387904 ∧
  (∀ q ∈ t.2.2.2.1, pLen q.2.2.2.2.2.2.2.1 < 4611686018427387904) ∧ t.2.2.2.2.1.length < 4611686018427387904
theorem noTurn_small : TurnSmall noTurn := ⟨by decide, (fun _ h => by cases h), by decide, by decide, (fun _ h => by cases h), by decide⟩
theorem tickF_small (c : CfgD) (l m : Int) (d : DeskD) : TurnSmall (tickF c l m d) := by
  by_cases hb : begE c l m d = 0
  · have hz : deskF c d = 0 := by
      cases hq : pNe (deskF c d) 0 with
      | false => exact desk_zero hq
      | true => rw [begE_desk hq] at hb; exact hb
    have e : tickF c l m d = turnOf d.1 (tickK c l m d.2.1 d.2.1.length) := by unfold tickF; rw [hb]; rfl
    rw [e]
    obtain ⟨⟨P, h1, h2, h3, _⟩, h4, h5⟩ := tick_all hz (patience_le hz) l m d.2.1.length (Nat.le_refl _)
    have h6 := (deskF_zero hz).2.1
    have h1' : (tickK c l m d.2.1 d.2.1.length).1 = P := by rw [h1, List.drop_length, List.append_nil]
    refine ⟨?_, fun q hq => ?_, ?_, by show (0 : Nat) < _; decide, (fun _ h => by cases h), ?_⟩
    · show (tickK c l m d.2.1 d.2.1.length).1.length < _
      rw [h1']; omega
    · have hq : q ∈ (tickK c l m d.2.1 d.2.1.length).1 := hq
      rw [h1'] at hq
      have := h3 q hq
      have a := this.2.1
      have b := this.2.2.1
      exact ⟨show q.2.2.1.length < _ by omega, show q.2.2.2.1.length < _ by omega⟩
    · show (tickK c l m d.2.1 d.2.1.length).2.1.length < _
      omega
    · show (tickK c l m d.2.1 d.2.1.length).2.2.length < _
      omega
  · rw [tickF_no hb]; exact noTurn_small
theorem DeskCopyF_ok : Meets Try.prog (fun _ => none) 5 cDeskCopyF := meets_frz DeskCopy_ok rfl fun _ => rfl
theorem coordTicks_vc (cn : Int) (cl : List LabD) (cp l m dn : Int) (dj : List JobD) (k1 : pLen cl < 4611686018427387904) (k2 : pRoom (pLen dj) 80) (k3 : ∀ q ∈ dj, pRoom (pLen q.2.2.1) 56 ∧ pRoom (pLen q.2.2.2.1) 8) : CoordTicks_VC cn cl cp l m dn dj := by
  have a2 : pLen dj < 4611686018427387904 := lt62 k2 (by decide)
  have a3 : ∀ q ∈ dj, pLen q.2.2.1 < 4611686018427387904 ∧ pLen q.2.2.2.1 < 4611686018427387904 := fun q hq => ⟨lt62 (k3 q hq).1 (by decide), lt62 (k3 q hq).2 (by decide)⟩
  obtain ⟨s1, s2, s3, s4, s5, s6⟩ := tickF_small (cn, cl, cp, ()) l m (dn, dj, ())
  delta CoordTicks_VC
  refine ⟨k2, k3, a2, k1, a2, a3, k1, a2, a3, ?_⟩
  rw [bif_true (show pEq _ _ = true by simp [pEq])]
  refine ⟨s1, s2, s3, s4, s5, s6, ?_⟩
  rw [bif_true (sameTurn_refl _)]
  exact ⟨a2, a3, congrArg (·, ()) (sameDesk_refl _)⟩


end Go.Proofs.Ytnkcmkegjckncaa

/- The law CoordTicks: for every input it returns true and turns nothing. No condition. -/
namespace Go.Proofs.Ytnkcmkegjckncaa
open Go.RowKit Go.ChangeShapes Go.WideShapes Go.Deep

theorem coordTicks_lifted (os : Os) (started : os.Started) (H : Type) (enc : TypeId × Value → H) :
    ReturnsInHanded {} Try.checked os 3 .any (Rows.coordTicksSpec.pre6 enc Try.prog Try.f3 Rows.coordTicksRow.domain false) (Rows.coordTicksSpec.post enc Try.prog Try.f3 false true false false) := by
  refine lift_law started _ _ Rows.coordTicksSpec Try.func3 (by kernel_rfl) rfl rfl (by kernel_rfl) ?_
    (ChangeSpec.witness6 (enc := enc) (C := Try.checked) false ⟨#[], #[.agg #[.int .i64 0, .slice none 0 0, .int .i64 0], .int .i64 0, .int .i64 0, .agg #[.int .i64 0, .slice none 0 0]], []⟩ 8 (by kernel_rfl) (by kernel_rfl) (by kernel_rfl) (by kernel_rfl)) ?_
  · intro ds hds
    match ds, hds with
    | [_, _, _, _], _ => rfl
  · refine CoordTicks_walk DeskCopyF_ok Tick_ok Ticked_ok sameTurn_ok sameDesk_ok fun x h => ?_
    have c1 : x.1.2.1.length * 16 ≤ 140737488351232 := h.1.2.1.1
    have c2 : x.2.2.2.1.2.1.length * 80 ≤ 140737488351232 := h.2.2.2.1.2.1.1
    have k1 : x.1.2.1.length < 4611686018427387904 := lt62 c1 (by decide)
    exact coordTicks_vc _ _ _ _ _ _ _ k1 c2 fun q hq => ⟨(h.2.2.2.1.2.1.2 q hq).2.2.1.1, (h.2.2.2.1.2.1.2 q hq).2.2.2.1.1⟩

/-- CoordTicks: the statement. -/
theorem coordTicks_holds : Rows.CoordTicksSaid :=
  OpenClaim.holds_of_wide 3 Try.f3 rfl rfl rfl rfl rfl rfl rfl ⟨rfl, rfl, rfl, rfl, rfl⟩ rfl rfl rfl rfl rfl (by kernel_rfl) Try.func3 (by kernel_rfl)
    (of_decide_eq_true (by kernel_rfl)) (by unfold Func.isWrapper; rw [if_neg (of_decide_eq_false (by kernel_rfl))]; exact ⟨rfl, rfl⟩)
    (fun os started H enc _ => coordTicks_lifted os started H enc)


end Go.Proofs.Ytnkcmkegjckncaa
