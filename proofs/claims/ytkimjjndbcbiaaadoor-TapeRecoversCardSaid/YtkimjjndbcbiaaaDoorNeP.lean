/- Messages: the checks meet their contracts. No condition. -/
import Derived.Test.YtkimjjndbcbiaaaDoorNeD
import Derived.Test.YtkimjjndbcbiaaaDoorNbV
namespace Go.Proofs.YtkimjjndbcbiaaaDoor
open Go.RowKit

theorem wtxn_ok : Meets Tryd.prog (fun _ => none) 69 cwtxn := wtxn_meets fun cn cl cp ts tn => by
  unfold wtxn_VC
  (repeat' (first | refine bif_ok (fun h => ?_) (fun h => ?_) | refine And.intro ?_ ?_ | fail))
  all_goals (refine leafE ?_; simp only [txnF]; grind [pLt, pLe, pGt, pGe, pEq, pNe, pNot, pAndB, pBeq, pInt, pLen, inF, pIn, pTo, pNat])
theorem wkey_ok : Meets Tryd.prog (fun _ => none) 70 cwkey := wkey_meets fun a => by
  unfold wkey_VC
  (repeat' (first | refine bif_ok (fun h => ?_) (fun h => ?_) | refine And.intro ?_ ?_ | fail))
  all_goals (refine leafE ?_; grind [pLt, pLe, pGt, pGe, pEq, pNe, pNot, pAndB, pBeq, pInt, pLen, inF, pIn, pTo, pNat])
theorem wvalue_ok : Meets Tryd.prog (fun _ => none) 71 cwvalue := wvalue_meets fun a => by
  unfold wvalue_VC
  (repeat' (first | refine bif_ok (fun h => ?_) (fun h => ?_) | refine And.intro ?_ ?_ | fail))
  all_goals (refine leafE ?_; grind [pLt, pLe, pGt, pGe, pEq, pNe, pNot, pAndB, pBeq, pInt, pLen, inF, pIn, pTo, pNat])
theorem wask_ok : Meets Tryd.prog (fun _ => none) 72 cwask := wask_meets fun a => by
  unfold wask_VC
  (repeat' (first | refine bif_ok (fun h => ?_) (fun h => ?_) | refine And.intro ?_ ?_ | fail))
  all_goals (refine leafE ?_; grind [pLt, pLe, pGt, pGe, pEq, pNe, pNot, pAndB, pBeq, pInt, pLen, inF, pIn, pTo, pNat])
theorem wcode_ok : Meets Tryd.prog (fun _ => none) 73 cwcode := wcode_meets fun a => by
  unfold wcode_VC
  (repeat' (first | refine bif_ok (fun h => ?_) (fun h => ?_) | refine And.intro ?_ ?_ | fail))
  all_goals (refine leafE ?_; simp only [codeF]; grind [pLt, pLe, pGt, pGe, pEq, pNe, pNot, pAndB, pBeq, pInt, pLen, inF, pIn, pTo, pNat])
theorem txnMay_ok : Meets Tryd.prog (fun _ => none) 74 ctxnMay := txnMay_meets In_ok fun cn cl cp ts tn hp => by
  have h4 : inF cn 1 4 = true := hp _ List.mem_cons_self
  have h5 := inF_iff.1 h4
  unfold txnMay_VC
  rw [pSubI_in (a := cn) (b := 1) (by omega)]
  (repeat' (first | refine bif_ok (fun h => ?_) (fun h => ?_) | refine And.intro ?_ ?_ | fail))
  all_goals (refine leafE ?_; simp only [txnF]; grind [pLt, pLe, pGt, pGe, pEq, pNe, pNot, pAndB, pBeq, pInt, pLen, inF, pIn, pTo, pNat])

theorem cfgF_sites4 {c : CfgD} (h : pNe (cfgF c) 0 = false) : inF c.1 1 4 = true := by
  cases hq : inF c.1 1 4
  · rw [cfgF_sites hq] at h; cases h
  · rfl

theorem msgF_eq (cn : Int) (cl : List LabD) (cp mk mf mt ms mn ml my mv me ma : Int) (md : Bool) (mc : Int) (r1 r2 r3 r4 r5 r6 r7 r8 : Bool) (hr : pGet tyParts messagesT (pNat mk) = (r1, r2, r3, r4, r5, r6, r7, r8, ())) :
    msgF (cn, cl, cp, ()) (mk, mf, mt, ms, mn, ml, my, mv, me, ma, md, mc, ()) = cond (pEq (cfgF (cn, cl, cp, ())) 0) (cond (inF mk 1 9)
      (cond (pLe 0 mf && pLt mf cn && pLe 0 mt && pLt mt cn && txnF (cn, cl, cp, ()) ms mn && placeF (cn, cl, cp, ()) ml && inF my 0 7 && inF mv 0 1073741824 && inF me 0 1048576 && inF ma 0 1048576 && codeF mc)
        (cond ((r1 || pEq ml 0) && (r2 || pEq my 0) && (r3 || pEq mv 0) && (r4 || pEq me 0) && (r5 || pEq ma 0) && (r6 || !md) && (r7 || pEq mc 0) && (pEq mc 0 || (pEq mv 0 && pEq me 0))) 0 4) 2) 3) (cfgF (cn, cl, cp, ())) := by
  unfold msgF msgForm
  simp only [hr]
  rfl

theorem bif_dup {r b : Bool} {X T : Prop} (h1 : r = false → b = true → X) (h2 : (r || !b) = true → T) : bif pNot r then (bif b then X else T) else T := by
  cases r <;> cases b <;> simp_all [pNot]

set_option maxHeartbeats 4000000 in
theorem CheckMessage_ok : Meets Tryd.prog tabsM 38 cCheckMessage := CheckMessage_meets lCheck_ok.any wtxn_ok.any wkey_ok.any wvalue_ok.any wask_ok.any wcode_ok.any fun cn cl cp mk mf mt ms mn ml my mv me ma md mc hp => by
  have hl : cl.length < 4611686018427387904 := hp _ List.mem_cons_self
  clear hp
  unfold CheckMessage_VC
  have hP : placeF (cn, cl, cp, ()) ml = (pLe 0 ml && pLt ml (pInt cl.length)) := rfl
  have hlen : messagesT.length = 10 := rfl
  generalize hr : pGet tyParts messagesT (pNat mk) = r
  obtain ⟨r1, r2, r3, r4, r5, r6, r7, r8, u⟩ := r
  have hM := msgF_eq cn cl cp mk mf mt ms mn ml my mv me ma md mc r1 r2 r3 r4 r5 r6 r7 r8 hr
  have hadd : inF mv 0 1073741824 = true → pLt me 0 = false → pGt me 1048576 = false → pAdd .i64 mv me = mv + me := fun h1 h2 h3 => pAdd_in (by
    rw [inF_iff] at h1; simp only [pLt, pGt, decide_eq_false_iff_not] at h2 h3; omega)
  dsimp only
  clear hr
  refine ⟨hl, ?_⟩
  (repeat' (first | refine bif_dup (fun h1 h2 => ?_) (fun h => ?_) | refine bif_ok (fun h => ?_) (fun h => ?_) | with_reducible refine And.intro ?_ ?_ | fail))
  all_goals first
    | (unfold pIn; simp only [pLt, pGt, decide_eq_false_iff_not] at *; omega)
    | (refine leafE ?_; rw [hM]; grind [pLt, pLe, pGt, pGe, pEq, pNe, pNot, pAndB, pBeq, pInt, pLen, inF, pIn, pTo, pNat])
    | skip


theorem row1 : pGet tyParts messagesT (pNat 1) = (true, true, false, false, true, false, false, false, ()) := rfl
theorem row2 : pGet tyParts messagesT (pNat 2) = (false, true, true, false, true, false, false, false, ()) := rfl
theorem row3 : pGet tyParts messagesT (pNat 3) = (true, true, false, true, false, false, false, false, ()) := rfl
theorem row4 : pGet tyParts messagesT (pNat 4) = (false, false, false, false, false, true, false, false, ()) := rfl
theorem row5 : pGet tyParts messagesT (pNat 5) = (true, true, true, true, true, false, true, false, ()) := rfl
theorem row6 : pGet tyParts messagesT (pNat 6) = (false, true, false, false, true, false, true, false, ()) := rfl
theorem row7 : pGet tyParts messagesT (pNat 7) = (true, true, false, true, false, true, false, false, ()) := rfl
theorem row8 : pGet tyParts messagesT (pNat 8) = (false, false, false, false, false, false, false, false, ()) := rfl
theorem row9 : pGet tyParts messagesT (pNat 9) = (false, false, false, false, false, false, false, false, ()) := rfl
set_option maxHeartbeats 4000000 in
theorem MessageFault_ok : Meets Tryd.prog (fun _ => none) 40 cMessageFault := MessageFault_meets cFault_ok In_ok txnMay_ok labelMay_ok fun cn cl cp mk mf mt ms mn ml my mv me ma md mc hp => by
  have hl : cl.length < 4611686018427387904 := hp _ List.mem_cons_self
  clear hp
  unfold MessageFault_VC
  refine ⟨hl, bif_ok (fun h => ?_) fun hc => ?_⟩
  · refine leafE ?_; unfold msgF; grind [pLt, pLe, pGt, pGe, pEq, pNe, pNot, pAndB, pBeq, pInt, pLen, inF, pIn, pTo, pNat]
  have h4 := cfgF_sites4 hc
  have hc4 := inF_iff.1 h4
  have hc0 : pEq (cfgF (cn, cl, cp, ())) 0 = true := by simpa [pNe, pEq] using hc
  rw [pSubI_in (a := cn) (b := 1) (by simp only at hc4; omega)]
  refine bif_ok (fun h => ?_) fun hk => ?_
  · refine leafE ?_; unfold msgF; grind [pLt, pLe, pGt, pGe, pEq, pNe, pNot, pAndB, pBeq, pInt, pLen, inF, pIn, pTo, pNat]
  have hk9 : mk = 1 ∨ mk = 2 ∨ mk = 3 ∨ mk = 4 ∨ mk = 5 ∨ mk = 6 ∨ mk = 7 ∨ mk = 8 ∨ mk = 9 := by
    have : inF mk 1 9 = true := by cases hq : inF mk 1 9 with
      | true => rfl
      | false => rw [hq] at hk; cases hk
    rw [inF_iff] at this; omega
  rcases hk9 with rfl | rfl | rfl | rfl | rfl | rfl | rfl | rfl | rfl
  · have hM := msgF_eq cn cl cp 1 mf mt ms mn ml my mv me ma md mc _ _ _ _ _ _ _ _ row1
    rw [hc0, cond_true] at hM
    simp only [codeF, Bool.true_or, Bool.false_or, Bool.true_and, Bool.and_true] at hM
    (repeat' (first | refine bif_ok (fun h => ?_) (fun h => ?_) | refine And.intro ?_ ?_ | fail))
    all_goals first
      | exact hl
      | exact h4
      | (refine leafE ?_; rw [hM]; clear hM; grind [pLt, pLe, pGt, pGe, pEq, pNe, pNot, pAndB, pBeq, pInt, pLen, inF, pIn, pTo, pNat])
      | skip
  · have hM := msgF_eq cn cl cp 2 mf mt ms mn ml my mv me ma md mc _ _ _ _ _ _ _ _ row2
    rw [hc0, cond_true] at hM
    simp only [codeF, Bool.true_or, Bool.false_or, Bool.true_and, Bool.and_true] at hM
    (repeat' (first | refine bif_ok (fun h => ?_) (fun h => ?_) | refine And.intro ?_ ?_ | fail))
    all_goals first
      | exact hl
      | exact h4
      | (refine leafE ?_; rw [hM]; clear hM; grind [pLt, pLe, pGt, pGe, pEq, pNe, pNot, pAndB, pBeq, pInt, pLen, inF, pIn, pTo, pNat])
      | skip
  · have hM := msgF_eq cn cl cp 3 mf mt ms mn ml my mv me ma md mc _ _ _ _ _ _ _ _ row3
    rw [hc0, cond_true] at hM
    simp only [codeF, Bool.true_or, Bool.false_or, Bool.true_and, Bool.and_true] at hM
    (repeat' (first | refine bif_ok (fun h => ?_) (fun h => ?_) | refine And.intro ?_ ?_ | fail))
    all_goals first
      | exact hl
      | exact h4
      | (refine leafE ?_; rw [hM]; clear hM; grind [pLt, pLe, pGt, pGe, pEq, pNe, pNot, pAndB, pBeq, pInt, pLen, inF, pIn, pTo, pNat])
      | skip
  · have hM := msgF_eq cn cl cp 4 mf mt ms mn ml my mv me ma md mc _ _ _ _ _ _ _ _ row4
    rw [hc0, cond_true] at hM
    simp only [codeF, Bool.true_or, Bool.false_or, Bool.true_and, Bool.and_true] at hM
    (repeat' (first | refine bif_ok (fun h => ?_) (fun h => ?_) | refine And.intro ?_ ?_ | fail))
    all_goals first
      | exact hl
      | exact h4
      | (refine leafE ?_; rw [hM]; clear hM; grind [pLt, pLe, pGt, pGe, pEq, pNe, pNot, pAndB, pBeq, pInt, pLen, inF, pIn, pTo, pNat])
      | skip
  · have hM := msgF_eq cn cl cp 5 mf mt ms mn ml my mv me ma md mc _ _ _ _ _ _ _ _ row5
    rw [hc0, cond_true] at hM
    simp only [codeF, Bool.true_or, Bool.false_or, Bool.true_and, Bool.and_true] at hM
    (repeat' (first | refine bif_ok (fun h => ?_) (fun h => ?_) | refine And.intro ?_ ?_ | fail))
    all_goals first
      | exact hl
      | exact h4
      | (refine leafE ?_; rw [hM]; clear hM; grind [pLt, pLe, pGt, pGe, pEq, pNe, pNot, pAndB, pBeq, pInt, pLen, inF, pIn, pTo, pNat])
      | skip
  · have hM := msgF_eq cn cl cp 6 mf mt ms mn ml my mv me ma md mc _ _ _ _ _ _ _ _ row6
    rw [hc0, cond_true] at hM
    simp only [codeF, Bool.true_or, Bool.false_or, Bool.true_and, Bool.and_true] at hM
    (repeat' (first | refine bif_ok (fun h => ?_) (fun h => ?_) | refine And.intro ?_ ?_ | fail))
    all_goals first
      | exact hl
      | exact h4
      | (refine leafE ?_; rw [hM]; clear hM; grind [pLt, pLe, pGt, pGe, pEq, pNe, pNot, pAndB, pBeq, pInt, pLen, inF, pIn, pTo, pNat])
      | skip
  · have hM := msgF_eq cn cl cp 7 mf mt ms mn ml my mv me ma md mc _ _ _ _ _ _ _ _ row7
    rw [hc0, cond_true] at hM
    simp only [codeF, Bool.true_or, Bool.false_or, Bool.true_and, Bool.and_true] at hM
    (repeat' (first | refine bif_ok (fun h => ?_) (fun h => ?_) | refine And.intro ?_ ?_ | fail))
    all_goals first
      | exact hl
      | exact h4
      | (refine leafE ?_; rw [hM]; clear hM; grind [pLt, pLe, pGt, pGe, pEq, pNe, pNot, pAndB, pBeq, pInt, pLen, inF, pIn, pTo, pNat])
      | skip
  · have hM := msgF_eq cn cl cp 8 mf mt ms mn ml my mv me ma md mc _ _ _ _ _ _ _ _ row8
    rw [hc0, cond_true] at hM
    simp only [codeF, Bool.true_or, Bool.false_or, Bool.true_and, Bool.and_true] at hM
    (repeat' (first | refine bif_ok (fun h => ?_) (fun h => ?_) | refine And.intro ?_ ?_ | fail))
    all_goals first
      | exact hl
      | exact h4
      | (refine leafE ?_; rw [hM]; clear hM; grind [pLt, pLe, pGt, pGe, pEq, pNe, pNot, pAndB, pBeq, pInt, pLen, inF, pIn, pTo, pNat])
      | skip
  · have hM := msgF_eq cn cl cp 9 mf mt ms mn ml my mv me ma md mc _ _ _ _ _ _ _ _ row9
    rw [hc0, cond_true] at hM
    simp only [codeF, Bool.true_or, Bool.false_or, Bool.true_and, Bool.and_true] at hM
    (repeat' (first | refine bif_ok (fun h => ?_) (fun h => ?_) | refine And.intro ?_ ?_ | fail))
    all_goals first
      | exact hl
      | exact h4
      | (refine leafE ?_; rw [hM]; clear hM; grind [pLt, pLe, pGt, pGe, pEq, pNe, pNot, pAndB, pBeq, pInt, pLen, inF, pIn, pTo, pNat])
      | skip

end Go.Proofs.YtkimjjndbcbiaaaDoor
