/- Messages taken: the functions meet their contracts, and what the law says. No condition. -/
import Derived.Test.YtgocemdodabgkaaDoorJ2
import Derived.Test.YtgocemdodabgkaaDoorJ1
import Derived.Deep.LoopGhost
import Derived.Shelf.RegionOpenPlain
import Derived.Shelf.Spec.SlicesInsertGrow

/- The configuration's checks meet their contracts. No condition. -/
namespace Go.Proofs.YtgocemdodabgkaaDoor
open Go.RowKit

theorem In_ok : Meets Tryd.prog (fun _ => none) 26 cIn := In_meets fun a b c => by
  unfold In_VC
  simp only [pGe, pLe, Bool.cond_eq_ite, decide_eq_true_eq, Prod.mk.injEq, eq_self, and_true, inF]
  repeat' split
  all_goals (rw [Bool.eq_iff_iff]; simp only [Bool.and_eq_true, decide_eq_true_eq, Bool.false_eq_true]; constructor <;> intro h <;> first | omega | exact h.elim)
theorem one_ok : Meets Tryd.prog (fun _ => none) 56 cone := one_meets fun a b => by
  unfold one_VC
  simp only [pGe, pLe, Bool.cond_eq_ite, decide_eq_true_eq, Prod.mk.injEq, eq_self, and_true, inF, labF]
  repeat' split
  all_goals (rw [Bool.eq_iff_iff]; simp only [Bool.and_eq_true, decide_eq_true_eq, Bool.false_eq_true]; constructor <;> intro h <;> first | omega | exact h.elim)

theorem cfgF_sites {c : CfgD} (h : inF c.1 1 4 = false) : cfgF c = 2 := by unfold cfgF; rw [h]; rfl
theorem cfgF_len {c : CfgD} (h1 : inF c.1 1 4 = true) (h : inF (pInt c.2.1.length) 1 6 = false) : cfgF c = 1 := by unfold cfgF; rw [h1, h]; rfl
theorem cfgF_first {c : CfgD} {n : Int} (h1 : inF c.1 1 4 = true) (h2 : inF (pInt c.2.1.length) 1 6 = true) (h : firstE (labE c.2.1) c.2.1.length = n) (hn : pEq n 0 = false) : cfgF c = n := by
  unfold cfgF; rw [h1, h2, h, hn]; rfl
theorem cfgF_end {c : CfgD} (h1 : inF c.1 1 4 = true) (h2 : inF (pInt c.2.1.length) 1 6 = true) (h : firstE (labE c.2.1) c.2.1.length = 0) : cfgF c = cond (inF c.2.2.1 1 1048576) 0 2 := by
  unfold cfgF; rw [h1, h2, h]; rfl
theorem inF_iff {x a b : Int} : inF x a b = true ↔ a ≤ x ∧ x ≤ b := by simp [inF, pLe]
theorem inF_not {x a b : Int} : inF x a b = false ↔ ¬ (a ≤ x ∧ x ≤ b) := by rw [← inF_iff]; simp

theorem labE_bad {l : List LabD} {k : Nat} (h : labF (pGet tyLab l k) = false) : labE l k = 2 := by unfold labE; rw [h]; rfl
theorem labE_ok {l : List LabD} {k : Nat} (h : labF (pGet tyLab l k) = true) : labE l k = cond (allUpto (fun i => !eqLabAt l i k) k) 0 7 := by unfold labE; rw [h]; rfl

/-- the loop over the labels, behind the first two tests -/
theorem cfg_round {c : CfgD} (h1 : inF c.1 1 4 = true) (h2 : inF (pInt c.2.1.length) 1 6 = true) {k : Nat} (hk : pEq (labE c.2.1 k) 0 = false → firstE (labE c.2.1) c.2.1.length = labE c.2.1 k)
    (h : labF (pGet tyLab c.2.1 k) = false) : ((2 : Int), ()) = (cfgF c, ()) := by
  rw [cfgF_first h1 h2 (n := 2) (by rw [hk (by rw [labE_bad h]; rfl), labE_bad h]) rfl]
theorem cfg_twice {c : CfgD} (h1 : inF c.1 1 4 = true) (h2 : inF (pInt c.2.1.length) 1 6 = true) {k : Nat} (hk : pEq (labE c.2.1 k) 0 = false → firstE (labE c.2.1) c.2.1.length = labE c.2.1 k)
    (h : labF (pGet tyLab c.2.1 k) = true) (ha : allUpto (fun i => !eqLabAt c.2.1 i k) k = false) : ((7 : Int), ()) = (cfgF c, ()) := by
  have e : labE c.2.1 k = 7 := by rw [labE_ok h, ha]; rfl
  rw [cfgF_first h1 h2 (n := 7) (by rw [hk (by rw [e]; rfl), e]) rfl]

theorem lB_start {cn : Int} {cl : List LabD} {cp : Int} {k : Nat} : lCheckBInv cn cl cp (k : Int) (0, ()) := UpInv.start
theorem lB_round {cn : Int} {cl : List LabD} {cp : Int} {k : Nat} {z : denVars [.slot 41 false tI]} (hk : k < 4611686018427387904) (h : lCheckBInv cn cl cp (k : Int) z) :
    (∃ i : Nat, z = ((i : Int), ()) ∧ i < k ∧ i < 4611686018427387904 ∧ (eqLabAt cl i k = true → allUpto (fun i => !eqLabAt cl i k) k = false) ∧
      (eqLabAt cl i k = false → lCheckBInv cn cl cp (k : Int) (pAdd .i64 (i : Int) 1, ()) ∧ Nat.le (Nat.succ (lCheckBMu cn cl cp (k : Int) (pAdd .i64 (i : Int) 1, ()))) (lCheckBMu cn cl cp (k : Int) ((i : Int), ())))) ∨
    (z = ((k : Int), ()) ∧ allUpto (fun i => !eqLabAt cl i k) k = true) := by
  unfold lCheckBInv lCheckBMu at *
  simp only [pNat_coe] at h ⊢
  rcases UpInv.round hk h with ⟨i, hz, hi, hib, _, hF, hT⟩ | h
  · exact .inl ⟨i, hz, hi, hib, fun h => hF (by simp [h]), fun h => hT (by simp [h])⟩
  · exact .inr h

theorem lCheck_ok : Meets Tryd.prog (fun _ => none) 22 clCheck := lCheck_meets one_ok fun cn cl cp hp => by
  have hl : cl.length < 4611686018427387904 := hp _ List.mem_cons_self
  unfold lCheck_VC
  simp only [pLen]
  cases hb1 : pLt cn 1
  case true => exact congrArg (·, ()) (cfgF_sites (by rw [inF_not]; simp only [pLt, decide_eq_true_eq] at hb1; omega)).symm
  cases hb2 : pGt cn 4
  case true => exact congrArg (·, ()) (cfgF_sites (by rw [inF_not]; simp only [pGt, decide_eq_true_eq] at hb2; simp only; omega)).symm
  have h1 : inF cn 1 4 = true := by rw [inF_iff]; simp only [pLt, pGt, decide_eq_false_iff_not] at hb1 hb2; omega
  cases hb3 : pLt (pInt cl.length) 1
  case true => exact congrArg (·, ()) (cfgF_len h1 (by rw [inF_not]; simp only [pLt, decide_eq_true_eq] at hb3; simp only; omega)).symm
  cases hb4 : pGt (pInt cl.length) 6
  case true => exact congrArg (·, ()) (cfgF_len h1 (by rw [inF_not]; simp only [pGt, decide_eq_true_eq] at hb4; simp only; omega)).symm
  have h2 : inF (pInt cl.length) 1 6 = true := by rw [inF_iff]; simp only [pLt, pGt, decide_eq_false_iff_not] at hb3 hb4; omega
  refine ⟨UpInv.start, fun y hy => ?_⟩
  rcases FirstInv.round hl hy with ⟨k, rfl, hk, hb, hF, hT⟩ | ⟨rfl, hT⟩
  · simp only [pLt_coe, pLen, hk, decide_true, cond_true, pIn_coe, pNat_coe, true_and]
    cases hlab : labF (pGet tyLab cl k)
    case false => exact cfg_round (c := (cn, cl, cp, ())) h1 h2 hF hlab
    refine ⟨by rw [pTo_coe]; omega, lB_start, fun z hz => ?_⟩
    rcases lB_round hb hz with ⟨i, rfl, hi, hib, hiF, hiT⟩ | ⟨rfl, hiT⟩
    · rw [pSub0_len (by omega), bif_true (show pLt (i : Int) (pInt k) = true from by simp [pLt_coe, hi])]
      refine ⟨pIn_coe.2 hi, ?_⟩
      rw [pNat_coe, pGet_sub0 hi]
      have e : pAndB (pEq (pGet tyLab cl i).1 (pGet tyLab cl k).1) (pEq (pGet tyLab cl i).2.1 (pGet tyLab cl k).2.1) = eqLabAt cl i k := rfl
      rw [e]
      cases hq : eqLabAt cl i k with
      | true => exact cfg_twice (c := (cn, cl, cp, ())) h1 h2 hF hlab (hiF hq)
      | false => exact hiT hq
    · rw [pSub0_len (by omega), bif_false (show pLt (k : Int) (pInt k) = false from by simp [pLt_coe])]
      exact hT (by rw [labE_ok hlab, hiT]; rfl)
  · simp only [pLt_coe, Nat.lt_irrefl, decide_false, cond_false]
    rw [cfgF_end (c := (cn, cl, cp, ())) h1 h2 hT]
    simp only [pLt, pGt, Bool.cond_eq_ite, decide_eq_true_eq, inF_iff]
    repeat' split
    all_goals first | rfl | (exfalso; omega)

theorem cFault_ok : Meets Tryd.prog (fun _ => none) 25 ccFault := cFault_meets In_ok fun cn cl cp hp => by
  have hl : cl.length < 4611686018427387904 := hp _ List.mem_cons_self
  unfold cFault_VC
  cases h1 : inF cn 1 4
  case false => exact congrArg (·, ()) (cfgF_sites h1).symm
  simp only [pLen]
  cases h2 : inF (pInt cl.length) 1 6
  case false => exact congrArg (·, ()) (cfgF_len h1 h2).symm
  refine ⟨UpInv.start, fun y hy => ?_⟩
  rcases FirstInv.round hl hy with ⟨k, rfl, hk, hb, hF, hT⟩ | ⟨rfl, hT⟩
  · simp only [pLt_coe, hk, decide_true, cond_true, pIn_coe, pNat_coe, true_and]
    cases ha : inF (pGet tyLab cl k).1 0 9
    case false => exact cfg_round (c := (cn, cl, cp, ())) h1 h2 hF (by unfold labF; rw [ha]; rfl)
    cases hc : inF (pGet tyLab cl k).2.1 0 15
    case false => exact cfg_round (c := (cn, cl, cp, ())) h1 h2 hF (by unfold labF; rw [ha, hc]; rfl)
    have hlab : labF (pGet tyLab cl k) = true := by unfold labF; rw [ha, hc]; rfl
    refine ⟨lB_start, fun z hz => ?_⟩
    rcases lB_round hb hz with ⟨i, rfl, hi, hib, hiF, hiT⟩ | ⟨rfl, hiT⟩
    · have hi2 : i < cl.length := by omega
      rw [bif_true (show pLt (i : Int) (k : Int) = true from by simp [pLt, hi])]
      refine ⟨pIn_coe.2 hi2, ?_⟩
      rw [pNat_coe]
      have e : pAndB (pEq (pGet tyLab cl i).1 (pGet tyLab cl k).1) (pEq (pGet tyLab cl i).2.1 (pGet tyLab cl k).2.1) = eqLabAt cl i k := rfl
      rw [e]
      cases hq : eqLabAt cl i k with
      | true => exact cfg_twice (c := (cn, cl, cp, ())) h1 h2 hF hlab (hiF hq)
      | false => exact hiT hq
    · rw [show pLt (k : Int) (k : Int) = false from by simp [pLt]]
      exact hT (by rw [labE_ok hlab, hiT]; rfl)
  · simp only [pLt_coe, Nat.lt_irrefl, decide_false, cond_false]
    rw [cfgF_end (c := (cn, cl, cp, ())) h1 h2 hT]
    cases inF cp 1 1048576 <;> rfl

theorem pSub_len1 {n : Nat} (h : n < 4611686018427387904) : pSubI .i64 (pInt n) 1 = (n : Int) - 1 := by unfold pInt; rw [pSubI_in (by omega)]
theorem labelMay_ok : Meets Tryd.prog (fun _ => none) 77 clabelMay := labelMay_meets In_ok fun cn cl cp l hp => by
  have hl : cl.length < 4611686018427387904 := hp _ List.mem_cons_self
  unfold labelMay_VC
  rw [pLen, pSub_len1 hl]
  refine congrArg (·, ()) ?_
  rw [Bool.eq_iff_iff]
  simp only [pInt, placeF]
  simp only [inF, pLe, pLt, Bool.and_eq_true, decide_eq_true_eq]
  omega


end Go.Proofs.YtgocemdodabgkaaDoor

/- Messages: the checks meet their contracts. No condition. -/
namespace Go.Proofs.YtgocemdodabgkaaDoor
open Go.RowKit

theorem wtxn_ok : Meets Tryd.prog (fun _ => none) 57 cwtxn := wtxn_meets fun cn cl cp ts tn => by
  unfold wtxn_VC
  (repeat' (first | refine bif_ok (fun h => ?_) (fun h => ?_) | refine And.intro ?_ ?_ | fail))
  all_goals (refine leafE ?_; simp only [txnF]; grind [pLt, pLe, pGt, pGe, pEq, pNe, pNot, pAndB, pBeq, pInt, pLen, inF, pIn, pTo, pNat])
theorem wkey_ok : Meets Tryd.prog (fun _ => none) 58 cwkey := wkey_meets fun a => by
  unfold wkey_VC
  (repeat' (first | refine bif_ok (fun h => ?_) (fun h => ?_) | refine And.intro ?_ ?_ | fail))
  all_goals (refine leafE ?_; grind [pLt, pLe, pGt, pGe, pEq, pNe, pNot, pAndB, pBeq, pInt, pLen, inF, pIn, pTo, pNat])
theorem wvalue_ok : Meets Tryd.prog (fun _ => none) 59 cwvalue := wvalue_meets fun a => by
  unfold wvalue_VC
  (repeat' (first | refine bif_ok (fun h => ?_) (fun h => ?_) | refine And.intro ?_ ?_ | fail))
  all_goals (refine leafE ?_; grind [pLt, pLe, pGt, pGe, pEq, pNe, pNot, pAndB, pBeq, pInt, pLen, inF, pIn, pTo, pNat])
theorem wask_ok : Meets Tryd.prog (fun _ => none) 60 cwask := wask_meets fun a => by
  unfold wask_VC
  (repeat' (first | refine bif_ok (fun h => ?_) (fun h => ?_) | refine And.intro ?_ ?_ | fail))
  all_goals (refine leafE ?_; grind [pLt, pLe, pGt, pGe, pEq, pNe, pNot, pAndB, pBeq, pInt, pLen, inF, pIn, pTo, pNat])
theorem wcode_ok : Meets Tryd.prog (fun _ => none) 75 cwcode := wcode_meets fun a => by
  unfold wcode_VC
  (repeat' (first | refine bif_ok (fun h => ?_) (fun h => ?_) | refine And.intro ?_ ?_ | fail))
  all_goals (refine leafE ?_; simp only [codeF]; grind [pLt, pLe, pGt, pGe, pEq, pNe, pNot, pAndB, pBeq, pInt, pLen, inF, pIn, pTo, pNat])
theorem txnMay_ok : Meets Tryd.prog (fun _ => none) 66 ctxnMay := txnMay_meets In_ok fun cn cl cp ts tn hp => by
  have h4 : inF cn 1 4 = true := hp _ List.mem_cons_self
  have h5 := inF_iff.1 h4
  unfold txnMay_VC
  rw [pSubI_in (a := cn) (b := 1) (by omega)]
  (repeat' (first | refine bif_ok (fun h => ?_) (fun h => ?_) | refine And.intro ?_ ?_ | fail))
  all_goals (refine leafE ?_; simp only [txnF]; grind [pLt, pLe, pGt, pGe, pEq, pNe, pNot, pAndB, pBeq, pInt, pLen, inF, pIn, pTo, pNat])

theorem cfgF_sites4 {c : CfgD} (h : pNe (cfgF c) 0 = false) : inF c.1 1 4 = true := by
  cases hq : inF c.1 1 4
  · rw [cfgF_sites hq] at h; cases h
  · rfl

theorem msgF_eq (cn : Int) (cl : List LabD) (cp mk mf mt ms mn ml my mv me ma : Int) (md : Bool) (mc : Int) (r1 r2 r3 r4 r5 r6 r7 r8 : Bool) (hr : pGet tyParts messagesT (pNat mk) = (r1, r2, r3, r4, r5, r6, r7, r8, ())) :
    msgF (cn, cl, cp, ()) (mk, mf, mt, ms, mn, ml, my, mv, me, ma, md, mc, ()) = cond (pEq (cfgF (cn, cl, cp, ())) 0) (cond (inF mk 1 9)
      (cond (pLe 0 mf && pLt mf cn && pLe 0 mt && pLt mt cn && txnF (cn, cl, cp, ()) ms mn && placeF (cn, cl, cp, ()) ml && inF my 0 7 && inF mv 0 1073741824 && inF me 0 1048576 && inF ma 0 1048576 && codeF mc)
        (cond ((r1 || pEq ml 0) && (r2 || pEq my 0) && (r3 || pEq mv 0) && (r4 || pEq me 0) && (r5 || pEq ma 0) && (r6 || !md) && (r7 || pEq mc 0) && (pEq mc 0 || (pEq mv 0 && pEq me 0))) 0 4) 2) 3) (cfgF (cn, cl, cp, ())) := by
  unfold msgF msgForm
  simp only [hr]
  rfl

theorem bif_dup {r b : Bool} {X T : Prop} (h1 : r = false → b = true → X) (h2 : (r || !b) = true → T) : bif pNot r then (bif b then X else T) else T := by
  cases r <;> cases b <;> simp_all [pNot]

set_option maxHeartbeats 4000000 in
theorem CheckMessage_ok : Meets Tryd.prog tabsM 37 cCheckMessage := CheckMessage_meets lCheck_ok.any wtxn_ok.any wkey_ok.any wvalue_ok.any wask_ok.any wcode_ok.any fun cn cl cp mk mf mt ms mn ml my mv me ma md mc hp => by
  have hl : cl.length < 4611686018427387904 := hp _ List.mem_cons_self
  clear hp
  unfold CheckMessage_VC CheckMessage_t0 CheckMessage_t1 CheckMessage_t2 CheckMessage_t3 CheckMessage_t4 CheckMessage_t5 CheckMessage_t6 CheckMessage_v0
  have hP : placeF (cn, cl, cp, ()) ml = (pLe 0 ml && pLt ml (pInt cl.length)) := rfl
  have hlen : messagesT.length = 10 := rfl
  generalize hr : pGet tyParts messagesT (pNat mk) = r
  obtain ⟨r1, r2, r3, r4, r5, r6, r7, r8, u⟩ := r
  have hM := msgF_eq cn cl cp mk mf mt ms mn ml my mv me ma md mc r1 r2 r3 r4 r5 r6 r7 r8 hr
  have hadd : inF mv 0 1073741824 = true → pLt me 0 = false → pGt me 1048576 = false → pAdd .i64 mv me = mv + me := fun h1 h2 h3 => pAdd_in (by
    rw [inF_iff] at h1; simp only [pLt, pGt, decide_eq_false_iff_not] at h2 h3; omega)
  dsimp only
  clear hr
  refine ⟨hl, ?_⟩
  (repeat' (first | refine bif_dup (fun h1 h2 => ?_) (fun h => ?_) | refine bif_ok (fun h => ?_) (fun h => ?_) | with_reducible refine And.intro ?_ ?_ | fail))
  all_goals first
    | (unfold pIn; simp only [pLt, pGt, decide_eq_false_iff_not] at *; omega)
    | (refine leafE ?_; rw [hM]; grind [pLt, pLe, pGt, pGe, pEq, pNe, pNot, pAndB, pBeq, pInt, pLen, inF, pIn, pTo, pNat])
    | skip


theorem row1 : pGet tyParts messagesT (pNat 1) = (true, true, false, false, true, false, false, false, ()) := rfl
theorem row2 : pGet tyParts messagesT (pNat 2) = (false, true, true, false, true, false, false, false, ()) := rfl
theorem row3 : pGet tyParts messagesT (pNat 3) = (true, true, false, true, false, false, false, false, ()) := rfl
theorem row4 : pGet tyParts messagesT (pNat 4) = (false, false, false, false, false, true, false, false, ()) := rfl
theorem row5 : pGet tyParts messagesT (pNat 5) = (true, true, true, true, true, false, true, false, ()) := rfl
theorem row6 : pGet tyParts messagesT (pNat 6) = (false, true, false, false, true, false, true, false, ()) := rfl
theorem row7 : pGet tyParts messagesT (pNat 7) = (true, true, false, true, false, true, false, false, ()) := rfl
theorem row8 : pGet tyParts messagesT (pNat 8) = (false, false, false, false, false, false, false, false, ()) := rfl
theorem row9 : pGet tyParts messagesT (pNat 9) = (false, false, false, false, false, false, false, false, ()) := rfl
set_option maxHeartbeats 4000000 in
theorem MessageFault_ok : Meets Tryd.prog (fun _ => none) 40 cMessageFault := MessageFault_meets cFault_ok In_ok txnMay_ok labelMay_ok fun cn cl cp mk mf mt ms mn ml my mv me ma md mc hp => by
  have hl : cl.length < 4611686018427387904 := hp _ List.mem_cons_self
  clear hp
  unfold MessageFault_VC MessageFault_t0 MessageFault_v0
  refine ⟨hl, bif_ok (fun h => ?_) fun hc => ?_⟩
  · refine leafE ?_; unfold msgF; grind [pLt, pLe, pGt, pGe, pEq, pNe, pNot, pAndB, pBeq, pInt, pLen, inF, pIn, pTo, pNat]
  have h4 := cfgF_sites4 hc
  have hc4 := inF_iff.1 h4
  have hc0 : pEq (cfgF (cn, cl, cp, ())) 0 = true := by simpa [pNe, pEq] using hc
  rw [pSubI_in (a := cn) (b := 1) (by simp only at hc4; omega)]
  refine bif_ok (fun h => ?_) fun hk => ?_
  · refine leafE ?_; unfold msgF; grind [pLt, pLe, pGt, pGe, pEq, pNe, pNot, pAndB, pBeq, pInt, pLen, inF, pIn, pTo, pNat]
  have hk9 : mk = 1 ∨ mk = 2 ∨ mk = 3 ∨ mk = 4 ∨ mk = 5 ∨ mk = 6 ∨ mk = 7 ∨ mk = 8 ∨ mk = 9 := by
    have : inF mk 1 9 = true := by cases hq : inF mk 1 9 with
      | true => rfl
      | false => rw [hq] at hk; cases hk
    rw [inF_iff] at this; omega
  rcases hk9 with rfl | rfl | rfl | rfl | rfl | rfl | rfl | rfl | rfl
  · have hM := msgF_eq cn cl cp 1 mf mt ms mn ml my mv me ma md mc _ _ _ _ _ _ _ _ row1
    rw [hc0, cond_true] at hM
    simp only [codeF, Bool.true_or, Bool.false_or, Bool.true_and, Bool.and_true] at hM
    (repeat' (first | refine bif_ok (fun h => ?_) (fun h => ?_) | refine And.intro ?_ ?_ | fail))
    all_goals first
      | exact hl
      | exact h4
      | (refine leafE ?_; rw [hM]; clear hM; grind [pLt, pLe, pGt, pGe, pEq, pNe, pNot, pAndB, pBeq, pInt, pLen, inF, pIn, pTo, pNat])
      | skip
  · have hM := msgF_eq cn cl cp 2 mf mt ms mn ml my mv me ma md mc _ _ _ _ _ _ _ _ row2
    rw [hc0, cond_true] at hM
    simp only [codeF, Bool.true_or, Bool.false_or, Bool.true_and, Bool.and_true] at hM
    (repeat' (first | refine bif_ok (fun h => ?_) (fun h => ?_) | refine And.intro ?_ ?_ | fail))
    all_goals first
      | exact hl
      | exact h4
      | (refine leafE ?_; rw [hM]; clear hM; grind [pLt, pLe, pGt, pGe, pEq, pNe, pNot, pAndB, pBeq, pInt, pLen, inF, pIn, pTo, pNat])
      | skip
  · have hM := msgF_eq cn cl cp 3 mf mt ms mn ml my mv me ma md mc _ _ _ _ _ _ _ _ row3
    rw [hc0, cond_true] at hM
    simp only [codeF, Bool.true_or, Bool.false_or, Bool.true_and, Bool.and_true] at hM
    (repeat' (first | refine bif_ok (fun h => ?_) (fun h => ?_) | refine And.intro ?_ ?_ | fail))
    all_goals first
      | exact hl
      | exact h4
      | (refine leafE ?_; rw [hM]; clear hM; grind [pLt, pLe, pGt, pGe, pEq, pNe, pNot, pAndB, pBeq, pInt, pLen, inF, pIn, pTo, pNat])
      | skip
  · have hM := msgF_eq cn cl cp 4 mf mt ms mn ml my mv me ma md mc _ _ _ _ _ _ _ _ row4
    rw [hc0, cond_true] at hM
    simp only [codeF, Bool.true_or, Bool.false_or, Bool.true_and, Bool.and_true] at hM
    (repeat' (first | refine bif_ok (fun h => ?_) (fun h => ?_) | refine And.intro ?_ ?_ | fail))
    all_goals first
      | exact hl
      | exact h4
      | (refine leafE ?_; rw [hM]; clear hM; grind [pLt, pLe, pGt, pGe, pEq, pNe, pNot, pAndB, pBeq, pInt, pLen, inF, pIn, pTo, pNat])
      | skip
  · have hM := msgF_eq cn cl cp 5 mf mt ms mn ml my mv me ma md mc _ _ _ _ _ _ _ _ row5
    rw [hc0, cond_true] at hM
    simp only [codeF, Bool.true_or, Bool.false_or, Bool.true_and, Bool.and_true] at hM
    (repeat' (first | refine bif_ok (fun h => ?_) (fun h => ?_) | refine And.intro ?_ ?_ | fail))
    all_goals first
      | exact hl
      | exact h4
      | (refine leafE ?_; rw [hM]; clear hM; grind [pLt, pLe, pGt, pGe, pEq, pNe, pNot, pAndB, pBeq, pInt, pLen, inF, pIn, pTo, pNat])
      | skip
  · have hM := msgF_eq cn cl cp 6 mf mt ms mn ml my mv me ma md mc _ _ _ _ _ _ _ _ row6
    rw [hc0, cond_true] at hM
    simp only [codeF, Bool.true_or, Bool.false_or, Bool.true_and, Bool.and_true] at hM
    (repeat' (first | refine bif_ok (fun h => ?_) (fun h => ?_) | refine And.intro ?_ ?_ | fail))
    all_goals first
      | exact hl
      | exact h4
      | (refine leafE ?_; rw [hM]; clear hM; grind [pLt, pLe, pGt, pGe, pEq, pNe, pNot, pAndB, pBeq, pInt, pLen, inF, pIn, pTo, pNat])
      | skip
  · have hM := msgF_eq cn cl cp 7 mf mt ms mn ml my mv me ma md mc _ _ _ _ _ _ _ _ row7
    rw [hc0, cond_true] at hM
    simp only [codeF, Bool.true_or, Bool.false_or, Bool.true_and, Bool.and_true] at hM
    (repeat' (first | refine bif_ok (fun h => ?_) (fun h => ?_) | refine And.intro ?_ ?_ | fail))
    all_goals first
      | exact hl
      | exact h4
      | (refine leafE ?_; rw [hM]; clear hM; grind [pLt, pLe, pGt, pGe, pEq, pNe, pNot, pAndB, pBeq, pInt, pLen, inF, pIn, pTo, pNat])
      | skip
  · have hM := msgF_eq cn cl cp 8 mf mt ms mn ml my mv me ma md mc _ _ _ _ _ _ _ _ row8
    rw [hc0, cond_true] at hM
    simp only [codeF, Bool.true_or, Bool.false_or, Bool.true_and, Bool.and_true] at hM
    (repeat' (first | refine bif_ok (fun h => ?_) (fun h => ?_) | refine And.intro ?_ ?_ | fail))
    all_goals first
      | exact hl
      | exact h4
      | (refine leafE ?_; rw [hM]; clear hM; grind [pLt, pLe, pGt, pGe, pEq, pNe, pNot, pAndB, pBeq, pInt, pLen, inF, pIn, pTo, pNat])
      | skip
  · have hM := msgF_eq cn cl cp 9 mf mt ms mn ml my mv me ma md mc _ _ _ _ _ _ _ _ row9
    rw [hc0, cond_true] at hM
    simp only [codeF, Bool.true_or, Bool.false_or, Bool.true_and, Bool.and_true] at hM
    (repeat' (first | refine bif_ok (fun h => ?_) (fun h => ?_) | refine And.intro ?_ ?_ | fail))
    all_goals first
      | exact hl
      | exact h4
      | (refine leafE ?_; rw [hM]; clear hM; grind [pLt, pLe, pGt, pGe, pEq, pNe, pNot, pAndB, pBeq, pInt, pLen, inF, pIn, pTo, pNat])
      | skip


end Go.Proofs.YtgocemdodabgkaaDoor

/- What is on its way: the checks meet their contracts. No condition. -/
namespace Go.Proofs.YtgocemdodabgkaaDoor
open Go.RowKit

theorem flyF_cfg {c : CfgD} {fl : List RowD} (h : pNe (cfgF c) 0 = true) : flyF c fl = cfgF c := by
  unfold flyF; rw [show pEq (cfgF c) 0 = false by simpa [pNe, pEq] using h]; rfl
theorem flyF_eq {c : CfgD} {fl : List RowD} (h : pNe (cfgF c) 0 = false) : flyF c fl = cond (pEq (pInt fl.length) (c.1 * c.1) && allUpto (rowAt c fl) fl.length) 0 9 := by
  unfold flyF; rw [show pEq (cfgF c) 0 = true by simpa [pNe, pEq] using h]; rfl

theorem msgF_ok {c : CfgD} {m : MsgD} (h : pEq (msgF c m) 0 = true) : 0 ≤ m.2.1 ∧ m.2.1 < c.1 ∧ 0 ≤ m.2.2.1 ∧ m.2.2.1 < c.1 := by
  have hr : msgRange c m = true := by
    unfold msgF at h
    revert h
    cases hc : pEq (cfgF c) 0
    case false => intro h; rw [cond_false, hc] at h; cases h
    cases inF m.1 1 9
    case false => intro h; cases h
    cases msgRange c m
    case false => intro h; cases h
    intro _; rfl
  unfold msgRange at hr
  simp only [Bool.and_eq_true, pLe, pLt, decide_eq_true_eq] at hr
  omega

theorem gt30 {α : Type} {l : List α} (h : pGt (pInt (pLen l)) 30 = true) : 30 < l.length := by
  simp [pGt, pInt, pLen] at h; omega
theorem le30 {α : Type} {l : List α} (h : pGt (pInt (pLen l)) 30 = false) : l.length ≤ 30 := by
  simp [pGt, pInt, pLen] at h; omega

theorem way_eq {cn f t : Int} {i : Nat} (h1 : 1 ≤ cn) (h4 : cn ≤ 4) (hf : 0 ≤ f) (hf2 : f < cn) (ht : 0 ≤ t) (ht2 : t < cn) : (pEq f ((i : Int) / cn) && pEq t ((i : Int) % cn)) = pEq (f * cn + t) (i : Int) := by
  have : cn = 1 ∨ cn = 2 ∨ cn = 3 ∨ cn = 4 := by omega
  rw [Bool.eq_iff_iff]
  simp only [pEq, Bool.and_eq_true, beq_iff_eq]
  rcases this with rfl | rfl | rfl | rfl <;> omega

theorem rowAt_long {c : CfgD} {fl : List RowD} {i : Nat} (h : 30 < (pGet tyRow fl i).1.length) : rowAt c fl i = false := by
  unfold rowAt
  rw [show decide ((pGet tyRow fl i).1.length ≤ 30) = false by simpa using h]; rfl
theorem rowAt_ok {c : CfgD} {fl : List RowD} {i : Nat} (h : (pGet tyRow fl i).1.length ≤ 30) : rowAt c fl i = allUpto (flyAt c fl i) (pGet tyRow fl i).1.length := by
  unfold rowAt
  rw [show decide ((pGet tyRow fl i).1.length ≤ 30) = true by simpa using h]; rfl

theorem quo_ok {cn : Int} {k : Nat} (h1 : 1 ≤ cn) (h4 : cn ≤ 4) (hk : k < 4611686018427387904) : pQuo .i64 (k : Int) cn = (k : Int) / cn ∧ pRem (k : Int) cn = (k : Int) % cn := by
  unfold pQuo pRem
  have : cn = 1 ∨ cn = 2 ∨ cn = 3 ∨ cn = 4 := by omega
  rcases this with rfl | rfl | rfl | rfl <;> refine ⟨?_, ?_⟩ <;> first
    | (rw [Int.tmod_eq_emod_of_nonneg (by omega)])
    | (rw [Int.tdiv_eq_ediv_of_nonneg (by omega)]; exact Go.IntWalk.i64_in _ (by omega))

theorem nrow_round {c : CfgD} {fl : List RowD} {k : Nat} {z : Int × Unit} (hq : ∀ q ∈ fl, pLen q.1 < 4611686018427387904) (hk : k < fl.length) (h : UpInv (flyAt c fl k) (pGet tyRow fl k).1.length z) :
    (∃ i : Nat, z = ((i : Int), ()) ∧ i < (pGet tyRow fl k).1.length ∧ i < 4611686018427387904 ∧ (flyAt c fl k i = false → allUpto (flyAt c fl k) (pGet tyRow fl k).1.length = false) ∧
      (flyAt c fl k i = true → UpInv (flyAt c fl k) (pGet tyRow fl k).1.length (pAdd .i64 (i : Int) 1, ()) ∧ Nat.le (Nat.succ (UpMu (pGet tyRow fl k).1.length (pAdd .i64 (i : Int) 1, ()))) (UpMu (pGet tyRow fl k).1.length ((i : Int), ())))) ∨
    (z = (((pGet tyRow fl k).1.length : Int), ()) ∧ allUpto (flyAt c fl k) (pGet tyRow fl k).1.length = true) := by
  have hb : (pGet tyRow fl k).1.length < 4611686018427387904 := by
    have : pGet tyRow fl k = fl[k] := pGet_lt (t := tyRow) hk
    rw [this]; exact hq _ (List.getElem_mem hk)
  rcases UpInv.round hb h with ⟨i, hz, hi, hib, _, hF, hT⟩ | h
  · exact .inl ⟨i, hz, hi, hib, hF, hT⟩
  · exact .inr h

theorem fly_nine {c : CfgD} {fl : List RowD} (hc : pNe (cfgF c) 0 = false) (h : (pEq (pInt fl.length) (c.1 * c.1) && allUpto (rowAt c fl) fl.length) = false) : ((9 : Int), ()) = (flyF c fl, ()) := by
  rw [flyF_eq hc, h]; rfl

theorem nCheck_ok : Meets Tryd.prog tabsM 36 cnCheck := nCheck_meets lCheck_ok.any CheckMessage_ok fun cn cl cp fl hp => by
  have hl : cl.length < 4611686018427387904 := hp _ List.mem_cons_self
  have hf : fl.length < 4611686018427387904 := hp (pLen fl < 4611686018427387904) (by simp)
  have hq : ∀ q ∈ fl, pLen q.1 < 4611686018427387904 := hp (∀ q ∈ fl, pLen q.1 < 4611686018427387904) (by simp)
  clear hp
  unfold nCheck_VC
  refine ⟨hl, bif_ok (fun h => ?_) fun hc => ?_⟩
  · rw [flyF_cfg h]
  have h4 := inF_iff.1 (cfgF_sites4 hc)
  simp only at h4
  have hm : pMul .i64 cn cn = cn * cn := by
    unfold pMul
    refine Go.IntWalk.i64_in _ ?_
    have : cn = 1 ∨ cn = 2 ∨ cn = 3 ∨ cn = 4 := by omega
    rcases this with rfl | rfl | rfl | rfl <;> decide
  rw [hm, pLen]
  refine bif_ok (fun h => ?_) fun hn => ?_
  · refine fly_nine hc ?_
    rw [show pEq (pInt fl.length) (cn * cn) = false by simpa [pNe, pEq] using h]; rfl
  have hn : pEq (pInt fl.length) (cn * cn) = true := by simpa [pNe, pEq] using hn
  refine ⟨UpInv.start, fun y hy => ?_⟩
  rcases UpInv.round hf hy with ⟨k, rfl, hk, hb, _, hF, hT⟩ | ⟨rfl, hT⟩
  · simp only [pNat_coe]
    rw [bif_true (by simp [pLt_coe, hk])]
    refine ⟨pIn_coe.2 hk, bif_ok (fun h => ?_) fun h => ?_⟩
    · refine fly_nine hc ?_
      have h : 30 < (pGet tyRow fl k).1.length := gt30 h
      rw [hF (rowAt_long h), Bool.and_false]
    have h30 : (pGet tyRow fl k).1.length ≤ 30 := le30 h
    rw [rowAt_ok h30] at hF hT
    refine ⟨UpInv.start, fun z hz => ?_⟩
    have hz : UpInv (flyAt (cn, cl, cp, ()) fl k) (pGet tyRow fl k).1.length z := hz
    rcases nrow_round hq hk hz with ⟨i, rfl, hi, hib, hiF, hiT⟩ | ⟨rfl, hiT⟩
    · simp only [pNat_coe]
      rw [bif_true (by simp [pLt_coe, pLen, hi])]
      refine ⟨pIn_coe.2 hi, hl, ?_⟩
      have hat : flyAt (cn, cl, cp, ()) fl k i = (pEq (msgF (cn, cl, cp, ()) (pGet tyMsg (pGet tyRow fl k).1 i)) 0 && pEq (pGet tyMsg (pGet tyRow fl k).1 i).2.1 ((k : Int) / cn) && pEq (pGet tyMsg (pGet tyRow fl k).1 i).2.2.1 ((k : Int) % cn)) := rfl
      obtain ⟨hq1, hq2⟩ := quo_ok (k := k) h4.1 h4.2 hb
      rw [hq1, hq2]
      have bad : flyAt (cn, cl, cp, ()) fl k i = false → ((9 : Int), ()) = (flyF (cn, cl, cp, ()) fl, ()) := fun hbad => fly_nine hc (by rw [hF (hiF hbad), Bool.and_false])
      refine bif_ok (fun h => ?_) fun h => ?_
      · exact bad (by rw [hat, show pEq _ 0 = false by simpa [pNe, pEq] using h]; rfl)
      have g1 : pEq (msgF (cn, cl, cp, ()) (pGet tyMsg (pGet tyRow fl k).1 i)) 0 = true := by simpa [pNe, pEq] using h
      refine ⟨by unfold pNz; omega, bif_ok (fun h => ?_) fun h => ?_⟩
      · exact bad (by rw [hat, g1, show pEq (pGet tyMsg (pGet tyRow fl k).1 i).2.1 ((k : Int) / cn) = false by simpa [pNe, pEq] using h]; rfl)
      have g2 : pEq (pGet tyMsg (pGet tyRow fl k).1 i).2.1 ((k : Int) / cn) = true := by simpa [pNe, pEq] using h
      refine ⟨by unfold pNz; omega, bif_ok (fun h => ?_) fun h => ?_⟩
      · exact bad (by rw [hat, g1, g2, show pEq (pGet tyMsg (pGet tyRow fl k).1 i).2.2.1 ((k : Int) % cn) = false by simpa [pNe, pEq] using h]; rfl)
      have g3 : pEq (pGet tyMsg (pGet tyRow fl k).1 i).2.2.1 ((k : Int) % cn) = true := by simpa [pNe, pEq] using h
      exact hiT (by rw [hat, g1, g2, g3]; rfl)
    · rw [bif_false (by simp [pLt_coe, pLen])]
      exact hT hiT
  · rw [bif_false (by simp [pLt_coe])]
    refine leafE ?_
    rw [flyF_eq hc, hT]
    simp only [hn]
    rfl

theorem FlyingFault_ok : Meets Tryd.prog tabsM 39 cFlyingFault := FlyingFault_meets cFault_ok.any MessageFault_ok.any fun cn cl cp fl hp => by
  have hl : cl.length < 4611686018427387904 := hp _ List.mem_cons_self
  have hf : fl.length < 4611686018427387904 := hp (pLen fl < 4611686018427387904) (by simp)
  have hq : ∀ q ∈ fl, pLen q.1 < 4611686018427387904 := hp (∀ q ∈ fl, pLen q.1 < 4611686018427387904) (by simp)
  clear hp
  unfold FlyingFault_VC
  refine ⟨hl, bif_ok (fun h => ?_) fun hc => ?_⟩
  · rw [flyF_cfg h]
  have h4 := inF_iff.1 (cfgF_sites4 hc)
  simp only at h4
  have hm : pMul .i64 cn cn = cn * cn := by
    unfold pMul
    refine Go.IntWalk.i64_in _ ?_
    have : cn = 1 ∨ cn = 2 ∨ cn = 3 ∨ cn = 4 := by omega
    rcases this with rfl | rfl | rfl | rfl <;> decide
  rw [hm, pLen]
  refine bif_ok (fun h => ?_) fun hn => ?_
  · refine fly_nine hc ?_
    rw [show pEq (pInt fl.length) (cn * cn) = false by simpa [pNe, pEq] using h]; rfl
  have hn : pEq (pInt fl.length) (cn * cn) = true := by simpa [pNe, pEq] using hn
  refine ⟨UpInv.start, fun y hy => ?_⟩
  rcases UpInv.round hf hy with ⟨k, rfl, hk, hb, _, hF, hT⟩ | ⟨rfl, hT⟩
  · simp only [pNat_coe]
    rw [bif_true (by simp [pLt_coe, hk])]
    refine ⟨pIn_coe.2 hk, bif_ok (fun h => ?_) fun h => ?_⟩
    · refine fly_nine hc ?_
      have h : 30 < (pGet tyRow fl k).1.length := gt30 h
      rw [hF (rowAt_long h), Bool.and_false]
    have h30 : (pGet tyRow fl k).1.length ≤ 30 := le30 h
    rw [rowAt_ok h30] at hF hT
    refine ⟨UpInv.start, fun z hz => ?_⟩
    have hz : UpInv (flyAt (cn, cl, cp, ()) fl k) (pGet tyRow fl k).1.length z := hz
    refine ⟨pIn_coe.2 hk, ?_⟩
    rcases nrow_round hq hk hz with ⟨i, rfl, hi, hib, hiF, hiT⟩ | ⟨rfl, hiT⟩
    · simp only [pNat_coe]
      rw [bif_true (by simp [pLt_coe, pLen, hi])]
      refine ⟨pIn_coe.2 hk, pIn_coe.2 hi, hl, ?_⟩
      have hat : flyAt (cn, cl, cp, ()) fl k i = (pEq (msgF (cn, cl, cp, ()) (pGet tyMsg (pGet tyRow fl k).1 i)) 0 && pEq (pGet tyMsg (pGet tyRow fl k).1 i).2.1 ((k : Int) / cn) && pEq (pGet tyMsg (pGet tyRow fl k).1 i).2.2.1 ((k : Int) % cn)) := rfl
      have bad : flyAt (cn, cl, cp, ()) fl k i = false → ((9 : Int), ()) = (flyF (cn, cl, cp, ()) fl, ()) := fun hbad => fly_nine hc (by rw [hF (hiF hbad), Bool.and_false])
      refine bif_ok (fun h => ?_) fun h => ?_
      · exact bad (by rw [hat, show pEq _ 0 = false by simpa [pNe, pEq] using h]; rfl)
      have g1 : pEq (msgF (cn, cl, cp, ()) (pGet tyMsg (pGet tyRow fl k).1 i)) 0 = true := by simpa [pNe, pEq] using h
      obtain ⟨b1, b2, b3, b4⟩ := msgF_ok g1
      rw [g1, Bool.true_and, way_eq h4.1 h4.2 b1 b2 b3 b4] at hat
      simp only at b2 b4
      have hx : pAdd .i64 (pMul .i64 (pGet tyMsg (pGet tyRow fl k).1 i).2.1 cn) (pGet tyMsg (pGet tyRow fl k).1 i).2.2.1 = (pGet tyMsg (pGet tyRow fl k).1 i).2.1 * cn + (pGet tyMsg (pGet tyRow fl k).1 i).2.2.1 := by
        generalize (pGet tyMsg (pGet tyRow fl k).1 i).2.1 = f at *
        generalize (pGet tyMsg (pGet tyRow fl k).1 i).2.2.1 = t at *
        have : cn = 1 ∨ cn = 2 ∨ cn = 3 ∨ cn = 4 := by omega
        unfold pMul
        rcases this with rfl | rfl | rfl | rfl <;> rw [Go.IntWalk.i64_in _ (by omega), pAdd_in (by omega)]
      rw [hx]
      refine bif_ok (fun h => ?_) fun h => ?_
      · exact bad (by rw [hat]; simpa [pNe, pEq] using h)
      · exact hiT (by rw [hat]; simpa [pNe, pEq] using h)
    · rw [bif_false (by simp [pLt_coe, pLen])]
      exact hT hiT
  · rw [bif_false (by simp [pLt_coe])]
    refine leafE ?_
    rw [flyF_eq hc, hT]
    simp only [hn]
    rfl


end Go.Proofs.YtgocemdodabgkaaDoor

/- slices.Delete at []api.Message: its walk. No condition. -/
namespace Go.Proofs.YtgocemdodabgkaaDoor
open Go.RowKit Go.Lib

abbrev delMZ : Value := .agg #[.int .i64 0, .int .i64 0, .int .i64 0, .int .i64 0, .int .i64 0, .int .i64 0, .int .i64 0, .int .i64 0, .int .i64 0, .int .i64 0, .bool false, .int .i64 0]
theorem delMI : (Tryd.prog.info? 53).map (fun i => (i.zero, i.size, i.bytes)) = some (some delMZ, 12, 96) := by kernel_rfl
theorem delMV : ∀ w, (zeroValue 53).run Tryd.prog w = .ok delMZ w := fun w => by
  obtain ⟨i0, hi0, hz0, hz1, hz2⟩ := info_parts delMI
  unfold zeroValue typeInfo
  simp [hi0, hz0]

set_option maxHeartbeats 4000000 in
set_option maxRecDepth 100000 in
theorem delM_shift (b n c i j : Nat) (cs : List Value) (w : World) (hij : j = i + 1) (hj : j ≤ n) (hnc : n ≤ c) (hc63 : c ≤ 9223372036854775807) (hcl : cs.length = n * 12)
    (hcs : ∀ (q : Nat) v, cs[q]? = some v → w.cell? ⟨b, q, none⟩ = some v) (hfz : ∀ q, q < n * 12 → w.frozen? ⟨b, q, none⟩ = false) (h1c : ∀ v ∈ cs, v.oneCell' = true) :
    Calls Tryd.prog 42 #[.slice (some ⟨b, 0, none⟩) n c, .int .i64 (i : Int), .int .i64 (j : Int)] w fun e w' =>
      e = .returned (.slice (some ⟨b, 0, none⟩) (n - 1) c) ∧ w' = (w.drew.setCells b (i * 12) (cs.drop (j * 12))).setCells b ((n - 1) * 12) delMZ.cells.toList := by
  obtain ⟨i0, hi0, hz0, hz1, hz2⟩ := info_parts delMI
  have hlt : i < j := by omega
  have hcell : ∀ q, q < n * 12 → (w.cell? ⟨b, q, none⟩).isSome = true := fun q hq => by rw [hcs q _ (List.getElem?_eq_getElem (by omega))]; rfl
  obtain ⟨news, hnews⟩ : ∃ news, news = cs.drop (j * 12) := ⟨_, rfl⟩
  have hlen : news.length = (n - j) * 12 := by rw [hnews, List.length_drop, hcl, ← Nat.sub_mul]
  obtain ⟨A, hA, hsrc⟩ : ∃ A : Addr, (if c = j then some (⟨b, 0, none⟩ : Addr) else some ⟨b, j * 12, none⟩) = some A ∧ Hid (∀ t u, news[t]? = some u → w.drew.cell? (A.add t) = some u) := by
    by_cases h : c = j
    · refine ⟨⟨b, 0, none⟩, by simp [h], fun t u hu => ?_⟩
      have h0 : news.length = 0 := by rw [hlen, show n - j = 0 by omega, Nat.zero_mul]
      rw [List.length_eq_zero_iff.1 h0] at hu
      simp at hu
    · refine ⟨⟨b, j * 12, none⟩, by simp [h], fun t u hu => ?_⟩
      rw [Addr.add_lit]
      rw [hnews, List.getElem?_drop] at hu
      exact hcs _ _ hu
  have s1 : Hid (news.length = (n - j) * 12) := hlen
  have s2 : Hid (∀ u ∈ news, u.oneCell' = true) := by
    intro u hu
    rw [hnews] at hu
    exact h1c u (List.mem_of_mem_drop hu)
  have hin : i * 12 + (n - j) * 12 ≤ n * 12 := by rw [← Nat.add_mul]; exact Nat.mul_le_mul_right _ (by omega)
  have s3 : Hid (∀ t, t < news.length → (w.drew.cell? ⟨b, 0 + i * 12 + t, none⟩).isSome = true ∧ w.drew.frozen? ⟨b, 0 + i * 12 + t, none⟩ = false) := by
    intro t ht
    rw [hlen] at ht
    rw [Nat.zero_add]
    exact ⟨hcell _ (by omega), hfz _ (by omega)⟩
  obtain ⟨W1, hW1⟩ : ∃ W1, W1 = w.drew.setCells b (0 + i * 12) news := ⟨_, rfl⟩
  have hlo : (i + (n - j)) * 12 + 12 ≤ n * 12 := by
    have h := Nat.mul_le_mul_right 12 (show i + (n - j) + 1 ≤ n by omega)
    rw [Nat.add_mul (i + (n - j)) 1, Nat.one_mul] at h; exact h
  have hcl2 : ∀ ty, (Builtin.clear_ #[44] ty #[.slice (some ⟨b, (i + (n - j)) * 12, none⟩) (n - (i + (n - j))) (c - (i + (n - j)))]).run Tryd.prog W1 = .ok (.tuple #[]) (W1.setCells b ((i + (n - j)) * 12) delMZ.cells.toList) :=
    fun ty => run_clear_K W1 _ _ ty delMZ Tryd.underlying44 delMV (by decide) b _ _ _ (by omega)
      (fun t ht => by
        have ht : t < 12 := ht
        rw [hW1]
        exact isSome_setCells _ _ _ _ (fun q hq => by rw [hlen] at hq; rw [Nat.zero_add]; exact hcell _ (by omega)) _ (hcell _ (by omega)))
      (fun t ht => by
        have ht : t < 12 := ht
        rw [hW1, World.frozen?_setCells]
        exact hfz _ (by omega))
  have hW : Hid (W1 = w.drew.setCells b (0 + i * 12) news) := hW1
  have hX : Hid (W1 = w.drew.setCells b (i * 12) (cs.drop (j * 12))) := by rw [hW1, hnews, Nat.zero_add]; rfl
  have hic : i ≤ c := by omega
  have hjc : j ≤ c := by omega
  have hloc : ¬ (c = i + (n - j)) := by omega
  have mixed : Tryd.prog.follows Departure.mixedOrders = true := by kernel_rfl
  have heq : ¬ ((i : Int) = (j : Int)) := by omega
  have hn1 : Hid (n - 1 = i + (n - j)) := by show n - 1 = i + (n - j); omega
  clear hW1 hnews hlen hcell hcs hfz h1c hij
  go_enter Tryd.func42, Tryd.ntmps42
  go_wp2_with fail
  go_region_law_o (refine step_append_room rfl (.tmp 22) (.tmp 25) 44 rfl 53 i0 12 Tryd.underlying44 hi0 hz1 b 0 i c (by simp [Act.eval, Act.put]) A (n - j) (c - j) news (by simp [Act.eval, Act.put]) s1.out hsrc.out s2.out (by omega) s3.out ?_; rw [← hW.out])
  go_wp2
  go_ret
  refine ⟨by rw [hn1.out]; rfl, ?_⟩
  rw [hn1.out, ← hX.out]; rfl

theorem delM_walk : DelWalk Tryd.prog 42 12 :=
  delWalk_of (zs := delMZ.cells.toList) rfl delM_shift


end Go.Proofs.YtgocemdodabgkaaDoor

/- Messages sent and taken: the functions meet their contracts. No condition. -/
namespace Go.Proofs.YtgocemdodabgkaaDoor
open Go.RowKit

theorem delM_ok : Meets Tryd.prog (fun _ => none) 42 cdelM :=
  meets_del (t := tyMsg) Tryd.func42 (by kernel_rfl) (by kernel_rfl) (by decide) (fun _ => rfl) rfl delM_walk

theorem eq_of {a b : Int} (h : pEq a b = true) : a = b := by simpa [pEq] using h
/-- what is on its way, where it may be -/
def FlyS (n : Nat) (fl : List RowD) : Prop := fl.length = n ∧ ∀ q ∈ fl, q.1.length ≤ 30
theorem row_le {n : Nat} {fl : List RowD} (h : FlyS n fl) (j : Nat) : (pGet tyRow fl j).1.length ≤ 30 := by
  by_cases hj : j < fl.length
  · exact h.2 _ (by rw [pGet_lt (t := tyRow) hj]; exact List.getElem_mem hj)
  · unfold pGet; rw [List.getD_eq_getElem?_getD, List.getElem?_eq_none (by omega)]; exact Nat.zero_le _
theorem fly_ok {c : CfgD} {fl : List RowD} (h : pEq (flyF c fl) 0 = true) : (1 ≤ c.1 ∧ c.1 ≤ 4) ∧ (fl.length : Int) = c.1 * c.1 ∧ FlyS fl.length fl := by
  cases hc : pNe (cfgF c) 0 with
  | true => rw [flyF_cfg hc] at h; simp only [pNe, pEq, bne_iff_ne, beq_iff_eq] at hc h; exact absurd h hc
  | false =>
    rw [flyF_eq hc] at h
    cases hq : (pEq (pInt fl.length) (c.1 * c.1) && allUpto (rowAt c fl) fl.length) with
    | false => rw [hq] at h; cases h
    | true =>
      rw [Bool.and_eq_true] at hq
      refine ⟨inF_iff.1 (cfgF_sites4 hc), eq_of hq.1, rfl, fun q hm => ?_⟩
      obtain ⟨j, hj, rfl⟩ := List.getElem_of_mem hm
      have := allUpto_iff.1 hq.2 j hj
      unfold rowAt at this
      simp only [Bool.and_eq_true, decide_eq_true_eq] at this
      rw [pGet_lt (t := tyRow) hj] at this
      exact this.1
theorem fly_len {c : CfgD} {fl : List RowD} (h : pEq (flyF c fl) 0 = true) : fl.length ≤ 16 := by
  obtain ⟨⟨h1, h4⟩, hl, _⟩ := fly_ok h
  have : c.1 = 1 ∨ c.1 = 2 ∨ c.1 = 3 ∨ c.1 = 4 := by omega
  rcases this with e | e | e | e <;> rw [e] at hl <;> omega
theorem rows_ok {c : CfgD} {fl : List RowD} (h : pEq (flyF c fl) 0 = true) : RowsOk fl := by
  have h1 := fly_len h
  refine ⟨?_, fun q hq => ?_⟩
  · show fl.length * 24 ≤ 140737488351232; omega
  · have := (fly_ok h).2.2.2 q hq
    show q.1.length * 96 ≤ 140737488351232; omega
theorem way_in {c : CfgD} {fl : List RowD} (h : pEq (flyF c fl) 0 = true) {f t : Int} (hf : 0 ≤ f) (hf2 : f < c.1) (ht : 0 ≤ t) (ht2 : t < c.1) {n : Nat} (hn : n = fl.length) : pIn (wayI c f t) n := by
  obtain ⟨⟨h1, h4⟩, hl, _⟩ := fly_ok h
  subst hn
  have e : wayI c f t = f * c.1 + t := by
    unfold wayI pMul
    have : c.1 = 1 ∨ c.1 = 2 ∨ c.1 = 3 ∨ c.1 = 4 := by omega
    rcases this with e | e | e | e <;> rw [e] at hf2 ht2 ⊢ <;> rw [Go.IntWalk.i64_in _ (by omega), pAdd_in (by omega)]
  rw [e]
  unfold pIn
  have : c.1 = 1 ∨ c.1 = 2 ∨ c.1 = 3 ∨ c.1 = 4 := by omega
  rcases this with e | e | e | e <;> rw [e] at hf2 ht2 hl ⊢ <;> omega

theorem pNat_lt {x : Int} {n : Nat} (h : pIn x n) : pNat x < n := by unfold pIn at h; unfold pNat; omega
end Go.Proofs.YtgocemdodabgkaaDoor

/- What the law of sending says. No condition. -/
namespace Go.Proofs.YtgocemdodabgkaaDoor
open Go.RowKit

end Go.Proofs.YtgocemdodabgkaaDoor

/- Messages taken: the functions meet their contracts, and what the law says. No condition. -/
namespace Go.Proofs.YtgocemdodabgkaaDoor
open Go.RowKit

theorem delK_zero (l : List MsgD) (i : Nat) : delK l i 0 = [] := by unfold delK; rw [decide_eq_false (Nat.not_lt_zero i)]; rfl
theorem delK_skip {l : List MsgD} {i : Nat} : delK l i (i + 1) = delK l i i := by
  unfold delK
  rw [decide_eq_true (Nat.lt_succ_self i), decide_eq_false (Nat.lt_irrefl i), cond_true, cond_false, List.drop_eq_nil_of_le (by rw [List.length_take]; omega), List.append_nil]
theorem delK_add {l : List MsgD} {i j : Nat} (hj : j < l.length) (hne : j ≠ i) : pApp (delK l i j) [pGet tyMsg l j] = delK l i (j + 1) := by
  unfold delK pApp
  by_cases h : i < j
  · rw [decide_eq_true h, decide_eq_true (show i < j + 1 by omega), cond_true, cond_true, List.append_assoc, List.take_succ_eq_append_getElem hj, List.drop_append_of_le_length (by rw [List.length_take]; omega), pGet_lt (t := tyMsg) hj]
  · rw [decide_eq_false h, decide_eq_false (show ¬ i < j + 1 by omega), cond_false, cond_false, List.take_succ_eq_append_getElem hj, pGet_lt (t := tyMsg) hj]
theorem delK_end {l : List MsgD} {i : Nat} (h : i < l.length) : delK l i l.length = pDel l i := by
  unfold delK pDel
  rw [decide_eq_true h, cond_true, List.take_length]
theorem delK_len {l : List MsgD} {i j : Nat} : (delK l i j).length ≤ l.length + l.length := by
  unfold delK
  cases decide (i < j)
  · rw [cond_false, List.length_take]; omega
  · rw [cond_true, List.length_append, List.length_drop, List.length_take, List.length_take]; omega
theorem rem_in {i : Int} {n : Nat} (hi : 0 ≤ i) (hn : n ≠ 0) : pIn (pRem i (pInt n)) n := by
  have h1 : 0 ≤ i.tmod (n : Int) := Int.tmod_nonneg _ hi
  have h2 : i.tmod (n : Int) < (n : Int) := Int.tmod_lt_of_pos _ (by omega)
  exact ⟨h1, h2⟩
theorem inF_me {cn me : Int} (h1 : 1 ≤ cn) (h4 : cn ≤ 4) : inF me 0 (pSubI .i64 cn 1) = (pLe 0 me && pLt me cn) := by
  have e : pSubI .i64 cn 1 = cn - 1 := by
    obtain ⟨k, rfl⟩ : ∃ k : Nat, cn = (k : Int) := ⟨cn.toNat, by omega⟩
    rw [pSub1 (by omega) (by omega)]; omega
  rw [e]
  cases h : (pLe 0 me && pLt me cn) with
  | true =>
    simp only [Bool.and_eq_true, pLe, pLt, decide_eq_true_eq] at h
    exact inF_iff.2 ⟨h.1, by omega⟩
  | false =>
    rw [inF_not]
    intro ⟨a, b⟩
    have : (pLe 0 me && pLt me cn) = true := by simp only [Bool.and_eq_true, pLe, pLt, decide_eq_true_eq]; exact ⟨a, by omega⟩
    rw [this] at h; cases h
theorem le_lt {a b : Int} : pLe a b = !pLt b a := by
  unfold pLe pLt
  by_cases h : a ≤ b
  · rw [decide_eq_true h, decide_eq_false (by omega)]; rfl
  · rw [decide_eq_false h, decide_eq_true (by omega)]; rfl
theorem lt_ge {a b : Int} : pLt a b = !pGe a b := by
  unfold pGe pLt
  by_cases h : a < b
  · rw [decide_eq_true h, decide_eq_false (by omega)]; rfl
  · rw [decide_eq_false h, decide_eq_true (by omega)]; rfl
theorem le_of {a b : Int} (h : pLe a b = true) : a ≤ b := of_decide_eq_true h
theorem lt_of {a b : Int} (h : pLt a b = true) : a < b := of_decide_eq_true h

section
variable {cn : Int} {cl : List LabD} {cp : Int} {fl : List RowD} {u v i k : Int}
theorem take_err {e : Int} (h : takeE (cn, cl, cp, ()) fl u v i k = e) (h0 : pEq e 0 = false) : (([] : List RowD), noMsg, e, ()) = (takeF (cn, cl, cp, ()) fl u v i k, takeM (cn, cl, cp, ()) fl u v i k, takeE (cn, cl, cp, ()) fl u v i k, ()) := by
  unfold takeF takeM; rw [h, h0]; rfl
theorem takeE_ok (hf : pEq (flyF (cn, cl, cp, ()) fl) 0 = true) (hk : inF k 2 4 = true) : takeE (cn, cl, cp, ()) fl u v i k =
    cond (mayGo (cn, cl, cp, ()) u v i) (cond (pEq (pInt (pLen (wayR (cn, cl, cp, ()) fl u v))) 0) 6 (cond (pEq k 4 && pEq (pInt (pLen (wayR (cn, cl, cp, ()) fl u v))) 30) 8 0)) 2 := by unfold takeE; rw [hf, hk]; rfl
theorem take_copy (h : takeE (cn, cl, cp, ()) fl u v i k = 0) (hk : pEq k 4 = true) : (pSet fl (pNat (wayI (cn, cl, cp, ()) u v)) (pApp (wayR (cn, cl, cp, ()) fl u v) [takeG (cn, cl, cp, ()) fl u v i], ()), takeG (cn, cl, cp, ()) fl u v i, (0 : Int), ()) =
    (takeF (cn, cl, cp, ()) fl u v i k, takeM (cn, cl, cp, ()) fl u v i k, takeE (cn, cl, cp, ()) fl u v i k, ()) := by
  unfold takeF takeM; rw [h, hk]; rfl
theorem take_del (h : takeE (cn, cl, cp, ()) fl u v i k = 0) (hk : pEq k 4 = false) : (pSet fl (pNat (wayI (cn, cl, cp, ()) u v)) (pDel (wayR (cn, cl, cp, ()) fl u v) (pNat (takeI (cn, cl, cp, ()) fl u v i)), ()), takeG (cn, cl, cp, ()) fl u v i, (0 : Int), ()) =
    (takeF (cn, cl, cp, ()) fl u v i k, takeM (cn, cl, cp, ()) fl u v i k, takeE (cn, cl, cp, ()) fl u v i k, ()) := by
  unfold takeF takeM; rw [h, hk]; rfl
theorem mayGo_of (h : mayGo (cn, cl, cp, ()) u v i = true) : 0 ≤ u ∧ u < cn ∧ 0 ≤ v ∧ v < cn ∧ 0 ≤ i := by
  unfold mayGo at h
  simp only [Bool.and_eq_true] at h
  exact ⟨le_of h.1.1.1, lt_of h.1.1.2, le_of h.1.2.1, lt_of h.1.2.2, le_of h.2⟩
end

theorem Take_ok : Meets Tryd.prog tabsM 16 cTake := Take_meets nCheck_ok nown_ok.any delM_ok.any fun cn cl cp fl u v i k hp => by
  have hc : cl.length < 4611686018427387904 := hp (pLen cl < 4611686018427387904) (by simp)
  have hfl : fl.length < 4611686018427387904 := hp (pLen fl < 4611686018427387904) (by simp)
  have hq : ∀ q ∈ fl, pLen q.1 < 4611686018427387904 := hp (∀ q ∈ fl, pLen q.1 < 4611686018427387904) (by simp)
  clear hp
  have ne : ∀ {e : Int}, pNe e 0 = true → pEq e 0 = false := fun h => by simpa [pNe, pEq] using h
  have ne2 : ∀ {e z : Int}, pNe e z = false → e = z := fun h => by simpa [pNe] using h
  have ne3 : ∀ {e z : Int}, pNe e z = true → e ≠ z := fun h => by simpa [pNe] using h
  unfold Take_VC Take_t0 Take_t1 Take_v0 Take_v1 Take_v2 Take_v3 Take_v4
  refine ⟨hc, hfl, hq, bif_ok (fun h => take_err ?_ (ne h)) fun h => ?_⟩
  · unfold takeE; rw [ne h]; rfl
  have hf : pEq (flyF (cn, cl, cp, ()) fl) 0 = true := by rw [ne2 h]; rfl
  have t0 : inF k 2 4 = true → Take_t0 cn cl cp fl u v i k := by
    intro hk
    have hE := takeE_ok (u := u) (v := v) (i := i) hf hk
    have bad : mayGo (cn, cl, cp, ()) u v i = false → Take_t1 cn cl cp fl u v i k := fun h => take_err (by rw [hE, h]; rfl) rfl
    have eM : mayGo (cn, cl, cp, ()) u v i = (!pLt u 0 && !pGe u cn && (!pLt v 0 && !pGe v cn) && !pLt i 0) := by
      show (pLe 0 u && pLt u cn && (pLe 0 v && pLt v cn) && pLe 0 i) = _
      rw [le_lt (a := 0) (b := u), le_lt (a := 0) (b := v), le_lt (a := 0) (b := i), lt_ge (a := u) (b := cn), lt_ge (a := v) (b := cn)]
    unfold Take_t0
    refine bif_ok (fun a => bad (by rw [eM, a]; rfl)) fun a => bif_ok (fun b => bad (by rw [eM, a, b]; rfl)) fun b => bif_ok (fun c => bad (by rw [eM, a, b, c]; rfl)) fun c => bif_ok (fun d => bad (by rw [eM, a, b, c, d]; rfl)) fun d =>
      bif_ok (fun e => bad (by rw [eM, a, b, c, d, e]; rfl)) fun e => ?_
    have hg : mayGo (cn, cl, cp, ()) u v i = true := by rw [eM, a, b, c, d, e]; rfl
    obtain ⟨g1, g2, g3, g4, g5⟩ := mayGo_of hg
    have hin : pIn (wayI (cn, cl, cp, ()) u v) (pLen fl) := way_in hf g1 g2 g3 g4 rfl
    rw [hg, cond_true] at hE
    have hr : (wayR (cn, cl, cp, ()) fl u v).length ≤ 30 := row_le (fly_ok hf).2.2 _
    refine ⟨rows_ok hf, hin, bif_ok (fun z => take_err ?_ rfl) fun z => ?_⟩
    · rw [hE, show pEq (pInt (pLen (wayR (cn, cl, cp, ()) fl u v))) 0 = true from z]; rfl
    have z' : pEq (pInt (pLen (wayR (cn, cl, cp, ()) fl u v))) 0 = false := z
    rw [z', cond_false] at hE
    have hn0 : (wayR (cn, cl, cp, ()) fl u v).length ≠ 0 := fun h0 => by
      rw [show pLen (wayR (cn, cl, cp, ()) fl u v) = 0 from h0] at z'; cases z'
    have hmod : pIn (takeI (cn, cl, cp, ()) fl u v i) (wayR (cn, cl, cp, ()) fl u v).length := rem_in g5 hn0
    refine ⟨hin, rfl, ?_, hin, rfl, hmod, bif_ok (fun k4 => ⟨hin, rfl, bif_ok (fun w => take_err ?_ rfl) fun w => ⟨hin, rfl, ?_, hin, rfl, take_copy ?_ k4⟩⟩) fun k4 => ⟨hin, rfl, hmod, rfl, ?_, hin, rfl, take_del ?_ k4⟩⟩
    · show ((wayR (cn, cl, cp, ()) fl u v).length : Int) ≠ 0
      omega
    · rw [hE, k4, show pEq (pInt (pLen (wayR (cn, cl, cp, ()) fl u v))) 30 = true from w]; rfl
    · show ((wayR (cn, cl, cp, ()) fl u v).length + 1) * 96 ≤ 140737488351232
      omega
    · rw [hE, k4, show pEq (pInt (pLen (wayR (cn, cl, cp, ()) fl u v))) 30 = false from w]; rfl
    · show (wayR (cn, cl, cp, ()) fl u v).length < 4611686018427387904
      omega
    · rw [hE, k4]; rfl
  refine bif_ok (fun a => bif_ok (fun b => bif_ok (fun c => take_err ?_ rfl) fun c => t0 ?_) fun b => t0 ?_) fun a => t0 ?_
  · have hk : inF k 2 4 = false := inF_not.2 fun ⟨h1, h2⟩ => by
      have := ne3 a; have := ne3 b; have := ne3 c; omega
    unfold takeE; rw [hf, hk]; rfl
  · rw [ne2 c]; rfl
  · rw [ne2 b]; rfl
  · rw [ne2 a]; rfl

theorem TakenOf_ok : Meets Tryd.prog tabsM 17 cTakenOf := TakenOf_meets FlyingFault_ok In_ok.any FlyingCopy_ok.any fun cn cl cp fl u v i k hp => by
  have hc : cl.length < 4611686018427387904 := hp (pLen cl < 4611686018427387904) (by simp)
  have hfl : fl.length < 4611686018427387904 := hp (pLen fl < 4611686018427387904) (by simp)
  have hq : ∀ q ∈ fl, pLen q.1 < 4611686018427387904 := hp (∀ q ∈ fl, pLen q.1 < 4611686018427387904) (by simp)
  clear hp
  have ne : ∀ {e : Int}, pNe e 0 = true → pEq e 0 = false := fun h => by simpa [pNe, pEq] using h
  have ne4 : ∀ {e : Int}, pEq e 0 = false → pNe e 0 = true := fun h => by simpa [pNe, pEq] using h
  have ne2 : ∀ {e z : Int}, pNe e z = false → e = z := fun h => by simpa [pNe] using h
  have pn : ∀ {b : Bool}, pNot b = true → b = false := fun h => by simpa [pNot] using h
  have pn2 : ∀ {b : Bool}, pNot b = false → b = true := fun h => by simpa [pNot] using h
  -- what is on its way may not be
  have off : pEq (flyF (cn, cl, cp, ()) fl) 0 = false → TakenOf_t2 cn cl cp fl u v i k := by
    intro h
    unfold TakenOf_t2
    rw [bif_true (ne4 h)]
    exact take_err (by unfold takeE; rw [h]; rfl) h
  have t2 : pEq (flyF (cn, cl, cp, ()) fl) 0 = true → inF k 2 4 = true → mayGo (cn, cl, cp, ()) u v i = true → TakenOf_t2 cn cl cp fl u v i k := by
    intro hf hk hg
    have hE := takeE_ok (u := u) (v := v) (i := i) hf hk
    obtain ⟨g1, g2, g3, g4, g5⟩ := mayGo_of hg
    have hin : pIn (wayI (cn, cl, cp, ()) u v) (pLen fl) := way_in hf g1 g2 g3 g4 rfl
    rw [hg, cond_true] at hE
    have hr : (wayR (cn, cl, cp, ()) fl u v).length ≤ 30 := row_le (fly_ok hf).2.2 _
    unfold TakenOf_t2
    rw [bif_false (show pNe (flyF (cn, cl, cp, ()) fl) 0 = false by rw [eq_of hf]; rfl)]
    refine ⟨hin, bif_ok (fun z => take_err ?_ rfl) fun z => ?_⟩
    · rw [hE, show pEq (pInt (pLen (wayR (cn, cl, cp, ()) fl u v))) 0 = true from z]; rfl
    have z' : pEq (pInt (pLen (wayR (cn, cl, cp, ()) fl u v))) 0 = false := z
    rw [z', cond_false] at hE
    have hn0 : (wayR (cn, cl, cp, ()) fl u v).length ≠ 0 := fun h0 => by
      rw [show pLen (wayR (cn, cl, cp, ()) fl u v) = 0 from h0] at z'; cases z'
    have hmod : pIn (takeI (cn, cl, cp, ()) fl u v i) (wayR (cn, cl, cp, ()) fl u v).length := rem_in g5 hn0
    have hnz : pNz (pInt (pLen (wayR (cn, cl, cp, ()) fl u v))) := by
      show ((wayR (cn, cl, cp, ()) fl u v).length : Int) ≠ 0
      omega
    have room : ∀ n : Nat, n ≤ 100 → pRoom n 96 := fun n h => by show n * 96 ≤ 140737488351232; omega
    have t3 : (pEq k 4 = true → pEq (pInt (pLen (wayR (cn, cl, cp, ()) fl u v))) 30 = false) → TakenOf_t3 cn cl cp fl u v i k := by
      intro h30
      unfold TakenOf_t3
      refine ⟨rows_ok hf, hin, hnz, hmod, bif_ok (fun k4 => ⟨hin, room _ ?_, hin, rfl, take_copy ?_ k4⟩) fun k4 => ⟨⟨0, by rw [delK_zero]; rfl, Nat.zero_le _⟩, fun y hy => ?_⟩⟩
      · show (wayR (cn, cl, cp, ()) fl u v).length + 1 ≤ 100
        omega
      · rw [hE, k4, h30 k4]; rfl
      obtain ⟨j, rfl, hj⟩ := hy
      have hb : j < 4611686018427387904 := by omega
      have hl2 := delK_len (l := wayR (cn, cl, cp, ()) fl u v) (i := pNat (takeI (cn, cl, cp, ()) fl u v i)) (j := j)
      have eI : takeI (cn, cl, cp, ()) fl u v i = ((pNat (takeI (cn, cl, cp, ()) fl u v i) : Nat) : Int) := (Int.toNat_of_nonneg hmod.1).symm
      dsimp only
      by_cases hjn : j < (wayR (cn, cl, cp, ()) fl u v).length
      · rw [bif_true (show pLt (j : Int) (pInt (pLen (TakenOf_v0 cn fl u v).1)) = true by rw [pLt_coe]; exact decide_eq_true hjn), pNat_coe]
        refine ⟨hnz, bif_ok (fun w => ⟨hin, pIn_coe.2 hjn, room _ ?_, ⟨j + 1, ?_, hjn⟩, mu_step hjn hb⟩) fun w => ⟨⟨j + 1, ?_, hjn⟩, mu_step hjn hb⟩⟩
        · show (delK (wayR (cn, cl, cp, ()) fl u v) (pNat (takeI (cn, cl, cp, ()) fl u v i)) j).length + 1 ≤ 100
          omega
        · have w' : pNe (j : Int) (takeI (cn, cl, cp, ()) fl u v i) = true := w
          rw [eI] at w'
          rw [pAdd1 hb, ← delK_add hjn (fun h => by rw [h] at w'; simp [pNe] at w')]
          rfl
        · have w' : pNe (j : Int) (takeI (cn, cl, cp, ()) fl u v i) = false := w
          rw [eI] at w'
          have : j = pNat (takeI (cn, cl, cp, ()) fl u v i) := by have := ne2 w'; omega
          rw [pAdd1 hb, this, delK_skip]
      · obtain rfl : j = (wayR (cn, cl, cp, ()) fl u v).length := by omega
        rw [bif_false (show pLt ((wayR (cn, cl, cp, ()) fl u v).length : Int) (pInt (pLen (TakenOf_v0 cn fl u v).1)) = false by rw [pLt_coe]; exact decide_eq_false (Nat.lt_irrefl _))]
        refine ⟨hin, ?_⟩
        rw [delK_end (pNat_lt hmod)]
        exact take_del (by rw [hE, k4]; rfl) k4
    refine bif_ok (fun k4 => bif_ok (fun w => take_err ?_ rfl) fun w => t3 fun _ => ?_) fun k4 => t3 fun h => ?_
    · have w' : 30 ≤ ((wayR (cn, cl, cp, ()) fl u v).length : Int) := of_decide_eq_true w
      rw [hE, k4, show pEq (pInt (pLen (wayR (cn, cl, cp, ()) fl u v))) 30 = true by unfold pEq pInt pLen; rw [beq_iff_eq]; omega]; rfl
    · have w' : ¬ 30 ≤ ((wayR (cn, cl, cp, ()) fl u v).length : Int) := of_decide_eq_false w
      unfold pEq pInt pLen
      rw [beq_eq_false_iff_ne]; omega
    · rw [k4] at h; cases h
  unfold TakenOf_VC TakenOf_t0 TakenOf_t2 TakenOf_t3 TakenOf_t1 TakenOf_v0 TakenOf_v1 TakenOf_v2 TakenOf_v3 TakenOf_v4
  refine ⟨hc, hfl, hq, bif_ok (fun hf => bif_ok (fun a => take_err ?_ rfl) fun a => ?_) fun hf => ?_⟩
  · unfold takeE; rw [hf, pn a]; rfl
  · have hk := pn2 a
    have hE := takeE_ok (u := u) (v := v) (i := i) hf hk
    obtain ⟨h1, h4⟩ := (fly_ok hf).1
    have bad : mayGo (cn, cl, cp, ()) u v i = false → TakenOf_t1 cn cl cp fl u v i k := fun h => take_err (by rw [hE, h]; rfl) rfl
    have eM : mayGo (cn, cl, cp, ()) u v i = (inF u 0 (pSubI .i64 cn 1) && inF v 0 (pSubI .i64 cn 1) && !pLt i 0) := by
      show (pLe 0 u && pLt u cn && (pLe 0 v && pLt v cn) && pLe 0 i) = _
      rw [inF_me h1 h4, inF_me h1 h4, le_lt (a := 0) (b := i)]
    rw [bif_true hf]
    refine bif_ok (fun a => bad (by rw [eM, pn a]; rfl)) fun a => bif_ok (fun b => bad (by rw [eM, pn2 a, pn b]; rfl)) fun b => bif_ok (fun c => bad (by rw [eM, pn2 a, pn2 b, c]; rfl)) fun c => t2 hf hk (by rw [eM, pn2 a, pn2 b, c]; rfl)
  · rw [bif_false hf]
    exact off hf

theorem takeF_short {c : CfgD} {fl : List RowD} {u v i k : Int} (hl : fl.length < 4611686018427387904) : pLen (takeF c fl u v i k) < 4611686018427387904 ∧ ∀ q ∈ takeF c fl u v i k, pLen q.1 < 4611686018427387904 := by
  unfold takeF
  cases h : pEq (takeE c fl u v i k) 0 with
  | false => exact ⟨by show 0 < 4611686018427387904; decide, fun q hq => by cases hq⟩
  | true =>
    have hf : pEq (flyF c fl) 0 = true := by
      cases hf : pEq (flyF c fl) 0 with
      | true => rfl
      | false => unfold takeE at h; rw [hf, cond_false, hf] at h; cases h
    have hs := (fly_ok hf).2.2
    have hr : (wayR c fl u v).length ≤ 30 := row_le hs _
    refine ⟨?_, fun q hq => ?_⟩
    · show (List.set fl _ _).length < _
      rw [List.length_set]; exact hl
    · rcases List.mem_or_eq_of_mem_set hq with hq | rfl
      · exact Nat.lt_of_le_of_lt (hs.2 q hq) (by decide)
      · cases pEq k 4 with
        | true =>
          show ((wayR c fl u v) ++ [takeG c fl u v i]).length < 4611686018427387904
          rw [List.length_append]
          show (wayR c fl u v).length + 1 < 4611686018427387904
          omega
        | false =>
          show (pDel (wayR c fl u v) (pNat (takeI c fl u v i))).length < 4611686018427387904
          unfold pDel
          rw [List.length_append, List.length_take, List.length_drop]
          omega
theorem eqMsg_refl (m : MsgD) : eqMsg m m = true := by simp [eqMsg, pAndB, pEq, pBeq]
theorem takes_vc (cn : Int) (cl : List LabD) (cp : Int) (fl : List RowD) (u v i k : Int) (h1 : cl.length < 4611686018427387904) (h2 : RowsOk fl) : NetTakes_VC cn cl cp fl u v i k := by
  have hfl : fl.length < 4611686018427387904 := room62 (by decide) h2.1
  have hq : ∀ q ∈ fl, pLen q.1 < 4611686018427387904 := fun q hq => room62 (by decide) (h2.2 q hq)
  have hs := takeF_short (c := (cn, cl, cp, ())) (u := u) (v := v) (i := i) (k := k) hfl
  unfold NetTakes_VC NetTakes_v0
  refine ⟨h2, h1, hfl, hq, h1, hfl, hq, bif_ok (fun _ => bif_ok (fun _ => ⟨hs.1, hs.2, bif_ok (fun _ => ⟨hfl, hq, by rw [sameFly_refl]⟩) fun h => ?_⟩) fun h => ?_) fun h => ?_⟩
  · rw [sameFly_refl] at h; cases h
  · have h' : eqMsg (takeM (cn, cl, cp, ()) fl u v i k) (takeM (cn, cl, cp, ()) fl u v i k) = false := h
    rw [eqMsg_refl] at h'; cases h'
  · simp [pEq] at h


end Go.Proofs.YtgocemdodabgkaaDoor
