/- The configuration's checks meet their contracts. No condition. -/
import Derived.Test.YtjedpmnbeiiegaaCkV
namespace Go.Proofs.Ytjedpmnbeiiegaa
open Go.RowKit

theorem In_ok : Meets Try.prog (fun _ => none) 12 cIn := In_meets fun a b c => by
  unfold In_VC
  simp only [pGe, pLe, Bool.cond_eq_ite, decide_eq_true_eq, Prod.mk.injEq, eq_self, and_true, inF]
  repeat' split
  all_goals (rw [Bool.eq_iff_iff]; simp only [Bool.and_eq_true, decide_eq_true_eq, Bool.false_eq_true]; constructor <;> intro h <;> first | omega | exact h.elim)
theorem one_ok : Meets Try.prog (fun _ => none) 19 cone := one_meets fun a b => by
  unfold one_VC
  simp only [pGe, pLe, Bool.cond_eq_ite, decide_eq_true_eq, Prod.mk.injEq, eq_self, and_true, inF, labF]
  repeat' split
  all_goals (rw [Bool.eq_iff_iff]; simp only [Bool.and_eq_true, decide_eq_true_eq, Bool.false_eq_true]; constructor <;> intro h <;> first | omega | exact h.elim)

theorem cfgF_sites {c : CfgD} (h : inF c.1 1 4 = false) : cfgF c = 2 := by unfold cfgF; rw [h]; rfl
theorem cfgF_len {c : CfgD} (h1 : inF c.1 1 4 = true) (h : inF (pInt c.2.1.length) 1 6 = false) : cfgF c = 1 := by unfold cfgF; rw [h1, h]; rfl
theorem cfgF_first {c : CfgD} {n : Int} (h1 : inF c.1 1 4 = true) (h2 : inF (pInt c.2.1.length) 1 6 = true) (h : firstE (labE c.2.1) c.2.1.length = n) (hn : pEq n 0 = false) : cfgF c = n := by
  unfold cfgF; rw [h1, h2, h, hn]; rfl
theorem cfgF_end {c : CfgD} (h1 : inF c.1 1 4 = true) (h2 : inF (pInt c.2.1.length) 1 6 = true) (h : firstE (labE c.2.1) c.2.1.length = 0) : cfgF c = cond (inF c.2.2.1 1 1048576) 0 2 := by
  unfold cfgF; rw [h1, h2, h]; rfl
theorem inF_iff {x a b : Int} : inF x a b = true ↔ a ≤ x ∧ x ≤ b := by simp [inF, pLe]
theorem inF_not {x a b : Int} : inF x a b = false ↔ ¬ (a ≤ x ∧ x ≤ b) := by rw [← inF_iff]; simp

theorem labE_bad {l : List LabD} {k : Nat} (h : labF (pGet tyLab l k) = false) : labE l k = 2 := by unfold labE; rw [h]; rfl
theorem labE_ok {l : List LabD} {k : Nat} (h : labF (pGet tyLab l k) = true) : labE l k = cond (allUpto (fun i => !eqLabAt l i k) k) 0 7 := by unfold labE; rw [h]; rfl

/-- the loop over the labels, behind the first two tests -/
theorem cfg_round {c : CfgD} (h1 : inF c.1 1 4 = true) (h2 : inF (pInt c.2.1.length) 1 6 = true) {k : Nat} (hk : pEq (labE c.2.1 k) 0 = false → firstE (labE c.2.1) c.2.1.length = labE c.2.1 k)
    (h : labF (pGet tyLab c.2.1 k) = false) : ((2 : Int), ()) = (cfgF c, ()) := by
  rw [cfgF_first h1 h2 (n := 2) (by rw [hk (by rw [labE_bad h]; rfl), labE_bad h]) rfl]
theorem cfg_twice {c : CfgD} (h1 : inF c.1 1 4 = true) (h2 : inF (pInt c.2.1.length) 1 6 = true) {k : Nat} (hk : pEq (labE c.2.1 k) 0 = false → firstE (labE c.2.1) c.2.1.length = labE c.2.1 k)
    (h : labF (pGet tyLab c.2.1 k) = true) (ha : allUpto (fun i => !eqLabAt c.2.1 i k) k = false) : ((7 : Int), ()) = (cfgF c, ()) := by
  have e : labE c.2.1 k = 7 := by rw [labE_ok h, ha]; rfl
  rw [cfgF_first h1 h2 (n := 7) (by rw [hk (by rw [e]; rfl), e]) rfl]

theorem lB_start {cn : Int} {cl : List LabD} {cp : Int} {k : Nat} : lCheckBInv cn cl cp (k : Int) (0, ()) := UpInv.start
theorem lB_round {cn : Int} {cl : List LabD} {cp : Int} {k : Nat} {z : denVars [.slot 41 false tI]} (hk : k < 4611686018427387904) (h : lCheckBInv cn cl cp (k : Int) z) :
    (∃ i : Nat, z = ((i : Int), ()) ∧ i < k ∧ i < 4611686018427387904 ∧ (eqLabAt cl i k = true → allUpto (fun i => !eqLabAt cl i k) k = false) ∧
      (eqLabAt cl i k = false → lCheckBInv cn cl cp (k : Int) (pAdd .i64 (i : Int) 1, ()) ∧ Nat.le (Nat.succ (lCheckBMu cn cl cp (k : Int) (pAdd .i64 (i : Int) 1, ()))) (lCheckBMu cn cl cp (k : Int) ((i : Int), ())))) ∨
    (z = ((k : Int), ()) ∧ allUpto (fun i => !eqLabAt cl i k) k = true) := by
  unfold lCheckBInv lCheckBMu at *
  simp only [pNat_coe] at h ⊢
  rcases UpInv.round hk h with ⟨i, hz, hi, hib, _, hF, hT⟩ | h
  · exact .inl ⟨i, hz, hi, hib, fun h => hF (by simp [h]), fun h => hT (by simp [h])⟩
  · exact .inr h

theorem lCheck_ok : Meets Try.prog (fun _ => none) 9 clCheck := lCheck_meets one_ok fun cn cl cp hp => by
  have hl : cl.length < 4611686018427387904 := hp _ List.mem_cons_self
  unfold lCheck_VC
  simp only [pLen]
  cases hb1 : pLt cn 1
  case true => exact congrArg (·, ()) (cfgF_sites (by rw [inF_not]; simp only [pLt, decide_eq_true_eq] at hb1; omega)).symm
  cases hb2 : pGt cn 4
  case true => exact congrArg (·, ()) (cfgF_sites (by rw [inF_not]; simp only [pGt, decide_eq_true_eq] at hb2; simp only; omega)).symm
  have h1 : inF cn 1 4 = true := by rw [inF_iff]; simp only [pLt, pGt, decide_eq_false_iff_not] at hb1 hb2; omega
  cases hb3 : pLt (pInt cl.length) 1
  case true => exact congrArg (·, ()) (cfgF_len h1 (by rw [inF_not]; simp only [pLt, decide_eq_true_eq] at hb3; simp only; omega)).symm
  cases hb4 : pGt (pInt cl.length) 6
  case true => exact congrArg (·, ()) (cfgF_len h1 (by rw [inF_not]; simp only [pGt, decide_eq_true_eq] at hb4; simp only; omega)).symm
  have h2 : inF (pInt cl.length) 1 6 = true := by rw [inF_iff]; simp only [pLt, pGt, decide_eq_false_iff_not] at hb3 hb4; omega
  refine ⟨UpInv.start, fun y hy => ?_⟩
  rcases FirstInv.round hl hy with ⟨k, rfl, hk, hb, hF, hT⟩ | ⟨rfl, hT⟩
  · simp only [pLt_coe, pLen, hk, decide_true, cond_true, pIn_coe, pNat_coe, true_and]
    cases hlab : labF (pGet tyLab cl k)
    case false => exact cfg_round (c := (cn, cl, cp, ())) h1 h2 hF hlab
    refine ⟨by rw [pTo_coe]; omega, lB_start, fun z hz => ?_⟩
    rcases lB_round hb hz with ⟨i, rfl, hi, hib, hiF, hiT⟩ | ⟨rfl, hiT⟩
    · rw [pSub0_len (by omega), bif_true (show pLt (i : Int) (pInt k) = true from by simp [pLt_coe, hi])]
      refine ⟨pIn_coe.2 hi, ?_⟩
      rw [pNat_coe, pGet_sub0 hi]
      have e : pAndB (pEq (pGet tyLab cl i).1 (pGet tyLab cl k).1) (pEq (pGet tyLab cl i).2.1 (pGet tyLab cl k).2.1) = eqLabAt cl i k := rfl
      rw [e]
      cases hq : eqLabAt cl i k with
      | true => exact cfg_twice (c := (cn, cl, cp, ())) h1 h2 hF hlab (hiF hq)
      | false => exact hiT hq
    · rw [pSub0_len (by omega), bif_false (show pLt (k : Int) (pInt k) = false from by simp [pLt_coe])]
      exact hT (by rw [labE_ok hlab, hiT]; rfl)
  · simp only [pLt_coe, Nat.lt_irrefl, decide_false, cond_false]
    rw [cfgF_end (c := (cn, cl, cp, ())) h1 h2 hT]
    simp only [pLt, pGt, Bool.cond_eq_ite, decide_eq_true_eq, inF_iff]
    repeat' split
    all_goals first | rfl | (exfalso; omega)

theorem cFault_ok : Meets Try.prog (fun _ => none) 11 ccFault := cFault_meets In_ok fun cn cl cp hp => by
  have hl : cl.length < 4611686018427387904 := hp _ List.mem_cons_self
  unfold cFault_VC
  cases h1 : inF cn 1 4
  case false => exact congrArg (·, ()) (cfgF_sites h1).symm
  simp only [pLen]
  cases h2 : inF (pInt cl.length) 1 6
  case false => exact congrArg (·, ()) (cfgF_len h1 h2).symm
  refine ⟨UpInv.start, fun y hy => ?_⟩
  rcases FirstInv.round hl hy with ⟨k, rfl, hk, hb, hF, hT⟩ | ⟨rfl, hT⟩
  · simp only [pLt_coe, hk, decide_true, cond_true, pIn_coe, pNat_coe, true_and]
    cases ha : inF (pGet tyLab cl k).1 0 9
    case false => exact cfg_round (c := (cn, cl, cp, ())) h1 h2 hF (by unfold labF; rw [ha]; rfl)
    cases hc : inF (pGet tyLab cl k).2.1 0 15
    case false => exact cfg_round (c := (cn, cl, cp, ())) h1 h2 hF (by unfold labF; rw [ha, hc]; rfl)
    have hlab : labF (pGet tyLab cl k) = true := by unfold labF; rw [ha, hc]; rfl
    refine ⟨lB_start, fun z hz => ?_⟩
    rcases lB_round hb hz with ⟨i, rfl, hi, hib, hiF, hiT⟩ | ⟨rfl, hiT⟩
    · have hi2 : i < cl.length := by omega
      rw [bif_true (show pLt (i : Int) (k : Int) = true from by simp [pLt, hi])]
      refine ⟨pIn_coe.2 hi2, ?_⟩
      rw [pNat_coe]
      have e : pAndB (pEq (pGet tyLab cl i).1 (pGet tyLab cl k).1) (pEq (pGet tyLab cl i).2.1 (pGet tyLab cl k).2.1) = eqLabAt cl i k := rfl
      rw [e]
      cases hq : eqLabAt cl i k with
      | true => exact cfg_twice (c := (cn, cl, cp, ())) h1 h2 hF hlab (hiF hq)
      | false => exact hiT hq
    · rw [show pLt (k : Int) (k : Int) = false from by simp [pLt]]
      exact hT (by rw [labE_ok hlab, hiT]; rfl)
  · simp only [pLt_coe, Nat.lt_irrefl, decide_false, cond_false]
    rw [cfgF_end (c := (cn, cl, cp, ())) h1 h2 hT]
    cases inF cp 1 1048576 <;> rfl

theorem pSub_len1 {n : Nat} (h : n < 4611686018427387904) : pSubI .i64 (pInt n) 1 = (n : Int) - 1 := by unfold pInt; rw [pSubI_in (by omega)]
theorem labelMay_ok : Meets Try.prog (fun _ => none) 17 clabelMay := labelMay_meets In_ok fun cn cl cp l hp => by
  have hl : cl.length < 4611686018427387904 := hp _ List.mem_cons_self
  unfold labelMay_VC
  rw [pLen, pSub_len1 hl]
  refine congrArg (·, ()) ?_
  rw [Bool.eq_iff_iff]
  simp only [pInt, placeF]
  simp only [inF, pLe, pLt, Bool.and_eq_true, decide_eq_true_eq]
  omega
theorem task_ok : Meets Try.prog (fun _ => none) 20 ctask := task_meets fun cn cl cp tw tl tk tv te ta td ts hp => by
  unfold task_VC
  have hf : taskF (cn, cl, cp, ()) (tw, tl, tk, tv, te, ta, td, ts, ()) = (pLe 0 tl && pLt tl (pInt cl.length) && inF tk 0 7 && inF tv 0 1073741824 && inF te 0 1048576 && inF ta 1 1048576 && (td || (!ts && (tw || (pEq tv 0 && pEq te 0))))) := rfl
  rw [hf]
  simp only [pLen]
  cases h1 : pLt tl 0
  case true => exact congrArg (·, ()) (by simp only [pLt, pLe, decide_eq_true_eq] at h1 ⊢; simp only [show ¬ (0 ≤ tl) from by omega, decide_false, Bool.false_and])
  cases h2 : pGe tl (pInt cl.length)
  case true => exact congrArg (·, ()) (by simp only [pLt, pGe, decide_eq_true_eq] at h2 ⊢; simp only [show ¬ (tl < pInt cl.length) from by omega, decide_false, Bool.false_and, Bool.and_false])
  cases h3 : pLt tk 0
  case true => exact congrArg (·, ()) (by rw [show inF tk 0 7 = false from by rw [inF_not]; simp only [pLt, decide_eq_true_eq] at h3; omega]; simp only [Bool.false_and, Bool.and_false])
  cases h4 : pGe tk 8
  case true => exact congrArg (·, ()) (by rw [show inF tk 0 7 = false from by rw [inF_not]; simp only [pGe, decide_eq_true_eq] at h4; omega]; simp only [Bool.false_and, Bool.and_false])
  cases h5 : pLt tv 0
  case true => exact congrArg (·, ()) (by rw [show inF tv 0 1073741824 = false from by rw [inF_not]; simp only [pLt, decide_eq_true_eq] at h5; omega]; simp only [Bool.false_and, Bool.and_false])
  cases h6 : pGt tv 1073741824
  case true => exact congrArg (·, ()) (by rw [show inF tv 0 1073741824 = false from by rw [inF_not]; simp only [pGt, decide_eq_true_eq] at h6; omega]; simp only [Bool.false_and, Bool.and_false])
  cases h7 : pLt te 0
  case true => exact congrArg (·, ()) (by rw [show inF te 0 1048576 = false from by rw [inF_not]; simp only [pLt, decide_eq_true_eq] at h7; omega]; simp only [Bool.false_and, Bool.and_false])
  cases h8 : pGt te 1048576
  case true => exact congrArg (·, ()) (by rw [show inF te 0 1048576 = false from by rw [inF_not]; simp only [pGt, decide_eq_true_eq] at h8; omega]; simp only [Bool.false_and, Bool.and_false])
  cases h9 : pLt ta 1
  case true => exact congrArg (·, ()) (by rw [show inF ta 1 1048576 = false from by rw [inF_not]; simp only [pLt, decide_eq_true_eq] at h9; omega]; simp only [Bool.false_and, Bool.and_false])
  cases h10 : pGt ta 1048576
  case true => exact congrArg (·, ()) (by rw [show inF ta 1 1048576 = false from by rw [inF_not]; simp only [pGt, decide_eq_true_eq] at h10; omega]; simp only [Bool.false_and, Bool.and_false])
  simp only [pLt, pGt, pGe, decide_eq_false_iff_not] at h1 h2 h3 h4 h5 h6 h7 h8 h9 h10
  have e1 : pLe 0 tl = true := by simp only [pLe, decide_eq_true_eq]; omega
  have e2 : pLt tl (pInt cl.length) = true := by simp only [pLt, decide_eq_true_eq]; omega
  have e3 : inF tk 0 7 = true := by rw [inF_iff]; omega
  have e4 : inF tv 0 1073741824 = true := by rw [inF_iff]; omega
  have e5 : inF te 0 1048576 = true := by rw [inF_iff]; omega
  have e6 : inF ta 1 1048576 = true := by rw [inF_iff]; omega
  have e7 : pEq (pAdd .i64 tv te) 0 = (pEq tv 0 && pEq te 0) := by
    rw [pAdd_in (by omega), Bool.eq_iff_iff]; simp only [pEq, beq_iff_eq, Bool.and_eq_true]; omega
  rw [e1, e2, e3, e4, e5, e6, e7]
  cases td <;> cases ts <;> cases tw <;> rfl
theorem taskMay_ok : Meets Try.prog (fun _ => none) 21 ctaskMay := taskMay_meets In_ok labelMay_ok fun cn cl cp tw tl tk tv te ta td ts hp => by
  have hl : cl.length < 4611686018427387904 := hp _ List.mem_cons_self
  unfold taskMay_VC
  refine ⟨hl, ?_⟩
  simp only [taskF]
  cases placeF (cn, cl, cp, ()) tl <;> cases inF tk 0 7 <;> cases inF tv 0 1073741824 <;> cases inF te 0 1048576 <;> cases inF ta 1 1048576 <;> cases td <;> cases ts <;> cases tw <;> cases pEq tv 0 <;> simp [pNot]

end Go.Proofs.Ytjedpmnbeiiegaa
