/- The configuration's checks meet their contracts. No condition. -/
import Derived.Test.YtkhnakdmkhidbaaPbC
import Derived.Test.YtkhnakdmkhidbaaSmL
namespace Go.Proofs.Ytkhnakdmkhidbaa
open Go.RowKit

theorem one_ok : Meets Try.prog (fun _ => none) 62 cone := one_meets fun a b => by
  unfold one_VC
  simp only [pGe, pLe, Bool.cond_eq_ite, decide_eq_true_eq, Prod.mk.injEq, eq_self, and_true, inF, labF]
  repeat' split
  all_goals (rw [Bool.eq_iff_iff]; simp only [Bool.and_eq_true, decide_eq_true_eq, Bool.false_eq_true]; constructor <;> intro h <;> first | omega | exact h.elim)

theorem cfgF_sites {c : CfgD} (h : inF c.1 1 4 = false) : cfgF c = 2 := by unfold cfgF; rw [h]; rfl
theorem cfgF_len {c : CfgD} (h1 : inF c.1 1 4 = true) (h : inF (pInt c.2.1.length) 1 6 = false) : cfgF c = 1 := by unfold cfgF; rw [h1, h]; rfl
theorem cfgF_first {c : CfgD} {n : Int} (h1 : inF c.1 1 4 = true) (h2 : inF (pInt c.2.1.length) 1 6 = true) (h : firstE (labE c.2.1) c.2.1.length = n) (hn : pEq n 0 = false) : cfgF c = n := by
  unfold cfgF; rw [h1, h2, h, hn]; rfl
theorem cfgF_end {c : CfgD} (h1 : inF c.1 1 4 = true) (h2 : inF (pInt c.2.1.length) 1 6 = true) (h : firstE (labE c.2.1) c.2.1.length = 0) : cfgF c = cond (inF c.2.2.1 1 1048576) 0 2 := by
  unfold cfgF; rw [h1, h2, h]; rfl
theorem inF_iff {x a b : Int} : inF x a b = true ↔ a ≤ x ∧ x ≤ b := by simp [inF, pLe]
theorem inF_not {x a b : Int} : inF x a b = false ↔ ¬ (a ≤ x ∧ x ≤ b) := by rw [← inF_iff]; simp

theorem labE_bad {l : List LabD} {k : Nat} (h : labF (pGet tyLab l k) = false) : labE l k = 2 := by unfold labE; rw [h]; rfl
theorem labE_ok {l : List LabD} {k : Nat} (h : labF (pGet tyLab l k) = true) : labE l k = cond (allUpto (fun i => !eqLabAt l i k) k) 0 7 := by unfold labE; rw [h]; rfl

/-- the loop over the labels, behind the first two tests -/
theorem cfg_round {c : CfgD} (h1 : inF c.1 1 4 = true) (h2 : inF (pInt c.2.1.length) 1 6 = true) {k : Nat} (hk : pEq (labE c.2.1 k) 0 = false → firstE (labE c.2.1) c.2.1.length = labE c.2.1 k)
    (h : labF (pGet tyLab c.2.1 k) = false) : ((2 : Int), ()) = (cfgF c, ()) := by
  rw [cfgF_first h1 h2 (n := 2) (by rw [hk (by rw [labE_bad h]; rfl), labE_bad h]) rfl]
theorem cfg_twice {c : CfgD} (h1 : inF c.1 1 4 = true) (h2 : inF (pInt c.2.1.length) 1 6 = true) {k : Nat} (hk : pEq (labE c.2.1 k) 0 = false → firstE (labE c.2.1) c.2.1.length = labE c.2.1 k)
    (h : labF (pGet tyLab c.2.1 k) = true) (ha : allUpto (fun i => !eqLabAt c.2.1 i k) k = false) : ((7 : Int), ()) = (cfgF c, ()) := by
  have e : labE c.2.1 k = 7 := by rw [labE_ok h, ha]; rfl
  rw [cfgF_first h1 h2 (n := 7) (by rw [hk (by rw [e]; rfl), e]) rfl]

theorem lB_start {cn : Int} {cl : List LabD} {cp : Int} {k : Nat} : lCheckBInv cn cl cp (k : Int) (0, ()) := UpInv.start
theorem lB_round {cn : Int} {cl : List LabD} {cp : Int} {k : Nat} {z : denVars [.slot 41 false tI]} (hk : k < 4611686018427387904) (h : lCheckBInv cn cl cp (k : Int) z) :
    (∃ i : Nat, z = ((i : Int), ()) ∧ i < k ∧ i < 4611686018427387904 ∧ (eqLabAt cl i k = true → allUpto (fun i => !eqLabAt cl i k) k = false) ∧
      (eqLabAt cl i k = false → lCheckBInv cn cl cp (k : Int) (pAdd .i64 (i : Int) 1, ()) ∧ Nat.le (Nat.succ (lCheckBMu cn cl cp (k : Int) (pAdd .i64 (i : Int) 1, ()))) (lCheckBMu cn cl cp (k : Int) ((i : Int), ())))) ∨
    (z = ((k : Int), ()) ∧ allUpto (fun i => !eqLabAt cl i k) k = true) := by
  unfold lCheckBInv lCheckBMu at *
  simp only [pNat_coe] at h ⊢
  rcases UpInv.round hk h with ⟨i, hz, hi, hib, _, hF, hT⟩ | h
  · exact .inl ⟨i, hz, hi, hib, fun h => hF (by simp [h]), fun h => hT (by simp [h])⟩
  · exact .inr h

theorem lCheck_ok : Meets Try.prog (fun _ => none) 52 clCheck := lCheck_meets one_ok fun cn cl cp hp => by
  have hl : cl.length < 4611686018427387904 := hp _ List.mem_cons_self
  unfold lCheck_VC
  simp only [pLen]
  cases hb1 : pLt cn 1
  case true => exact congrArg (·, ()) (cfgF_sites (by rw [inF_not]; simp only [pLt, decide_eq_true_eq] at hb1; omega)).symm
  cases hb2 : pGt cn 4
  case true => exact congrArg (·, ()) (cfgF_sites (by rw [inF_not]; simp only [pGt, decide_eq_true_eq] at hb2; simp only; omega)).symm
  have h1 : inF cn 1 4 = true := by rw [inF_iff]; simp only [pLt, pGt, decide_eq_false_iff_not] at hb1 hb2; omega
  cases hb3 : pLt (pInt cl.length) 1
  case true => exact congrArg (·, ()) (cfgF_len h1 (by rw [inF_not]; simp only [pLt, decide_eq_true_eq] at hb3; simp only; omega)).symm
  cases hb4 : pGt (pInt cl.length) 6
  case true => exact congrArg (·, ()) (cfgF_len h1 (by rw [inF_not]; simp only [pGt, decide_eq_true_eq] at hb4; simp only; omega)).symm
  have h2 : inF (pInt cl.length) 1 6 = true := by rw [inF_iff]; simp only [pLt, pGt, decide_eq_false_iff_not] at hb3 hb4; omega
  refine ⟨UpInv.start, fun y hy => ?_⟩
  rcases FirstInv.round hl hy with ⟨k, rfl, hk, hb, hF, hT⟩ | ⟨rfl, hT⟩
  · simp only [pLt_coe, pLen, hk, decide_true, cond_true, pIn_coe, pNat_coe, true_and]
    cases hlab : labF (pGet tyLab cl k)
    case false => exact cfg_round (c := (cn, cl, cp, ())) h1 h2 hF hlab
    refine ⟨by rw [pTo_coe]; omega, lB_start, fun z hz => ?_⟩
    rcases lB_round hb hz with ⟨i, rfl, hi, hib, hiF, hiT⟩ | ⟨rfl, hiT⟩
    · rw [pSub0_len (by omega), bif_true (show pLt (i : Int) (pInt k) = true from by simp [pLt_coe, hi])]
      refine ⟨pIn_coe.2 hi, ?_⟩
      rw [pNat_coe, pGet_sub0 hi]
      have e : pAndB (pEq (pGet tyLab cl i).1 (pGet tyLab cl k).1) (pEq (pGet tyLab cl i).2.1 (pGet tyLab cl k).2.1) = eqLabAt cl i k := rfl
      rw [e]
      cases hq : eqLabAt cl i k with
      | true => exact cfg_twice (c := (cn, cl, cp, ())) h1 h2 hF hlab (hiF hq)
      | false => exact hiT hq
    · rw [pSub0_len (by omega), bif_false (show pLt (k : Int) (pInt k) = false from by simp [pLt_coe])]
      exact hT (by rw [labE_ok hlab, hiT]; rfl)
  · simp only [pLt_coe, Nat.lt_irrefl, decide_false, cond_false]
    rw [cfgF_end (c := (cn, cl, cp, ())) h1 h2 hT]
    simp only [pLt, pGt, Bool.cond_eq_ite, decide_eq_true_eq, inF_iff]
    repeat' split
    all_goals first | rfl | (exfalso; omega)

theorem cFault_ok : Meets Try.prog (fun _ => none) 53 ccFault := cFault_meets In_ok fun cn cl cp hp => by
  have hl : cl.length < 4611686018427387904 := hp _ List.mem_cons_self
  unfold cFault_VC
  cases h1 : inF cn 1 4
  case false => exact congrArg (·, ()) (cfgF_sites h1).symm
  simp only [pLen]
  cases h2 : inF (pInt cl.length) 1 6
  case false => exact congrArg (·, ()) (cfgF_len h1 h2).symm
  refine ⟨UpInv.start, fun y hy => ?_⟩
  rcases FirstInv.round hl hy with ⟨k, rfl, hk, hb, hF, hT⟩ | ⟨rfl, hT⟩
  · simp only [pLt_coe, hk, decide_true, cond_true, pIn_coe, pNat_coe, true_and]
    cases ha : inF (pGet tyLab cl k).1 0 9
    case false => exact cfg_round (c := (cn, cl, cp, ())) h1 h2 hF (by unfold labF; rw [ha]; rfl)
    cases hc : inF (pGet tyLab cl k).2.1 0 15
    case false => exact cfg_round (c := (cn, cl, cp, ())) h1 h2 hF (by unfold labF; rw [ha, hc]; rfl)
    have hlab : labF (pGet tyLab cl k) = true := by unfold labF; rw [ha, hc]; rfl
    refine ⟨lB_start, fun z hz => ?_⟩
    rcases lB_round hb hz with ⟨i, rfl, hi, hib, hiF, hiT⟩ | ⟨rfl, hiT⟩
    · have hi2 : i < cl.length := by omega
      rw [bif_true (show pLt (i : Int) (k : Int) = true from by simp [pLt, hi])]
      refine ⟨pIn_coe.2 hi2, ?_⟩
      rw [pNat_coe]
      have e : pAndB (pEq (pGet tyLab cl i).1 (pGet tyLab cl k).1) (pEq (pGet tyLab cl i).2.1 (pGet tyLab cl k).2.1) = eqLabAt cl i k := rfl
      rw [e]
      cases hq : eqLabAt cl i k with
      | true => exact cfg_twice (c := (cn, cl, cp, ())) h1 h2 hF hlab (hiF hq)
      | false => exact hiT hq
    · rw [show pLt (k : Int) (k : Int) = false from by simp [pLt]]
      exact hT (by rw [labE_ok hlab, hiT]; rfl)
  · simp only [pLt_coe, Nat.lt_irrefl, decide_false, cond_false]
    rw [cfgF_end (c := (cn, cl, cp, ())) h1 h2 hT]
    cases inF cp 1 1048576 <;> rfl

theorem pSub_len1 {n : Nat} (h : n < 4611686018427387904) : pSubI .i64 (pInt n) 1 = (n : Int) - 1 := by unfold pInt; rw [pSubI_in (by omega)]
theorem labelMay_ok : Meets Try.prog (fun _ => none) 54 clabelMay := labelMay_meets In_ok fun cn cl cp l hp => by
  have hl : cl.length < 4611686018427387904 := hp _ List.mem_cons_self
  unfold labelMay_VC
  rw [pLen, pSub_len1 hl]
  refine congrArg (·, ()) ?_
  rw [Bool.eq_iff_iff]
  simp only [pInt, placeF]
  simp only [inF, pLe, pLt, Bool.and_eq_true, decide_eq_true_eq]
  omega

end Go.Proofs.Ytkhnakdmkhidbaa
