/- The document's check of an act meets its contract. No condition. -/
import Derived.Test.YtjedpmnbeiiegaaLjV
import Derived.Test.YtjedpmnbeiiegaaLiP
namespace Go.Proofs.Ytjedpmnbeiiegaa
open Go.RowKit

theorem cfgF_sites4 {c : CfgD} (h : pNe (cfgF c) 0 = false) : inF c.1 1 4 = true := by
  cases hq : inF c.1 1 4
  · rw [cfgF_sites hq] at h; cases h
  · rfl

set_option maxHeartbeats 4000000 in
theorem aFault_ok : Meets Try.prog (fun _ => none) 8 caFault := aFault_meets cFault_ok In_ok labelMay_ok callMay_ok fun cn cl cp zk zs zt zl zp ze zck zcn zcl zcy zcv zi hp => by
  have hl : cl.length < 4611686018427387904 := hp _ List.mem_cons_self
  have hz : ze.length < 4611686018427387904 := hp (pLen ze < 4611686018427387904) (by simp)
  clear hp
  unfold aFault_VC
  refine ⟨hl, bif_ok (fun h => ?_) fun hc => ?_⟩
  · refine leafE ?_; rw [actF_eq]; grind [pLt, pLe, pGt, pGe, pEq, pNe, pNot, pAndB, pBeq, pInt, pLen, inF, pIn, pTo, pNat]
  have hc4 := inF_iff.1 (cfgF_sites4 hc)
  have hc0 : pEq (cfgF (cn, cl, cp, ())) 0 = true := by simpa [pNe, pEq] using hc
  have hA := actF_eq cn cl cp zk zs zt zl zp ze zck zcn zcl zcy zcv zi
  rw [hc0, cond_true, numbersF_eq] at hA
  have hP : placeF (cn, cl, cp, ()) zl = (pLe 0 zl && pLt zl (pInt cl.length)) := rfl
  rw [pSubI_in (a := cn) (b := 1) (by simp only at hc4; omega)]
  (repeat' (first | refine bif_ok (fun h => ?_) (fun h => ?_) | refine And.intro ?_ ?_ | fail))
  all_goals first
    | exact hl
    | exact UpInv.start
    | (refine leafE ?_; rw [hA]; grind [pLt, pLe, pGt, pGe, pEq, pNe, pNot, pAndB, pBeq, pInt, pLen, inF, pIn, pTo, pNat])
    | skip
  intro y hy
  rcases FindInv.round hz hy with ⟨k, rfl, hk, hb, hT, hF⟩ | ⟨rfl, hT⟩
  · rw [bif_true (by simp [pLt_coe, pLen, hk]), pNat_coe]
    refine ⟨pIn_coe.2 hk, bif_ok (fun h => ?_) fun h => hF h⟩
    have hkb : keepBad ze = (k : Int) := hT h
    clear hy hT hF
    refine leafE ?_; rw [hA]; grind [pLt, pLe, pGt, pGe, pEq, pNe, pNot, pAndB, pBeq, pInt, pLen, inF, pIn, pTo, pNat]
  · rw [bif_false (by simp [pLt_coe, pLen])]
    have hkb : keepBad ze = -1 := hT
    clear hy hT
    rw [bareF_eq] at hA
    simp only [empty_eq]
    (repeat' (first | refine bif_ok (fun h => ?_) (fun h => ?_) | refine And.intro ?_ ?_ | fail))
    all_goals (refine leafE ?_; rw [hA]; grind [pLt, pLe, pGt, pGe, pEq, pNe, pNot, pAndB, pBeq, pInt, pLen, inF, pIn, pTo, pNat])

end Go.Proofs.Ytjedpmnbeiiegaa
