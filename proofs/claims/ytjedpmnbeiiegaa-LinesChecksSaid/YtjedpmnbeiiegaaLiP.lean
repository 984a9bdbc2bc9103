/- Acts: the checks meet their contracts. No condition. -/
import Derived.Test.YtjedpmnbeiiegaaLiV
import Derived.Test.YtjedpmnbeiiegaaCkP
namespace Go.Proofs.Ytjedpmnbeiiegaa
open Go.RowKit

theorem numbers1_ok : Meets Try.prog (fun _ => none) 23 cnumbers1 := numbers1_meets fun n => by
  unfold numbers1_VC
  (repeat' (first | refine bif_ok (fun h => ?_) (fun h => ?_) | refine And.intro ?_ ?_ | fail))
  all_goals (refine leafE ?_; grind [pLt, pLe, pGt, pGe, pEq, pNe, pNot, pAndB, pBeq, pInt, pLen, inF, pIn, pTo, pNat])
theorem indexFunc_ok : Meets Try.prog (fun _ => none) 24 cindexFunc := indexFunc_meets numbers1_ok fun l hp => by
  have hl : l.length < 4611686018427387904 := hp _ List.mem_cons_self
  refine ⟨UpInv.start, fun y hy => ?_⟩
  rcases FindInv.round hl hy with ⟨k, rfl, hk, hb, hT, hF⟩ | ⟨rfl, hT⟩
  · rw [bif_true (by simp [pLt_coe, pLen, hk]), pNat_coe]
    refine ⟨pIn_coe.2 hk, bif_ok (fun h => ?_) fun h => hF h⟩
    exact congrArg (·, ()) (hT h).symm
  · rw [bif_false (by simp [pLt_coe, pLen])]
    exact congrArg (·, ()) hT.symm
theorem containsFunc_ok : Meets Try.prog (fun _ => none) 22 ccontainsFunc := containsFunc_meets indexFunc_ok fun l hp => ⟨hp _ List.mem_cons_self, rfl⟩

theorem numbersF_eq (cn : Int) (cl : List LabD) (cp zk zs zt zl zp : Int) (ze : List ND) (zck zcn zcl zcy zcv : Int) (zi : ByteArray) : numbersF (cn, cl, cp, ()) (zk, zs, zt, zl, zp, ze, zck, zcn, zcl, zcy, zcv, zi, ()) =
    (pLe 0 zs && pLt zs cn && pLe 0 zt && pLt zt cn && (pLe 0 zl && pLt zl (pInt cl.length)) && inF zp 0 1048576 && decide (ze.length ≤ cl.length) && decide (pStrLen zi ≤ 60) && pNot (pGe (keepBad ze) 0)) := rfl
theorem numbers_ok : Meets Try.prog (fun _ => none) 14 cnumbers := numbers_meets containsFunc_ok fun cn cl cp zk zs zt zl zp ze zck zcn zcl zcy zcv zi hp => by
  have hl : cl.length < 4611686018427387904 := hp _ List.mem_cons_self
  have hz : ze.length < 4611686018427387904 := hp (pLen ze < 4611686018427387904) (by simp)
  clear hp
  unfold numbers_VC
  rw [numbersF_eq]
  (repeat' (first | refine bif_ok (fun h => ?_) (fun h => ?_) | refine And.intro ?_ ?_ | fail))
  all_goals first
    | exact hz
    | (refine leafF fun q => ?_; grind [pLt, pLe, pGt, pGe, pEq, pNe, pNot, pAndB, pBeq, pInt, pLen, inF, pIn, pTo, pNat])
    | (refine leafE ?_; grind [pLt, pLe, pGt, pGe, pEq, pNe, pNot, pAndB, pBeq, pInt, pLen, inF, pIn, pTo, pNat])

theorem empty_eq (s : ByteArray) : pStrEq s { data := { toList := [] } } = pStrEq s ByteArray.empty := rfl
theorem bareF_eq (zk zs zt zl zp : Int) (ze : List ND) (zck zcn zcl zcy zcv : Int) (zi : ByteArray) : bareF (zk, zs, zt, zl, zp, ze, zck, zcn, zcl, zcy, zcv, zi, ()) =
    ((pNe zk 5 || pEq zs 0) && (inF zk 2 4 || pEq zk 1 || pEq zk 8 || pEq zl 0) && (inF zk 2 4 || (pEq zt 0 && pEq zp 0)) && (pEq zk 6 || decide (ze.length = 0)) &&
    (pEq zk 1 || (pEq zck 0 && pEq zcn 0 && pEq zcl 0 && pEq zcy 0 && pEq zcv 0)) && (pEq zk 8 || pStrEq zi ByteArray.empty)) := rfl
theorem bare_ok : Meets Try.prog (fun _ => none) 15 cbare := bare_meets fun zk zs zt zl zp ze zck zcn zcl zcy zcv zi hp => by
  have hz : ze.length < 4611686018427387904 := hp (pLen ze < 4611686018427387904) (by simp)
  clear hp
  unfold bare_VC
  (repeat' (first | refine bif_ok (fun h => ?_) (fun h => ?_) | refine And.intro ?_ ?_ | fail))
  all_goals (refine leafE ?_; rw [bareF_eq]; (try rw [empty_eq]); grind [pLt, pLe, pGt, pGe, pEq, pNe, pNot, pAndB, pBeq, pInt, pLen, inF, pIn, pTo, pNat])

theorem callF_eq (xk xn xl xy xv : Int) : callF (xk, xn, xl, xy, xv, ()) =
    cond (inF xk 1 5) (cond (inF xn 0 1048576 && inF xl 0 5 && inF xy 0 8 && inF xv 0 1073741824)
    (cond ((pNe xk 1 || pEq xn 0) && (pEq xk 2 || pEq xl 0) && (pEq xk 2 || pEq xk 3 || pEq xy 0) && (pEq xk 3 || pEq xv 0)) 0 4) 2) 3 := rfl
theorem lcall_ok : Meets Try.prog (fun _ => none) 16 ccall := call_meets fun xk xn xl xy xv => by
  unfold call_VC
  (repeat' (first | refine bif_ok (fun h => ?_) (fun h => ?_) | refine And.intro ?_ ?_ | fail))
  all_goals (refine leafE ?_; rw [callF_eq]; grind [pLt, pLe, pGt, pGe, pEq, pNe, pNot, pAndB, pBeq, pInt, pLen, inF, pIn, pTo, pNat])
theorem callMay_ok : Meets Try.prog (fun _ => none) 18 ccallMay := callMay_meets In_ok fun xk xn xl xy xv => by
  unfold callMay_VC
  (repeat' (first | refine bif_ok (fun h => ?_) (fun h => ?_) | refine And.intro ?_ ?_ | fail))
  all_goals (refine leafE ?_; rw [callF_eq]; grind [pLt, pLe, pGt, pGe, pEq, pNe, pNot, pAndB, pBeq, pInt, pLen, inF, pIn, pTo, pNat])

theorem actF_eq (cn : Int) (cl : List LabD) (cp zk zs zt zl zp : Int) (ze : List ND) (zck zcn zcl zcy zcv : Int) (zi : ByteArray) : actF (cn, cl, cp, ()) (zk, zs, zt, zl, zp, ze, zck, zcn, zcl, zcy, zcv, zi, ()) =
    cond (pEq (cfgF (cn, cl, cp, ())) 0) (cond (inF zk 1 8) (cond (numbersF (cn, cl, cp, ()) (zk, zs, zt, zl, zp, ze, zck, zcn, zcl, zcy, zcv, zi, ())) (cond (bareF (zk, zs, zt, zl, zp, ze, zck, zcn, zcl, zcy, zcv, zi, ()))
      (cond (pEq zk 1) (callF (zck, zcn, zcl, zcy, zcv, ())) 0) 4) 2) 3) (cfgF (cn, cl, cp, ())) := rfl
theorem liCheck_ok : Meets Try.prog (fun _ => none) 7 cliCheck := liCheck_meets lCheck_ok numbers_ok bare_ok lcall_ok fun cn cl cp zk zs zt zl zp ze zck zcn zcl zcy zcv zi hp => by
  have hl : cl.length < 4611686018427387904 := hp _ List.mem_cons_self
  have hz : ze.length < 4611686018427387904 := hp (pLen ze < 4611686018427387904) (by simp)
  clear hp
  unfold liCheck_VC
  rw [actF_eq]
  (repeat' (first | refine bif_ok (fun h => ?_) (fun h => ?_) | refine And.intro ?_ ?_ | fail))
  all_goals first
    | exact hl
    | exact hz
    | (refine leafE ?_; grind [pLt, pLe, pGt, pGe, pEq, pNe, pNot, pAndB, pBeq, pInt, pLen, inF, pIn, pTo, pNat])

end Go.Proofs.Ytjedpmnbeiiegaa
