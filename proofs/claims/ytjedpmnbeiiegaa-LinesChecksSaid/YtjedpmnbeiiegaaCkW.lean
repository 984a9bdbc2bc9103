/- Plain words of configurations, desks and acts: types of readings, what may be. No condition. -/
import Derived.Test.YtjedpmnbeiiegaaFF
namespace Go.Proofs.Ytjedpmnbeiiegaa
open Go.RowKit

abbrev tI : Ty := .int .i64
abbrev tyN : Ty := .pair tI .unit
abbrev tyLab : Ty := .pair tI (.pair tI .unit)
abbrev tyTask : Ty := .pair .bool (.pair tI (.pair tI (.pair tI (.pair tI (.pair tI (.pair .bool (.pair .bool .unit)))))))
abbrev tyJob : Ty := .pair tI (.pair tI (.pair (.sl tyTask) (.pair (.sl tyN) (.pair tI (.pair tI .unit)))))
abbrev ND := Int × Unit
abbrev LabD := Int × Int × Unit
abbrev TaskD := Bool × Int × Int × Int × Int × Int × Bool × Bool × Unit
abbrev JobD := Int × Int × List TaskD × List ND × Int × Int × Unit
abbrev CfgD := Int × List LabD × Int × Unit
abbrev DeskD := Int × List JobD × Unit
abbrev CallD := Int × Int × Int × Int × Int × Unit
abbrev ActD := Int × Int × Int × Int × Int × List ND × Int × Int × Int × Int × Int × ByteArray × Unit
abbrev pLab : Par := .agg [.rd tI, .rd tI]
abbrev pCfg : Par := .agg [.rd tI, .rd (.sl tyLab), .rd tI]
abbrev pTask : Par := .agg [.rd .bool, .rd tI, .rd tI, .rd tI, .rd tI, .rd tI, .rd .bool, .rd .bool]
abbrev pJob : Par := .agg [.rd tI, .rd tI, .rd (.sl tyTask), .rd (.sl tyN), .rd tI, .rd tI]
abbrev pDesk : Par := .agg [.rd tI, .rd (.sl tyJob)]
abbrev pCall : Par := .agg [.rd tI, .rd tI, .rd tI, .rd tI, .rd tI]
abbrev pAct : Par := .agg [.rd tI, .rd tI, .rd tI, .rd tI, .rd tI, .rd (.sl tyN), .rd tI, .rd tI, .rd tI, .rd tI, .rd tI, .rd .str]
abbrev wLab : TyW := wStruct [wInt, wInt]
abbrev wCfg : TyW := wStruct [wInt, wSl wLab 16, wInt]
abbrev wTask : TyW := wStruct [wBool, wInt, wInt, wInt, wInt, wInt, wBool, wBool]
abbrev wJob : TyW := wStruct [wInt, wInt, wSl wTask 56, wSl wInt 8, wInt, wInt]
abbrev wDesk : TyW := wStruct [wInt, wSl wJob 80]
abbrev wCall : TyW := wStruct [wInt, wInt, wInt, wInt, wInt]
abbrev wAct : TyW := wStruct [wInt, wInt, wInt, wInt, wInt, wSl wInt 8, wCall, wStr]

def inF (x a b : Int) : Bool := pLe a x && pLe x b
def labF (a : LabD) : Bool := inF a.1 0 9 && inF a.2.1 0 15
def eqLabAt (l : List LabD) (k i : Nat) : Bool := pAndB (pEq (pGet tyLab l k).1 (pGet tyLab l i).1) (pEq (pGet tyLab l k).2.1 (pGet tyLab l i).2.1)
/-- what is wrong with a label, behind those ahead of it -/
def labE (l : List LabD) (i : Nat) : Int := cond (labF (pGet tyLab l i)) (cond (allUpto (fun k => !eqLabAt l k i) i) 0 7) 2
def cfgF (c : CfgD) : Int :=
  cond (inF c.1 1 4) (cond (inF (pInt c.2.1.length) 1 6) (cond (pEq (firstE (labE c.2.1) c.2.1.length) 0) (cond (inF c.2.2.1 1 1048576) 0 2) (firstE (labE c.2.1) c.2.1.length)) 1) 2
def placeF (c : CfgD) (l : Int) : Bool := pLe 0 l && pLt l (pInt c.2.1.length)
def lCheckAInv (_ : Int) (cl : List LabD) (_ : Int) : denVars [.slot 28 false tI] → Prop := FirstInv (labE cl) cl.length
def lCheckAMu (_ : Int) (cl : List LabD) (_ : Int) : denVars [.slot 28 false tI] → Nat := UpMu cl.length
def lCheckBInv (_ : Int) (cl : List LabD) (_ : Int) (i : Int) : denVars [.slot 41 false tI] → Prop := UpInv (fun k => !eqLabAt cl k (pNat i)) (pNat i)
def lCheckBMu (_ : Int) (_ : List LabD) (_ : Int) (i : Int) : denVars [.slot 41 false tI] → Nat := UpMu (pNat i)
/-- at most n of a row of numbers, less than m, each above the one ahead -/
def upAt (l : List ND) (m : Int) (i : Nat) : Bool := pLe 0 (pGet tyN l i).1 && pLt (pGet tyN l i).1 m && (decide (i = 0) || pLt (pGet tyN l (i - 1)).1 (pGet tyN l i).1)
def taskF (c : CfgD) (t : TaskD) : Bool :=
  placeF c t.2.1 && inF t.2.2.1 0 7 && inF t.2.2.2.1 0 1073741824 && inF t.2.2.2.2.1 0 1048576 && inF t.2.2.2.2.2.1 1 1048576 && (t.2.2.2.2.2.2.1 || (!t.2.2.2.2.2.2.2.1 && (t.1 || (pEq t.2.2.2.1 0 && pEq t.2.2.2.2.1 0))))
def taskAt (c : CfgD) (s q : Int) (l : List TaskD) (i : Nat) : Bool :=
  taskF c (pGet tyTask l i) && pLe (pGet tyTask l i).2.2.2.2.2.1 q && (decide (i = 0) || pLt (pGet tyTask l (i - 1)).2.2.2.2.2.1 (pGet tyTask l i).2.2.2.2.2.1) &&
    ((pGet tyTask l i).2.2.2.2.2.2.1 || (decide (l.length ≤ i + 1) && pEq s 1))
def jobF (c : CfgD) (d : Int) (j : JobD) : Bool :=
  pLe 1 j.1 && pLt j.1 d && inF j.2.2.2.2.2.1 0 1048576 && inF j.2.1 1 3 && pLe (pInt j.2.2.1.length) 10 && inF j.2.2.2.2.1 0 1048576 &&
    allUpto (taskAt c j.2.1 j.2.2.2.2.1 j.2.2.1) j.2.2.1.length && allUpto (upAt j.2.2.2.1 c.1) j.2.2.2.1.length && (pEq j.2.1 3 == decide (0 < j.2.2.2.1.length))
def jobAt (c : CfgD) (d : DeskD) (i : Nat) : Bool := jobF c d.1 (pGet tyJob d.2.1 i) && (decide (i = 0) || pLt (pGet tyJob d.2.1 (i - 1)).1 (pGet tyJob d.2.1 i).1)
def deskF (c : CfgD) (d : DeskD) : Int :=
  cond (pEq (cfgF c) 0) (cond (inF d.1 1 1048577 && pLe (pInt d.2.1.length) 6 && allUpto (jobAt c d) d.2.1.length) 0 9) (cfgF c)

variable (cn : Int) (cl : List LabD) (cp : Int)
def jobAInv (_ : Int) (_ : List JobD) (_ : Int) (s : Int) (t : List TaskD) (_ : List ND) (q _ : Int) : denVars [.slot 60 false tI] → Prop := UpInv (taskAt (cn, cl, cp, ()) s q t) t.length
def jobAMu (_ : Int) (_ : List LabD) (_ : Int) (_ : Int) (_ : List JobD) (_ : Int) (_ : Int) (t : List TaskD) (_ : List ND) (_ _ : Int) : denVars [.slot 60 false tI] → Nat := UpMu t.length
def jobBInv (cn : Int) (_ : List LabD) (_ : Int) (_ : Int) (_ : List JobD) (_ : Int) (_ : Int) (_ : List TaskD) (a : List ND) (_ _ : Int) : denVars [.slot 119 false tI] → Prop := UpInv (upAt a cn) a.length
def jobBMu (_ : Int) (_ : List LabD) (_ : Int) (_ : Int) (_ : List JobD) (_ : Int) (_ : Int) (_ : List TaskD) (a : List ND) (_ _ : Int) : denVars [.slot 119 false tI] → Nat := UpMu a.length
def jobMayAInv (_ : Int) (_ : Int) (s : Int) (t : List TaskD) (_ : List ND) (q _ : Int) : denVars [.slot 7 false tI] → Prop := UpInv (taskAt (cn, cl, cp, ()) s q t) t.length
def jobMayAMu (_ : Int) (_ : List LabD) (_ : Int) (_ : Int) (_ : Int) (_ : Int) (t : List TaskD) (_ : List ND) (_ _ : Int) : denVars [.slot 7 false tI] → Nat := UpMu t.length
def jobMayBInv (cn : Int) (_ : List LabD) (_ : Int) (_ : Int) (_ : Int) (_ : Int) (_ : List TaskD) (a : List ND) (_ _ : Int) : denVars [.slot 8 false tI] → Prop := UpInv (upAt a cn) a.length
def jobMayBMu (_ : Int) (_ : List LabD) (_ : Int) (_ : Int) (_ : Int) (_ : Int) (_ : List TaskD) (a : List ND) (_ _ : Int) : denVars [.slot 8 false tI] → Nat := UpMu a.length
def deskAInv (dn : Int) (dj : List JobD) : denVars [.slot 30 false tI] → Prop := UpInv (jobAt (cn, cl, cp, ()) (dn, dj, ())) dj.length
def deskAMu (_ : Int) (_ : List LabD) (_ : Int) (_ : Int) (dj : List JobD) : denVars [.slot 30 false tI] → Nat := UpMu dj.length

/-- numbers of bytes to keep -/
def keepBad (l : List ND) : Int := idxOf (fun j => pNot (inF (pGet tyN l j).1 0 6000)) l.length
def keepInv (l : List ND) : denVars [.slot 8 false tI] → Prop := FindInv (fun j => pNot (inF (pGet tyN l j).1 0 6000)) l.length
def keepMu (l : List ND) : denVars [.slot 8 false tI] → Nat := UpMu l.length
def keepUpInv (_ : Int) (_ : List LabD) (_ : Int) (_ _ _ _ _ : Int) (l : List ND) (_ _ _ _ _ : Int) (_ : ByteArray) : denVars [.slot 6 false tI] → Prop := FindInv (fun j => pNot (inF (pGet tyN l j).1 0 6000)) l.length
def keepUpMu (_ : Int) (_ : List LabD) (_ : Int) (_ _ _ _ _ : Int) (l : List ND) (_ _ _ _ _ : Int) (_ : ByteArray) : denVars [.slot 6 false tI] → Nat := UpMu l.length
def callF (x : CallD) : Int :=
  cond (inF x.1 1 5) (cond (inF x.2.1 0 1048576 && inF x.2.2.1 0 5 && inF x.2.2.2.1 0 8 && inF x.2.2.2.2.1 0 1073741824)
    (cond ((pNe x.1 1 || pEq x.2.1 0) && (pEq x.1 2 || pEq x.2.2.1 0) && (pEq x.1 2 || pEq x.1 3 || pEq x.2.2.2.1 0) && (pEq x.1 3 || pEq x.2.2.2.2.1 0)) 0 4) 2) 3
def numbersF (c : CfgD) (z : ActD) : Bool :=
  pLe 0 z.2.1 && pLt z.2.1 c.1 && pLe 0 z.2.2.1 && pLt z.2.2.1 c.1 && placeF c z.2.2.2.1 && inF z.2.2.2.2.1 0 1048576 && decide (z.2.2.2.2.2.1.length ≤ c.2.1.length) && decide (pStrLen z.2.2.2.2.2.2.2.2.2.2.2.1 ≤ 60) && pNot (pGe (keepBad z.2.2.2.2.2.1) 0)
def callOf (z : ActD) : CallD := (z.2.2.2.2.2.2.1, z.2.2.2.2.2.2.2.1, z.2.2.2.2.2.2.2.2.1, z.2.2.2.2.2.2.2.2.2.1, z.2.2.2.2.2.2.2.2.2.2.1, ())
def noCall (x : CallD) : Bool := pEq x.1 0 && pEq x.2.1 0 && pEq x.2.2.1 0 && pEq x.2.2.2.1 0 && pEq x.2.2.2.2.1 0
def bareF (z : ActD) : Bool :=
  (pNe z.1 5 || pEq z.2.1 0) && (inF z.1 2 4 || pEq z.1 1 || pEq z.1 8 || pEq z.2.2.2.1 0) && (inF z.1 2 4 || (pEq z.2.2.1 0 && pEq z.2.2.2.2.1 0)) && (pEq z.1 6 || decide (z.2.2.2.2.2.1.length = 0)) &&
    (pEq z.1 1 || noCall (callOf z)) && (pEq z.1 8 || pStrEq z.2.2.2.2.2.2.2.2.2.2.2.1 ByteArray.empty)
def actF (c : CfgD) (z : ActD) : Int :=
  cond (pEq (cfgF c) 0) (cond (inF z.1 1 8) (cond (numbersF c z) (cond (bareF z) (cond (pEq z.1 1) (callF (callOf z)) 0) 4) 2) 3) (cfgF c)

end Go.Proofs.Ytjedpmnbeiiegaa
