/- Plain words of a configuration, of messages, of what is on its way. No condition. -/
import Derived.Test.YtkimjjndbcbiaaaDoorFF
namespace Go.Proofs.YtkimjjndbcbiaaaDoor
open Go.RowKit

abbrev tI : Ty := .int .i64
abbrev tyN : Ty := .pair tI .unit
abbrev tyLab : Ty := .pair tI (.pair tI .unit)
abbrev ND := Int × Unit
abbrev LabD := Int × Int × Unit
abbrev CfgD := Int × List LabD × Int × Unit
abbrev pLab : Par := .agg [.rd tI, .rd tI]
abbrev pCfg : Par := .agg [.rd tI, .rd (.sl tyLab), .rd tI]
abbrev wLab : TyW := wStruct [wInt, wInt]
abbrev wCfg : TyW := wStruct [wInt, wSl wLab 16, wInt]

abbrev tyMsg : Ty := .pair tI (.pair tI (.pair tI (.pair tI (.pair tI (.pair tI (.pair tI (.pair tI (.pair tI (.pair tI (.pair .bool (.pair tI .unit)))))))))))
abbrev MsgD := Int × Int × Int × Int × Int × Int × Int × Int × Int × Int × Bool × Int × Unit
abbrev tyRow : Ty := .pair (.sl tyMsg) .unit
abbrev RowD := List MsgD × Unit
abbrev pMsg : Par := .agg [.rd tI, .rd tI, .rd tI, .rd tI, .rd tI, .rd tI, .rd tI, .rd tI, .rd tI, .rd tI, .rd .bool, .rd tI]
abbrev pTxn : Par := .agg [.rd tI, .rd tI]
abbrev wTxn : TyW := wStruct [wInt, wInt]
abbrev wMsg : TyW := wStruct [wInt, wInt, wInt, wTxn, wInt, wInt, wInt, wInt, wInt, wBool, wInt]
abbrev tyParts : Ty := .pair .bool (.pair .bool (.pair .bool (.pair .bool (.pair .bool (.pair .bool (.pair .bool (.pair .bool .unit)))))))
abbrev PartsD := Bool × Bool × Bool × Bool × Bool × Bool × Bool × Bool × Unit
/-- label, key, value, version, ask, yes, code, sites: what messages have, by their kinds -/
def messagesT : List PartsD := [(false, false, false, false, false, false, false, false, ()), (true, true, false, false, true, false, false, false, ()), (false, true, true, false, true, false, false, false, ()), (true, true, false, true, false, false, false, false, ()), (false, false, false, false, false, true, false, false, ()), (true, true, true, true, true, false, true, false, ()), (false, true, false, false, true, false, true, false, ()), (true, true, false, true, false, true, false, false, ()), (false, false, false, false, false, false, false, false, ()), (false, false, false, false, false, false, false, false, ())]
def tabsM : Nat → Option Gl := look [(1, Gl.rows tyParts messagesT)]

def inF (x a b : Int) : Bool := pLe a x && pLe x b
def labF (a : LabD) : Bool := inF a.1 0 9 && inF a.2.1 0 15
def eqLabAt (l : List LabD) (k i : Nat) : Bool := pAndB (pEq (pGet tyLab l k).1 (pGet tyLab l i).1) (pEq (pGet tyLab l k).2.1 (pGet tyLab l i).2.1)
/-- what is wrong with a label, behind those ahead of it -/
def labE (l : List LabD) (i : Nat) : Int := cond (labF (pGet tyLab l i)) (cond (allUpto (fun k => !eqLabAt l k i) i) 0 7) 2
def cfgF (c : CfgD) : Int :=
  cond (inF c.1 1 4) (cond (inF (pInt c.2.1.length) 1 6) (cond (pEq (firstE (labE c.2.1) c.2.1.length) 0) (cond (inF c.2.2.1 1 1048576) 0 2) (firstE (labE c.2.1) c.2.1.length)) 1) 2
def placeF (c : CfgD) (l : Int) : Bool := pLe 0 l && pLt l (pInt c.2.1.length)
def lCheckAInv (_ : Int) (cl : List LabD) (_ : Int) : denVars [.slot 28 false tI] → Prop := FirstInv (labE cl) cl.length
def lCheckAMu (_ : Int) (cl : List LabD) (_ : Int) : denVars [.slot 28 false tI] → Nat := UpMu cl.length
def lCheckBInv (_ : Int) (cl : List LabD) (_ : Int) (i : Int) : denVars [.slot 41 false tI] → Prop := UpInv (fun k => !eqLabAt cl k (pNat i)) (pNat i)
def lCheckBMu (_ : Int) (_ : List LabD) (_ : Int) (i : Int) : denVars [.slot 41 false tI] → Nat := UpMu (pNat i)

def txnF (c : CfgD) (s n : Int) : Bool := pLe 0 s && pLt s c.1 && inF n 1 1048576
def codeF (e : Int) : Bool := pEq e 0 || pEq e 11 || pEq e 8
def msgRange (c : CfgD) (m : MsgD) : Bool :=
  pLe 0 m.2.1 && pLt m.2.1 c.1 && pLe 0 m.2.2.1 && pLt m.2.2.1 c.1 && txnF c m.2.2.2.1 m.2.2.2.2.1 && placeF c m.2.2.2.2.2.1 && inF m.2.2.2.2.2.2.1 0 7 && inF m.2.2.2.2.2.2.2.1 0 1073741824 && inF m.2.2.2.2.2.2.2.2.1 0 1048576 &&
    inF m.2.2.2.2.2.2.2.2.2.1 0 1048576 && codeF m.2.2.2.2.2.2.2.2.2.2.2.1
/-- has a message just what its kind has? -/
def msgFormR (r : PartsD) (m : MsgD) : Bool :=
  (r.1 || pEq m.2.2.2.2.2.1 0) && (r.2.1 || pEq m.2.2.2.2.2.2.1 0) && (r.2.2.1 || pEq m.2.2.2.2.2.2.2.1 0) && (r.2.2.2.1 || pEq m.2.2.2.2.2.2.2.2.1 0) && (r.2.2.2.2.1 || pEq m.2.2.2.2.2.2.2.2.2.1 0) &&
    (r.2.2.2.2.2.1 || !m.2.2.2.2.2.2.2.2.2.2.1) && (r.2.2.2.2.2.2.1 || pEq m.2.2.2.2.2.2.2.2.2.2.2.1 0) && (pEq m.2.2.2.2.2.2.2.2.2.2.2.1 0 || (pEq m.2.2.2.2.2.2.2.1 0 && pEq m.2.2.2.2.2.2.2.2.1 0))
def msgForm (m : MsgD) : Bool := msgFormR (pGet tyParts messagesT (pNat m.1)) m
def msgF (c : CfgD) (m : MsgD) : Int := cond (pEq (cfgF c) 0) (cond (inF m.1 1 9) (cond (msgRange c m) (cond (msgForm m) 0 4) 2) 3) (cfgF c)
/-- the k-th message on the i-th way -/
def flyAt (c : CfgD) (fl : List RowD) (i k : Nat) : Bool :=
  pEq (msgF c (pGet tyMsg (pGet tyRow fl i).1 k)) 0 && pEq (pGet tyMsg (pGet tyRow fl i).1 k).2.1 ((i : Int) / c.1) && pEq (pGet tyMsg (pGet tyRow fl i).1 k).2.2.1 ((i : Int) % c.1)
def rowAt (c : CfgD) (fl : List RowD) (i : Nat) : Bool := decide ((pGet tyRow fl i).1.length ≤ 30) && allUpto (flyAt c fl i) (pGet tyRow fl i).1.length
def flyF (c : CfgD) (fl : List RowD) : Int := cond (pEq (cfgF c) 0) (cond (pEq (pInt fl.length) (c.1 * c.1) && allUpto (rowAt c fl) fl.length) 0 9) (cfgF c)
def nflyInv (cn : Int) (cl : List LabD) (cp : Int) (fl : List RowD) : Int × Unit → Prop := UpInv (rowAt (cn, cl, cp, ()) fl) fl.length
def nflyMu (_ : Int) (_ : List LabD) (_ : Int) (fl : List RowD) : Int × Unit → Nat := UpMu fl.length
def nrowInv (cn : Int) (cl : List LabD) (cp : Int) (fl : List RowD) (i : Int) : Int × Unit → Prop := UpInv (flyAt (cn, cl, cp, ()) fl (pNat i)) (pGet tyRow fl (pNat i)).1.length
def nrowMu (_ : Int) (_ : List LabD) (_ : Int) (fl : List RowD) (i : Int) : Int × Unit → Nat := UpMu (pGet tyRow fl (pNat i)).1.length

/-- the tables lie where they are to lie -/
def TabsM (W : World) : Prop := ∀ g gl, tabsM g = some gl → GlobR W (fun b => b < W.heap.size) g gl
theorem tabsM_ok : ∀ W, TabsM W → ∀ g gl, tabsM g = some gl → GlobR W (fun b => b < W.heap.size) g gl := fun _ h => h

end Go.Proofs.YtkimjjndbcbiaaaDoor
