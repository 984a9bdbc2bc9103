/- Contracts, and what the evaluator says, as plain propositions: NsV. Printed by vc.py. -/
import Derived.Test.YtgocemdodabgkaaDoorFF
import Derived.Test.YtgocemdodabgkaaDoorLib
import Derived.Lib.SliceRun
import Derived.Deep.RegionLaw
import Derived.Test.YtgocemdodabgkaaDoorFH

/- Plain words of a configuration, of messages, of what is on its way. No condition. -/
namespace Go.Proofs.YtgocemdodabgkaaDoor
open Go.RowKit

abbrev tI : Ty := .int .i64
abbrev tyLab : Ty := .pair tI (.pair tI .unit)
abbrev LabD := Int × Int × Unit
abbrev CfgD := Int × List LabD × Int × Unit
abbrev pLab : Par := .agg [.rd tI, .rd tI]
abbrev pCfg : Par := .agg [.rd tI, .rd (.sl tyLab), .rd tI]
abbrev wLab : TyW := wStruct [wInt, wInt]
abbrev wCfg : TyW := wStruct [wInt, wSl wLab 16, wInt]

abbrev tyMsg : Ty := .pair tI (.pair tI (.pair tI (.pair tI (.pair tI (.pair tI (.pair tI (.pair tI (.pair tI (.pair tI (.pair .bool (.pair tI .unit)))))))))))
abbrev MsgD := Int × Int × Int × Int × Int × Int × Int × Int × Int × Int × Bool × Int × Unit
abbrev tyRow : Ty := .pair (.sl tyMsg) .unit
abbrev RowD := List MsgD × Unit
abbrev pMsg : Par := .agg [.rd tI, .rd tI, .rd tI, .rd tI, .rd tI, .rd tI, .rd tI, .rd tI, .rd tI, .rd tI, .rd .bool, .rd tI]
abbrev pTxn : Par := .agg [.rd tI, .rd tI]
abbrev wTxn : TyW := wStruct [wInt, wInt]
abbrev wMsg : TyW := wStruct [wInt, wInt, wInt, wTxn, wInt, wInt, wInt, wInt, wInt, wBool, wInt]
abbrev tyParts : Ty := .pair .bool (.pair .bool (.pair .bool (.pair .bool (.pair .bool (.pair .bool (.pair .bool (.pair .bool .unit)))))))
abbrev PartsD := Bool × Bool × Bool × Bool × Bool × Bool × Bool × Bool × Unit
/-- label, key, value, version, ask, yes, code, sites: what messages have, by their kinds -/
def messagesT : List PartsD := [(false, false, false, false, false, false, false, false, ()), (true, true, false, false, true, false, false, false, ()), (false, true, true, false, true, false, false, false, ()), (true, true, false, true, false, false, false, false, ()), (false, false, false, false, false, true, false, false, ()), (true, true, true, true, true, false, true, false, ()), (false, true, false, false, true, false, true, false, ()), (true, true, false, true, false, true, false, false, ()), (false, false, false, false, false, false, false, false, ()), (false, false, false, false, false, false, false, false, ())]
def tabsM : Nat → Option Gl := look [(1, Gl.rows tyParts messagesT)]

def inF (x a b : Int) : Bool := pLe a x && pLe x b
def labF (a : LabD) : Bool := inF a.1 0 9 && inF a.2.1 0 15
def eqLabAt (l : List LabD) (k i : Nat) : Bool := pAndB (pEq (pGet tyLab l k).1 (pGet tyLab l i).1) (pEq (pGet tyLab l k).2.1 (pGet tyLab l i).2.1)
/-- what is wrong with a label, behind those ahead of it -/
def labE (l : List LabD) (i : Nat) : Int := cond (labF (pGet tyLab l i)) (cond (allUpto (fun k => !eqLabAt l k i) i) 0 7) 2
def cfgF (c : CfgD) : Int :=
  cond (inF c.1 1 4) (cond (inF (pInt c.2.1.length) 1 6) (cond (pEq (firstE (labE c.2.1) c.2.1.length) 0) (cond (inF c.2.2.1 1 1048576) 0 2) (firstE (labE c.2.1) c.2.1.length)) 1) 2
def placeF (c : CfgD) (l : Int) : Bool := pLe 0 l && pLt l (pInt c.2.1.length)
def lCheckAInv (_ : Int) (cl : List LabD) (_ : Int) : denVars [.slot 28 false tI] → Prop := FirstInv (labE cl) cl.length
def lCheckAMu (_ : Int) (cl : List LabD) (_ : Int) : denVars [.slot 28 false tI] → Nat := UpMu cl.length
def lCheckBInv (_ : Int) (cl : List LabD) (_ : Int) (i : Int) : denVars [.slot 41 false tI] → Prop := UpInv (fun k => !eqLabAt cl k (pNat i)) (pNat i)
def lCheckBMu (_ : Int) (_ : List LabD) (_ : Int) (i : Int) : denVars [.slot 41 false tI] → Nat := UpMu (pNat i)

def txnF (c : CfgD) (s n : Int) : Bool := pLe 0 s && pLt s c.1 && inF n 1 1048576
def codeF (e : Int) : Bool := pEq e 0 || pEq e 11 || pEq e 8
def msgRange (c : CfgD) (m : MsgD) : Bool :=
  pLe 0 m.2.1 && pLt m.2.1 c.1 && pLe 0 m.2.2.1 && pLt m.2.2.1 c.1 && txnF c m.2.2.2.1 m.2.2.2.2.1 && placeF c m.2.2.2.2.2.1 && inF m.2.2.2.2.2.2.1 0 7 && inF m.2.2.2.2.2.2.2.1 0 1073741824 && inF m.2.2.2.2.2.2.2.2.1 0 1048576 &&
    inF m.2.2.2.2.2.2.2.2.2.1 0 1048576 && codeF m.2.2.2.2.2.2.2.2.2.2.2.1
/-- has a message just what its kind has? -/
def msgFormR (r : PartsD) (m : MsgD) : Bool :=
  (r.1 || pEq m.2.2.2.2.2.1 0) && (r.2.1 || pEq m.2.2.2.2.2.2.1 0) && (r.2.2.1 || pEq m.2.2.2.2.2.2.2.1 0) && (r.2.2.2.1 || pEq m.2.2.2.2.2.2.2.2.1 0) && (r.2.2.2.2.1 || pEq m.2.2.2.2.2.2.2.2.2.1 0) &&
    (r.2.2.2.2.2.1 || !m.2.2.2.2.2.2.2.2.2.2.1) && (r.2.2.2.2.2.2.1 || pEq m.2.2.2.2.2.2.2.2.2.2.2.1 0) && (pEq m.2.2.2.2.2.2.2.2.2.2.2.1 0 || (pEq m.2.2.2.2.2.2.2.1 0 && pEq m.2.2.2.2.2.2.2.2.1 0))
def msgForm (m : MsgD) : Bool := msgFormR (pGet tyParts messagesT (pNat m.1)) m
def msgF (c : CfgD) (m : MsgD) : Int := cond (pEq (cfgF c) 0) (cond (inF m.1 1 9) (cond (msgRange c m) (cond (msgForm m) 0 4) 2) 3) (cfgF c)
/-- the k-th message on the i-th way -/
def flyAt (c : CfgD) (fl : List RowD) (i k : Nat) : Bool :=
  pEq (msgF c (pGet tyMsg (pGet tyRow fl i).1 k)) 0 && pEq (pGet tyMsg (pGet tyRow fl i).1 k).2.1 ((i : Int) / c.1) && pEq (pGet tyMsg (pGet tyRow fl i).1 k).2.2.1 ((i : Int) % c.1)
def rowAt (c : CfgD) (fl : List RowD) (i : Nat) : Bool := decide ((pGet tyRow fl i).1.length ≤ 30) && allUpto (flyAt c fl i) (pGet tyRow fl i).1.length
def flyF (c : CfgD) (fl : List RowD) : Int := cond (pEq (cfgF c) 0) (cond (pEq (pInt fl.length) (c.1 * c.1) && allUpto (rowAt c fl) fl.length) 0 9) (cfgF c)
def nflyInv (cn : Int) (cl : List LabD) (cp : Int) (fl : List RowD) : Int × Unit → Prop := UpInv (rowAt (cn, cl, cp, ()) fl) fl.length
def nflyMu (_ : Int) (_ : List LabD) (_ : Int) (fl : List RowD) : Int × Unit → Nat := UpMu fl.length
def nrowInv (cn : Int) (cl : List LabD) (cp : Int) (fl : List RowD) (i : Int) : Int × Unit → Prop := UpInv (flyAt (cn, cl, cp, ()) fl (pNat i)) (pGet tyRow fl (pNat i)).1.length
def nrowMu (_ : Int) (_ : List LabD) (_ : Int) (fl : List RowD) (i : Int) : Int × Unit → Nat := UpMu (pGet tyRow fl (pNat i)).1.length

/-- the tables lie where they are to lie -/
def TabsM (W : World) : Prop := ∀ g gl, tabsM g = some gl → GlobR W (fun b => b < W.heap.size) g gl
theorem tabsM_ok : ∀ W, TabsM W → ∀ g gl, tabsM g = some gl → GlobR W (fun b => b < W.heap.size) g gl := fun _ h => h


end Go.Proofs.YtgocemdodabgkaaDoor

/- slices.Delete of one element of an own row, where its walk is known: its contract. It names no program. No condition. -/
namespace Go.Proofs.YtgocemdodabgkaaDoor
open Go.RowKit Go.Lib

/- what the walks share -/
end Go.Proofs.YtgocemdodabgkaaDoor

/- Plain words of messages sent and taken. No condition. -/
namespace Go.Proofs.YtgocemdodabgkaaDoor
open Go.RowKit

abbrev kFly : Ty := .mark [0] tyRow
def RowsOk (fl : List RowD) : Prop := pRoom (pLen fl) 24 ∧ ∀ q ∈ fl, pRoom (pLen q.1) 96
def nownInv (fl : List RowD) : Int × List RowD × Unit → Prop := fun y => ∃ k : Nat, y = ((k : Int), fl.take k, ()) ∧ k ≤ fl.length
def nownMu (fl : List RowD) : Int × List RowD × Unit → Nat := fun y => fl.length - y.1.toNat
def ncopyInv (fl : List RowD) : Int × List RowD × Unit → Prop := fun y => ∃ k : Nat, y = ((k : Int), fl.take k, ()) ∧ k ≤ fl.length
def ncopyMu (fl : List RowD) : Int × List RowD × Unit → Nat := fun y => fl.length - y.1.toNat
def ncrowInv (fl : List RowD) (i : Int) : Int × List MsgD × Unit → Prop := fun y => ∃ k : Nat, y = ((k : Int), (pGet tyRow fl (pNat i)).1.take k, ()) ∧ k ≤ (pGet tyRow fl (pNat i)).1.length
def ncrowMu (fl : List RowD) (i : Int) : Int × List MsgD × Unit → Nat := fun y => (pGet tyRow fl (pNat i)).1.length - y.1.toNat
def eqMsg (a b : MsgD) : Bool := pAndB (pEq a.1 b.1) (pAndB (pEq a.2.1 b.2.1) (pAndB (pEq a.2.2.1 b.2.2.1) (pAndB (pEq a.2.2.2.1 b.2.2.2.1) (pAndB (pEq a.2.2.2.2.1 b.2.2.2.2.1) (pAndB (pEq a.2.2.2.2.2.1 b.2.2.2.2.2.1)
  (pAndB (pEq a.2.2.2.2.2.2.1 b.2.2.2.2.2.2.1) (pAndB (pEq a.2.2.2.2.2.2.2.1 b.2.2.2.2.2.2.2.1) (pAndB (pEq a.2.2.2.2.2.2.2.2.1 b.2.2.2.2.2.2.2.2.1) (pAndB (pEq a.2.2.2.2.2.2.2.2.2.1 b.2.2.2.2.2.2.2.2.2.1)
  (pAndB (pBeq a.2.2.2.2.2.2.2.2.2.2.1 b.2.2.2.2.2.2.2.2.2.2.1) (pEq a.2.2.2.2.2.2.2.2.2.2.2.1 b.2.2.2.2.2.2.2.2.2.2.2.1)))))))))))
def eqMsgAt (l m : List MsgD) (j : Nat) : Bool := eqMsg (pGet tyMsg l j) (pGet tyMsg m j)
def sameMsgsF (l m : List MsgD) : Bool := decide (l.length = m.length) && allUpto (eqMsgAt l m) l.length
def sameMsgsInv (l m : List MsgD) : Int × Unit → Prop := fun y => l.length = m.length ∧ UpInv (eqMsgAt l m) l.length y
def sameMsgsMu (l _m : List MsgD) : Int × Unit → Nat := UpMu l.length
def eqRowAt (l m : List RowD) (j : Nat) : Bool := sameMsgsF (pGet tyRow l j).1 (pGet tyRow m j).1
def sameFlyF (l m : List RowD) : Bool := decide (l.length = m.length) && allUpto (eqRowAt l m) l.length
def sameFlyInv (l m : List RowD) : Int × Unit → Prop := fun y => l.length = m.length ∧ UpInv (eqRowAt l m) l.length y
def sameFlyMu (l _m : List RowD) : Int × Unit → Nat := UpMu l.length

def msgAt (c : CfgD) (l : List MsgD) (k : Nat) : Int := msgF c (pGet tyMsg l k)
/-- the place of a way from a site to a site -/
def wayI (c : CfgD) (f t : Int) : Int := pAdd .i64 (pMul .i64 f c.1) t
def sendStep (c : CfgD) (fl : List RowD) (m : MsgD) : List RowD :=
  cond (pLt (pInt (pLen (pGet tyRow fl (pNat (wayI c m.2.1 m.2.2.1))).1)) 30) (pSet fl (pNat (wayI c m.2.1 m.2.2.1)) (pApp (pGet tyRow fl (pNat (wayI c m.2.1 m.2.2.1))).1 [m], ())) fl
def sendE (c : CfgD) (fl : List RowD) (l : List MsgD) : Int := cond (pEq (flyF c fl) 0) (firstE (msgAt c l) l.length) (flyF c fl)
def sendK (c : CfgD) (fl : List RowD) (l : List MsgD) (k : Nat) : List RowD := (l.take k).foldl (sendStep c) fl
def sendF (c : CfgD) (fl : List RowD) (l : List MsgD) : List RowD := cond (pEq (sendE c fl l) 0) (sendK c fl l l.length) []
def nsendAInv (cn : Int) (cl : List LabD) (cp : Int) (_ : List RowD) (l : List MsgD) : Int × Unit → Prop := FirstInv (msgAt (cn, cl, cp, ()) l) l.length
def nsendAMu (_ : Int) (_ : List LabD) (_ : Int) (_ : List RowD) (l : List MsgD) : Int × Unit → Nat := UpMu l.length
def nsendBInv (cn : Int) (cl : List LabD) (cp : Int) (fl : List RowD) (l : List MsgD) : Int × List RowD × Unit → Prop := fun y => ∃ k : Nat, y = ((k : Int), sendK (cn, cl, cp, ()) fl l k, ()) ∧ k ≤ l.length
def nsendBMu (_ : Int) (_ : List LabD) (_ : Int) (_ : List RowD) (l : List MsgD) : Int × List RowD × Unit → Nat := fun y => l.length - y.1.toNat
def nsentAInv (cn : Int) (cl : List LabD) (cp : Int) (fl : List RowD) (l : List MsgD) : Int × Int × Unit → Prop := fun y => ∃ k : Nat, ∃ e : Int, y = ((k : Int), e, ()) ∧ k ≤ l.length ∧
  ((k = 0 ∧ e = flyF (cn, cl, cp, ()) fl) ∨ (pEq (flyF (cn, cl, cp, ()) fl) 0 = true ∧ 0 < k ∧ e = msgAt (cn, cl, cp, ()) l (k - 1) ∧ ∀ j, j < k - 1 → pEq (msgAt (cn, cl, cp, ()) l j) 0 = true))
def nsentAMu (_ : Int) (_ : List LabD) (_ : Int) (_ : List RowD) (l : List MsgD) : Int × Int × Unit → Nat := fun y => l.length - y.1.toNat
def nsentBInv (cn : Int) (cl : List LabD) (cp : Int) (fl : List RowD) (l : List MsgD) : Int × List RowD × Unit → Prop := nsendBInv cn cl cp fl l
def nsentBMu (cn : Int) (cl : List LabD) (cp : Int) (fl : List RowD) (l : List MsgD) : Int × List RowD × Unit → Nat := nsendBMu cn cl cp fl l

end Go.Proofs.YtgocemdodabgkaaDoor

/- Functions of the program that meet contracts: a short word for it. -/
namespace Go.Proofs.YtgocemdodabgkaaDoor

abbrev Mt (f : FuncId) (c : Ctr) : Prop := Meets Tryd.prog (fun _ => none) f c
abbrev MtG (g : Nat → Option Gl) (f : FuncId) (c : Ctr) : Prop := Meets Tryd.prog g f c


end Go.Proofs.YtgocemdodabgkaaDoor

/- Contracts, and what the evaluator says, as plain propositions: NsV. Printed by vc.py. -/
namespace Go.Proofs.YtgocemdodabgkaaDoor
open Go.RowKit Go.ChangeShapes Go.WideShapes Go.Deep

abbrev cloneM_S : Shape := ⟨[.one (.rd (.sl tyMsg))], []⟩
abbrev cloneM_f : Shape.den cloneM_S → denVars [.slot 0 true tyMsg] := fun x => (x.1.1, ())
abbrev cloneM_p : Shape.den cloneM_S → List Prop := fun x => [pRoom (pLen x.1.1) 96]
def ccloneM : Ctr := shCtr cloneM_S cloneM_p [] [.slot 0 true tyMsg] cloneM_f
abbrev nown_S : Shape := ⟨[.one (.rd (.sl tyRow))], []⟩
abbrev nown_f : Shape.den nown_S → denVars [.slot 0 true kFly] := fun x => (x.1.1, ())
abbrev nown_p : Shape.den nown_S → List Prop := fun x => [RowsOk x.1.1]
def cnown : Ctr := shCtr nown_S nown_p [] [.slot 0 true kFly] nown_f
def cFlyingCopy : Ctr := shCtr nown_S nown_p [] [.slot 0 true kFly] nown_f
abbrev sameMsgs_S : Shape := ⟨[.one (.rd (.sl tyMsg)), .one (.rd (.sl tyMsg))], []⟩
abbrev sameMsgs_f : Shape.den sameMsgs_S → denVars [.slot 0 false .bool] := fun x => (sameMsgsF x.1.1 x.1.2.1, ())
abbrev sameMsgs_p : Shape.den sameMsgs_S → List Prop := fun x => [pLen x.1.1 < 4611686018427387904]
def csameMsgs : Ctr := shCtr sameMsgs_S sameMsgs_p [] [.slot 0 false .bool] sameMsgs_f
abbrev sameFly_S : Shape := ⟨[.one (.rd (.sl tyRow)), .one (.rd (.sl tyRow))], []⟩
abbrev sameFly_f : Shape.den sameFly_S → denVars [.slot 0 false .bool] := fun x => (sameFlyF x.1.1 x.1.2.1, ())
abbrev sameFly_p : Shape.den sameFly_S → List Prop := fun x => [pLen x.1.1 < 4611686018427387904, (∀ q ∈ x.1.1, pLen q.1 < 4611686018427387904)]
def csameFly : Ctr := shCtr sameFly_S sameFly_p [] [.slot 0 false .bool] sameFly_f
abbrev eqsNsV : List TypeId := [115, 53]

def cloneM_VC (l : (List MsgD)) : Prop :=
  (pLen l = 0 → ([], ()) = (l, ())) ∧ pRoom (pPlus (pLen ([] : List Unit)) (pLen l)) 96 ∧ (pApp [] l, ()) = (l, ())
set_option maxRecDepth 100000 in
theorem cloneM_meets  (h : ∀ (l : (List MsgD)), (∀ p ∈ cloneM_p ⟨(l, ()), ()⟩, p) → cloneM_VC l) : Mt 76 ccloneM :=
  meets_vc (E := envN Tryd.prog (fun _ => none) [] eqsNsV [(43, [0])] []) (envN_ok (fun p hp => by cases hp) (by kernel_rfl)) cloneM_S (fun x => fun ky9 st9 => look [] ky9) Tryd.func76 (by kernel_rfl) (by kernel_rfl) cloneM_p [] [.slot 0 true tyMsg] cloneM_f (fun x => cloneM_VC x.1.1) (fun x => by kernel_rfl) (fun x hp => h x.1.1 hp)

def nown_VC (fl : (List RowD)) : Prop :=
  nownInv fl ((0 : Int), [], ()) ∧ ∀ (y : kden Bool.false tI × kden Bool.true kFly × PUnit), nownInv fl y → bif pLt y.1 (pInt (pLen fl)) then pIn y.1 (pLen fl) ∧ pRoom (pLen (pGet tyRow fl (pNat y.1)).1) 96 ∧ pRoom (pPlus (pLen y.2.1) (pLen
 [(pGet tyRow fl (pNat y.1))])) 24 ∧ nownInv fl (pAdd IntKind.i64 y.1 (1 : Int), pApp y.2.1 [(pGet tyRow fl (pNat y.1))], ()) ∧ Nat.le (Nat.succ (nownMu fl (pAdd IntKind.i64 y.1 (1 : Int), pApp y.2.1 [(pGet tyRow fl (pNat y.1))], ())))
 (nownMu fl y) else (y.2.1, ()) = (fl, ())
set_option maxRecDepth 100000 in
theorem nown_meets (hcloneM : Mt 76 ccloneM) (h : ∀ (fl : (List RowD)), (∀ p ∈ nown_p ⟨(fl, ()), ()⟩, p) → nown_VC fl) : Mt 38 cnown :=
  meets_vc (E := envN Tryd.prog (fun _ => none) [(76, (false, ccloneM))] eqsNsV [(43, [0])] []) (envN_ok (fun p hp => (by simp only [List.mem_cons, List.not_mem_nil, or_false] at hp; rcases hp with rfl; exact hcloneM)) (by kernel_rfl)) nown_S (fun x => fun ky9 st9 => look [(3, (⟨[.slot 8 false tI, .slot 3 true kFly], nownInv x.1.1, nownMu x.1.1⟩ : Ann))] ky9) Tryd.func38 (by kernel_rfl) (by kernel_rfl) nown_p [] [.slot 0 true kFly] nown_f (fun x => nown_VC x.1.1) (fun x => by kernel_rfl) (fun x hp => h x.1.1 hp)

def FlyingCopy_VC (fl : (List RowD)) : Prop :=
  ncopyInv fl ((0 : Int), [], ()) ∧ ∀ (y : kden Bool.false tI × kden Bool.true kFly × PUnit), ncopyInv fl y → bif pLt y.1 (pInt (pLen fl)) then ncrowInv fl y.1 ((0 : Int), [], ()) ∧ ∀ (y_1 : kden Bool.false tI × kden Bool.true tyMsg × PUnit),
 ncrowInv fl y.1 y_1 → pIn y.1 (pLen fl) ∧ bif pLt y_1.1 (pInt (pLen (pGet tyRow fl (pNat y.1)).1)) then pIn y.1 (pLen fl) ∧ pIn y_1.1 (pLen (pGet tyRow fl (pNat y.1)).1) ∧ pRoom (pPlus (pLen y_1.2.1) (pLen [(pGet tyMsg (pGet tyRow fl (pNat
 y.1)).1 (pNat y_1.1))])) 96 ∧ ncrowInv fl y.1 (pAdd IntKind.i64 y_1.1 (1 : Int), pApp y_1.2.1 [(pGet tyMsg (pGet tyRow fl (pNat y.1)).1 (pNat y_1.1))], ()) ∧ Nat.le (Nat.succ (ncrowMu fl y.1 (pAdd IntKind.i64 y_1.1 (1 : Int), pApp y_1.2.1
 [(pGet tyMsg (pGet tyRow fl (pNat y.1)).1 (pNat y_1.1))], ()))) (ncrowMu fl y.1 y_1) else pRoom (pPlus (pLen y.2.1) (pLen [(y_1.2.1, ())])) 24 ∧ ncopyInv fl (pAdd IntKind.i64 y.1 (1 : Int), pApp y.2.1 [(y_1.2.1, ())], ()) ∧ Nat.le (Nat.succ
 (ncopyMu fl (pAdd IntKind.i64 y.1 (1 : Int), pApp y.2.1 [(y_1.2.1, ())], ()))) (ncopyMu fl y) else (y.2.1, ()) = (fl, ())
set_option maxRecDepth 100000 in
theorem FlyingCopy_meets  (h : ∀ (fl : (List RowD)), (∀ p ∈ nown_p ⟨(fl, ()), ()⟩, p) → FlyingCopy_VC fl) : Mt 12 cFlyingCopy :=
  meets_vc (E := envN Tryd.prog (fun _ => none) [] eqsNsV [(43, [0])] []) (envN_ok (fun p hp => by cases hp) (by kernel_rfl)) nown_S (fun x => fun ky9 st9 => look [(3, (⟨[.slot 4 false tI, .slot 3 true kFly], ncopyInv x.1.1, ncopyMu x.1.1⟩ : Ann)), (7, (⟨[.slot 6 false tI, .slot 5 true tyMsg], ncrowInv x.1.1 (slotI st9 4), ncrowMu x.1.1 (slotI st9 4)⟩ : Ann))] ky9) Tryd.func12 (by kernel_rfl) (by kernel_rfl) nown_p [] [.slot 0 true kFly] nown_f (fun x => FlyingCopy_VC x.1.1) (fun x => by kernel_rfl) (fun x hp => h x.1.1 hp)

def sameMsgs_VC (l : (List MsgD)) (m : (List MsgD)) : Prop :=
  bif pNe (pInt (pLen l)) (pInt (pLen m)) then (Bool.false, ()) = (sameMsgsF l m, ()) else sameMsgsInv l m ((0 : Int), ()) ∧ ∀ (y : kden Bool.false tI × PUnit), sameMsgsInv l m y → bif pLt y.1 (pInt (pLen l)) then pIn y.1 (pLen l) ∧ pIn y.1
 (pLen m) ∧ bif pNot (pAndB (pEq (pGet tyMsg l (pNat y.1)).1 (pGet tyMsg m (pNat y.1)).1) (pAndB (pEq (pGet tyMsg l (pNat y.1)).2.1 (pGet tyMsg m (pNat y.1)).2.1) (pAndB (pEq (pGet tyMsg l (pNat y.1)).2.2.1 (pGet tyMsg m (pNat y.1)).2.2.1)
 (pAndB (pEq (pGet tyMsg l (pNat y.1)).2.2.2.1 (pGet tyMsg m (pNat y.1)).2.2.2.1) (pAndB (pEq (pGet tyMsg l (pNat y.1)).2.2.2.2.1 (pGet tyMsg m (pNat y.1)).2.2.2.2.1) (pAndB (pEq (pGet tyMsg l (pNat y.1)).2.2.2.2.2.1 (pGet tyMsg m (pNat
 y.1)).2.2.2.2.2.1) (pAndB (pEq (pGet tyMsg l (pNat y.1)).2.2.2.2.2.2.1 (pGet tyMsg m (pNat y.1)).2.2.2.2.2.2.1) (pAndB (pEq (pGet tyMsg l (pNat y.1)).2.2.2.2.2.2.2.1 (pGet tyMsg m (pNat y.1)).2.2.2.2.2.2.2.1) (pAndB (pEq (pGet tyMsg l (pNat
 y.1)).2.2.2.2.2.2.2.2.1 (pGet tyMsg m (pNat y.1)).2.2.2.2.2.2.2.2.1) (pAndB (pEq (pGet tyMsg l (pNat y.1)).2.2.2.2.2.2.2.2.2.1 (pGet tyMsg m (pNat y.1)).2.2.2.2.2.2.2.2.2.1) (pAndB (pBeq (pGet tyMsg l (pNat y.1)).2.2.2.2.2.2.2.2.2.2.1 (pGet
 tyMsg m (pNat y.1)).2.2.2.2.2.2.2.2.2.2.1) (pEq (pGet tyMsg l (pNat y.1)).2.2.2.2.2.2.2.2.2.2.2.1 (pGet tyMsg m (pNat y.1)).2.2.2.2.2.2.2.2.2.2.2.1)))))))))))) then (Bool.false, ()) = (sameMsgsF l m, ()) else sameMsgsInv l m (pAdd
 IntKind.i64 y.1 (1 : Int), ()) ∧ Nat.le (Nat.succ (sameMsgsMu l m (pAdd IntKind.i64 y.1 (1 : Int), ()))) (sameMsgsMu l m y) else (Bool.true, ()) = (sameMsgsF l m, ())
set_option maxRecDepth 100000 in
theorem sameMsgs_meets  (h : ∀ (l : (List MsgD)) (m : (List MsgD)), (∀ p ∈ sameMsgs_p ⟨(l, m, ()), ()⟩, p) → sameMsgs_VC l m) : Mt 41 csameMsgs :=
  meets_vc (E := envN Tryd.prog (fun _ => none) [] eqsNsV [(43, [0])] []) (envN_ok (fun p hp => by cases hp) (by kernel_rfl)) sameMsgs_S (fun x => fun ky9 st9 => look [(4, (⟨[.slot 5 false tI], sameMsgsInv x.1.1 x.1.2.1, sameMsgsMu x.1.1 x.1.2.1⟩ : Ann))] ky9) Tryd.func41 (by kernel_rfl) (by kernel_rfl) sameMsgs_p [] [.slot 0 false .bool] sameMsgs_f (fun x => sameMsgs_VC x.1.1 x.1.2.1) (fun x => by kernel_rfl) (fun x hp => h x.1.1 x.1.2.1 hp)

def sameFly_VC (fl : (List RowD)) (gl : (List RowD)) : Prop :=
  bif pNe (pInt (pLen fl)) (pInt (pLen gl)) then (Bool.false, ()) = (sameFlyF fl gl, ()) else sameFlyInv fl gl ((0 : Int), ()) ∧ ∀ (y : kden Bool.false tI × PUnit), sameFlyInv fl gl y → bif pLt y.1 (pInt (pLen fl)) then pIn y.1 (pLen fl) ∧
 pIn y.1 (pLen gl) ∧ Nat.le (Nat.succ (pLen (pGet tyRow fl (pNat y.1)).1)) 4611686018427387904 ∧ bif pNot (sameMsgsF (pGet tyRow fl (pNat y.1)).1 (pGet tyRow gl (pNat y.1)).1) then (Bool.false, ()) = (sameFlyF fl gl, ()) else sameFlyInv fl
 gl (pAdd IntKind.i64 y.1 (1 : Int), ()) ∧ Nat.le (Nat.succ (sameFlyMu fl gl (pAdd IntKind.i64 y.1 (1 : Int), ()))) (sameFlyMu fl gl y) else (Bool.true, ()) = (sameFlyF fl gl, ())
set_option maxRecDepth 100000 in
theorem sameFly_meets (hsameMsgs : Mt 41 csameMsgs) (h : ∀ (fl : (List RowD)) (gl : (List RowD)), (∀ p ∈ sameFly_p ⟨(fl, gl, ()), ()⟩, p) → sameFly_VC fl gl) : Mt 15 csameFly :=
  meets_vc (E := envN Tryd.prog (fun _ => none) [(41, (false, csameMsgs))] eqsNsV [(43, [0])] []) (envN_ok (fun p hp => (by simp only [List.mem_cons, List.not_mem_nil, or_false] at hp; rcases hp with rfl; exact hsameMsgs)) (by kernel_rfl)) sameFly_S (fun x => fun ky9 st9 => look [(4, (⟨[.slot 5 false tI], sameFlyInv x.1.1 x.1.2.1, sameFlyMu x.1.1 x.1.2.1⟩ : Ann))] ky9) Tryd.func15 (by kernel_rfl) (by kernel_rfl) sameFly_p [] [.slot 0 false .bool] sameFly_f (fun x => sameFly_VC x.1.1 x.1.2.1) (fun x => by kernel_rfl) (fun x hp => h x.1.1 x.1.2.1 hp)


end Go.Proofs.YtgocemdodabgkaaDoor

/- What is on its way: copies, comparisons: the functions meet their contracts. No condition. -/
namespace Go.Proofs.YtgocemdodabgkaaDoor
open Go.RowKit

theorem sameMsgs_ok : Meets Tryd.prog (fun _ => none) 41 csameMsgs := sameMsgs_meets fun l m hp => by
  have hl : l.length < 4611686018427387904 := hp _ List.mem_cons_self
  unfold sameMsgs_VC
  refine bif_ok (fun h => leafF fun q => ?_) fun h => ?_
  · unfold sameMsgsF at q; simp only [Bool.and_eq_true, decide_eq_true_eq] at q
    have : pNe (pInt l.length) (pInt m.length) = true := h
    rw [q.1] at this; simp [pNe] at this
  have hn : l.length = m.length := by
    have : pNe (pInt l.length) (pInt m.length) = false := h
    simp only [pNe, pInt, bne_eq_false_iff_eq] at this; omega
  refine ⟨⟨hn, UpInv.start⟩, fun y ⟨_, hy⟩ => ?_⟩
  rcases UpInv.round hl hy with ⟨k, rfl, hk, hb, -, hF, hT⟩ | ⟨rfl, hT⟩
  · have hk2 : k < m.length := by omega
    rw [bif_true (by simp [pLt_coe, pLen, hk]), pNat_coe]
    refine ⟨pIn_coe.2 hk, pIn_coe.2 hk2, bif_ok (fun h => leafF fun q => ?_) fun h => ?_⟩
    · have h' : eqMsgAt l m k = false := by have h2 : (!eqMsgAt l m k) = true := h; simpa using h2
      unfold sameMsgsF at q
      rw [hF h'] at q; simp at q
    · have h' : eqMsgAt l m k = true := by have h2 : (!eqMsgAt l m k) = false := h; simpa using h2
      exact ⟨⟨hn, (hT h').1⟩, (hT h').2⟩
  · rw [bif_false (by simp [pLt_coe, pLen])]
    refine leafT fun q => ?_
    unfold sameMsgsF at q
    rw [hT] at q; simp [hn] at q
theorem sameFly_ok : Meets Tryd.prog (fun _ => none) 15 csameFly := sameFly_meets sameMsgs_ok fun l m hp => by
  have hl : l.length < 4611686018427387904 := hp (pLen l < 4611686018427387904) (by simp)
  have hq : ∀ q ∈ l, pLen q.1 < 4611686018427387904 := hp (∀ q ∈ l, pLen q.1 < 4611686018427387904) (by simp)
  clear hp
  unfold sameFly_VC
  refine bif_ok (fun h => leafF fun q => ?_) fun h => ?_
  · unfold sameFlyF at q; simp only [Bool.and_eq_true, decide_eq_true_eq] at q
    have : pNe (pInt l.length) (pInt m.length) = true := h
    rw [q.1] at this; simp [pNe] at this
  have hn : l.length = m.length := by
    have : pNe (pInt l.length) (pInt m.length) = false := h
    simp only [pNe, pInt, bne_eq_false_iff_eq] at this; omega
  refine ⟨⟨hn, UpInv.start⟩, fun y ⟨_, hy⟩ => ?_⟩
  rcases UpInv.round hl hy with ⟨k, rfl, hk, hb, -, hF, hT⟩ | ⟨rfl, hT⟩
  · have hk2 : k < m.length := by omega
    rw [bif_true (by simp [pLt_coe, pLen, hk]), pNat_coe]
    have hin := hq (pGet tyRow l k) (by rw [pGet_lt (t := tyRow) hk]; exact List.getElem_mem hk)
    refine ⟨pIn_coe.2 hk, pIn_coe.2 hk2, hin, bif_ok (fun h => leafF fun q => ?_) fun h => ?_⟩
    · have h' : eqRowAt l m k = false := by have h2 : (!eqRowAt l m k) = true := h; simpa using h2
      unfold sameFlyF at q
      rw [hF h'] at q; simp at q
    · have h' : eqRowAt l m k = true := by have h2 : (!eqRowAt l m k) = false := h; simpa using h2
      exact ⟨⟨hn, (hT h').1⟩, (hT h').2⟩
  · rw [bif_false (by simp [pLt_coe, pLen])]
    refine leafT fun q => ?_
    unfold sameFlyF at q
    rw [hT] at q; simp [hn] at q
theorem sameMsgs_refl (l : List MsgD) : sameMsgsF l l = true := by
  unfold sameMsgsF
  rw [allUpto_true fun j _ => by simp [eqMsgAt, eqMsg, pAndB, pEq, pBeq]]
  simp
theorem sameFly_refl (l : List RowD) : sameFlyF l l = true := by
  unfold sameFlyF
  rw [allUpto_true fun j _ => by simp [eqRowAt, sameMsgs_refl]]
  simp
theorem mu_step {n k : Nat} (h : k < n) (hb : k < 4611686018427387904) : Nat.le (Nat.succ (n - (pAdd .i64 (k : Int) 1).toNat)) (n - ((k : Nat) : Int).toNat) := by
  rw [pAdd1 hb, Int.toNat_natCast, Int.toNat_natCast]; exact Nat.le_of_eq (by omega)
theorem cloneM_ok : Meets Tryd.prog (fun _ => none) 76 ccloneM := cloneM_meets fun l hp => by
  have h : pRoom (pLen l) 96 := hp _ List.mem_cons_self
  clear hp
  unfold cloneM_VC
  refine ⟨fun h0 => ?_, ?_, rfl⟩
  · rw [List.length_eq_zero_iff.1 h0]
  · show (0 + l.length) * 96 ≤ 140737488351232
    rw [Nat.zero_add]; exact h
theorem room_row {fl : List RowD} (h : RowsOk fl) {k : Nat} (hk : k < fl.length) : pRoom (pLen (pGet tyRow fl k).1) 96 := h.2 _ (by rw [pGet_lt (t := tyRow) hk]; exact List.getElem_mem hk)
theorem take_one {t : Ty} {l : List t.den} {k : Nat} (hk : k < l.length) : pApp (l.take k) [pGet t l k] = l.take (k + 1) := by
  unfold pApp
  rw [List.take_succ_eq_append_getElem hk, pGet_lt hk]
theorem room_take {α : Type} {l : List α} {k b : Nat} (hk : k < l.length) (h : pRoom (pLen l) b) : pRoom (pPlus (pLen (l.take k)) 1) b := by
  have h : l.length * b ≤ 140737488351232 := h
  show ((l.take k).length + 1) * b ≤ 140737488351232
  rw [List.length_take]
  exact Nat.le_trans (Nat.mul_le_mul_right _ (by omega)) h
theorem room62 {n b : Nat} (hb : 1 ≤ b) (h : pRoom n b) : n < 4611686018427387904 := by
  have h : n * b ≤ 140737488351232 := h
  have := Nat.mul_le_mul_left n hb
  omega
theorem nown_ok : Meets Tryd.prog (fun _ => none) 38 cnown := nown_meets cloneM_ok fun fl hp => by
  have h : RowsOk fl := hp _ List.mem_cons_self
  clear hp
  have hl : fl.length < 4611686018427387904 := room62 (by decide) h.1
  unfold nown_VC
  refine ⟨⟨0, rfl, Nat.zero_le _⟩, fun y hy => ?_⟩
  obtain ⟨k, rfl, hk⟩ := hy
  dsimp only
  by_cases hkn : k < fl.length
  · rw [bif_true (by simp [pLt_coe, pLen, hkn]), pNat_coe]
    have hb : k < 4611686018427387904 := by omega
    refine ⟨pIn_coe.2 hkn, room_row h hkn, room_take hkn h.1, ⟨k + 1, by rw [pAdd1 hb, take_one (t := tyRow) hkn], hkn⟩, mu_step hkn hb⟩
  · obtain rfl : k = fl.length := by omega
    rw [bif_false (by simp [pLt_coe, pLen]), List.take_length]
theorem FlyingCopy_ok : Meets Tryd.prog (fun _ => none) 12 cFlyingCopy := FlyingCopy_meets fun fl hp => by
  have h : RowsOk fl := hp _ List.mem_cons_self
  clear hp
  have hl : fl.length < 4611686018427387904 := room62 (by decide) h.1
  unfold FlyingCopy_VC
  refine ⟨⟨0, rfl, Nat.zero_le _⟩, fun y hy => ?_⟩
  obtain ⟨k, rfl, hk⟩ := hy
  dsimp only
  by_cases hkn : k < fl.length
  · rw [bif_true (by simp [pLt_coe, pLen, hkn]), pNat_coe]
    have hb : k < 4611686018427387904 := by omega
    have hr := room_row h hkn
    have hrl := room62 (by decide) hr
    have hin : ∀ z, ncrowInv fl (k : Int) z ↔ ∃ j : Nat, z = ((j : Int), (pGet tyRow fl k).1.take j, ()) ∧ j ≤ (pGet tyRow fl k).1.length := fun z => by unfold ncrowInv; rw [pNat_coe]
    have hmu : ∀ z, ncrowMu fl (k : Int) z = (pGet tyRow fl k).1.length - z.1.toNat := fun z => by unfold ncrowMu; rw [pNat_coe]
    refine ⟨(hin _).2 ⟨0, rfl, Nat.zero_le _⟩, fun z hz => ?_⟩
    obtain ⟨j, rfl, hj⟩ := (hin _).1 hz
    have hjb : j < 4611686018427387904 := Nat.lt_of_le_of_lt hj hrl
    dsimp only
    refine ⟨pIn_coe.2 hkn, ?_⟩
    by_cases hjn : j < (pGet tyRow fl k).1.length
    · rw [bif_true (by rw [pLt_coe]; exact decide_eq_true hjn), pNat_coe]
      exact ⟨pIn_coe.2 hkn, pIn_coe.2 hjn, room_take hjn hr, (hin _).2 ⟨j + 1, by rw [pAdd1 hjb, take_one (t := tyMsg) hjn], hjn⟩, by rw [hmu, hmu]; exact mu_step hjn hjb⟩
    · obtain rfl : j = (pGet tyRow fl k).1.length := by omega
      rw [bif_false (by rw [pLt_coe]; exact decide_eq_false (Nat.lt_irrefl _)), List.take_length]
      exact ⟨room_take hkn h.1, ⟨k + 1, by rw [pAdd1 hb]; exact congrArg (fun q => (((k + 1 : Nat) : Int), q, ())) (take_one (t := tyRow) hkn), hkn⟩, mu_step hkn hb⟩
  · obtain rfl : k = fl.length := by omega
    rw [bif_false (by simp [pLt_coe, pLen]), List.take_length]


end Go.Proofs.YtgocemdodabgkaaDoor

/- Contracts, and what the evaluator says, as plain propositions: NsV. Printed by vc.py. -/
namespace Go.Proofs.YtgocemdodabgkaaDoor
open Go.RowKit Go.ChangeShapes Go.WideShapes Go.Deep

abbrev In_S : Shape := ⟨[.one (.rd tI), .one (.rd tI), .one (.rd tI)], []⟩
abbrev In_f : Shape.den In_S → denVars [.slot 0 false .bool] := fun x => (inF x.1.1 x.1.2.1 x.1.2.2.1, ())
abbrev In_p : Shape.den In_S → List Prop := fun _ => []
def cIn : Ctr := shCtr In_S In_p [] [.slot 0 false .bool] In_f
abbrev one_S : Shape := ⟨[pLab], []⟩
abbrev one_f : Shape.den one_S → denVars [.slot 0 false .bool] := fun x => (labF x.1.1, ())
abbrev one_p : Shape.den one_S → List Prop := fun _ => []
def cone : Ctr := shCtr one_S one_p [] [.slot 0 false .bool] one_f
abbrev lCheck_S : Shape := ⟨[pCfg], []⟩
abbrev lCheck_f : Shape.den lCheck_S → denVars [.slot 0 false tI] := fun x => (cfgF x.1.1, ())
abbrev lCheck_p : Shape.den lCheck_S → List Prop := fun x => [pLen x.1.1.2.1 < 4611686018427387904]
def clCheck : Ctr := shCtr lCheck_S lCheck_p [] [.slot 0 false tI] lCheck_f
def ccFault : Ctr := shCtr lCheck_S lCheck_p [] [.slot 0 false tI] lCheck_f
abbrev labelMay_S : Shape := ⟨[pCfg, .one (.rd tI)], []⟩
abbrev labelMay_f : Shape.den labelMay_S → denVars [.slot 0 false .bool] := fun x => (placeF x.1.1 x.1.2.1, ())
abbrev labelMay_p : Shape.den labelMay_S → List Prop := fun x => [pLen x.1.1.2.1 < 4611686018427387904]
def clabelMay : Ctr := shCtr labelMay_S labelMay_p [] [.slot 0 false .bool] labelMay_f
abbrev wtxn_S : Shape := ⟨[pCfg, pTxn], []⟩
abbrev wtxn_f : Shape.den wtxn_S → denVars [.slot 0 false .bool] := fun x => (txnF x.1.1 x.1.2.1.1 x.1.2.1.2.1, ())
abbrev wtxn_p : Shape.den wtxn_S → List Prop := fun _ => []
def cwtxn : Ctr := shCtr wtxn_S wtxn_p [] [.slot 0 false .bool] wtxn_f
abbrev wkey_S : Shape := ⟨[.one (.rd tI)], []⟩
abbrev wkey_f : Shape.den wkey_S → denVars [.slot 0 false .bool] := fun x => (inF x.1.1 0 7, ())
abbrev wkey_p : Shape.den wkey_S → List Prop := fun _ => []
def cwkey : Ctr := shCtr wkey_S wkey_p [] [.slot 0 false .bool] wkey_f
abbrev wvalue_f : Shape.den wkey_S → denVars [.slot 0 false .bool] := fun x => (inF x.1.1 0 1073741824, ())
def cwvalue : Ctr := shCtr wkey_S wkey_p [] [.slot 0 false .bool] wvalue_f
abbrev wask_f : Shape.den wkey_S → denVars [.slot 0 false .bool] := fun x => (inF x.1.1 0 1048576, ())
def cwask : Ctr := shCtr wkey_S wkey_p [] [.slot 0 false .bool] wask_f
abbrev wcode_f : Shape.den wkey_S → denVars [.slot 0 false .bool] := fun x => (codeF x.1.1, ())
def cwcode : Ctr := shCtr wkey_S wkey_p [] [.slot 0 false .bool] wcode_f
abbrev txnMay_p : Shape.den wtxn_S → List Prop := fun x => [inF x.1.1.1 1 4 = true]
def ctxnMay : Ctr := shCtr wtxn_S txnMay_p [] [.slot 0 false .bool] wtxn_f
abbrev MessageFault_S : Shape := ⟨[pCfg, pMsg], []⟩
abbrev MessageFault_f : Shape.den MessageFault_S → denVars [.slot 0 false tI] := fun x => (msgF x.1.1 x.1.2.1, ())
abbrev MessageFault_p : Shape.den MessageFault_S → List Prop := fun x => [pLen x.1.1.2.1 < 4611686018427387904]
def cMessageFault : Ctr := shCtr MessageFault_S MessageFault_p [] [.slot 0 false tI] MessageFault_f
abbrev eqsNeV : List TypeId := [115, 53]

def In_VC (a : Int) (b : Int) (c : Int) : Prop :=
  bif pGe a b then (pLe a c, ()) = (inF a b c, ()) else (Bool.false, ()) = (inF a b c, ())
set_option maxRecDepth 100000 in
theorem In_meets  (h : ∀ (a : Int) (b : Int) (c : Int), In_VC a b c) : Mt 26 cIn :=
  meets_vc (E := envN Tryd.prog (fun _ => none) [] eqsNeV [(43, [0])] []) (envN_ok (fun p hp => by cases hp) (by kernel_rfl)) In_S (fun x => fun ky9 st9 => look [] ky9) Tryd.func26 (by kernel_rfl) (by kernel_rfl) In_p [] [.slot 0 false .bool] In_f (fun x => In_VC x.1.1 x.1.2.1 x.1.2.2.1) (fun x => by kernel_rfl) (fun x _ => h x.1.1 x.1.2.1 x.1.2.2.1)

def one_VC (al : Int) (ak : Int) : Prop :=
  bif pGe al (0 : Int) then bif pLe al (9 : Int) then bif pGe ak (0 : Int) then (pLe ak (15 : Int), ()) = (labF (al, ak, ()), ()) else (Bool.false, ()) = (labF (al, ak, ()), ()) else (Bool.false, ()) = (labF (al, ak, ()), ()) else
 (Bool.false, ()) = (labF (al, ak, ()), ())
set_option maxRecDepth 100000 in
theorem one_meets  (h : ∀ (al : Int) (ak : Int), one_VC al ak) : Mt 56 cone :=
  meets_vc (E := envN Tryd.prog (fun _ => none) [] eqsNeV [(43, [0])] []) (envN_ok (fun p hp => by cases hp) (by kernel_rfl)) one_S (fun x => fun ky9 st9 => look [] ky9) Tryd.func56 (by kernel_rfl) (by kernel_rfl) one_p [] [.slot 0 false .bool] one_f (fun x => one_VC x.1.1.1 x.1.1.2.1) (fun x => by kernel_rfl) (fun x _ => h x.1.1.1 x.1.1.2.1)

def lCheck_VC (cn : Int) (cl : (List LabD)) (cp : Int) : Prop :=
  bif pLt cn (1 : Int) then ((2 : Int), ()) = (cfgF (cn, cl, cp, ()), ()) else bif pGt cn (4 : Int) then ((2 : Int), ()) = (cfgF (cn, cl, cp, ()), ()) else bif pLt (pInt (pLen cl)) (1 : Int) then ((1 : Int), ()) = (cfgF (cn, cl, cp, ()), ())
 else bif pGt (pInt (pLen cl)) (6 : Int) then ((1 : Int), ()) = (cfgF (cn, cl, cp, ()), ()) else lCheckAInv cn cl cp ((0 : Int), ()) ∧ ∀ (y : kden Bool.false tI × PUnit), lCheckAInv cn cl cp y → bif pLt y.1 (pInt (pLen cl)) then pIn y.1
 (pLen cl) ∧ bif pNot (labF (pGet tyLab cl (pNat y.1))) then ((2 : Int), ()) = (cfgF (cn, cl, cp, ()), ()) else pTo y.1 (pLen cl) ∧ lCheckBInv cn cl cp y.1 ((0 : Int), ()) ∧ ∀ (y_1 : kden Bool.false tI × PUnit), lCheckBInv cn cl cp y.1 y_1 →
 bif pLt y_1.1 (pInt (pLen (pSub cl 0 (pNat y.1)))) then pIn y_1.1 (pLen (pSub cl 0 (pNat y.1))) ∧ bif pAndB (pEq (pGet tyLab (pSub cl 0 (pNat y.1)) (pNat y_1.1)).1 (pGet tyLab cl (pNat y.1)).1) (pEq (pGet tyLab (pSub cl 0 (pNat y.1)) (pNat
 y_1.1)).2.1 (pGet tyLab cl (pNat y.1)).2.1) then ((7 : Int), ()) = (cfgF (cn, cl, cp, ()), ()) else lCheckBInv cn cl cp y.1 (pAdd IntKind.i64 y_1.1 (1 : Int), ()) ∧ Nat.le (Nat.succ (lCheckBMu cn cl cp y.1 (pAdd IntKind.i64 y_1.1 (1 : Int),
 ()))) (lCheckBMu cn cl cp y.1 y_1) else lCheckAInv cn cl cp (pAdd IntKind.i64 y.1 (1 : Int), ()) ∧ Nat.le (Nat.succ (lCheckAMu cn cl cp (pAdd IntKind.i64 y.1 (1 : Int), ()))) (lCheckAMu cn cl cp y) else bif pLt cp (1 : Int) then ((2 : Int),
 ()) = (cfgF (cn, cl, cp, ()), ()) else bif pGt cp (1048576 : Int) then ((2 : Int), ()) = (cfgF (cn, cl, cp, ()), ()) else ((0 : Int), ()) = (cfgF (cn, cl, cp, ()), ())
set_option maxRecDepth 100000 in
theorem lCheck_meets (hone : Mt 56 cone) (h : ∀ (cn : Int) (cl : (List LabD)) (cp : Int), (∀ p ∈ lCheck_p ⟨((cn, cl, cp, ()), ()), ()⟩, p) → lCheck_VC cn cl cp) : Mt 22 clCheck :=
  meets_vc (E := envN Tryd.prog (fun _ => none) [(56, (false, cone))] eqsNeV [(43, [0])] []) (envN_ok (fun p hp => (by simp only [List.mem_cons, List.not_mem_nil, or_false] at hp; rcases hp with rfl; exact hone)) (by kernel_rfl)) lCheck_S (fun x => fun ky9 st9 => look [(6, (⟨[.slot 28 false tI], lCheckAInv x.1.1.1 x.1.1.2.1 x.1.1.2.2.1, lCheckAMu x.1.1.1 x.1.1.2.1 x.1.1.2.2.1⟩ : Ann)), (11, (⟨[.slot 41 false tI], lCheckBInv x.1.1.1 x.1.1.2.1 x.1.1.2.2.1 (slotI st9 28), lCheckBMu x.1.1.1 x.1.1.2.1 x.1.1.2.2.1 (slotI st9 28)⟩ : Ann))] ky9) Tryd.func22 (by kernel_rfl) (by kernel_rfl) lCheck_p [] [.slot 0 false tI] lCheck_f (fun x => lCheck_VC x.1.1.1 x.1.1.2.1 x.1.1.2.2.1) (fun x => by kernel_rfl) (fun x hp => h x.1.1.1 x.1.1.2.1 x.1.1.2.2.1 hp)

def cFault_VC (cn : Int) (cl : (List LabD)) (cp : Int) : Prop :=
  bif pNot (inF cn (1 : Int) (4 : Int)) then ((2 : Int), ()) = (cfgF (cn, cl, cp, ()), ()) else bif pNot (inF (pInt (pLen cl)) (1 : Int) (6 : Int)) then ((1 : Int), ()) = (cfgF (cn, cl, cp, ()), ()) else lCheckAInv cn cl cp ((0 : Int), ()) ∧
 ∀ (y : kden Bool.false tI × PUnit), lCheckAInv cn cl cp y → bif pLt y.1 (pInt (pLen cl)) then pIn y.1 (pLen cl) ∧ bif pNot (inF (pGet tyLab cl (pNat y.1)).1 (0 : Int) (9 : Int)) then ((2 : Int), ()) = (cfgF (cn, cl, cp, ()), ()) else pIn
 y.1 (pLen cl) ∧ bif pNot (inF (pGet tyLab cl (pNat y.1)).2.1 (0 : Int) (15 : Int)) then ((2 : Int), ()) = (cfgF (cn, cl, cp, ()), ()) else lCheckBInv cn cl cp y.1 ((0 : Int), ()) ∧ ∀ (y_1 : kden Bool.false tI × PUnit), lCheckBInv cn cl cp
 y.1 y_1 → bif pLt y_1.1 y.1 then pIn y_1.1 (pLen cl) ∧ pIn y.1 (pLen cl) ∧ bif pAndB (pEq (pGet tyLab cl (pNat y_1.1)).1 (pGet tyLab cl (pNat y.1)).1) (pEq (pGet tyLab cl (pNat y_1.1)).2.1 (pGet tyLab cl (pNat y.1)).2.1) then ((7 : Int),
 ()) = (cfgF (cn, cl, cp, ()), ()) else lCheckBInv cn cl cp y.1 (pAdd IntKind.i64 y_1.1 (1 : Int), ()) ∧ Nat.le (Nat.succ (lCheckBMu cn cl cp y.1 (pAdd IntKind.i64 y_1.1 (1 : Int), ()))) (lCheckBMu cn cl cp y.1 y_1) else lCheckAInv cn cl cp
 (pAdd IntKind.i64 y.1 (1 : Int), ()) ∧ Nat.le (Nat.succ (lCheckAMu cn cl cp (pAdd IntKind.i64 y.1 (1 : Int), ()))) (lCheckAMu cn cl cp y) else bif pNot (inF cp (1 : Int) (1048576 : Int)) then ((2 : Int), ()) = (cfgF (cn, cl, cp, ()), ())
 else ((0 : Int), ()) = (cfgF (cn, cl, cp, ()), ())
set_option maxRecDepth 100000 in
theorem cFault_meets (hIn : Mt 26 cIn) (h : ∀ (cn : Int) (cl : (List LabD)) (cp : Int), (∀ p ∈ lCheck_p ⟨((cn, cl, cp, ()), ()), ()⟩, p) → cFault_VC cn cl cp) : Mt 25 ccFault :=
  meets_vc (E := envN Tryd.prog (fun _ => none) [(26, (false, cIn))] eqsNeV [(43, [0])] []) (envN_ok (fun p hp => (by simp only [List.mem_cons, List.not_mem_nil, or_false] at hp; rcases hp with rfl; exact hIn)) (by kernel_rfl)) lCheck_S (fun x => fun ky9 st9 => look [(6, (⟨[.slot 3 false tI], lCheckAInv x.1.1.1 x.1.1.2.1 x.1.1.2.2.1, lCheckAMu x.1.1.1 x.1.1.2.1 x.1.1.2.2.1⟩ : Ann)), (11, (⟨[.slot 4 false tI], lCheckBInv x.1.1.1 x.1.1.2.1 x.1.1.2.2.1 (slotI st9 3), lCheckBMu x.1.1.1 x.1.1.2.1 x.1.1.2.2.1 (slotI st9 3)⟩ : Ann))] ky9) Tryd.func25 (by kernel_rfl) (by kernel_rfl) lCheck_p [] [.slot 0 false tI] lCheck_f (fun x => cFault_VC x.1.1.1 x.1.1.2.1 x.1.1.2.2.1) (fun x => by kernel_rfl) (fun x hp => h x.1.1.1 x.1.1.2.1 x.1.1.2.2.1 hp)

def labelMay_VC (cn : Int) (cl : (List LabD)) (cp : Int) (l : Int) : Prop :=
  (inF l (0 : Int) (pSubI IntKind.i64 (pInt (pLen cl)) (1 : Int)), ()) = (placeF (cn, cl, cp, ()) l, ())
set_option maxRecDepth 100000 in
theorem labelMay_meets (hIn : Mt 26 cIn) (h : ∀ (cn : Int) (cl : (List LabD)) (cp : Int) (l : Int), (∀ p ∈ labelMay_p ⟨((cn, cl, cp, ()), l, ()), ()⟩, p) → labelMay_VC cn cl cp l) : Mt 77 clabelMay :=
  meets_vc (E := envN Tryd.prog (fun _ => none) [(26, (false, cIn))] eqsNeV [(43, [0])] []) (envN_ok (fun p hp => (by simp only [List.mem_cons, List.not_mem_nil, or_false] at hp; rcases hp with rfl; exact hIn)) (by kernel_rfl)) labelMay_S (fun x => fun ky9 st9 => look [] ky9) Tryd.func77 (by kernel_rfl) (by kernel_rfl) labelMay_p [] [.slot 0 false .bool] labelMay_f (fun x => labelMay_VC x.1.1.1 x.1.1.2.1 x.1.1.2.2.1 x.1.2.1) (fun x => by kernel_rfl) (fun x hp => h x.1.1.1 x.1.1.2.1 x.1.1.2.2.1 x.1.2.1 hp)

def wtxn_VC (cn : Int) (cl : (List LabD)) (cp : Int) (ts : Int) (tn : Int) : Prop :=
  bif pGe ts (0 : Int) then bif pLt ts cn then bif pGe tn (1 : Int) then (pLe tn (1048576 : Int), ()) = (txnF (cn, cl, cp, ()) ts tn, ()) else (Bool.false, ()) = (txnF (cn, cl, cp, ()) ts tn, ()) else (Bool.false, ()) = (txnF (cn, cl, cp, ())
 ts tn, ()) else (Bool.false, ()) = (txnF (cn, cl, cp, ()) ts tn, ())
set_option maxRecDepth 100000 in
theorem wtxn_meets  (h : ∀ (cn : Int) (cl : (List LabD)) (cp : Int) (ts : Int) (tn : Int), wtxn_VC cn cl cp ts tn) : Mt 57 cwtxn :=
  meets_vc (E := envN Tryd.prog (fun _ => none) [] eqsNeV [(43, [0])] []) (envN_ok (fun p hp => by cases hp) (by kernel_rfl)) wtxn_S (fun x => fun ky9 st9 => look [] ky9) Tryd.func57 (by kernel_rfl) (by kernel_rfl) wtxn_p [] [.slot 0 false .bool] wtxn_f (fun x => wtxn_VC x.1.1.1 x.1.1.2.1 x.1.1.2.2.1 x.1.2.1.1 x.1.2.1.2.1) (fun x => by kernel_rfl) (fun x _ => h x.1.1.1 x.1.1.2.1 x.1.1.2.2.1 x.1.2.1.1 x.1.2.1.2.1)

def wkey_VC (a : Int) : Prop :=
  bif pGe a (0 : Int) then (pLt a (8 : Int), ()) = (inF a (0 : Int) (7 : Int), ()) else (Bool.false, ()) = (inF a (0 : Int) (7 : Int), ())
set_option maxRecDepth 100000 in
theorem wkey_meets  (h : ∀ (a : Int), wkey_VC a) : Mt 58 cwkey :=
  meets_vc (E := envN Tryd.prog (fun _ => none) [] eqsNeV [(43, [0])] []) (envN_ok (fun p hp => by cases hp) (by kernel_rfl)) wkey_S (fun x => fun ky9 st9 => look [] ky9) Tryd.func58 (by kernel_rfl) (by kernel_rfl) wkey_p [] [.slot 0 false .bool] wkey_f (fun x => wkey_VC x.1.1) (fun x => by kernel_rfl) (fun x _ => h x.1.1)

def wvalue_VC (a : Int) : Prop :=
  bif pGe a (0 : Int) then (pLe a (1073741824 : Int), ()) = (inF a (0 : Int) (1073741824 : Int), ()) else (Bool.false, ()) = (inF a (0 : Int) (1073741824 : Int), ())
set_option maxRecDepth 100000 in
theorem wvalue_meets  (h : ∀ (a : Int), wvalue_VC a) : Mt 59 cwvalue :=
  meets_vc (E := envN Tryd.prog (fun _ => none) [] eqsNeV [(43, [0])] []) (envN_ok (fun p hp => by cases hp) (by kernel_rfl)) wkey_S (fun x => fun ky9 st9 => look [] ky9) Tryd.func59 (by kernel_rfl) (by kernel_rfl) wkey_p [] [.slot 0 false .bool] wvalue_f (fun x => wvalue_VC x.1.1) (fun x => by kernel_rfl) (fun x _ => h x.1.1)

def wask_VC (a : Int) : Prop :=
  bif pGe a (0 : Int) then (pLe a (1048576 : Int), ()) = (inF a (0 : Int) (1048576 : Int), ()) else (Bool.false, ()) = (inF a (0 : Int) (1048576 : Int), ())
set_option maxRecDepth 100000 in
theorem wask_meets  (h : ∀ (a : Int), wask_VC a) : Mt 60 cwask :=
  meets_vc (E := envN Tryd.prog (fun _ => none) [] eqsNeV [(43, [0])] []) (envN_ok (fun p hp => by cases hp) (by kernel_rfl)) wkey_S (fun x => fun ky9 st9 => look [] ky9) Tryd.func60 (by kernel_rfl) (by kernel_rfl) wkey_p [] [.slot 0 false .bool] wask_f (fun x => wask_VC x.1.1) (fun x => by kernel_rfl) (fun x _ => h x.1.1)

def wcode_VC (a : Int) : Prop :=
  bif pEq a (0 : Int) then (Bool.true, ()) = (codeF a, ()) else bif pEq a (11 : Int) then (Bool.true, ()) = (codeF a, ()) else (pEq a (8 : Int), ()) = (codeF a, ())
set_option maxRecDepth 100000 in
theorem wcode_meets  (h : ∀ (a : Int), wcode_VC a) : Mt 75 cwcode :=
  meets_vc (E := envN Tryd.prog (fun _ => none) [] eqsNeV [(43, [0])] []) (envN_ok (fun p hp => by cases hp) (by kernel_rfl)) wkey_S (fun x => fun ky9 st9 => look [] ky9) Tryd.func75 (by kernel_rfl) (by kernel_rfl) wkey_p [] [.slot 0 false .bool] wcode_f (fun x => wcode_VC x.1.1) (fun x => by kernel_rfl) (fun x _ => h x.1.1)

def txnMay_VC (cn : Int) (cl : (List LabD)) (cp : Int) (ts : Int) (tn : Int) : Prop :=
  bif inF ts (0 : Int) (pSubI IntKind.i64 cn (1 : Int)) then (inF tn (1 : Int) (1048576 : Int), ()) = (txnF (cn, cl, cp, ()) ts tn, ()) else (Bool.false, ()) = (txnF (cn, cl, cp, ()) ts tn, ())
set_option maxRecDepth 100000 in
theorem txnMay_meets (hIn : Mt 26 cIn) (h : ∀ (cn : Int) (cl : (List LabD)) (cp : Int) (ts : Int) (tn : Int), (∀ p ∈ txnMay_p ⟨((cn, cl, cp, ()), (ts, tn, ()), ()), ()⟩, p) → txnMay_VC cn cl cp ts tn) : Mt 66 ctxnMay :=
  meets_vc (E := envN Tryd.prog (fun _ => none) [(26, (false, cIn))] eqsNeV [(43, [0])] []) (envN_ok (fun p hp => (by simp only [List.mem_cons, List.not_mem_nil, or_false] at hp; rcases hp with rfl; exact hIn)) (by kernel_rfl)) wtxn_S (fun x => fun ky9 st9 => look [] ky9) Tryd.func66 (by kernel_rfl) (by kernel_rfl) txnMay_p [] [.slot 0 false .bool] wtxn_f (fun x => txnMay_VC x.1.1.1 x.1.1.2.1 x.1.1.2.2.1 x.1.2.1.1 x.1.2.1.2.1) (fun x => by kernel_rfl) (fun x hp => h x.1.1.1 x.1.1.2.1 x.1.1.2.2.1 x.1.2.1.1 x.1.2.1.2.1 hp)

abbrev MessageFault_v0 (cn : Int) (cl : (List LabD)) (cp : Int) (mk : Int) (mf : Int) (mt : Int) (ms : Int) (mn : Int) (ml : Int) (my : Int) (mv : Int) (me : Int) (ma : Int) (md : Bool) (mc : Int) := (msgF (cn, cl, cp, ()) (mk, mf, mt, ms, mn, ml, my, mv, me, ma, md, mc, ()), ())
abbrev MessageFault_t0 (cn : Int) (cl : (List LabD)) (cp : Int) (mk : Int) (mf : Int) (mt : Int) (ms : Int) (mn : Int) (ml : Int) (my : Int) (mv : Int) (me : Int) (ma : Int) (md : Bool) (mc : Int) : Prop := bif pEq mk (1 : Int) then bif pNot (pAndB (pEq mk mk) (pAndB (pEq mf mf) (pAndB (pEq mt mt) (pAndB (pEq ms ms) (pAndB (pEq mn mn) (pAndB (pEq ml ml) (pAndB (pEq my my) (pAndB (pEq (0 : Int) mv) (pAndB (pEq (0 : Int) me) (pAndB (pEq ma ma)
 (pAndB (pBeq Bool.false md) (pEq (0 : Int) mc)))))))))))) then ((4 : Int), ()) = (MessageFault_v0 cn cl cp mk mf mt ms mn ml my mv me ma md mc) else ((0 : Int), ()) = (MessageFault_v0 cn cl cp mk mf mt ms mn ml my mv me ma md mc) else bif
 pEq mk (2 : Int) then bif pNot (pAndB (pEq mk mk) (pAndB (pEq mf mf) (pAndB (pEq mt mt) (pAndB (pEq ms ms) (pAndB (pEq mn mn) (pAndB (pEq (0 : Int) ml) (pAndB (pEq my my) (pAndB (pEq mv mv) (pAndB (pEq (0 : Int) me) (pAndB (pEq ma ma)
 (pAndB (pBeq Bool.false md) (pEq (0 : Int) mc)))))))))))) then ((4 : Int), ()) = (MessageFault_v0 cn cl cp mk mf mt ms mn ml my mv me ma md mc) else ((0 : Int), ()) = (MessageFault_v0 cn cl cp mk mf mt ms mn ml my mv me ma md mc) else bif
 pEq mk (5 : Int) then bif pEq mc (0 : Int) then bif pNot (pAndB (pEq mk mk) (pAndB (pEq mf mf) (pAndB (pEq mt mt) (pAndB (pEq ms ms) (pAndB (pEq mn mn) (pAndB (pEq ml ml) (pAndB (pEq my my) (pAndB (pEq mv mv) (pAndB (pEq me me) (pAndB (pEq
 ma ma) (pAndB (pBeq Bool.false md) (pEq mc mc)))))))))))) then ((4 : Int), ()) = (MessageFault_v0 cn cl cp mk mf mt ms mn ml my mv me ma md mc) else ((0 : Int), ()) = (MessageFault_v0 cn cl cp mk mf mt ms mn ml my mv me ma md mc) else bif
 pNot (pAndB (pEq mk mk) (pAndB (pEq mf mf) (pAndB (pEq mt mt) (pAndB (pEq ms ms) (pAndB (pEq mn mn) (pAndB (pEq ml ml) (pAndB (pEq my my) (pAndB (pEq (0 : Int) mv) (pAndB (pEq (0 : Int) me) (pAndB (pEq ma ma) (pAndB (pBeq Bool.false md)
 (pEq mc mc)))))))))))) then ((4 : Int), ()) = (MessageFault_v0 cn cl cp mk mf mt ms mn ml my mv me ma md mc) else ((0 : Int), ()) = (MessageFault_v0 cn cl cp mk mf mt ms mn ml my mv me ma md mc) else bif pEq mk (6 : Int) then bif pNot
 (pAndB (pEq mk mk) (pAndB (pEq mf mf) (pAndB (pEq mt mt) (pAndB (pEq ms ms) (pAndB (pEq mn mn) (pAndB (pEq (0 : Int) ml) (pAndB (pEq my my) (pAndB (pEq (0 : Int) mv) (pAndB (pEq (0 : Int) me) (pAndB (pEq ma ma) (pAndB (pBeq Bool.false md)
 (pEq mc mc)))))))))))) then ((4 : Int), ()) = (MessageFault_v0 cn cl cp mk mf mt ms mn ml my mv me ma md mc) else ((0 : Int), ()) = (MessageFault_v0 cn cl cp mk mf mt ms mn ml my mv me ma md mc) else bif pEq mk (4 : Int) then bif pNot
 (pAndB (pEq mk mk) (pAndB (pEq mf mf) (pAndB (pEq mt mt) (pAndB (pEq ms ms) (pAndB (pEq mn mn) (pAndB (pEq (0 : Int) ml) (pAndB (pEq (0 : Int) my) (pAndB (pEq (0 : Int) mv) (pAndB (pEq (0 : Int) me) (pAndB (pEq (0 : Int) ma) (pAndB (pBeq md
 md) (pEq (0 : Int) mc)))))))))))) then ((4 : Int), ()) = (MessageFault_v0 cn cl cp mk mf mt ms mn ml my mv me ma md mc) else ((0 : Int), ()) = (MessageFault_v0 cn cl cp mk mf mt ms mn ml my mv me ma md mc) else bif pEq mk (3 : Int) then bif
 pNot (pAndB (pEq mk mk) (pAndB (pEq mf mf) (pAndB (pEq mt mt) (pAndB (pEq ms ms) (pAndB (pEq mn mn) (pAndB (pEq ml ml) (pAndB (pEq my my) (pAndB (pEq (0 : Int) mv) (pAndB (pEq me me) (pAndB (pEq (0 : Int) ma) (pAndB (pBeq Bool.false md)
 (pEq (0 : Int) mc)))))))))))) then ((4 : Int), ()) = (MessageFault_v0 cn cl cp mk mf mt ms mn ml my mv me ma md mc) else ((0 : Int), ()) = (MessageFault_v0 cn cl cp mk mf mt ms mn ml my mv me ma md mc) else bif pEq mk (7 : Int) then bif
 pNot (pAndB (pEq mk mk) (pAndB (pEq mf mf) (pAndB (pEq mt mt) (pAndB (pEq ms ms) (pAndB (pEq mn mn) (pAndB (pEq ml ml) (pAndB (pEq my my) (pAndB (pEq (0 : Int) mv) (pAndB (pEq me me) (pAndB (pEq (0 : Int) ma) (pAndB (pBeq md md) (pEq (0 :
 Int) mc)))))))))))) then ((4 : Int), ()) = (MessageFault_v0 cn cl cp mk mf mt ms mn ml my mv me ma md mc) else ((0 : Int), ()) = (MessageFault_v0 cn cl cp mk mf mt ms mn ml my mv me ma md mc) else bif pNot (pAndB (pEq mk mk) (pAndB (pEq mf
 mf) (pAndB (pEq mt mt) (pAndB (pEq ms ms) (pAndB (pEq mn mn) (pAndB (pEq (0 : Int) ml) (pAndB (pEq (0 : Int) my) (pAndB (pEq (0 : Int) mv) (pAndB (pEq (0 : Int) me) (pAndB (pEq (0 : Int) ma) (pAndB (pBeq Bool.false md) (pEq (0 : Int)
 mc)))))))))))) then ((4 : Int), ()) = (MessageFault_v0 cn cl cp mk mf mt ms mn ml my mv me ma md mc) else ((0 : Int), ()) = (MessageFault_v0 cn cl cp mk mf mt ms mn ml my mv me ma md mc)

def MessageFault_VC (cn : Int) (cl : (List LabD)) (cp : Int) (mk : Int) (mf : Int) (mt : Int) (ms : Int) (mn : Int) (ml : Int) (my : Int) (mv : Int) (me : Int) (ma : Int) (md : Bool) (mc : Int) : Prop :=
  Nat.le (Nat.succ (pLen cl)) 4611686018427387904 ∧ bif pNe (cfgF (cn, cl, cp, ())) (0 : Int) then (cfgF (cn, cl, cp, ()), ()) = (MessageFault_v0 cn cl cp mk mf mt ms mn ml my mv me ma md mc) else bif pNot (inF mk (1 : Int) (9 : Int)) then
 ((3 : Int), ()) = (MessageFault_v0 cn cl cp mk mf mt ms mn ml my mv me ma md mc) else bif pNot (inF mf (0 : Int) (pSubI IntKind.i64 cn (1 : Int))) then ((2 : Int), ()) = (MessageFault_v0 cn cl cp mk mf mt ms mn ml my mv me ma md mc) else
 bif pNot (inF mt (0 : Int) (pSubI IntKind.i64 cn (1 : Int))) then ((2 : Int), ()) = (MessageFault_v0 cn cl cp mk mf mt ms mn ml my mv me ma md mc) else inF cn (1 : Int) (4 : Int) = Bool.true ∧ bif pNot (txnF (cn, cl, cp, ()) ms mn) then ((2
 : Int), ()) = (MessageFault_v0 cn cl cp mk mf mt ms mn ml my mv me ma md mc) else Nat.le (Nat.succ (pLen cl)) 4611686018427387904 ∧ bif pNot (placeF (cn, cl, cp, ()) ml) then ((2 : Int), ()) = (MessageFault_v0 cn cl cp mk mf mt ms mn ml my
 mv me ma md mc) else bif pNot (inF my (0 : Int) (7 : Int)) then ((2 : Int), ()) = (MessageFault_v0 cn cl cp mk mf mt ms mn ml my mv me ma md mc) else bif pNot (inF mv (0 : Int) (1073741824 : Int)) then ((2 : Int), ()) = (MessageFault_v0 cn
 cl cp mk mf mt ms mn ml my mv me ma md mc) else bif pNot (inF me (0 : Int) (1048576 : Int)) then ((2 : Int), ()) = (MessageFault_v0 cn cl cp mk mf mt ms mn ml my mv me ma md mc) else bif pNot (inF ma (0 : Int) (1048576 : Int)) then ((2 :
 Int), ()) = (MessageFault_v0 cn cl cp mk mf mt ms mn ml my mv me ma md mc) else bif pNe mc (0 : Int) then bif pNe mc (11 : Int) then bif pNe mc (8 : Int) then ((2 : Int), ()) = (MessageFault_v0 cn cl cp mk mf mt ms mn ml my mv me ma md mc)
 else MessageFault_t0 cn cl cp mk mf mt ms mn ml my mv me ma md mc else MessageFault_t0 cn cl cp mk mf mt ms mn ml my mv me ma md mc else MessageFault_t0 cn cl cp mk mf mt ms mn ml my mv me ma md mc
set_option maxRecDepth 100000 in
theorem MessageFault_meets (hcFault : Mt 25 ccFault) (hIn : Mt 26 cIn) (htxnMay : Mt 66 ctxnMay) (hlabelMay : Mt 77 clabelMay) (h : ∀ (cn : Int) (cl : (List LabD)) (cp : Int) (mk : Int) (mf : Int) (mt : Int) (ms : Int) (mn : Int) (ml : Int) (my : Int) (mv : Int) (me : Int) (ma : Int) (md : Bool) (mc : Int), (∀ p ∈ MessageFault_p ⟨((cn, cl, cp, ()), (mk, mf, mt, ms, mn, ml, my, mv, me, ma, md, mc, ()), ()), ()⟩, p) → MessageFault_VC cn cl cp mk mf mt ms mn ml my mv me ma md mc) : Mt 40 cMessageFault :=
  meets_vc (E := envN Tryd.prog (fun _ => none) [(25, (false, ccFault)), (26, (false, cIn)), (66, (false, ctxnMay)), (77, (false, clabelMay))] eqsNeV [(43, [0])] []) (envN_ok (fun p hp => (by simp only [List.mem_cons, List.not_mem_nil, or_false] at hp; rcases hp with rfl | rfl | rfl | rfl; exact hcFault; exact hIn; exact htxnMay; exact hlabelMay)) (by kernel_rfl)) MessageFault_S (fun x => fun ky9 st9 => look [] ky9) Tryd.func40 (by kernel_rfl) (by kernel_rfl) MessageFault_p [] [.slot 0 false tI] MessageFault_f (fun x => MessageFault_VC x.1.1.1 x.1.1.2.1 x.1.1.2.2.1 x.1.2.1.1 x.1.2.1.2.1 x.1.2.1.2.2.1 x.1.2.1.2.2.2.1 x.1.2.1.2.2.2.2.1 x.1.2.1.2.2.2.2.2.1 x.1.2.1.2.2.2.2.2.2.1 x.1.2.1.2.2.2.2.2.2.2.1 x.1.2.1.2.2.2.2.2.2.2.2.1 x.1.2.1.2.2.2.2.2.2.2.2.2.1 x.1.2.1.2.2.2.2.2.2.2.2.2.2.1 x.1.2.1.2.2.2.2.2.2.2.2.2.2.2.1) (fun x => by kernel_rfl) (fun x hp => h x.1.1.1 x.1.1.2.1 x.1.1.2.2.1 x.1.2.1.1 x.1.2.1.2.1 x.1.2.1.2.2.1 x.1.2.1.2.2.2.1 x.1.2.1.2.2.2.2.1 x.1.2.1.2.2.2.2.2.1 x.1.2.1.2.2.2.2.2.2.1 x.1.2.1.2.2.2.2.2.2.2.1 x.1.2.1.2.2.2.2.2.2.2.2.1 x.1.2.1.2.2.2.2.2.2.2.2.2.1 x.1.2.1.2.2.2.2.2.2.2.2.2.2.1 x.1.2.1.2.2.2.2.2.2.2.2.2.2.2.1 hp)


end Go.Proofs.YtgocemdodabgkaaDoor
