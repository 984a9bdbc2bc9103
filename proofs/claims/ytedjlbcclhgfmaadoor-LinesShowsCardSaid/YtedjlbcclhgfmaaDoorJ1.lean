/- Numerals: digits, their value; what Atoi and Itoa say of them. No condition. -/
import Derived.Test.YtedjlbcclhgfmaaDoorFF
import Derived.Test.YtedjlbcclhgfmaaDoorFH
import Derived.Test.YtedjlbcclhgfmaaDoorLib
import Derived.Shelf.Strconv.ErrVarAll
import Derived.Shelf.Strconv.Itoa3
import Derived.Shelf.Strings.Split
import Derived.Shelf.Strings.Shaped
import Derived.Test.YtedjlbcclhgfmaaDoorProg
import Derived.Test.YtedjlbcclhgfmaaDoorDec
import Derived.Lib.Builder
import Derived.Lib.UnsafeStr
import Derived.Shelf.RegionOpenPlain
import Derived.Laws.Externs
import Derived.WalkKit
import Derived.Lib.AtoiAllCases
import Derived.Lib.Strings

/- Plain words of configurations, desks and acts: types of readings, what may be. No condition. -/
namespace Go.Proofs.YtedjlbcclhgfmaaDoor
open Go.RowKit

abbrev tI : Ty := .int .i64
abbrev tyN : Ty := .pair tI .unit
abbrev tyLab : Ty := .pair tI (.pair tI .unit)
abbrev ND := Int × Unit
abbrev LabD := Int × Int × Unit
abbrev CfgD := Int × List LabD × Int × Unit
abbrev CallD := Int × Int × Int × Int × Int × Unit
abbrev ActD := Int × Int × Int × Int × Int × List ND × Int × Int × Int × Int × Int × ByteArray × Unit
abbrev pLab : Par := .agg [.rd tI, .rd tI]
abbrev pCfg : Par := .agg [.rd tI, .rd (.sl tyLab), .rd tI]
abbrev pCall : Par := .agg [.rd tI, .rd tI, .rd tI, .rd tI, .rd tI]
abbrev pAct : Par := .agg [.rd tI, .rd tI, .rd tI, .rd tI, .rd tI, .rd (.sl tyN), .rd tI, .rd tI, .rd tI, .rd tI, .rd tI, .rd .str]
abbrev wLab : TyW := wStruct [wInt, wInt]
abbrev wCfg : TyW := wStruct [wInt, wSl wLab 16, wInt]
abbrev wCall : TyW := wStruct [wInt, wInt, wInt, wInt, wInt]
abbrev wAct : TyW := wStruct [wInt, wInt, wInt, wInt, wInt, wSl wInt 8, wCall, wStr]

def inF (x a b : Int) : Bool := pLe a x && pLe x b
def labF (a : LabD) : Bool := inF a.1 0 9 && inF a.2.1 0 15
def eqLabAt (l : List LabD) (k i : Nat) : Bool := pAndB (pEq (pGet tyLab l k).1 (pGet tyLab l i).1) (pEq (pGet tyLab l k).2.1 (pGet tyLab l i).2.1)
/-- what is wrong with a label, behind those ahead of it -/
def labE (l : List LabD) (i : Nat) : Int := cond (labF (pGet tyLab l i)) (cond (allUpto (fun k => !eqLabAt l k i) i) 0 7) 2
def cfgF (c : CfgD) : Int :=
  cond (inF c.1 1 4) (cond (inF (pInt c.2.1.length) 1 6) (cond (pEq (firstE (labE c.2.1) c.2.1.length) 0) (cond (inF c.2.2.1 1 1048576) 0 2) (firstE (labE c.2.1) c.2.1.length)) 1) 2
def placeF (c : CfgD) (l : Int) : Bool := pLe 0 l && pLt l (pInt c.2.1.length)
def lCheckAInv (_ : Int) (cl : List LabD) (_ : Int) : denVars [.slot 28 false tI] → Prop := FirstInv (labE cl) cl.length
def lCheckAMu (_ : Int) (cl : List LabD) (_ : Int) : denVars [.slot 28 false tI] → Nat := UpMu cl.length
def lCheckBInv (_ : Int) (cl : List LabD) (_ : Int) (i : Int) : denVars [.slot 41 false tI] → Prop := UpInv (fun k => !eqLabAt cl k (pNat i)) (pNat i)
def lCheckBMu (_ : Int) (_ : List LabD) (_ : Int) (i : Int) : denVars [.slot 41 false tI] → Nat := UpMu (pNat i)
variable (cn : Int) (cl : List LabD) (cp : Int)
/-- numbers of bytes to keep -/
def keepBad (l : List ND) : Int := idxOf (fun j => pNot (inF (pGet tyN l j).1 0 6000)) l.length
def keepInv (l : List ND) : denVars [.slot 8 false tI] → Prop := FindInv (fun j => pNot (inF (pGet tyN l j).1 0 6000)) l.length
def keepMu (l : List ND) : denVars [.slot 8 false tI] → Nat := UpMu l.length
def keepUpInv (_ : Int) (_ : List LabD) (_ : Int) (_ _ _ _ _ : Int) (l : List ND) (_ _ _ _ _ : Int) (_ : ByteArray) : denVars [.slot 6 false tI] → Prop := FindInv (fun j => pNot (inF (pGet tyN l j).1 0 6000)) l.length
def keepUpMu (_ : Int) (_ : List LabD) (_ : Int) (_ _ _ _ _ : Int) (l : List ND) (_ _ _ _ _ : Int) (_ : ByteArray) : denVars [.slot 6 false tI] → Nat := UpMu l.length
def callF (x : CallD) : Int :=
  cond (inF x.1 1 5) (cond (inF x.2.1 0 1048576 && inF x.2.2.1 0 5 && inF x.2.2.2.1 0 8 && inF x.2.2.2.2.1 0 1073741824)
    (cond ((pNe x.1 1 || pEq x.2.1 0) && (pEq x.1 2 || pEq x.2.2.1 0) && (pEq x.1 2 || pEq x.1 3 || pEq x.2.2.2.1 0) && (pEq x.1 3 || pEq x.2.2.2.2.1 0)) 0 4) 2) 3
def numbersF (c : CfgD) (z : ActD) : Bool :=
  pLe 0 z.2.1 && pLt z.2.1 c.1 && pLe 0 z.2.2.1 && pLt z.2.2.1 c.1 && placeF c z.2.2.2.1 && inF z.2.2.2.2.1 0 1048576 && decide (z.2.2.2.2.2.1.length ≤ c.2.1.length) && decide (pStrLen z.2.2.2.2.2.2.2.2.2.2.2.1 ≤ 60) && pNot (pGe (keepBad z.2.2.2.2.2.1) 0)
def callOf (z : ActD) : CallD := (z.2.2.2.2.2.2.1, z.2.2.2.2.2.2.2.1, z.2.2.2.2.2.2.2.2.1, z.2.2.2.2.2.2.2.2.2.1, z.2.2.2.2.2.2.2.2.2.2.1, ())
def noCall (x : CallD) : Bool := pEq x.1 0 && pEq x.2.1 0 && pEq x.2.2.1 0 && pEq x.2.2.2.1 0 && pEq x.2.2.2.2.1 0
def bareF (z : ActD) : Bool :=
  (pNe z.1 5 || pEq z.2.1 0) && (inF z.1 2 4 || pEq z.1 1 || pEq z.1 8 || pEq z.2.2.2.1 0) && (inF z.1 2 4 || (pEq z.2.2.1 0 && pEq z.2.2.2.2.1 0)) && (pEq z.1 6 || decide (z.2.2.2.2.2.1.length = 0)) &&
    (pEq z.1 1 || noCall (callOf z)) && (pEq z.1 8 || pStrEq z.2.2.2.2.2.2.2.2.2.2.2.1 ByteArray.empty)
def actF (c : CfgD) (z : ActD) : Int :=
  cond (pEq (cfgF c) 0) (cond (inF z.1 1 8) (cond (numbersF c z) (cond (bareF z) (cond (pEq z.1 1) (callF (callOf z)) 0) 4) 2) 3) (cfgF c)


end Go.Proofs.YtedjlbcclhgfmaaDoor

/- Functions of the program that meet contracts: a short word for it. -/
namespace Go.Proofs.YtedjlbcclhgfmaaDoor

abbrev vnil (α : Type) : List α := []
/-- a text, by its bytes -/
def bs (l : List Nat) : ByteArray := ⟨(l.map UInt8.ofNat).toArray⟩
abbrev Mt (f : FuncId) (c : Ctr) : Prop := Meets Tryd.prog (fun _ => none) f c
abbrev MtG (g : Nat → Option Gl) (f : FuncId) (c : Ctr) : Prop := Meets Tryd.prog g f c


end Go.Proofs.YtedjlbcclhgfmaaDoor

/- Contracts, and what the evaluator says, as plain propositions: LnV. Printed by vc.py. -/
namespace Go.Proofs.YtedjlbcclhgfmaaDoor
open Go.RowKit Go.ChangeShapes Go.WideShapes Go.Deep

abbrev In_S : Shape := ⟨[.one (.rd tI), .one (.rd tI), .one (.rd tI)], []⟩
abbrev In_f : Shape.den In_S → denVars [.slot 0 false .bool] := fun x => (inF x.1.1 x.1.2.1 x.1.2.2.1, ())
abbrev In_p : Shape.den In_S → List Prop := fun _ => []
def cIn : Ctr := shCtr In_S In_p [] [.slot 0 false .bool] In_f
abbrev one_S : Shape := ⟨[pLab], []⟩
abbrev one_f : Shape.den one_S → denVars [.slot 0 false .bool] := fun x => (labF x.1.1, ())
abbrev one_p : Shape.den one_S → List Prop := fun _ => []
def cone : Ctr := shCtr one_S one_p [] [.slot 0 false .bool] one_f
abbrev lCheck_S : Shape := ⟨[pCfg], []⟩
abbrev lCheck_f : Shape.den lCheck_S → denVars [.slot 0 false tI] := fun x => (cfgF x.1.1, ())
abbrev lCheck_p : Shape.den lCheck_S → List Prop := fun x => [pLen x.1.1.2.1 < 4611686018427387904]
def clCheck : Ctr := shCtr lCheck_S lCheck_p [] [.slot 0 false tI] lCheck_f
def ccFault : Ctr := shCtr lCheck_S lCheck_p [] [.slot 0 false tI] lCheck_f
abbrev labelMay_S : Shape := ⟨[pCfg, .one (.rd tI)], []⟩
abbrev labelMay_f : Shape.den labelMay_S → denVars [.slot 0 false .bool] := fun x => (placeF x.1.1 x.1.2.1, ())
abbrev labelMay_p : Shape.den labelMay_S → List Prop := fun x => [pLen x.1.1.2.1 < 4611686018427387904]
def clabelMay : Ctr := shCtr labelMay_S labelMay_p [] [.slot 0 false .bool] labelMay_f
abbrev numbers1_S : Shape := ⟨[.one (.rd tI)], []⟩
abbrev numbers1_f : Shape.den numbers1_S → denVars [.slot 0 false .bool] := fun x => (pNot (inF x.1.1 0 6000), ())
abbrev numbers1_p : Shape.den numbers1_S → List Prop := fun _ => []
def cnumbers1 : Ctr := shCtr numbers1_S numbers1_p [] [.slot 0 false .bool] numbers1_f
abbrev indexFunc_S : Shape := ⟨[.one (.rd (.sl tyN)), .one (.lit (.fn 81 []))], []⟩
abbrev indexFunc_f : Shape.den indexFunc_S → denVars [.slot 0 false tI] := fun x => (keepBad x.1.1, ())
abbrev indexFunc_p : Shape.den indexFunc_S → List Prop := fun x => [pLen x.1.1 < 4611686018427387904]
def cindexFunc : Ctr := shCtr indexFunc_S indexFunc_p [] [.slot 0 false tI] indexFunc_f
abbrev containsFunc_f : Shape.den indexFunc_S → denVars [.slot 0 false .bool] := fun x => (pGe (keepBad x.1.1) 0, ())
def ccontainsFunc : Ctr := shCtr indexFunc_S indexFunc_p [] [.slot 0 false .bool] containsFunc_f
abbrev numbers_S : Shape := ⟨[pCfg, pAct], []⟩
abbrev numbers_f : Shape.den numbers_S → denVars [.slot 0 false .bool] := fun x => (numbersF x.1.1 x.1.2.1, ())
abbrev numbers_p : Shape.den numbers_S → List Prop := fun x => [pLen x.1.1.2.1 < 4611686018427387904, pLen x.1.2.1.2.2.2.2.2.1 < 4611686018427387904]
def cnumbers : Ctr := shCtr numbers_S numbers_p [] [.slot 0 false .bool] numbers_f
abbrev bare_S : Shape := ⟨[pAct], []⟩
abbrev bare_f : Shape.den bare_S → denVars [.slot 0 false .bool] := fun x => (bareF x.1.1, ())
abbrev bare_p : Shape.den bare_S → List Prop := fun x => [pLen x.1.1.2.2.2.2.2.1 < 4611686018427387904]
def cbare : Ctr := shCtr bare_S bare_p [] [.slot 0 false .bool] bare_f
abbrev call_S : Shape := ⟨[pCall], []⟩
abbrev call_f : Shape.den call_S → denVars [.slot 0 false tI] := fun x => (callF x.1.1, ())
abbrev call_p : Shape.den call_S → List Prop := fun _ => []
def ccall : Ctr := shCtr call_S call_p [] [.slot 0 false tI] call_f
def ccallMay : Ctr := shCtr call_S call_p [] [.slot 0 false tI] call_f
abbrev liCheck_f : Shape.den numbers_S → denVars [.slot 0 false tI] := fun x => (actF x.1.1 x.1.2.1, ())
def cliCheck : Ctr := shCtr numbers_S numbers_p [] [.slot 0 false tI] liCheck_f
def caFault : Ctr := shCtr numbers_S numbers_p [] [.slot 0 false tI] liCheck_f
abbrev eqsLnV : List TypeId := [83, 53]

def In_VC (a : Int) (b : Int) (c : Int) : Prop :=
  bif pGe a b then (pLe a c, ()) = (inF a b c, ()) else (Bool.false, ()) = (inF a b c, ())
set_option maxRecDepth 100000 in
theorem In_meets  (h : ∀ (a : Int) (b : Int) (c : Int), In_VC a b c) : Mt 55 cIn :=
  meets_vc (E := envOf Tryd.prog [] eqsLnV) (envOf_ok (fun p hp => by cases hp) (by kernel_rfl)) In_S (fun x => fun ky9 st9 => look [] ky9) Tryd.func55 (by kernel_rfl) (by kernel_rfl) In_p [] [.slot 0 false .bool] In_f (fun x => In_VC x.1.1 x.1.2.1 x.1.2.2.1) (fun x => by kernel_rfl) (fun x _ => h x.1.1 x.1.2.1 x.1.2.2.1)

abbrev one_t0 (al : Int) (ak : Int) : Prop := (Bool.false, ()) = (labF (al, ak, ()), ())

def one_VC (al : Int) (ak : Int) : Prop :=
  bif pGe al (0 : Int) then bif pLe al (9 : Int) then bif pGe ak (0 : Int) then (pLe ak (15 : Int), ()) = (labF (al, ak, ()), ()) else one_t0 al ak else one_t0 al ak else one_t0 al ak
set_option maxRecDepth 100000 in
theorem one_meets  (h : ∀ (al : Int) (ak : Int), one_VC al ak) : Mt 49 cone :=
  meets_vc (E := envOf Tryd.prog [] eqsLnV) (envOf_ok (fun p hp => by cases hp) (by kernel_rfl)) one_S (fun x => fun ky9 st9 => look [] ky9) Tryd.func49 (by kernel_rfl) (by kernel_rfl) one_p [] [.slot 0 false .bool] one_f (fun x => one_VC x.1.1.1 x.1.1.2.1) (fun x => by kernel_rfl) (fun x _ => h x.1.1.1 x.1.1.2.1)

abbrev lCheck_v0 (cn : Int) (cl : List LabD) (cp : Int) := (cfgF (cn, cl, cp, ()), ())
abbrev lCheck_v1 (cl : List LabD) (y0 : kden Bool.false tI × PUnit) := pGet tyLab cl (pNat y0.1)

def lCheck_VC (cn : Int) (cl : (List LabD)) (cp : Int) : Prop :=
  bif pLt cn (1 : Int) then ((2 : Int), ()) = lCheck_v0 cn cl cp else bif pGt cn (4 : Int) then ((2 : Int), ()) = lCheck_v0 cn cl cp else bif pLt (pInt (pLen cl)) (1 : Int) then ((1 : Int), ()) = lCheck_v0 cn cl cp else bif pGt (pInt (pLen
 cl)) (6 : Int) then ((1 : Int), ()) = lCheck_v0 cn cl cp else lCheckAInv cn cl cp ((0 : Int), ()) ∧ ∀ (y0 : kden Bool.false tI × PUnit), lCheckAInv cn cl cp y0 → bif pLt y0.1 (pInt (pLen cl)) then pIn y0.1 (pLen cl) ∧ bif pNot (labF
 (lCheck_v1 cl y0)) then ((2 : Int), ()) = lCheck_v0 cn cl cp else pTo y0.1 (pLen cl) ∧ lCheckBInv cn cl cp y0.1 ((0 : Int), ()) ∧ ∀ (y1 : kden Bool.false tI × PUnit), lCheckBInv cn cl cp y0.1 y1 → bif pLt y1.1 (pInt (pLen (pSub cl 0 (pNat
 y0.1)))) then pIn y1.1 (pLen (pSub cl 0 (pNat y0.1))) ∧ bif pAndB (pEq (pGet tyLab (pSub cl 0 (pNat y0.1)) (pNat y1.1)).1 (lCheck_v1 cl y0).1) (pEq (pGet tyLab (pSub cl 0 (pNat y0.1)) (pNat y1.1)).2.1 (lCheck_v1 cl y0).2.1) then ((7 : Int),
 ()) = lCheck_v0 cn cl cp else lCheckBInv cn cl cp y0.1 (pAdd IntKind.i64 y1.1 (1 : Int), ()) ∧ Nat.le (Nat.succ (lCheckBMu cn cl cp y0.1 (pAdd IntKind.i64 y1.1 (1 : Int), ()))) (lCheckBMu cn cl cp y0.1 y1) else lCheckAInv cn cl cp (pAdd
 IntKind.i64 y0.1 (1 : Int), ()) ∧ Nat.le (Nat.succ (lCheckAMu cn cl cp (pAdd IntKind.i64 y0.1 (1 : Int), ()))) (lCheckAMu cn cl cp y0) else bif pLt cp (1 : Int) then ((2 : Int), ()) = lCheck_v0 cn cl cp else bif pGt cp (1048576 : Int) then
 ((2 : Int), ()) = lCheck_v0 cn cl cp else ((0 : Int), ()) = lCheck_v0 cn cl cp
set_option maxRecDepth 100000 in
theorem lCheck_meets (hone : Mt 49 cone) (h : ∀ (cn : Int) (cl : (List LabD)) (cp : Int), (∀ p ∈ lCheck_p ⟨((cn, cl, cp, ()), ()), ()⟩, p) → lCheck_VC cn cl cp) : Mt 16 clCheck :=
  meets_vc (E := envOf Tryd.prog [(49, (false, cone))] eqsLnV) (envOf_ok (fun p hp => (by simp only [List.mem_cons, List.not_mem_nil, or_false] at hp; rcases hp with rfl; exact hone)) (by kernel_rfl)) lCheck_S (fun x => fun ky9 st9 => look [(6, (⟨[.slot 28 false tI], lCheckAInv x.1.1.1 x.1.1.2.1 x.1.1.2.2.1, lCheckAMu x.1.1.1 x.1.1.2.1 x.1.1.2.2.1⟩ : Ann)), (11, (⟨[.slot 41 false tI], lCheckBInv x.1.1.1 x.1.1.2.1 x.1.1.2.2.1 (slotI st9 28), lCheckBMu x.1.1.1 x.1.1.2.1 x.1.1.2.2.1 (slotI st9 28)⟩ : Ann))] ky9) Tryd.func16 (by kernel_rfl) (by kernel_rfl) lCheck_p [] [.slot 0 false tI] lCheck_f (fun x => lCheck_VC x.1.1.1 x.1.1.2.1 x.1.1.2.2.1) (fun x => by kernel_rfl) (fun x hp => h x.1.1.1 x.1.1.2.1 x.1.1.2.2.1 hp)

abbrev cFault_v0 (cn : Int) (cl : List LabD) (cp : Int) := (cfgF (cn, cl, cp, ()), ())

def cFault_VC (cn : Int) (cl : (List LabD)) (cp : Int) : Prop :=
  bif pNot (inF cn (1 : Int) (4 : Int)) then ((2 : Int), ()) = cFault_v0 cn cl cp else bif pNot (inF (pInt (pLen cl)) (1 : Int) (6 : Int)) then ((1 : Int), ()) = cFault_v0 cn cl cp else lCheckAInv cn cl cp ((0 : Int), ()) ∧ ∀ (y0 : kden
 Bool.false tI × PUnit), lCheckAInv cn cl cp y0 → bif pLt y0.1 (pInt (pLen cl)) then pIn y0.1 (pLen cl) ∧ bif pNot (inF (pGet tyLab cl (pNat y0.1)).1 (0 : Int) (9 : Int)) then ((2 : Int), ()) = cFault_v0 cn cl cp else pIn y0.1 (pLen cl) ∧
 bif pNot (inF (pGet tyLab cl (pNat y0.1)).2.1 (0 : Int) (15 : Int)) then ((2 : Int), ()) = cFault_v0 cn cl cp else lCheckBInv cn cl cp y0.1 ((0 : Int), ()) ∧ ∀ (y1 : kden Bool.false tI × PUnit), lCheckBInv cn cl cp y0.1 y1 → bif pLt y1.1
 y0.1 then pIn y1.1 (pLen cl) ∧ pIn y0.1 (pLen cl) ∧ bif pAndB (pEq (pGet tyLab cl (pNat y1.1)).1 (pGet tyLab cl (pNat y0.1)).1) (pEq (pGet tyLab cl (pNat y1.1)).2.1 (pGet tyLab cl (pNat y0.1)).2.1) then ((7 : Int), ()) = cFault_v0 cn cl cp
 else lCheckBInv cn cl cp y0.1 (pAdd IntKind.i64 y1.1 (1 : Int), ()) ∧ Nat.le (Nat.succ (lCheckBMu cn cl cp y0.1 (pAdd IntKind.i64 y1.1 (1 : Int), ()))) (lCheckBMu cn cl cp y0.1 y1) else lCheckAInv cn cl cp (pAdd IntKind.i64 y0.1 (1 : Int),
 ()) ∧ Nat.le (Nat.succ (lCheckAMu cn cl cp (pAdd IntKind.i64 y0.1 (1 : Int), ()))) (lCheckAMu cn cl cp y0) else bif pNot (inF cp (1 : Int) (1048576 : Int)) then ((2 : Int), ()) = cFault_v0 cn cl cp else ((0 : Int), ()) = cFault_v0 cn cl cp
set_option maxRecDepth 100000 in
theorem cFault_meets (hIn : Mt 55 cIn) (h : ∀ (cn : Int) (cl : (List LabD)) (cp : Int), (∀ p ∈ lCheck_p ⟨((cn, cl, cp, ()), ()), ()⟩, p) → cFault_VC cn cl cp) : Mt 25 ccFault :=
  meets_vc (E := envOf Tryd.prog [(55, (false, cIn))] eqsLnV) (envOf_ok (fun p hp => (by simp only [List.mem_cons, List.not_mem_nil, or_false] at hp; rcases hp with rfl; exact hIn)) (by kernel_rfl)) lCheck_S (fun x => fun ky9 st9 => look [(6, (⟨[.slot 3 false tI], lCheckAInv x.1.1.1 x.1.1.2.1 x.1.1.2.2.1, lCheckAMu x.1.1.1 x.1.1.2.1 x.1.1.2.2.1⟩ : Ann)), (11, (⟨[.slot 4 false tI], lCheckBInv x.1.1.1 x.1.1.2.1 x.1.1.2.2.1 (slotI st9 3), lCheckBMu x.1.1.1 x.1.1.2.1 x.1.1.2.2.1 (slotI st9 3)⟩ : Ann))] ky9) Tryd.func25 (by kernel_rfl) (by kernel_rfl) lCheck_p [] [.slot 0 false tI] lCheck_f (fun x => cFault_VC x.1.1.1 x.1.1.2.1 x.1.1.2.2.1) (fun x => by kernel_rfl) (fun x hp => h x.1.1.1 x.1.1.2.1 x.1.1.2.2.1 hp)

def labelMay_VC (cn : Int) (cl : (List LabD)) (cp : Int) (l : Int) : Prop :=
  (inF l (0 : Int) (pSubI IntKind.i64 (pInt (pLen cl)) (1 : Int)), ()) = (placeF (cn, cl, cp, ()) l, ())
set_option maxRecDepth 100000 in
theorem labelMay_meets (hIn : Mt 55 cIn) (h : ∀ (cn : Int) (cl : (List LabD)) (cp : Int) (l : Int), (∀ p ∈ labelMay_p ⟨((cn, cl, cp, ()), l, ()), ()⟩, p) → labelMay_VC cn cl cp l) : Mt 34 clabelMay :=
  meets_vc (E := envOf Tryd.prog [(55, (false, cIn))] eqsLnV) (envOf_ok (fun p hp => (by simp only [List.mem_cons, List.not_mem_nil, or_false] at hp; rcases hp with rfl; exact hIn)) (by kernel_rfl)) labelMay_S (fun x => fun ky9 st9 => look [] ky9) Tryd.func34 (by kernel_rfl) (by kernel_rfl) labelMay_p [] [.slot 0 false .bool] labelMay_f (fun x => labelMay_VC x.1.1.1 x.1.1.2.1 x.1.1.2.2.1 x.1.2.1) (fun x => by kernel_rfl) (fun x hp => h x.1.1.1 x.1.1.2.1 x.1.1.2.2.1 x.1.2.1 hp)

def numbers1_VC (n : Int) : Prop :=
  bif pLt n (0 : Int) then (Bool.true, ()) = (pNot (inF n (0 : Int) (6000 : Int)), ()) else (pGt n (6000 : Int), ()) = (pNot (inF n (0 : Int) (6000 : Int)), ())
set_option maxRecDepth 100000 in
theorem numbers1_meets  (h : ∀ (n : Int), numbers1_VC n) : Mt 81 cnumbers1 :=
  meets_vc (E := envOf Tryd.prog [] eqsLnV) (envOf_ok (fun p hp => by cases hp) (by kernel_rfl)) numbers1_S (fun x => fun ky9 st9 => look [] ky9) Tryd.func81 (by kernel_rfl) (by kernel_rfl) numbers1_p [] [.slot 0 false .bool] numbers1_f (fun x => numbers1_VC x.1.1) (fun x => by kernel_rfl) (fun x _ => h x.1.1)

def indexFunc_VC (l : (List ND)) : Prop :=
  keepInv l ((0 : Int), ()) ∧ ∀ (y0 : kden Bool.false tI × PUnit), keepInv l y0 → bif pLt y0.1 (pInt (pLen l)) then pIn y0.1 (pLen l) ∧ bif pNot (inF (pGet tyN l (pNat y0.1)).1 (0 : Int) (6000 : Int)) then y0 = (keepBad l, ()) else keepInv l
 (pAdd IntKind.i64 y0.1 (1 : Int), ()) ∧ Nat.le (Nat.succ (keepMu l (pAdd IntKind.i64 y0.1 (1 : Int), ()))) (keepMu l y0) else ((-1 : Int), ()) = (keepBad l, ())
set_option maxRecDepth 100000 in
theorem indexFunc_meets (hnumbers1 : Mt 81 cnumbers1) (h : ∀ (l : (List ND)), (∀ p ∈ indexFunc_p ⟨(l, (), ()), ()⟩, p) → indexFunc_VC l) : Mt 99 cindexFunc :=
  meets_vc (E := envOf Tryd.prog [(81, (false, cnumbers1))] eqsLnV) (envOf_ok (fun p hp => (by simp only [List.mem_cons, List.not_mem_nil, or_false] at hp; rcases hp with rfl; exact hnumbers1)) (by kernel_rfl)) indexFunc_S (fun x => fun ky9 st9 => look [(2, (⟨[.slot 8 false tI], keepInv x.1.1, keepMu x.1.1⟩ : Ann))] ky9) Tryd.func99 (by kernel_rfl) (by kernel_rfl) indexFunc_p [] [.slot 0 false tI] indexFunc_f (fun x => indexFunc_VC x.1.1) (fun x => by kernel_rfl) (fun x hp => h x.1.1 hp)

def containsFunc_VC (l : (List ND)) : Prop :=
  Nat.le (Nat.succ (pLen l)) 4611686018427387904 ∧ (pGe (keepBad l) (0 : Int), ()) = (pGe (keepBad l) (0 : Int), ())
set_option maxRecDepth 100000 in
theorem containsFunc_meets (hindexFunc : Mt 99 cindexFunc) (h : ∀ (l : (List ND)), (∀ p ∈ indexFunc_p ⟨(l, (), ()), ()⟩, p) → containsFunc_VC l) : Mt 80 ccontainsFunc :=
  meets_vc (E := envOf Tryd.prog [(99, (false, cindexFunc))] eqsLnV) (envOf_ok (fun p hp => (by simp only [List.mem_cons, List.not_mem_nil, or_false] at hp; rcases hp with rfl; exact hindexFunc)) (by kernel_rfl)) indexFunc_S (fun x => fun ky9 st9 => look [] ky9) Tryd.func80 (by kernel_rfl) (by kernel_rfl) indexFunc_p [] [.slot 0 false .bool] containsFunc_f (fun x => containsFunc_VC x.1.1) (fun x => by kernel_rfl) (fun x hp => h x.1.1 hp)

abbrev numbers_v0 (cn : Int) (cl : List LabD) (cp : Int) (zk : Int) (zs : Int) (zt : Int) (zl : Int) (zp : Int) (ze : List ND) (zck : Int) (zcn : Int) (zcl : Int) (zcy : Int) (zcv : Int) (zi : ByteArray) := (numbersF (cn, cl, cp, ()) (zk, zs, zt, zl, zp, ze, zck, zcn, zcl, zcy, zcv, zi, ()), ())

def numbers_VC (cn : Int) (cl : (List LabD)) (cp : Int) (zk : Int) (zs : Int) (zt : Int) (zl : Int) (zp : Int) (ze : (List ND)) (zck : Int) (zcn : Int) (zcl : Int) (zcy : Int) (zcv : Int) (zi : ByteArray) : Prop :=
  bif pLt zs (0 : Int) then (Bool.false, ()) = numbers_v0 cn cl cp zk zs zt zl zp ze zck zcn zcl zcy zcv zi else bif pGe zs cn then (Bool.false, ()) = numbers_v0 cn cl cp zk zs zt zl zp ze zck zcn zcl zcy zcv zi else bif pLt zt (0 : Int) then
 (Bool.false, ()) = numbers_v0 cn cl cp zk zs zt zl zp ze zck zcn zcl zcy zcv zi else bif pGe zt cn then (Bool.false, ()) = numbers_v0 cn cl cp zk zs zt zl zp ze zck zcn zcl zcy zcv zi else bif pLt zl (0 : Int) then (Bool.false, ()) =
 numbers_v0 cn cl cp zk zs zt zl zp ze zck zcn zcl zcy zcv zi else bif pGe zl (pInt (pLen cl)) then (Bool.false, ()) = numbers_v0 cn cl cp zk zs zt zl zp ze zck zcn zcl zcy zcv zi else bif pLt zp (0 : Int) then (Bool.false, ()) = numbers_v0
 cn cl cp zk zs zt zl zp ze zck zcn zcl zcy zcv zi else bif pGt zp (1048576 : Int) then (Bool.false, ()) = numbers_v0 cn cl cp zk zs zt zl zp ze zck zcn zcl zcy zcv zi else bif pGt (pInt (pLen ze)) (pInt (pLen cl)) then (Bool.false, ()) =
 numbers_v0 cn cl cp zk zs zt zl zp ze zck zcn zcl zcy zcv zi else bif pGt (pInt (pStrLen zi)) (60 : Int) then (Bool.false, ()) = numbers_v0 cn cl cp zk zs zt zl zp ze zck zcn zcl zcy zcv zi else Nat.le (Nat.succ (pLen ze))
 4611686018427387904 ∧ (pNot (pGe (keepBad ze) (0 : Int)), ()) = numbers_v0 cn cl cp zk zs zt zl zp ze zck zcn zcl zcy zcv zi
set_option maxRecDepth 100000 in
theorem numbers_meets (hcontainsFunc : Mt 80 ccontainsFunc) (h : ∀ (cn : Int) (cl : (List LabD)) (cp : Int) (zk : Int) (zs : Int) (zt : Int) (zl : Int) (zp : Int) (ze : (List ND)) (zck : Int) (zcn : Int) (zcl : Int) (zcy : Int) (zcv : Int) (zi : ByteArray), (∀ p ∈ numbers_p ⟨((cn, cl, cp, ()), (zk, zs, zt, zl, zp, ze, zck, zcn, zcl, zcy, zcv, zi, ()), ()), ()⟩, p) → numbers_VC cn cl cp zk zs zt zl zp ze zck zcn zcl zcy zcv zi) : Mt 50 cnumbers :=
  meets_vc (E := envOf Tryd.prog [(80, (false, ccontainsFunc))] eqsLnV) (envOf_ok (fun p hp => (by simp only [List.mem_cons, List.not_mem_nil, or_false] at hp; rcases hp with rfl; exact hcontainsFunc)) (by kernel_rfl)) numbers_S (fun x => fun ky9 st9 => look [] ky9) Tryd.func50 (by kernel_rfl) (by kernel_rfl) numbers_p [] [.slot 0 false .bool] numbers_f (fun x => numbers_VC x.1.1.1 x.1.1.2.1 x.1.1.2.2.1 x.1.2.1.1 x.1.2.1.2.1 x.1.2.1.2.2.1 x.1.2.1.2.2.2.1 x.1.2.1.2.2.2.2.1 x.1.2.1.2.2.2.2.2.1 x.1.2.1.2.2.2.2.2.2.1 x.1.2.1.2.2.2.2.2.2.2.1 x.1.2.1.2.2.2.2.2.2.2.2.1 x.1.2.1.2.2.2.2.2.2.2.2.2.1 x.1.2.1.2.2.2.2.2.2.2.2.2.2.1 x.1.2.1.2.2.2.2.2.2.2.2.2.2.2.1) (fun x => by kernel_rfl) (fun x hp => h x.1.1.1 x.1.1.2.1 x.1.1.2.2.1 x.1.2.1.1 x.1.2.1.2.1 x.1.2.1.2.2.1 x.1.2.1.2.2.2.1 x.1.2.1.2.2.2.2.1 x.1.2.1.2.2.2.2.2.1 x.1.2.1.2.2.2.2.2.2.1 x.1.2.1.2.2.2.2.2.2.2.1 x.1.2.1.2.2.2.2.2.2.2.2.1 x.1.2.1.2.2.2.2.2.2.2.2.2.1 x.1.2.1.2.2.2.2.2.2.2.2.2.2.1 x.1.2.1.2.2.2.2.2.2.2.2.2.2.2.1 hp)

abbrev bare_v0 (zk : Int) (zs : Int) (zt : Int) (zl : Int) (zp : Int) (ze : List ND) (zck : Int) (zcn : Int) (zcl : Int) (zcy : Int) (zcv : Int) (zi : ByteArray) := (bareF (zk, zs, zt, zl, zp, ze, zck, zcn, zcl, zcy, zcv, zi, ()), ())
abbrev bare_v1 (zk : Int) (zs : Int) (zt : Int) (zl : Int) (zp : Int) (ze : List ND) (zck : Int) (zcn : Int) (zcl : Int) (zcy : Int) (zcv : Int) (zi : ByteArray) := bif pEq zk (1 : Int) then bif pEq zk (8 : Int) then (Bool.true, ()) = bare_v0 zk zs zt zl zp ze zck zcn zcl zcy zcv zi else (pStrEq zi (bs []), ()) = bare_v0 zk zs zt zl zp ze zck zcn zcl zcy zcv zi else bif pAndB (pEq zck (0 : Int)) (pAndB
 (pEq zcn (0 : Int)) (pAndB (pEq zcl (0 : Int)) (pAndB (pEq zcy (0 : Int)) (pEq zcv (0 : Int))))) then bif pEq zk (8 : Int) then (Bool.true, ()) = bare_v0 zk zs zt zl zp ze zck zcn zcl zcy zcv zi else (pStrEq zi (bs []), ()) = bare_v0 zk zs
 zt zl zp ze zck zcn zcl zcy zcv zi else (Bool.false, ()) = bare_v0 zk zs zt zl zp ze zck zcn zcl zcy zcv zi
abbrev bare_v2 (zk : Int) (zs : Int) (zt : Int) (zl : Int) (zp : Int) (ze : List ND) (zck : Int) (zcn : Int) (zcl : Int) (zcy : Int) (zcv : Int) (zi : ByteArray) := bif pEq zk (6 : Int) then bare_v1 zk zs zt zl zp ze zck zcn zcl zcy zcv zi else bif pEq (pInt (pLen ze)) (0 : Int) then bare_v1 zk zs zt zl zp ze zck zcn zcl zcy zcv zi else (Bool.false, ()) = bare_v0 zk zs zt zl zp ze zck zcn zcl zcy zcv
 zi
abbrev bare_v3 (zk : Int) (zs : Int) (zt : Int) (zl : Int) (zp : Int) (ze : List ND) (zck : Int) (zcn : Int) (zcl : Int) (zcy : Int) (zcv : Int) (zi : ByteArray) := bif pEq zk (4 : Int) then bare_v2 zk zs zt zl zp ze zck zcn zcl zcy zcv zi else bif pEq zt (0 : Int) then bif pEq zp (0 : Int) then bare_v2 zk zs zt zl zp ze zck zcn zcl zcy zcv zi else (Bool.false, ()) = bare_v0 zk zs zt zl zp ze zck zcn
 zcl zcy zcv zi else (Bool.false, ()) = bare_v0 zk zs zt zl zp ze zck zcn zcl zcy zcv zi
abbrev bare_v4 (zk : Int) (zs : Int) (zt : Int) (zl : Int) (zp : Int) (ze : List ND) (zck : Int) (zcn : Int) (zcl : Int) (zcy : Int) (zcv : Int) (zi : ByteArray) := bif pEq zk (8 : Int) then bare_v3 zk zs zt zl zp ze zck zcn zcl zcy zcv zi else bif pEq zl (0 : Int) then bare_v3 zk zs zt zl zp ze zck zcn zcl zcy zcv zi else (Bool.false, ()) = bare_v0 zk zs zt zl zp ze zck zcn zcl zcy zcv zi

def bare_VC (zk : Int) (zs : Int) (zt : Int) (zl : Int) (zp : Int) (ze : (List ND)) (zck : Int) (zcn : Int) (zcl : Int) (zcy : Int) (zcv : Int) (zi : ByteArray) : Prop :=
  bif pEq zk (2 : Int) then bare_v2 zk zs zt zl zp ze zck zcn zcl zcy zcv zi else bif pEq zk (3 : Int) then bare_v2 zk zs zt zl zp ze zck zcn zcl zcy zcv zi else bif pEq zk (4 : Int) then bif pEq zk (4 : Int) then bare_v3 zk zs zt zl zp ze
 zck zcn zcl zcy zcv zi else bif pEq zk (1 : Int) then bare_v3 zk zs zt zl zp ze zck zcn zcl zcy zcv zi else bare_v4 zk zs zt zl zp ze zck zcn zcl zcy zcv zi else bif pEq zk (4 : Int) then bif pNe zk (5 : Int) then bare_v3 zk zs zt zl zp ze
 zck zcn zcl zcy zcv zi else bif pEq zs (0 : Int) then bare_v3 zk zs zt zl zp ze zck zcn zcl zcy zcv zi else (Bool.false, ()) = bare_v0 zk zs zt zl zp ze zck zcn zcl zcy zcv zi else bif pEq zk (1 : Int) then bif pNe zk (5 : Int) then bare_v3
 zk zs zt zl zp ze zck zcn zcl zcy zcv zi else bif pEq zs (0 : Int) then bare_v3 zk zs zt zl zp ze zck zcn zcl zcy zcv zi else (Bool.false, ()) = bare_v0 zk zs zt zl zp ze zck zcn zcl zcy zcv zi else bif pNe zk (5 : Int) then bare_v4 zk zs
 zt zl zp ze zck zcn zcl zcy zcv zi else bif pEq zs (0 : Int) then bare_v4 zk zs zt zl zp ze zck zcn zcl zcy zcv zi else (Bool.false, ()) = bare_v0 zk zs zt zl zp ze zck zcn zcl zcy zcv zi
set_option maxRecDepth 100000 in
theorem bare_meets  (h : ∀ (zk : Int) (zs : Int) (zt : Int) (zl : Int) (zp : Int) (ze : (List ND)) (zck : Int) (zcn : Int) (zcl : Int) (zcy : Int) (zcv : Int) (zi : ByteArray), (∀ p ∈ bare_p ⟨((zk, zs, zt, zl, zp, ze, zck, zcn, zcl, zcy, zcv, zi, ()), ()), ()⟩, p) → bare_VC zk zs zt zl zp ze zck zcn zcl zcy zcv zi) : Mt 51 cbare :=
  meets_vc (E := envOf Tryd.prog [] eqsLnV) (envOf_ok (fun p hp => by cases hp) (by kernel_rfl)) bare_S (fun x => fun ky9 st9 => look [] ky9) Tryd.func51 (by kernel_rfl) (by kernel_rfl) bare_p [] [.slot 0 false .bool] bare_f (fun x => bare_VC x.1.1.1 x.1.1.2.1 x.1.1.2.2.1 x.1.1.2.2.2.1 x.1.1.2.2.2.2.1 x.1.1.2.2.2.2.2.1 x.1.1.2.2.2.2.2.2.1 x.1.1.2.2.2.2.2.2.2.1 x.1.1.2.2.2.2.2.2.2.2.1 x.1.1.2.2.2.2.2.2.2.2.2.1 x.1.1.2.2.2.2.2.2.2.2.2.2.1 x.1.1.2.2.2.2.2.2.2.2.2.2.2.1) (fun x => by kernel_rfl) (fun x hp => h x.1.1.1 x.1.1.2.1 x.1.1.2.2.1 x.1.1.2.2.2.1 x.1.1.2.2.2.2.1 x.1.1.2.2.2.2.2.1 x.1.1.2.2.2.2.2.2.1 x.1.1.2.2.2.2.2.2.2.1 x.1.1.2.2.2.2.2.2.2.2.1 x.1.1.2.2.2.2.2.2.2.2.2.1 x.1.1.2.2.2.2.2.2.2.2.2.2.1 x.1.1.2.2.2.2.2.2.2.2.2.2.2.1 hp)

abbrev call_v0 (xk : Int) (xn : Int) (xl : Int) (xy : Int) (xv : Int) := (callF (xk, xn, xl, xy, xv, ()), ())

def call_VC (xk : Int) (xn : Int) (xl : Int) (xy : Int) (xv : Int) : Prop :=
  bif pLt xk (1 : Int) then ((3 : Int), ()) = call_v0 xk xn xl xy xv else bif pGt xk (5 : Int) then ((3 : Int), ()) = call_v0 xk xn xl xy xv else bif pLt xn (0 : Int) then ((2 : Int), ()) = call_v0 xk xn xl xy xv else bif pGt xn (1048576 :
 Int) then ((2 : Int), ()) = call_v0 xk xn xl xy xv else bif pLt xl (0 : Int) then ((2 : Int), ()) = call_v0 xk xn xl xy xv else bif pGe xl (6 : Int) then ((2 : Int), ()) = call_v0 xk xn xl xy xv else bif pLt xy (0 : Int) then ((2 : Int),
 ()) = call_v0 xk xn xl xy xv else bif pGt xy (8 : Int) then ((2 : Int), ()) = call_v0 xk xn xl xy xv else bif pLt xv (0 : Int) then ((2 : Int), ()) = call_v0 xk xn xl xy xv else bif pGt xv (1073741824 : Int) then ((2 : Int), ()) = call_v0
 xk xn xl xy xv else bif pNe xk (1 : Int) then bif pEq xk (2 : Int) then bif pNot (pAndB (pEq xk xk) (pAndB (pEq xn xn) (pAndB (pEq xl xl) (pAndB (pEq xy xy) (pEq xv (0 : Int)))))) then ((4 : Int), ()) = call_v0 xk xn xl xy xv else ((0 :
 Int), ()) = call_v0 xk xn xl xy xv else bif pEq xk (3 : Int) then bif pNot (pAndB (pEq xk xk) (pAndB (pEq xn xn) (pAndB (pEq xl (0 : Int)) (pAndB (pEq xy xy) (pEq xv xv))))) then ((4 : Int), ()) = call_v0 xk xn xl xy xv else ((0 : Int), ())
 = call_v0 xk xn xl xy xv else bif pNot (pAndB (pEq xk xk) (pAndB (pEq xn xn) (pAndB (pEq xl (0 : Int)) (pAndB (pEq xy (0 : Int)) (pEq xv (0 : Int)))))) then ((4 : Int), ()) = call_v0 xk xn xl xy xv else ((0 : Int), ()) = call_v0 xk xn xl xy
 xv else bif pEq xk (2 : Int) then bif pNot (pAndB (pEq xk xk) (pAndB (pEq xn (0 : Int)) (pAndB (pEq xl xl) (pAndB (pEq xy xy) (pEq xv (0 : Int)))))) then ((4 : Int), ()) = call_v0 xk xn xl xy xv else ((0 : Int), ()) = call_v0 xk xn xl xy xv
 else bif pEq xk (3 : Int) then bif pNot (pAndB (pEq xk xk) (pAndB (pEq xn (0 : Int)) (pAndB (pEq xl (0 : Int)) (pAndB (pEq xy xy) (pEq xv xv))))) then ((4 : Int), ()) = call_v0 xk xn xl xy xv else ((0 : Int), ()) = call_v0 xk xn xl xy xv
 else bif pNot (pAndB (pEq xk xk) (pAndB (pEq xn (0 : Int)) (pAndB (pEq xl (0 : Int)) (pAndB (pEq xy (0 : Int)) (pEq xv (0 : Int)))))) then ((4 : Int), ()) = call_v0 xk xn xl xy xv else ((0 : Int), ()) = call_v0 xk xn xl xy xv
set_option maxRecDepth 100000 in
theorem call_meets  (h : ∀ (xk : Int) (xn : Int) (xl : Int) (xy : Int) (xv : Int), call_VC xk xn xl xy xv) : Mt 52 ccall :=
  meets_vc (E := envOf Tryd.prog [] eqsLnV) (envOf_ok (fun p hp => by cases hp) (by kernel_rfl)) call_S (fun x => fun ky9 st9 => look [] ky9) Tryd.func52 (by kernel_rfl) (by kernel_rfl) call_p [] [.slot 0 false tI] call_f (fun x => call_VC x.1.1.1 x.1.1.2.1 x.1.1.2.2.1 x.1.1.2.2.2.1 x.1.1.2.2.2.2.1) (fun x => by kernel_rfl) (fun x _ => h x.1.1.1 x.1.1.2.1 x.1.1.2.2.1 x.1.1.2.2.2.1 x.1.1.2.2.2.2.1)

abbrev callMay_v0 (xk : Int) (xn : Int) (xl : Int) (xy : Int) (xv : Int) := (callF (xk, xn, xl, xy, xv, ()), ())
abbrev callMay_v1 (xk : Int) (xn : Int) (xl : Int) (xy : Int) (xv : Int) := bif pNe xk (3 : Int) then bif pNe xv (0 : Int) then ((4 : Int), ()) = callMay_v0 xk xn xl xy xv else ((0 : Int), ()) = callMay_v0 xk xn xl xy xv else ((0 : Int), ()) = callMay_v0 xk xn xl xy xv
abbrev callMay_v2 (xk : Int) (xn : Int) (xl : Int) (xy : Int) (xv : Int) := bif pNe xk (2 : Int) then bif pNe xk (3 : Int) then bif pNe xy (0 : Int) then ((4 : Int), ()) = callMay_v0 xk xn xl xy xv else callMay_v1 xk xn xl xy xv else callMay_v1 xk xn xl xy xv else callMay_v1 xk xn xl xy xv

def callMay_VC (xk : Int) (xn : Int) (xl : Int) (xy : Int) (xv : Int) : Prop :=
  bif pNot (inF xk (1 : Int) (5 : Int)) then ((3 : Int), ()) = callMay_v0 xk xn xl xy xv else bif pNot (inF xn (0 : Int) (1048576 : Int)) then ((2 : Int), ()) = callMay_v0 xk xn xl xy xv else bif pNot (inF xl (0 : Int) (5 : Int)) then ((2 :
 Int), ()) = callMay_v0 xk xn xl xy xv else bif pNot (inF xy (0 : Int) (8 : Int)) then ((2 : Int), ()) = callMay_v0 xk xn xl xy xv else bif pNot (inF xv (0 : Int) (1073741824 : Int)) then ((2 : Int), ()) = callMay_v0 xk xn xl xy xv else bif
 pEq xk (1 : Int) then bif pNe xn (0 : Int) then ((4 : Int), ()) = callMay_v0 xk xn xl xy xv else bif pNe xk (2 : Int) then bif pNe xl (0 : Int) then ((4 : Int), ()) = callMay_v0 xk xn xl xy xv else callMay_v2 xk xn xl xy xv else callMay_v2
 xk xn xl xy xv else bif pNe xk (2 : Int) then bif pNe xl (0 : Int) then ((4 : Int), ()) = callMay_v0 xk xn xl xy xv else callMay_v2 xk xn xl xy xv else callMay_v2 xk xn xl xy xv
set_option maxRecDepth 100000 in
theorem callMay_meets (hIn : Mt 55 cIn) (h : ∀ (xk : Int) (xn : Int) (xl : Int) (xy : Int) (xv : Int), callMay_VC xk xn xl xy xv) : Mt 56 ccallMay :=
  meets_vc (E := envOf Tryd.prog [(55, (false, cIn))] eqsLnV) (envOf_ok (fun p hp => (by simp only [List.mem_cons, List.not_mem_nil, or_false] at hp; rcases hp with rfl; exact hIn)) (by kernel_rfl)) call_S (fun x => fun ky9 st9 => look [] ky9) Tryd.func56 (by kernel_rfl) (by kernel_rfl) call_p [] [.slot 0 false tI] call_f (fun x => callMay_VC x.1.1.1 x.1.1.2.1 x.1.1.2.2.1 x.1.1.2.2.2.1 x.1.1.2.2.2.2.1) (fun x => by kernel_rfl) (fun x _ => h x.1.1.1 x.1.1.2.1 x.1.1.2.2.1 x.1.1.2.2.2.1 x.1.1.2.2.2.2.1)

abbrev liCheck_v0 (zk : Int) (zs : Int) (zt : Int) (zl : Int) (zp : Int) (ze : List ND) (zck : Int) (zcn : Int) (zcl : Int) (zcy : Int) (zcv : Int) (zi : ByteArray) := (zk, zs, zt, zl, zp, ze, zck, zcn, zcl, zcy, zcv, zi, ())
abbrev liCheck_v1 (cn : Int) (cl : List LabD) (cp : Int) (zk : Int) (zs : Int) (zt : Int) (zl : Int) (zp : Int) (ze : List ND) (zck : Int) (zcn : Int) (zcl : Int) (zcy : Int) (zcv : Int) (zi : ByteArray) := (actF (cn, cl, cp, ()) (liCheck_v0 zk zs zt zl zp ze zck zcn zcl zcy zcv zi), ())

def liCheck_VC (cn : Int) (cl : (List LabD)) (cp : Int) (zk : Int) (zs : Int) (zt : Int) (zl : Int) (zp : Int) (ze : (List ND)) (zck : Int) (zcn : Int) (zcl : Int) (zcy : Int) (zcv : Int) (zi : ByteArray) : Prop :=
  Nat.le (Nat.succ (pLen cl)) 4611686018427387904 ∧ bif pNe (cfgF (cn, cl, cp, ())) (0 : Int) then (cfgF (cn, cl, cp, ()), ()) = liCheck_v1 cn cl cp zk zs zt zl zp ze zck zcn zcl zcy zcv zi else bif pLt zk (1 : Int) then ((3 : Int), ()) =
 liCheck_v1 cn cl cp zk zs zt zl zp ze zck zcn zcl zcy zcv zi else bif pGt zk (8 : Int) then ((3 : Int), ()) = liCheck_v1 cn cl cp zk zs zt zl zp ze zck zcn zcl zcy zcv zi else Nat.le (Nat.succ (pLen cl)) 4611686018427387904 ∧ Nat.le
 (Nat.succ (pLen ze)) 4611686018427387904 ∧ bif pNot (numbersF (cn, cl, cp, ()) (liCheck_v0 zk zs zt zl zp ze zck zcn zcl zcy zcv zi)) then ((2 : Int), ()) = liCheck_v1 cn cl cp zk zs zt zl zp ze zck zcn zcl zcy zcv zi else Nat.le (Nat.succ
 (pLen ze)) 4611686018427387904 ∧ bif pNot (bareF (liCheck_v0 zk zs zt zl zp ze zck zcn zcl zcy zcv zi)) then ((4 : Int), ()) = liCheck_v1 cn cl cp zk zs zt zl zp ze zck zcn zcl zcy zcv zi else bif pEq zk (1 : Int) then (callF (zck, zcn,
 zcl, zcy, zcv, ()), ()) = liCheck_v1 cn cl cp zk zs zt zl zp ze zck zcn zcl zcy zcv zi else ((0 : Int), ()) = liCheck_v1 cn cl cp zk zs zt zl zp ze zck zcn zcl zcy zcv zi
set_option maxRecDepth 100000 in
theorem liCheck_meets (hlCheck : Mt 16 clCheck) (hnumbers : Mt 50 cnumbers) (hbare : Mt 51 cbare) (hcall : Mt 52 ccall) (h : ∀ (cn : Int) (cl : (List LabD)) (cp : Int) (zk : Int) (zs : Int) (zt : Int) (zl : Int) (zp : Int) (ze : (List ND)) (zck : Int) (zcn : Int) (zcl : Int) (zcy : Int) (zcv : Int) (zi : ByteArray), (∀ p ∈ numbers_p ⟨((cn, cl, cp, ()), (zk, zs, zt, zl, zp, ze, zck, zcn, zcl, zcy, zcv, zi, ()), ()), ()⟩, p) → liCheck_VC cn cl cp zk zs zt zl zp ze zck zcn zcl zcy zcv zi) : Mt 17 cliCheck :=
  meets_vc (E := envOf Tryd.prog [(16, (false, clCheck)), (50, (false, cnumbers)), (51, (false, cbare)), (52, (false, ccall))] eqsLnV) (envOf_ok (fun p hp => (by simp only [List.mem_cons, List.not_mem_nil, or_false] at hp; rcases hp with rfl | rfl | rfl | rfl; exact hlCheck; exact hnumbers; exact hbare; exact hcall)) (by kernel_rfl)) numbers_S (fun x => fun ky9 st9 => look [] ky9) Tryd.func17 (by kernel_rfl) (by kernel_rfl) numbers_p [] [.slot 0 false tI] liCheck_f (fun x => liCheck_VC x.1.1.1 x.1.1.2.1 x.1.1.2.2.1 x.1.2.1.1 x.1.2.1.2.1 x.1.2.1.2.2.1 x.1.2.1.2.2.2.1 x.1.2.1.2.2.2.2.1 x.1.2.1.2.2.2.2.2.1 x.1.2.1.2.2.2.2.2.2.1 x.1.2.1.2.2.2.2.2.2.2.1 x.1.2.1.2.2.2.2.2.2.2.2.1 x.1.2.1.2.2.2.2.2.2.2.2.2.1 x.1.2.1.2.2.2.2.2.2.2.2.2.2.1 x.1.2.1.2.2.2.2.2.2.2.2.2.2.2.1) (fun x => by kernel_rfl) (fun x hp => h x.1.1.1 x.1.1.2.1 x.1.1.2.2.1 x.1.2.1.1 x.1.2.1.2.1 x.1.2.1.2.2.1 x.1.2.1.2.2.2.1 x.1.2.1.2.2.2.2.1 x.1.2.1.2.2.2.2.2.1 x.1.2.1.2.2.2.2.2.2.1 x.1.2.1.2.2.2.2.2.2.2.1 x.1.2.1.2.2.2.2.2.2.2.2.1 x.1.2.1.2.2.2.2.2.2.2.2.2.1 x.1.2.1.2.2.2.2.2.2.2.2.2.2.1 x.1.2.1.2.2.2.2.2.2.2.2.2.2.2.1 hp)

abbrev aFault_v0 (cn : Int) (cl : List LabD) (cp : Int) (zk : Int) (zs : Int) (zt : Int) (zl : Int) (zp : Int) (ze : List ND) (zck : Int) (zcn : Int) (zcl : Int) (zcy : Int) (zcv : Int) (zi : ByteArray) := (actF (cn, cl, cp, ()) (zk, zs, zt, zl, zp, ze, zck, zcn, zcl, zcy, zcv, zi, ()), ())
abbrev aFault_v1 (cn : Int) (cl : List LabD) (cp : Int) (zk : Int) (zs : Int) (zt : Int) (zl : Int) (zp : Int) (ze : List ND) (zck : Int) (zcn : Int) (zcl : Int) (zcy : Int) (zcv : Int) (zi : ByteArray) := bif pEq zk (1 : Int) then (callF (zck, zcn, zcl, zcy, zcv, ()), ()) = aFault_v0 cn cl cp zk zs zt zl zp ze zck zcn zcl zcy zcv zi else ((0 : Int), ()) = aFault_v0 cn cl cp zk zs zt zl zp ze zck zcn zcl zcy zcv zi
abbrev aFault_v2 (cn : Int) (cl : List LabD) (cp : Int) (zk : Int) (zs : Int) (zt : Int) (zl : Int) (zp : Int) (ze : List ND) (zck : Int) (zcn : Int) (zcl : Int) (zcy : Int) (zcv : Int) (zi : ByteArray) := bif pNe zk (1 : Int) then bif pNot (pAndB (pEq zck (0 : Int)) (pAndB (pEq zcn (0 : Int)) (pAndB (pEq zcl (0 : Int)) (pAndB (pEq zcy (0 : Int)) (pEq zcv (0 : Int)))))) then ((4 : Int), ()) = aFault_v0 cn cl cp zk zs zt zl zp ze zck zcn zcl
 zcy zcv zi else bif pNe zk (8 : Int) then bif pNot (pStrEq zi (bs [])) then ((4 : Int), ()) = aFault_v0 cn cl cp zk zs zt zl zp ze zck zcn zcl zcy zcv zi else aFault_v1 cn cl cp zk zs zt zl zp ze zck zcn zcl zcy zcv zi else aFault_v1 cn cl
 cp zk zs zt zl zp ze zck zcn zcl zcy zcv zi else bif pNe zk (8 : Int) then bif pNot (pStrEq zi (bs [])) then ((4 : Int), ()) = aFault_v0 cn cl cp zk zs zt zl zp ze zck zcn zcl zcy zcv zi else aFault_v1 cn cl cp zk zs zt zl zp ze zck zcn zcl
 zcy zcv zi else aFault_v1 cn cl cp zk zs zt zl zp ze zck zcn zcl zcy zcv zi
abbrev aFault_v3 (cn : Int) (cl : List LabD) (cp : Int) (zk : Int) (zs : Int) (zt : Int) (zl : Int) (zp : Int) (ze : List ND) (zck : Int) (zcn : Int) (zcl : Int) (zcy : Int) (zcv : Int) (zi : ByteArray) := bif pNe zk (6 : Int) then bif pGt (pInt (pLen ze)) (0 : Int) then ((4 : Int), ()) = aFault_v0 cn cl cp zk zs zt zl zp ze zck zcn zcl zcy zcv zi else aFault_v2 cn cl cp zk zs zt zl zp ze zck zcn zcl zcy zcv zi else aFault_v2 cn cl cp zk zs
 zt zl zp ze zck zcn zcl zcy zcv zi
abbrev aFault_v4 (cn : Int) (cl : List LabD) (cp : Int) (zk : Int) (zs : Int) (zt : Int) (zl : Int) (zp : Int) (ze : List ND) (zck : Int) (zcn : Int) (zcl : Int) (zcy : Int) (zcv : Int) (zi : ByteArray) := bif pNot (inF zk (2 : Int) (4 : Int)) then bif pNe zk (1 : Int) then bif pNe zk (8 : Int) then bif pNe zl (0 : Int) then ((4 : Int), ()) = aFault_v0 cn cl cp zk zs zt zl zp ze zck zcn zcl zcy zcv zi else aFault_v3 cn cl cp zk zs zt zl zp ze
 zck zcn zcl zcy zcv zi else aFault_v3 cn cl cp zk zs zt zl zp ze zck zcn zcl zcy zcv zi else aFault_v3 cn cl cp zk zs zt zl zp ze zck zcn zcl zcy zcv zi else aFault_v3 cn cl cp zk zs zt zl zp ze zck zcn zcl zcy zcv zi
abbrev aFault_v5 (cn : Int) (cl : List LabD) (cp : Int) (zk : Int) (zs : Int) (zt : Int) (zl : Int) (zp : Int) (ze : List ND) (zck : Int) (zcn : Int) (zcl : Int) (zcy : Int) (zcv : Int) (zi : ByteArray) := bif pNot (inF zk (2 : Int) (4 : Int)) then bif pNe zt (0 : Int) then ((4 : Int), ()) = aFault_v0 cn cl cp zk zs zt zl zp ze zck zcn zcl zcy zcv zi else bif pNe zp (0 : Int) then ((4 : Int), ()) = aFault_v0 cn cl cp zk zs zt zl zp ze zck zcn
 zcl zcy zcv zi else aFault_v4 cn cl cp zk zs zt zl zp ze zck zcn zcl zcy zcv zi else aFault_v4 cn cl cp zk zs zt zl zp ze zck zcn zcl zcy zcv zi

def aFault_VC (cn : Int) (cl : (List LabD)) (cp : Int) (zk : Int) (zs : Int) (zt : Int) (zl : Int) (zp : Int) (ze : (List ND)) (zck : Int) (zcn : Int) (zcl : Int) (zcy : Int) (zcv : Int) (zi : ByteArray) : Prop :=
  Nat.le (Nat.succ (pLen cl)) 4611686018427387904 ∧ bif pNe (cfgF (cn, cl, cp, ())) (0 : Int) then (cfgF (cn, cl, cp, ()), ()) = aFault_v0 cn cl cp zk zs zt zl zp ze zck zcn zcl zcy zcv zi else bif pNot (inF zk (1 : Int) (8 : Int)) then ((3 :
 Int), ()) = aFault_v0 cn cl cp zk zs zt zl zp ze zck zcn zcl zcy zcv zi else bif pNot (inF zs (0 : Int) (pSubI IntKind.i64 cn (1 : Int))) then ((2 : Int), ()) = aFault_v0 cn cl cp zk zs zt zl zp ze zck zcn zcl zcy zcv zi else bif pNot (inF
 zt (0 : Int) (pSubI IntKind.i64 cn (1 : Int))) then ((2 : Int), ()) = aFault_v0 cn cl cp zk zs zt zl zp ze zck zcn zcl zcy zcv zi else Nat.le (Nat.succ (pLen cl)) 4611686018427387904 ∧ bif pNot (placeF (cn, cl, cp, ()) zl) then ((2 : Int),
 ()) = aFault_v0 cn cl cp zk zs zt zl zp ze zck zcn zcl zcy zcv zi else bif pNot (inF zp (0 : Int) (1048576 : Int)) then ((2 : Int), ()) = aFault_v0 cn cl cp zk zs zt zl zp ze zck zcn zcl zcy zcv zi else bif pGt (pInt (pLen ze)) (pInt (pLen
 cl)) then ((2 : Int), ()) = aFault_v0 cn cl cp zk zs zt zl zp ze zck zcn zcl zcy zcv zi else bif pGt (pInt (pStrLen zi)) (60 : Int) then ((2 : Int), ()) = aFault_v0 cn cl cp zk zs zt zl zp ze zck zcn zcl zcy zcv zi else keepUpInv cn cl cp
 zk zs zt zl zp ze zck zcn zcl zcy zcv zi ((0 : Int), ()) ∧ ∀ (y0 : kden Bool.false tI × PUnit), keepUpInv cn cl cp zk zs zt zl zp ze zck zcn zcl zcy zcv zi y0 → bif pLt y0.1 (pInt (pLen ze)) then pIn y0.1 (pLen ze) ∧ bif pNot (inF (pGet tyN
 ze (pNat y0.1)).1 (0 : Int) (6000 : Int)) then ((2 : Int), ()) = aFault_v0 cn cl cp zk zs zt zl zp ze zck zcn zcl zcy zcv zi else keepUpInv cn cl cp zk zs zt zl zp ze zck zcn zcl zcy zcv zi (pAdd IntKind.i64 y0.1 (1 : Int), ()) ∧ Nat.le
 (Nat.succ (keepUpMu cn cl cp zk zs zt zl zp ze zck zcn zcl zcy zcv zi (pAdd IntKind.i64 y0.1 (1 : Int), ()))) (keepUpMu cn cl cp zk zs zt zl zp ze zck zcn zcl zcy zcv zi y0) else bif pEq zk (5 : Int) then bif pNe zs (0 : Int) then ((4 :
 Int), ()) = aFault_v0 cn cl cp zk zs zt zl zp ze zck zcn zcl zcy zcv zi else aFault_v5 cn cl cp zk zs zt zl zp ze zck zcn zcl zcy zcv zi else aFault_v5 cn cl cp zk zs zt zl zp ze zck zcn zcl zcy zcv zi
set_option maxRecDepth 100000 in
theorem aFault_meets (hcFault : Mt 25 ccFault) (hIn : Mt 55 cIn) (hlabelMay : Mt 34 clabelMay) (hcallMay : Mt 56 ccallMay) (h : ∀ (cn : Int) (cl : (List LabD)) (cp : Int) (zk : Int) (zs : Int) (zt : Int) (zl : Int) (zp : Int) (ze : (List ND)) (zck : Int) (zcn : Int) (zcl : Int) (zcy : Int) (zcv : Int) (zi : ByteArray), (∀ p ∈ numbers_p ⟨((cn, cl, cp, ()), (zk, zs, zt, zl, zp, ze, zck, zcn, zcl, zcy, zcv, zi, ()), ()), ()⟩, p) → aFault_VC cn cl cp zk zs zt zl zp ze zck zcn zcl zcy zcv zi) : Mt 26 caFault :=
  meets_vc (E := envOf Tryd.prog [(25, (false, ccFault)), (55, (false, cIn)), (34, (false, clabelMay)), (56, (false, ccallMay))] eqsLnV) (envOf_ok (fun p hp => (by simp only [List.mem_cons, List.not_mem_nil, or_false] at hp; rcases hp with rfl | rfl | rfl | rfl; exact hcFault; exact hIn; exact hlabelMay; exact hcallMay)) (by kernel_rfl)) numbers_S (fun x => fun ky9 st9 => look [(9, (⟨[.slot 6 false tI], keepUpInv x.1.1.1 x.1.1.2.1 x.1.1.2.2.1 x.1.2.1.1 x.1.2.1.2.1 x.1.2.1.2.2.1 x.1.2.1.2.2.2.1 x.1.2.1.2.2.2.2.1 x.1.2.1.2.2.2.2.2.1 x.1.2.1.2.2.2.2.2.2.1 x.1.2.1.2.2.2.2.2.2.2.1 x.1.2.1.2.2.2.2.2.2.2.2.1 x.1.2.1.2.2.2.2.2.2.2.2.2.1 x.1.2.1.2.2.2.2.2.2.2.2.2.2.1 x.1.2.1.2.2.2.2.2.2.2.2.2.2.2.1, keepUpMu x.1.1.1 x.1.1.2.1 x.1.1.2.2.1 x.1.2.1.1 x.1.2.1.2.1 x.1.2.1.2.2.1 x.1.2.1.2.2.2.1 x.1.2.1.2.2.2.2.1 x.1.2.1.2.2.2.2.2.1 x.1.2.1.2.2.2.2.2.2.1 x.1.2.1.2.2.2.2.2.2.2.1 x.1.2.1.2.2.2.2.2.2.2.2.1 x.1.2.1.2.2.2.2.2.2.2.2.2.1 x.1.2.1.2.2.2.2.2.2.2.2.2.2.1 x.1.2.1.2.2.2.2.2.2.2.2.2.2.2.1⟩ : Ann))] ky9) Tryd.func26 (by kernel_rfl) (by kernel_rfl) numbers_p [] [.slot 0 false tI] liCheck_f (fun x => aFault_VC x.1.1.1 x.1.1.2.1 x.1.1.2.2.1 x.1.2.1.1 x.1.2.1.2.1 x.1.2.1.2.2.1 x.1.2.1.2.2.2.1 x.1.2.1.2.2.2.2.1 x.1.2.1.2.2.2.2.2.1 x.1.2.1.2.2.2.2.2.2.1 x.1.2.1.2.2.2.2.2.2.2.1 x.1.2.1.2.2.2.2.2.2.2.2.1 x.1.2.1.2.2.2.2.2.2.2.2.2.1 x.1.2.1.2.2.2.2.2.2.2.2.2.2.1 x.1.2.1.2.2.2.2.2.2.2.2.2.2.2.1) (fun x => by kernel_rfl) (fun x hp => h x.1.1.1 x.1.1.2.1 x.1.1.2.2.1 x.1.2.1.1 x.1.2.1.2.1 x.1.2.1.2.2.1 x.1.2.1.2.2.2.1 x.1.2.1.2.2.2.2.1 x.1.2.1.2.2.2.2.2.1 x.1.2.1.2.2.2.2.2.2.1 x.1.2.1.2.2.2.2.2.2.2.1 x.1.2.1.2.2.2.2.2.2.2.2.1 x.1.2.1.2.2.2.2.2.2.2.2.2.1 x.1.2.1.2.2.2.2.2.2.2.2.2.2.1 x.1.2.1.2.2.2.2.2.2.2.2.2.2.2.1 hp)


end Go.Proofs.YtedjlbcclhgfmaaDoor

/- The configuration's checks meet their contracts. No condition. -/
namespace Go.Proofs.YtedjlbcclhgfmaaDoor
open Go.RowKit

theorem In_ok : Meets Tryd.prog (fun _ => none) 55 cIn := In_meets fun a b c => by
  unfold In_VC
  simp only [pGe, pLe, Bool.cond_eq_ite, decide_eq_true_eq, Prod.mk.injEq, eq_self, and_true, inF]
  repeat' split
  all_goals (rw [Bool.eq_iff_iff]; simp only [Bool.and_eq_true, decide_eq_true_eq, Bool.false_eq_true]; constructor <;> intro h <;> first | omega | exact h.elim)
theorem one_ok : Meets Tryd.prog (fun _ => none) 49 cone := one_meets fun a b => by
  unfold one_VC one_t0
  simp only [pGe, pLe, Bool.cond_eq_ite, decide_eq_true_eq, Prod.mk.injEq, eq_self, and_true, inF, labF]
  repeat' split
  all_goals (rw [Bool.eq_iff_iff]; simp only [Bool.and_eq_true, decide_eq_true_eq, Bool.false_eq_true]; constructor <;> intro h <;> first | omega | exact h.elim)

theorem cfgF_sites {c : CfgD} (h : inF c.1 1 4 = false) : cfgF c = 2 := by unfold cfgF; rw [h]; rfl
theorem cfgF_len {c : CfgD} (h1 : inF c.1 1 4 = true) (h : inF (pInt c.2.1.length) 1 6 = false) : cfgF c = 1 := by unfold cfgF; rw [h1, h]; rfl
theorem cfgF_first {c : CfgD} {n : Int} (h1 : inF c.1 1 4 = true) (h2 : inF (pInt c.2.1.length) 1 6 = true) (h : firstE (labE c.2.1) c.2.1.length = n) (hn : pEq n 0 = false) : cfgF c = n := by
  unfold cfgF; rw [h1, h2, h, hn]; rfl
theorem cfgF_end {c : CfgD} (h1 : inF c.1 1 4 = true) (h2 : inF (pInt c.2.1.length) 1 6 = true) (h : firstE (labE c.2.1) c.2.1.length = 0) : cfgF c = cond (inF c.2.2.1 1 1048576) 0 2 := by
  unfold cfgF; rw [h1, h2, h]; rfl
theorem inF_iff {x a b : Int} : inF x a b = true ↔ a ≤ x ∧ x ≤ b := by simp [inF, pLe]
theorem inF_not {x a b : Int} : inF x a b = false ↔ ¬ (a ≤ x ∧ x ≤ b) := by rw [← inF_iff]; simp

theorem labE_bad {l : List LabD} {k : Nat} (h : labF (pGet tyLab l k) = false) : labE l k = 2 := by unfold labE; rw [h]; rfl
theorem labE_ok {l : List LabD} {k : Nat} (h : labF (pGet tyLab l k) = true) : labE l k = cond (allUpto (fun i => !eqLabAt l i k) k) 0 7 := by unfold labE; rw [h]; rfl

/-- the loop over the labels, behind the first two tests -/
theorem cfg_round {c : CfgD} (h1 : inF c.1 1 4 = true) (h2 : inF (pInt c.2.1.length) 1 6 = true) {k : Nat} (hk : pEq (labE c.2.1 k) 0 = false → firstE (labE c.2.1) c.2.1.length = labE c.2.1 k)
    (h : labF (pGet tyLab c.2.1 k) = false) : ((2 : Int), ()) = (cfgF c, ()) := by
  rw [cfgF_first h1 h2 (n := 2) (by rw [hk (by rw [labE_bad h]; rfl), labE_bad h]) rfl]
theorem cfg_twice {c : CfgD} (h1 : inF c.1 1 4 = true) (h2 : inF (pInt c.2.1.length) 1 6 = true) {k : Nat} (hk : pEq (labE c.2.1 k) 0 = false → firstE (labE c.2.1) c.2.1.length = labE c.2.1 k)
    (h : labF (pGet tyLab c.2.1 k) = true) (ha : allUpto (fun i => !eqLabAt c.2.1 i k) k = false) : ((7 : Int), ()) = (cfgF c, ()) := by
  have e : labE c.2.1 k = 7 := by rw [labE_ok h, ha]; rfl
  rw [cfgF_first h1 h2 (n := 7) (by rw [hk (by rw [e]; rfl), e]) rfl]

theorem lB_start {cn : Int} {cl : List LabD} {cp : Int} {k : Nat} : lCheckBInv cn cl cp (k : Int) (0, ()) := UpInv.start
theorem lB_round {cn : Int} {cl : List LabD} {cp : Int} {k : Nat} {z : denVars [.slot 41 false tI]} (hk : k < 4611686018427387904) (h : lCheckBInv cn cl cp (k : Int) z) :
    (∃ i : Nat, z = ((i : Int), ()) ∧ i < k ∧ i < 4611686018427387904 ∧ (eqLabAt cl i k = true → allUpto (fun i => !eqLabAt cl i k) k = false) ∧
      (eqLabAt cl i k = false → lCheckBInv cn cl cp (k : Int) (pAdd .i64 (i : Int) 1, ()) ∧ Nat.le (Nat.succ (lCheckBMu cn cl cp (k : Int) (pAdd .i64 (i : Int) 1, ()))) (lCheckBMu cn cl cp (k : Int) ((i : Int), ())))) ∨
    (z = ((k : Int), ()) ∧ allUpto (fun i => !eqLabAt cl i k) k = true) := by
  unfold lCheckBInv lCheckBMu at *
  simp only [pNat_coe] at h ⊢
  rcases UpInv.round hk h with ⟨i, hz, hi, hib, _, hF, hT⟩ | h
  · exact .inl ⟨i, hz, hi, hib, fun h => hF (by simp [h]), fun h => hT (by simp [h])⟩
  · exact .inr h

theorem lCheck_ok : Meets Tryd.prog (fun _ => none) 16 clCheck := lCheck_meets one_ok fun cn cl cp hp => by
  have hl : cl.length < 4611686018427387904 := hp _ List.mem_cons_self
  unfold lCheck_VC lCheck_v1 lCheck_v0
  simp only [pLen]
  cases hb1 : pLt cn 1
  case true => exact congrArg (·, ()) (cfgF_sites (by rw [inF_not]; simp only [pLt, decide_eq_true_eq] at hb1; omega)).symm
  cases hb2 : pGt cn 4
  case true => exact congrArg (·, ()) (cfgF_sites (by rw [inF_not]; simp only [pGt, decide_eq_true_eq] at hb2; simp only; omega)).symm
  have h1 : inF cn 1 4 = true := by rw [inF_iff]; simp only [pLt, pGt, decide_eq_false_iff_not] at hb1 hb2; omega
  cases hb3 : pLt (pInt cl.length) 1
  case true => exact congrArg (·, ()) (cfgF_len h1 (by rw [inF_not]; simp only [pLt, decide_eq_true_eq] at hb3; simp only; omega)).symm
  cases hb4 : pGt (pInt cl.length) 6
  case true => exact congrArg (·, ()) (cfgF_len h1 (by rw [inF_not]; simp only [pGt, decide_eq_true_eq] at hb4; simp only; omega)).symm
  have h2 : inF (pInt cl.length) 1 6 = true := by rw [inF_iff]; simp only [pLt, pGt, decide_eq_false_iff_not] at hb3 hb4; omega
  refine ⟨UpInv.start, fun y hy => ?_⟩
  rcases FirstInv.round hl hy with ⟨k, rfl, hk, hb, hF, hT⟩ | ⟨rfl, hT⟩
  · simp only [pLt_coe, pLen, hk, decide_true, cond_true, pIn_coe, pNat_coe, true_and]
    cases hlab : labF (pGet tyLab cl k)
    case false => exact cfg_round (c := (cn, cl, cp, ())) h1 h2 hF hlab
    refine ⟨by rw [pTo_coe]; omega, lB_start, fun z hz => ?_⟩
    rcases lB_round hb hz with ⟨i, rfl, hi, hib, hiF, hiT⟩ | ⟨rfl, hiT⟩
    · rw [pSub0_len (by omega), bif_true (show pLt (i : Int) (pInt k) = true from by simp [pLt_coe, hi])]
      refine ⟨pIn_coe.2 hi, ?_⟩
      rw [pNat_coe, pGet_sub0 hi]
      have e : pAndB (pEq (pGet tyLab cl i).1 (pGet tyLab cl k).1) (pEq (pGet tyLab cl i).2.1 (pGet tyLab cl k).2.1) = eqLabAt cl i k := rfl
      rw [e]
      cases hq : eqLabAt cl i k with
      | true => exact cfg_twice (c := (cn, cl, cp, ())) h1 h2 hF hlab (hiF hq)
      | false => exact hiT hq
    · rw [pSub0_len (by omega), bif_false (show pLt (k : Int) (pInt k) = false from by simp [pLt_coe])]
      exact hT (by rw [labE_ok hlab, hiT]; rfl)
  · simp only [pLt_coe, Nat.lt_irrefl, decide_false, cond_false]
    rw [cfgF_end (c := (cn, cl, cp, ())) h1 h2 hT]
    simp only [pLt, pGt, Bool.cond_eq_ite, decide_eq_true_eq, inF_iff]
    repeat' split
    all_goals first | rfl | (exfalso; omega)

theorem cFault_ok : Meets Tryd.prog (fun _ => none) 25 ccFault := cFault_meets In_ok fun cn cl cp hp => by
  have hl : cl.length < 4611686018427387904 := hp _ List.mem_cons_self
  unfold cFault_VC cFault_v0
  cases h1 : inF cn 1 4
  case false => exact congrArg (·, ()) (cfgF_sites h1).symm
  simp only [pLen]
  cases h2 : inF (pInt cl.length) 1 6
  case false => exact congrArg (·, ()) (cfgF_len h1 h2).symm
  refine ⟨UpInv.start, fun y hy => ?_⟩
  rcases FirstInv.round hl hy with ⟨k, rfl, hk, hb, hF, hT⟩ | ⟨rfl, hT⟩
  · simp only [pLt_coe, hk, decide_true, cond_true, pIn_coe, pNat_coe, true_and]
    cases ha : inF (pGet tyLab cl k).1 0 9
    case false => exact cfg_round (c := (cn, cl, cp, ())) h1 h2 hF (by unfold labF; rw [ha]; rfl)
    cases hc : inF (pGet tyLab cl k).2.1 0 15
    case false => exact cfg_round (c := (cn, cl, cp, ())) h1 h2 hF (by unfold labF; rw [ha, hc]; rfl)
    have hlab : labF (pGet tyLab cl k) = true := by unfold labF; rw [ha, hc]; rfl
    refine ⟨lB_start, fun z hz => ?_⟩
    rcases lB_round hb hz with ⟨i, rfl, hi, hib, hiF, hiT⟩ | ⟨rfl, hiT⟩
    · have hi2 : i < cl.length := by omega
      rw [bif_true (show pLt (i : Int) (k : Int) = true from by simp [pLt, hi])]
      refine ⟨pIn_coe.2 hi2, ?_⟩
      rw [pNat_coe]
      have e : pAndB (pEq (pGet tyLab cl i).1 (pGet tyLab cl k).1) (pEq (pGet tyLab cl i).2.1 (pGet tyLab cl k).2.1) = eqLabAt cl i k := rfl
      rw [e]
      cases hq : eqLabAt cl i k with
      | true => exact cfg_twice (c := (cn, cl, cp, ())) h1 h2 hF hlab (hiF hq)
      | false => exact hiT hq
    · rw [show pLt (k : Int) (k : Int) = false from by simp [pLt]]
      exact hT (by rw [labE_ok hlab, hiT]; rfl)
  · simp only [pLt_coe, Nat.lt_irrefl, decide_false, cond_false]
    rw [cfgF_end (c := (cn, cl, cp, ())) h1 h2 hT]
    cases inF cp 1 1048576 <;> rfl

theorem pSub_len1 {n : Nat} (h : n < 4611686018427387904) : pSubI .i64 (pInt n) 1 = (n : Int) - 1 := by unfold pInt; rw [pSubI_in (by omega)]
theorem labelMay_ok : Meets Tryd.prog (fun _ => none) 34 clabelMay := labelMay_meets In_ok fun cn cl cp l hp => by
  have hl : cl.length < 4611686018427387904 := hp _ List.mem_cons_self
  unfold labelMay_VC
  rw [pLen, pSub_len1 hl]
  refine congrArg (·, ()) ?_
  rw [Bool.eq_iff_iff]
  simp only [pInt, placeF]
  simp only [inF, pLe, pLt, Bool.and_eq_true, decide_eq_true_eq]
  omega


end Go.Proofs.YtedjlbcclhgfmaaDoor

/- Acts: the checks meet their contracts. No condition. -/
namespace Go.Proofs.YtedjlbcclhgfmaaDoor
open Go.RowKit

theorem numbers1_ok : Meets Tryd.prog (fun _ => none) 81 cnumbers1 := numbers1_meets fun n => by
  unfold numbers1_VC
  (repeat' (first | refine bif_ok (fun h => ?_) (fun h => ?_) | refine And.intro ?_ ?_ | fail))
  all_goals (refine leafE ?_; grind [pLt, pLe, pGt, pGe, pEq, pNe, pNot, pAndB, pBeq, pInt, pLen, inF, pIn, pTo, pNat])
theorem indexFunc_ok : Meets Tryd.prog (fun _ => none) 99 cindexFunc := indexFunc_meets numbers1_ok fun l hp => by
  have hl : l.length < 4611686018427387904 := hp _ List.mem_cons_self
  refine ⟨UpInv.start, fun y hy => ?_⟩
  rcases FindInv.round hl hy with ⟨k, rfl, hk, hb, hT, hF⟩ | ⟨rfl, hT⟩
  · rw [bif_true (by simp [pLt_coe, pLen, hk]), pNat_coe]
    refine ⟨pIn_coe.2 hk, bif_ok (fun h => ?_) fun h => hF h⟩
    exact congrArg (·, ()) (hT h).symm
  · rw [bif_false (by simp [pLt_coe, pLen])]
    exact congrArg (·, ()) hT.symm
theorem containsFunc_ok : Meets Tryd.prog (fun _ => none) 80 ccontainsFunc := containsFunc_meets indexFunc_ok fun l hp => ⟨hp _ List.mem_cons_self, rfl⟩

theorem numbersF_eq (cn : Int) (cl : List LabD) (cp zk zs zt zl zp : Int) (ze : List ND) (zck zcn zcl zcy zcv : Int) (zi : ByteArray) : numbersF (cn, cl, cp, ()) (zk, zs, zt, zl, zp, ze, zck, zcn, zcl, zcy, zcv, zi, ()) =
    (pLe 0 zs && pLt zs cn && pLe 0 zt && pLt zt cn && (pLe 0 zl && pLt zl (pInt cl.length)) && inF zp 0 1048576 && decide (ze.length ≤ cl.length) && decide (pStrLen zi ≤ 60) && pNot (pGe (keepBad ze) 0)) := rfl
theorem numbers_ok : Meets Tryd.prog (fun _ => none) 50 cnumbers := numbers_meets containsFunc_ok fun cn cl cp zk zs zt zl zp ze zck zcn zcl zcy zcv zi hp => by
  have hl : cl.length < 4611686018427387904 := hp _ List.mem_cons_self
  have hz : ze.length < 4611686018427387904 := hp (pLen ze < 4611686018427387904) (by simp)
  clear hp
  unfold numbers_VC numbers_v0
  rw [numbersF_eq]
  (repeat' (first | refine bif_ok (fun h => ?_) (fun h => ?_) | refine And.intro ?_ ?_ | fail))
  all_goals first
    | exact hz
    | (refine leafF fun q => ?_; grind [pLt, pLe, pGt, pGe, pEq, pNe, pNot, pAndB, pBeq, pInt, pLen, inF, pIn, pTo, pNat])
    | (refine leafE ?_; grind [pLt, pLe, pGt, pGe, pEq, pNe, pNot, pAndB, pBeq, pInt, pLen, inF, pIn, pTo, pNat])

theorem empty_eq (s : ByteArray) : pStrEq s (bs []) = pStrEq s ByteArray.empty := rfl
theorem bareF_eq (zk zs zt zl zp : Int) (ze : List ND) (zck zcn zcl zcy zcv : Int) (zi : ByteArray) : bareF (zk, zs, zt, zl, zp, ze, zck, zcn, zcl, zcy, zcv, zi, ()) =
    ((pNe zk 5 || pEq zs 0) && (inF zk 2 4 || pEq zk 1 || pEq zk 8 || pEq zl 0) && (inF zk 2 4 || (pEq zt 0 && pEq zp 0)) && (pEq zk 6 || decide (ze.length = 0)) &&
    (pEq zk 1 || (pEq zck 0 && pEq zcn 0 && pEq zcl 0 && pEq zcy 0 && pEq zcv 0)) && (pEq zk 8 || pStrEq zi ByteArray.empty)) := rfl
theorem bare_ok : Meets Tryd.prog (fun _ => none) 51 cbare := bare_meets fun zk zs zt zl zp ze zck zcn zcl zcy zcv zi hp => by
  have hz : ze.length < 4611686018427387904 := hp (pLen ze < 4611686018427387904) (by simp)
  clear hp
  unfold bare_VC bare_v4 bare_v3 bare_v2 bare_v1 bare_v0
  (repeat' (first | refine bif_ok (fun h => ?_) (fun h => ?_) | refine And.intro ?_ ?_ | fail))
  all_goals (refine leafE ?_; rw [bareF_eq]; (try rw [empty_eq]); grind [pLt, pLe, pGt, pGe, pEq, pNe, pNot, pAndB, pBeq, pInt, pLen, inF, pIn, pTo, pNat])

theorem callF_eq (xk xn xl xy xv : Int) : callF (xk, xn, xl, xy, xv, ()) =
    cond (inF xk 1 5) (cond (inF xn 0 1048576 && inF xl 0 5 && inF xy 0 8 && inF xv 0 1073741824)
    (cond ((pNe xk 1 || pEq xn 0) && (pEq xk 2 || pEq xl 0) && (pEq xk 2 || pEq xk 3 || pEq xy 0) && (pEq xk 3 || pEq xv 0)) 0 4) 2) 3 := rfl
theorem lcall_ok : Meets Tryd.prog (fun _ => none) 52 ccall := call_meets fun xk xn xl xy xv => by
  unfold call_VC call_v0
  (repeat' (first | refine bif_ok (fun h => ?_) (fun h => ?_) | refine And.intro ?_ ?_ | fail))
  all_goals (refine leafE ?_; rw [callF_eq]; grind [pLt, pLe, pGt, pGe, pEq, pNe, pNot, pAndB, pBeq, pInt, pLen, inF, pIn, pTo, pNat])
theorem callMay_ok : Meets Tryd.prog (fun _ => none) 56 ccallMay := callMay_meets In_ok fun xk xn xl xy xv => by
  unfold callMay_VC callMay_v2 callMay_v1 callMay_v0
  (repeat' (first | refine bif_ok (fun h => ?_) (fun h => ?_) | refine And.intro ?_ ?_ | fail))
  all_goals (refine leafE ?_; rw [callF_eq]; grind [pLt, pLe, pGt, pGe, pEq, pNe, pNot, pAndB, pBeq, pInt, pLen, inF, pIn, pTo, pNat])

theorem actF_eq (cn : Int) (cl : List LabD) (cp zk zs zt zl zp : Int) (ze : List ND) (zck zcn zcl zcy zcv : Int) (zi : ByteArray) : actF (cn, cl, cp, ()) (zk, zs, zt, zl, zp, ze, zck, zcn, zcl, zcy, zcv, zi, ()) =
    cond (pEq (cfgF (cn, cl, cp, ())) 0) (cond (inF zk 1 8) (cond (numbersF (cn, cl, cp, ()) (zk, zs, zt, zl, zp, ze, zck, zcn, zcl, zcy, zcv, zi, ())) (cond (bareF (zk, zs, zt, zl, zp, ze, zck, zcn, zcl, zcy, zcv, zi, ()))
      (cond (pEq zk 1) (callF (zck, zcn, zcl, zcy, zcv, ())) 0) 4) 2) 3) (cfgF (cn, cl, cp, ())) := rfl
theorem liCheck_ok : Meets Tryd.prog (fun _ => none) 17 cliCheck := liCheck_meets lCheck_ok numbers_ok bare_ok lcall_ok fun cn cl cp zk zs zt zl zp ze zck zcn zcl zcy zcv zi hp => by
  have hl : cl.length < 4611686018427387904 := hp _ List.mem_cons_self
  have hz : ze.length < 4611686018427387904 := hp (pLen ze < 4611686018427387904) (by simp)
  clear hp
  unfold liCheck_VC liCheck_v1 liCheck_v0
  rw [actF_eq]
  (repeat' (first | refine bif_ok (fun h => ?_) (fun h => ?_) | refine And.intro ?_ ?_ | fail))
  all_goals first
    | exact hl
    | exact hz
    | (refine leafE ?_; grind [pLt, pLe, pGt, pGe, pEq, pNe, pNot, pAndB, pBeq, pInt, pLen, inF, pIn, pTo, pNat])


theorem cfgF_sites4 {c : CfgD} (h : pNe (cfgF c) 0 = false) : inF c.1 1 4 = true := by
  cases hq : inF c.1 1 4
  · rw [cfgF_sites hq] at h; cases h
  · rfl

set_option maxHeartbeats 4000000 in
theorem aFault_ok : Meets Tryd.prog (fun _ => none) 26 caFault := aFault_meets cFault_ok In_ok labelMay_ok callMay_ok fun cn cl cp zk zs zt zl zp ze zck zcn zcl zcy zcv zi hp => by
  have hl : cl.length < 4611686018427387904 := hp _ List.mem_cons_self
  have hz : ze.length < 4611686018427387904 := hp (pLen ze < 4611686018427387904) (by simp)
  clear hp
  unfold aFault_VC aFault_v5 aFault_v4 aFault_v3 aFault_v2 aFault_v1 aFault_v0
  refine ⟨hl, bif_ok (fun h => ?_) fun hc => ?_⟩
  · refine leafE ?_; rw [actF_eq]; grind [pLt, pLe, pGt, pGe, pEq, pNe, pNot, pAndB, pBeq, pInt, pLen, inF, pIn, pTo, pNat]
  have hc4 := inF_iff.1 (cfgF_sites4 hc)
  have hc0 : pEq (cfgF (cn, cl, cp, ())) 0 = true := by simpa [pNe, pEq] using hc
  have hA := actF_eq cn cl cp zk zs zt zl zp ze zck zcn zcl zcy zcv zi
  rw [hc0, cond_true, numbersF_eq] at hA
  have hP : placeF (cn, cl, cp, ()) zl = (pLe 0 zl && pLt zl (pInt cl.length)) := rfl
  rw [pSubI_in (a := cn) (b := 1) (by simp only at hc4; omega)]
  (repeat' (first | refine bif_ok (fun h => ?_) (fun h => ?_) | refine And.intro ?_ ?_ | fail))
  all_goals first
    | exact hl
    | exact UpInv.start
    | (refine leafE ?_; rw [hA]; grind [pLt, pLe, pGt, pGe, pEq, pNe, pNot, pAndB, pBeq, pInt, pLen, inF, pIn, pTo, pNat])
    | skip
  intro y hy
  rcases FindInv.round hz hy with ⟨k, rfl, hk, hb, hT, hF⟩ | ⟨rfl, hT⟩
  · rw [bif_true (by simp [pLt_coe, pLen, hk]), pNat_coe]
    refine ⟨pIn_coe.2 hk, bif_ok (fun h => ?_) fun h => hF h⟩
    have hkb : keepBad ze = (k : Int) := hT h
    clear hy hT hF
    refine leafE ?_; rw [hA]; grind [pLt, pLe, pGt, pGe, pEq, pNe, pNot, pAndB, pBeq, pInt, pLen, inF, pIn, pTo, pNat]
  · rw [bif_false (by simp [pLt_coe, pLen])]
    have hkb : keepBad ze = -1 := hT
    clear hy hT
    rw [bareF_eq] at hA
    simp only [empty_eq]
    (repeat' (first | refine bif_ok (fun h => ?_) (fun h => ?_) | refine And.intro ?_ ?_ | fail))
    all_goals (refine leafE ?_; rw [hA]; grind [pLt, pLe, pGt, pGe, pEq, pNe, pNot, pAndB, pBeq, pInt, pLen, inF, pIn, pTo, pNat])


end Go.Proofs.YtedjlbcclhgfmaaDoor

/- Functions of Go's library in this program: their bodies are those that the library's laws speak of. No condition. -/
namespace Go.Proofs.YtedjlbcclhgfmaaDoor
open Go.Shelf

def lItoa_ren : Go.Shelf.Ren := ⟨fun | 171 => 20 | 243 => 54 | 246 => 83 | 283 => 100 | 284 => 101 | 285 => 102 | 286 => 103 | 129 => 121 | 317 => 120 | 318 => 122 | 319 => 123 | 320 => 124 | 337 => 132 | 338 => 133 | n => n, fun | 3 => 3 | 9 => 9 | 2 => 2 | 4 => 4 | 171 => 153 | 0 => 0 | 53 => 154 | 37 => 48 | 5 => 5 | 173 => 157 | 212 => 173 | 51 => 174 | 20 => 20 | 213 => 175 | 46 => 111 | 232 => 194 | 233 => 195 | n => n, fun | 17 => 3 | 18 => 8 | 19 => 9 | n => n⟩
theorem lItoa : Go.Proofs.LaysM.n171 Tryd.prog lItoa_ren := {
  mixed := by kernel_rfl
  f129 := Tryd.func121.trans (congrArg some (by kernel_rfl))
  f171 := Tryd.func20.trans (congrArg some (by kernel_rfl))
  f243 := Tryd.func54.trans (congrArg some (by kernel_rfl))
  f246 := Tryd.func83.trans (congrArg some (by kernel_rfl))
  f283 := Tryd.func100.trans (congrArg some (by kernel_rfl))
  f284 := Tryd.func101.trans (congrArg some (by kernel_rfl))
  f285 := Tryd.func102.trans (congrArg some (by kernel_rfl))
  f286 := Tryd.func103.trans (congrArg some (by kernel_rfl))
  f317 := Tryd.func120.trans (congrArg some (by kernel_rfl))
  f318 := Tryd.func122.trans (congrArg some (by kernel_rfl))
  f319 := Tryd.func123.trans (congrArg some (by kernel_rfl))
  f320 := Tryd.func124.trans (congrArg some (by kernel_rfl))
  f337 := Tryd.func132.trans (congrArg some (by kernel_rfl))
  f338 := Tryd.func133.trans (congrArg some (by kernel_rfl))
  t0 := Tryd.underlying0
  a0 := Tryd.isAgg0
  z0 := Tryd.sizeOf0
  v0 := Tryd.zeroValue0
  t2 := Tryd.underlying2
  a2 := Tryd.isAgg2
  z2 := Tryd.sizeOf2
  v2 := Tryd.zeroValue2
  t3 := Tryd.underlying3
  a3 := Tryd.isAgg3
  z3 := Tryd.sizeOf3
  v3 := Tryd.zeroValue3
  t4 := Tryd.underlying4
  a4 := Tryd.isAgg4
  z4 := Tryd.sizeOf4
  v4 := Tryd.zeroValue4
  t5 := Tryd.underlying5
  a5 := Tryd.isAgg5
  z5 := Tryd.sizeOf5
  v5 := Tryd.zeroValue5
  t9 := Tryd.underlying9
  a9 := Tryd.isAgg9
  z9 := Tryd.sizeOf9
  v9 := Tryd.zeroValue9
  t20 := Tryd.underlying20
  a20 := Tryd.isAgg20
  z20 := Tryd.sizeOf20
  v20 := Tryd.zeroValue20
  t37 := Tryd.underlying48
  a37 := Tryd.isAgg48
  z37 := Tryd.sizeOf48
  v37 := Tryd.zeroValue48
  t46 := Tryd.underlying111
  a46 := Tryd.isAgg111
  z46 := Tryd.sizeOf111
  v46 := Tryd.zeroValue111
  t51 := Tryd.underlying174
  a51 := Tryd.isAgg174
  z51 := Tryd.sizeOf174
  v51 := Tryd.zeroValue174
  t53 := Tryd.underlying154
  a53 := Tryd.isAgg154
  z53 := Tryd.sizeOf154
  v53 := Tryd.zeroValue154
  t171 := Tryd.underlying153
  a171 := Tryd.isAgg153
  z171 := Tryd.sizeOf153
  v171 := Tryd.zeroValue153
  t173 := Tryd.underlying157
  a173 := Tryd.isAgg157
  z173 := Tryd.sizeOf157
  v173 := Tryd.zeroValue157
  t212 := Tryd.underlying173
  a212 := Tryd.isAgg173
  z212 := Tryd.sizeOf173
  v212 := Tryd.zeroValue173
  t213 := Tryd.underlying175
  a213 := Tryd.isAgg175
  z213 := Tryd.sizeOf175
  t232 := Tryd.underlying194
  a232 := Tryd.isAgg194
  z232 := Tryd.sizeOf194
  v232 := Tryd.zeroValue194
  t233 := Tryd.underlying195
  a233 := Tryd.isAgg195
  z233 := Tryd.sizeOf195
  v233 := Tryd.zeroValue195
  g17 := by kernel_rfl
  g18 := by kernel_rfl
  g19 := by kernel_rfl
  i0 := by kernel_rfl
  i2 := by kernel_rfl
  i3 := by kernel_rfl
  i4 := by kernel_rfl
  i5 := by kernel_rfl
  i9 := by kernel_rfl
  i20 := by kernel_rfl
  i37 := by kernel_rfl
  i46 := by kernel_rfl
  i51 := by kernel_rfl
  i53 := by kernel_rfl
  i171 := by kernel_rfl
  i173 := by kernel_rfl
  i212 := by kernel_rfl
  i232 := by kernel_rfl
  i233 := by kernel_rfl
  m17 := by kernel_rfl
  m18 := by kernel_rfl
  m19 := by kernel_rfl }

end Go.Proofs.YtedjlbcclhgfmaaDoor

/- Functions of Go's library on strings: what they say in plain words, and that they meet their contracts. The table of powers, the errors and the longest length lie where they are to lie. -/
namespace Go.Proofs.YtedjlbcclhgfmaaDoor
open Go.RowKit Go.Shelf

abbrev tyS : Ty := .pair .str .unit
abbrev SD := ByteArray × Unit
def pItoa (n : Int) : ByteArray := ⟨(Go.Lib.itoa n).toArray⟩
/-- A call that looks at no object of the caller's and lays new blocks alone. -/
theorem spec_below {P : Program} {g : Nat → Option Gl} {K : FuncId} {args : List SV} {r : SV}
    (h : ∀ (w : World) (N : Blk) (ρ : Nat → Pl) (vs : List Value), (∀ k cs, g k = some cs → GlobR w N k cs) → (∀ b, N b → b < w.heap.size) → All2 (SVR w N ρ (fun _ => none)) args vs →
      Calls P K vs.toArray w fun e w' => ∃ v, e = .returned v ∧ Below w.heap.size w w' ∧ SVR w' (fun b => N b ∨ (w.heap.size ≤ b ∧ b < w'.heap.size)) ρ (fun _ => none) r v) : SpecR P g K args [] r [] := by
  intro w N ρ vs hg hm ha _ _
  refine (h w N ρ vs hg hm.nlt ha).mono fun e w' ⟨v, he, hb, hv⟩ => ?_
  refine ⟨v, ρ, fun b => N b ∨ (w.heap.size ≤ b ∧ b < w'.heap.size), he, fun _ _ => rfl, fun b hb => .inl hb, ⟨fun _ _ h => (by cases h), fun _ _ _ _ _ h => (by cases h), fun b _ ho => ?_, fun b hb' => ?_⟩, hv, ⟨hb.os, hb.tape, hb.output, hb.size, fun b hlt _ => hb.block b hlt⟩, fun b ho => ?_, fun b hb' => ?_⟩
  · obtain ⟨_, _, h, _⟩ := ho; cases h
  · rcases hb' with h | h
    · exact Nat.lt_of_lt_of_le (hm.nlt b h) hb.size
    · exact h.2
  · obtain ⟨_, _, h, _⟩ := ho; cases h
  · rcases hb' with h | h
    · exact .inl h
    · exact .inr (.inl h.1)

theorem all2_1 {w : World} {N : Blk} {ρ : Nat → Pl} {m : Mem} {c : C} {vs : List Value} (h : All2 (SVR w N ρ m) [.v false [c]] vs) : ∃ v, vs = [v] ∧ CR w N ρ m c v := by
  cases h with
  | cons a r => cases r; exact ⟨_, rfl, vr1 a⟩
theorem glob_var {P : Program} {w : World} {N : Blk} {n : String} {k : Nat} {cs : List C} (hn : P.globalNamed n = some k) (h : GlobR w N k (.cells cs)) : ∃ vals, w.var? P n = some vals ∧ All2 (CR w N (fun _ => pl0 none 0) (fun _ => none)) cs vals.toList := by
  obtain ⟨_, vals, T, fz, hh, ha, _⟩ := h
  exact ⟨vals, by simp [World.var?, hn, hh], ha⟩
theorem all2_ints {w : World} {N : Blk} {ρ : Nat → Pl} {m : Mem} {k : IntKind} : ∀ {zs : List Int} {vs : List Value}, All2 (CR w N ρ m) (zs.map (C.int k)) vs → vs = zs.map (Value.int k)
  | [], _, h => by cases h; rfl
  | z :: zs, _, h => by
    cases h with
    | cons a r =>
      have a : _ = _ := a
      rw [List.map_cons, a, all2_ints r]

theorem grow_below {w : World} {k : Nat} {os : Array Go.Obj} : Below w.heap.size w (Go.Sort.grow (w.drewN k) os) := by
  refine ⟨rfl, rfl, rfl, ?_, fun b hb => ?_⟩
  · show w.heap.size ≤ (w.heap ++ os).size
    rw [Array.size_append]; omega
  · show (w.heap ++ os)[b]? = w.heap[b]?
    rw [Array.getElem?_append_left hb]
end Go.Proofs.YtedjlbcclhgfmaaDoor

/- strings.Builder: what copyCheck and String do to the world. No condition. -/
namespace Go.Proofs.YtedjlbcclhgfmaaDoor
open Go.RowKit Go.Shelf

set_option maxRecDepth 100000 in
theorem cc_used (b : Nat) (w : World) (h0 : w.cell? ⟨b, 0, none⟩ = some (.pointer (some ⟨b, 0, none⟩))) :
    Calls Tryd.prog 53 #[.pointer (some ⟨b, 0, none⟩)] w fun e w' => e = .returned (.tuple #[]) ∧ w' = w := by
  obtain ⟨j, hj, _⟩ := Option.map_eq_some_iff.1 (show (Tryd.prog.info? 50).map (·.size) = some 2 by kernel_rfl)
  go_enter Tryd.func53, Tryd.ntmps53
  go_wp2
  rw [Lib.run_neq_ptr_same w _ Tryd.underlying47 hj]
  go_wp2
  go_end0
  exact ⟨rfl, rfl⟩
set_option maxRecDepth 100000 in
theorem cc_fresh (b : Nat) (w : World) (h0 : w.cell? ⟨b, 0, none⟩ = some (.pointer none)) (hsh : w.shape? b = some (50, 2)) (hfz : w.frozen? ⟨b, 0, none⟩ = false) :
    Calls Tryd.prog 53 #[.pointer (some ⟨b, 0, none⟩)] w fun e w' => e = .returned (.tuple #[]) ∧ w' = w.setCell ⟨b, 0, none⟩ (.pointer (some ⟨b, 0, none⟩)) := by
  obtain ⟨j, hj, hjs⟩ := Option.map_eq_some_iff.1 (show (Tryd.prog.info? 50).map (·.size) = some 2 by kernel_rfl)
  go_enter Tryd.func53, Tryd.ntmps53
  go_wp2
  rw [Lib.run_to_unsafe w ⟨b, 0, none⟩ Tryd.underlying47 Tryd.underlying140 hj (by rw [hjs]; decide) hsh (Nat.zero_lt_succ 1)]
  simp only [Result.andThen]
  rw [Oper.upon_value]
  go_wp2
  rw [run_callFunc_extern Tryd.func82 (by kernel_rfl) (by kernel_rfl) (by kernel_rfl) (e := Extern.AbiNoEscape.same) (by kernel_rfl)]
  rw [Lib.run_noEscape]
  simp only [Result.andThen]
  rw [Oper.upon_value]
  go_wp2
  rw [Lib.run_from_unsafe w ⟨b, 0, none⟩ Tryd.underlying140 Tryd.underlying47 hj hsh (by kernel_rfl)]
  simp only [Result.andThen]
  rw [Oper.upon_value]
  go_wp2
  go_end0
  exact ⟨rfl, rfl⟩
set_option maxHeartbeats 2000000 in
set_option maxRecDepth 100000 in
theorem bstr_some (b g cap : Nat) (l : List UInt8) (p : Value) (w : World) (cur : Array Value) (fz : Nat × Nat) (h0 : l ≠ []) (hc : cap ≠ 0) (hbk : w.heap[b]? = some (.cells #[p, .slice (some ⟨g, 0, none⟩) l.length cap] 50 (0, 0)))
    (hg : w.heap[g]? = some (.cells cur 5 fz)) (hn : l.length ≤ cur.size) (h63 : l.length ≤ 9223372036854775807) (hcell : ∀ (j : Nat) (x : UInt8), l[j]? = some x → cur[j]? = some (Value.int .u8 x.toNat)) :
    Calls Tryd.prog 24 #[.pointer (some ⟨b, 0, none⟩)] w fun e w' => e = .returned (.string ⟨l.toArray⟩) ∧ w' = w.drew.freeze ⟨g, 0, none⟩ l.length := by
  have c1 : w.drew.cell? ⟨b, 1, none⟩ = some (.slice (some ⟨g, 0, none⟩) l.length cap) := by
    have : w.drew.heap[b]? = some (.cells #[p, .slice (some ⟨g, 0, none⟩) l.length cap] 50 (0, 0)) := hbk
    rw [Lib.cell_of_heap this]; rfl
  have hg' : w.drew.heap[g]? = some (.cells cur 5 fz) := hg
  have hSD : (Builtin.unsafeSliceData_ #[48] 112 #[.slice (some ⟨g, 0, none⟩) l.length cap]).run Tryd.prog w.drew = .ok (.pointer (some ⟨g, 0, none⟩)) w.drew :=
    Lib.run_unsafeSliceData_row _ _ _ _ _ _ hc
  have hUS : (Builtin.unsafeString_ #[112, 3] 9 #[.pointer (some ⟨g, 0, none⟩), .int .i64 l.length]).run Tryd.prog w.drew = .ok (.string ⟨l.toArray⟩) (w.drew.freeze ⟨g, 0, none⟩ l.length) :=
    Lib.run_unsafeString_row w.drew 112 3 9 5 Tryd.underlying112 (by kernel_rfl) g cur.size (by simp [World.shape?, hg']) l h0 hn h63 fun j x hx => by
      have := hcell j x hx
      rw [addr_add]; simp [World.cell?, hg', this]
  clear hcell hn h63 hbk hg hg' hc
  have mixed : Tryd.prog.follows .mixedOrders = true := by kernel_rfl
  go_enter Tryd.func24, Tryd.ntmps24
  go_wp2
  go_region_o
  all_goals (go_wp2; go_ret; exact ⟨rfl, rfl⟩)
set_option maxHeartbeats 2000000 in
set_option maxRecDepth 100000 in
theorem bstr_room (b g cap : Nat) (p : Value) (w : World) (hc : cap ≠ 0) (hbk : w.heap[b]? = some (.cells #[p, .slice (some ⟨g, 0, none⟩) 0 cap] 50 (0, 0))) :
    Calls Tryd.prog 24 #[.pointer (some ⟨b, 0, none⟩)] w fun e w' => e = .returned (.string ⟨#[]⟩) ∧ w' = w.drew := by
  have hUS : ∀ (W : World) (q : Option Addr), (Builtin.unsafeString_ #[112, 3] 9 #[.pointer q, .int .i64 0]).run Tryd.prog W = .ok (.string .empty) W := fun W q => Lib.run_unsafeString_none W _ _ _ q
  have c1 : w.drew.cell? ⟨b, 1, none⟩ = some (.slice (some ⟨g, 0, none⟩) 0 cap) := by
    have : w.drew.heap[b]? = some (.cells #[p, .slice (some ⟨g, 0, none⟩) 0 cap] 50 (0, 0)) := hbk
    rw [Lib.cell_of_heap this]; rfl
  have hSD : (Builtin.unsafeSliceData_ #[48] 112 #[.slice (some ⟨g, 0, none⟩) 0 cap]).run Tryd.prog w.drew = .ok (.pointer (some ⟨g, 0, none⟩)) w.drew :=
    Lib.run_unsafeSliceData_row _ _ _ _ _ _ hc
  clear hc hbk
  have mixed : Tryd.prog.follows .mixedOrders = true := by kernel_rfl
  go_enter Tryd.func24, Tryd.ntmps24
  go_wp2
  go_region_o
  all_goals (go_wp2; go_ret; exact ⟨rfl, rfl⟩)
set_option maxHeartbeats 2000000 in
set_option maxRecDepth 100000 in
theorem bstr_nil (b : Nat) (p : Value) (w : World) (hbk : w.heap[b]? = some (.cells #[p, .slice none 0 0] 50 (0, 0))) :
    Calls Tryd.prog 24 #[.pointer (some ⟨b, 0, none⟩)] w fun e w' => e = .returned (.string ⟨#[]⟩) ∧ w' = w.drew := by
  have hUS : ∀ (W : World) (q : Option Addr), (Builtin.unsafeString_ #[112, 3] 9 #[.pointer q, .int .i64 0]).run Tryd.prog W = .ok (.string .empty) W := fun W q => Lib.run_unsafeString_none W _ _ _ q
  have c1 : w.drew.cell? ⟨b, 1, none⟩ = some (.slice none 0 0) := by
    have : w.drew.heap[b]? = some (.cells #[p, .slice none 0 0] 50 (0, 0)) := hbk
    rw [Lib.cell_of_heap this]; rfl
  have hSD : (Builtin.unsafeSliceData_ #[48] 112 #[.slice none 0 0]).run Tryd.prog w.drew = .ok (.pointer none) w.drew := rfl
  clear hbk
  have mixed : Tryd.prog.follows .mixedOrders = true := by kernel_rfl
  go_enter Tryd.func24, Tryd.ntmps24
  go_wp2
  go_region_o
  all_goals (go_wp2; go_ret; exact ⟨rfl, rfl⟩)


end Go.Proofs.YtedjlbcclhgfmaaDoor

/- strings.Builder: copyCheck and String meet contracts. No condition. -/
namespace Go.Proofs.YtedjlbcclhgfmaaDoor
open Go.RowKit Go.Shelf

abbrev TBl : Nat := 50
abbrev tyBl : Ty := bT 5 (.pair (.int .u8) .unit)
abbrev BD := Unit × Int × Unit
/-- a text's bytes, as a builder has them -/
def bl (s : ByteArray) : List BD := pTie (pStrCells s)
def unBl (xs : List BD) : ByteArray := ⟨(xs.map fun x => UInt8.ofNat x.2.1.toNat).toArray⟩
def pIsBl (xs : List BD) : Prop := xs = bl (unBl xs)
theorem unBl_bl (s : ByteArray) : unBl (bl s) = s := by
  obtain ⟨⟨l⟩⟩ := s
  unfold unBl bl pTie pStrCells
  simp only [List.map_map]
  congr 2
  have : ((fun x : BD => UInt8.ofNat x.2.1.toNat) ∘ (fun x => ((), x)) ∘ fun b : UInt8 => ((b.toNat : Int), ())) = id := by
    funext b
    simp
  rw [this]
  simp
theorem isBl_bl (s : ByteArray) : pIsBl (bl s) := by unfold pIsBl; rw [unBl_bl]
theorem bl_len (s : ByteArray) : (bl s).length = s.size := by
  unfold bl pTie pStrCells; rw [List.length_map, List.length_map]; rfl
theorem bl_get {s : ByteArray} {k : Nat} (h : k < (bl s).length) (h' : k < s.data.toList.length) : (bl s)[k] = ((), (s.data.toList[k].toNat : Int), ()) := by
  simp [bl, pTie, pStrCells]
theorem bl_app (a b : ByteArray) : pApp (bl a) (bl b) = bl (a ++ b) := by
  unfold bl pTie pStrCells pApp
  rw [ByteArray.data_append]; simp

def cCopy : Ctr := fun args m0 => match args, m0 with
  | [.v false [.pt 0 0]], (0, some (.box [.sp 0 T, _])) :: _ => if T = TBl then some ([], .tup [], []) else none
  | _, _ => none
def cBStr : Ctr := fun args m0 => match args, m0 with
  | [.v false [.pt 0 0]], [(0, some (.box [.sp 0 T, .sz]))] => if T = TBl then some ([], .v false [.str (bs [])], [(0, none)]) else none
  | [.v false [.pt 0 0]], [(0, some (.box [.sp 0 T, .hs 1])), (1, some o)] => if T = TBl then (match rowParse tyBl o with
    | some xs => some ([pIsBl xs], .v false [.str (unBl xs)], [(0, none), (1, none)])
    | none => none) else none
  | _, _ => none

theorem MR.poke {w w' : World} {N : Blk} {ρ : Nat → Pl} {m : Mem} (h : MR w N ρ m) {id b : Nat} {cs : List C} (hid : m id = some (.box cs)) (hA : (ρ id).A = some ⟨b, 0, none⟩) (hk : ∀ k, k ≠ b → w'.heap[k]? = w.heap[k]?) (hsz : w'.heap.size = w.heap.size)
    (hnew : ObjR w' N ρ m id (.box cs)) : MR w' N ρ m := by
  have hN : SameOn N w w' := fun k hn => hk k fun e => h.nown k hn ⟨id, _, hid, by rw [e]; exact hA⟩
  refine ⟨fun i o ho => ?_, h.inj, h.nown, fun k hn => by rw [hsz]; exact h.nlt k hn⟩
  by_cases hi : i = id
  · subst hi
    rw [hid] at ho
    cases ho
    exact hnew
  · exact (h.obj i o ho).turn (F := fun _ => False) (.same rfl rfl) (fun _ h => h) hN (fun h => h) (fun _ _ h => h) fun k hb => hk k fun e => hi (h.inj i id o _ k ho hid hb (by rw [e]; exact hA))

theorem two_cells {w : World} {N : Blk} {ρ : Nat → Pl} {m : Mem} {c d : C} {vals : Array Value} (h : All2 (CR w N ρ m) [c, d] vals.toList) : ∃ v u, vals = #[v, u] ∧ CR w N ρ m c v ∧ CR w N ρ m d u := by
  obtain ⟨l⟩ := vals
  have h : All2 (CR w N ρ m) [c, d] l := h
  cases h with
  | cons a r => cases r with
    | cons b r => cases r; exact ⟨_, _, rfl, a, b⟩
theorem setCell_0 {w : World} {b : Nat} {v u x : Value} {T : TypeId} (h : w.heap[b]? = some (.cells #[v, u] T (0, 0))) : (w.setCell ⟨b, 0, none⟩ x).heap[b]? = some (.cells #[x, u] T (0, 0)) := by
  unfold World.setCell
  simp [Array.getElem?_modify, h]
theorem setCell_k {w : World} {b k : Nat} {x : Value} (h : k ≠ b) : (w.setCell ⟨b, 0, none⟩ x).heap[k]? = w.heap[k]? := by
  unfold World.setCell
  simp [Array.getElem?_modify, Ne.symm h]

theorem CopyCheck_ok {g : Nat → Option Gl} : Meets Tryd.prog g 53 cCopy := by
  refine ⟨⟨_, Tryd.func53, by kernel_rfl, by kernel_rfl⟩, fun args m0 obs r m1 hc hp => ?_⟩
  unfold cCopy at hc
  split at hc
  · rename_i T c rest
    split at hc
    · rename_i hT
      subst hT
      simp only [Option.some.injEq, Prod.mk.injEq] at hc
      obtain ⟨rfl, rfl, rfl⟩ := hc
      intro w N ρ vs hg hm ha _ _
      have hid : memOf ((0, some (.box [.sp 0 TBl, c])) :: rest) 0 = some (.box [.sp 0 TBl, c]) := by unfold memOf; rw [look_cons, if_pos rfl]; rfl
      obtain ⟨v, rfl, hv⟩ := all2_1 ha
      obtain ⟨b, hA, rfl⟩ := hv
      obtain ⟨b', vals, T', hA', hh, hcs, hcT⟩ := hm.obj 0 _ hid
      rw [hA] at hA'
      simp only [Option.some.injEq, Addr.mk.injEq, and_true] at hA'
      subst hA'
      obtain ⟨v0, v1, rfl, h0, h1⟩ := two_cells hcs
      obtain ⟨hT, h0⟩ := h0
      have hT' : T' = TBl := hcT.symm.trans hT
      subst hT'
      have same : ∀ (e : Ending) (w' : World), e = .returned (.tuple #[]) ∧ w' = w → ∃ v ρ' N', e = .returned v ∧ (∀ n, n < ((0, some (Obj.box [.sp 0 TBl, c])) :: rest).length → ρ' n = ρ n) ∧ (∀ b, N b → N' b) ∧ MR w' N' ρ' (memOf ([] ++ (0, some (.box [.sp 0 TBl, c])) :: rest)) ∧ SVR w' N' ρ' (memOf ([] ++ (0, some (.box [.sp 0 TBl, c])) :: rest)) (.tup []) v ∧
          Since w (Own ρ (memOf ((0, some (.box [.sp 0 TBl, c])) :: rest))) w' ∧ (∀ b, Own ρ' (memOf ([] ++ (0, some (.box [.sp 0 TBl, c])) :: rest)) b → Own ρ (memOf ((0, some (.box [.sp 0 TBl, c])) :: rest)) b ∨ w.heap.size ≤ b) ∧ ∀ b, N' b → N b ∨ w.heap.size ≤ b ∨ Own ρ (memOf ((0, some (.box [.sp 0 TBl, c])) :: rest)) b := by
        rintro e w' ⟨rfl, rfl⟩
        exact ⟨_, ρ, N, rfl, fun _ _ => rfl, fun _ h => h, hm, ⟨[], rfl, .nil⟩, Since.refl _ _, fun _ h => .inl h, fun _ h => .inl h⟩
      rcases h0 with rfl | ⟨b2, hb2, rfl⟩
      · refine (cc_fresh b w (by simp [World.cell?, hh]) (by simp [World.shape?, hh]) (by simp [World.frozen?, hh])).mono ?_
        rintro e w' ⟨rfl, rfl⟩
        have hnew := setCell_0 (x := .pointer (some ⟨b, 0, none⟩)) hh
        have hsz : (w.setCell ⟨b, 0, none⟩ (.pointer (some ⟨b, 0, none⟩))).heap.size = w.heap.size := by unfold World.setCell; simp
        have hN : SameOn N w (w.setCell ⟨b, 0, none⟩ (.pointer (some ⟨b, 0, none⟩))) := fun k hn => setCell_k fun e => hm.nown k hn ⟨0, _, hid, by rw [e]; exact hA⟩
        refine ⟨_, ρ, N, rfl, fun _ _ => rfl, fun _ h => h, hm.poke hid hA (fun k h => setCell_k h) hsz ⟨b, _, _, hA, hnew, ?_, hcT⟩, ⟨[], rfl, .nil⟩, ⟨rfl, rfl, rfl, Nat.le_of_eq hsz.symm, fun k _ hx => setCell_k fun e => hx ⟨0, _, hid, by rw [e]; exact hA⟩⟩, fun _ h => .inl h, fun _ h => .inl h⟩
        exact .cons ⟨hT, .inr ⟨b, hA, rfl⟩⟩ (.cons (CR.turn (F := fun _ => False) (.same rfl rfl) (fun _ h => h) hN (fun _ _ h => h) h1) .nil)
      · rw [hA] at hb2
        simp only [Option.some.injEq, Addr.mk.injEq, and_true] at hb2
        subst hb2
        exact (cc_used b w (by simp [World.cell?, hh])).mono same
    · cases hc
  · cases hc

theorem freeze_facts (w : World) (g n : Nat) : (w.freeze ⟨g, 0, none⟩ n).heap.size = w.heap.size ∧ (w.freeze ⟨g, 0, none⟩ n).os = w.os ∧ (w.freeze ⟨g, 0, none⟩ n).tape = w.tape ∧ (w.freeze ⟨g, 0, none⟩ n).output = w.output ∧ ∀ k, k ≠ g → (w.freeze ⟨g, 0, none⟩ n).heap[k]? = w.heap[k]? := by
  unfold World.freeze
  split
  · exact ⟨rfl, rfl, rfl, rfl, fun _ _ => rfl⟩
  · exact ⟨by simp, rfl, rfl, rfl, fun k hk => by simp [Array.getElem?_modify, Ne.symm hk]⟩
theorem gone_mr {w' : World} {N : Blk} {ρ : Nat → Pl} {m : Mem} (hm : ∀ id, m id = none) (hN : ∀ b, N b → b < w'.heap.size) : MR w' N ρ m :=
  ⟨fun id o h => (by rw [hm] at h; cases h), fun _ _ _ _ _ h => (by rw [hm] at h; cases h), fun _ _ ⟨id, o, h, _⟩ => (by rw [hm] at h; cases h), hN⟩
theorem BStr_ok {g : Nat → Option Gl} : Meets Tryd.prog g 24 cBStr := by
  refine ⟨⟨_, Tryd.func24, by kernel_rfl, by kernel_rfl⟩, fun args m0 obs r m1 hc hp => ?_⟩
  unfold cBStr at hc
  have fin : ∀ {w w' : World} {N : Blk} {ρ : Nat → Pl} {m0 : List (Nat × Option Obj)} {ms : Mem} {s t : ByteArray}, MR w N ρ (memOf m0) → (∀ id, ms id = none) → s = t → w'.heap.size = w.heap.size → w'.os = w.os → w'.tape = w.tape → w'.output = w.output → (∀ k, ¬ Own ρ (memOf m0) k → w'.heap[k]? = w.heap[k]?) →
      ∃ v ρ' N', Ending.returned (.string s) = .returned v ∧ (∀ n, n < m0.length → ρ' n = ρ n) ∧ (∀ b, N b → N' b) ∧ MR w' N' ρ' ms ∧ SVR w' N' ρ' ms (.v false [.str t]) v ∧ Since w (Own ρ (memOf m0)) w' ∧ (∀ b, Own ρ' ms b → Own ρ (memOf m0) b ∨ w.heap.size ≤ b) ∧ ∀ b, N' b → N b ∨ w.heap.size ≤ b ∨ Own ρ (memOf m0) b := by
    intro w w' N ρ m0 ms s t hm hn hs hz h1 h2 h3 hk
    subst hs
    refine ⟨_, ρ, N, rfl, fun _ _ => rfl, fun _ h => h, gone_mr hn (fun b hb => by rw [hz]; exact hm.nlt b hb), ⟨_, rfl, rfl⟩, ⟨h1, h2, h3, Nat.le_of_eq hz.symm, fun k _ hx => hk k hx⟩, fun b ⟨id, o, h, _⟩ => ?_, fun _ h => .inl h⟩
    rw [hn] at h; cases h
  split at hc
  · rename_i T
    split at hc
    · rename_i hT
      subst hT
      simp only [Option.some.injEq, Prod.mk.injEq] at hc
      obtain ⟨rfl, rfl, rfl⟩ := hc
      intro w N ρ vs hg hm ha _ _
      obtain ⟨v, rfl, hv⟩ := all2_1 ha
      obtain ⟨b, hA, rfl⟩ := hv
      obtain ⟨b', vals, T', hA', hh, hcs, hcT⟩ := hm.obj 0 _ (rfl : memOf [(0, some (Obj.box [.sp 0 TBl, .sz]))] 0 = _)
      rw [hA] at hA'
      simp only [Option.some.injEq, Addr.mk.injEq, and_true] at hA'
      subst hA'
      obtain ⟨v0, v1, rfl, ⟨hT, _⟩, h1⟩ := two_cells hcs
      have hT' : T' = TBl := hcT.symm.trans hT
      subst hT'
      have h1 : v1 = .slice none 0 0 := h1
      subst h1
      refine (bstr_nil b v0 w hh).mono ?_
      rintro e w' ⟨rfl, rfl⟩
      refine fin hm (fun id => ?_) rfl rfl rfl rfl rfl fun _ _ => rfl
      show (look [(0, (none : Option Obj)), (0, some (.box [.sp 0 TBl, .sz]))] id).getD none = none
      rw [look_cons]
      split
      · rfl
      · rename_i h; rw [look_cons, if_neg h]; rfl
    · cases hc
  · rename_i T o
    split at hc
    · rename_i hT
      subst hT
      split at hc
      · rename_i xs hxs
        simp only [Option.some.injEq, Prod.mk.injEq] at hc
        obtain ⟨rfl, rfl, rfl⟩ := hc
        have ho : o = .row tyBl xs := (rowParse_eq hxs).symm
        subst ho
        have hbl : xs = bl (unBl xs) := hp (pIsBl xs) List.mem_cons_self
        intro w N ρ vs hg hm ha _ _
        obtain ⟨v, rfl, hv⟩ := all2_1 ha
        obtain ⟨b, hA, rfl⟩ := hv
        have m0 : memOf [(0, some (Obj.box [.sp 0 TBl, .hs 1])), (1, some (Obj.row tyBl xs))] 0 = some (.box [.sp 0 TBl, .hs 1]) := rfl
        have m1 : memOf [(0, some (Obj.box [.sp 0 TBl, .hs 1])), (1, some (Obj.row tyBl xs))] 1 = some (.row tyBl xs) := rfl
        obtain ⟨b', vals, T', hA', hh, hcs, hcT⟩ := hm.obj 0 _ m0
        rw [hA] at hA'
        simp only [Option.some.injEq, Addr.mk.injEq, and_true] at hA'
        subst hA'
        obtain ⟨v0, v1, rfl, ⟨hT, _⟩, h1⟩ := two_cells hcs
        have hT' : T' = TBl := hcT.symm.trans hT
        subst hT'
        have h1 := h1.hs_row m1
        subst h1
        have gone : ∀ id, memOf ([(0, none), (1, none)] ++ [(0, some (Obj.box [.sp 0 TBl, .hs 1])), (1, some (Obj.row tyBl xs))]) id = none := fun id => by
          show (look ((0, (none : Option Obj)) :: (1, none) :: [(0, some (.box [.sp 0 TBl, .hs 1])), (1, some (.row tyBl xs))]) id).getD none = none
          rw [look_cons]
          split
          · rfl
          · rename_i h0
            rw [look_cons]
            split
            · rfl
            · rename_i h1; rw [look_cons, if_neg h0, look_cons, if_neg h1]; rfl
        obtain ⟨⟨⟨hl, hmx⟩, hr⟩, hti⟩ := hm.obj 1 _ m1
        obtain ⟨t1, t2⟩ := hti 5 rfl
        have hlen : xs.length = (unBl xs).data.toList.length := by
          have := congrArg List.length hbl
          rw [bl_len] at this
          exact this
        rcases Nat.eq_zero_or_pos (ρ 1).cap with hc0 | hc0
        · have hx0 : xs = [] := List.eq_nil_of_length_eq_zero (by omega)
          rw [t1 hc0, hc0, hx0] at hh
          refine (bstr_nil b v0 w hh).mono ?_
          rintro e w' ⟨rfl, rfl⟩
          exact fin hm gone (by rw [hx0]; rfl) rfl rfl rfl rfl fun _ _ => rfl
        · obtain ⟨g0, vals, T2, hA2, hh2, hvs, hel⟩ := hr hc0
          obtain rfl := t2 g0 vals T2 (0, 0) hc0 hA2 hh2
          rw [hA2] at hh
          have own : Own ρ (memOf [(0, some (Obj.box [.sp 0 TBl, .hs 1])), (1, some (Obj.row tyBl xs))]) g0 := ⟨1, _, m1, hc0, hA2⟩
          by_cases hx0 : xs = []
          · rw [hx0] at hh
            refine (bstr_room b g0 (ρ 1).cap v0 w (by omega) hh).mono ?_
            rintro e w' ⟨rfl, rfl⟩
            exact fin hm gone (by rw [hx0]; rfl) rfl rfl rfl rfl fun _ _ => rfl
          · rw [hlen] at hh
            refine (bstr_some b g0 (ρ 1).cap (unBl xs).data.toList v0 w vals (0, 0) ?_ (by omega) hh hh2 ?_ ?_ fun j x hj => ?_).mono ?_
            · intro e
              rw [e] at hlen
              exact hx0 (List.eq_nil_of_length_eq_zero hlen)
            · rw [hvs, ← hlen]; exact Nat.le_trans hl (Nat.le_of_eq (Nat.mul_one _).symm)
            · rw [← hlen]; omega
            · have hj1 : j < (unBl xs).data.toList.length := (List.getElem?_eq_some_iff.1 hj).1
              have hj2 : j < xs.length := by omega
              obtain ⟨us, hrd, hcell⟩ := hel j hj2
              have hx : xs[j] = ((), (x.toNat : Int), ()) := by
                have e1 : xs[j]? = (bl (unBl xs))[j]? := congrArg (·[j]?) hbl
                rw [List.getElem?_eq_getElem hj2, List.getElem?_eq_getElem (by rw [bl_len]; exact hj1), bl_get _ hj1] at e1
                rw [List.getElem?_eq_getElem hj1] at hj
                rw [Option.some.inj e1, Option.some.inj hj]
              rw [hx] at hrd
              obtain ⟨u1, u2, rfl, h1, u3, u4, rfl, h2, h3⟩ := hrd
              have h1 : u1 = [] := h1
              have h2 : u3 = [.int .u8 (x.toNat : Int)] := h2
              have h3 : u4 = [] := h3
              subst h1 h2 h3
              have := hcell 0 (.int .u8 (x.toNat : Int)) rfl
              rw [show tyBl.size = 1 from rfl, Nat.mul_one, Nat.add_zero] at this
              exact this
            · rintro e w' ⟨rfl, rfl⟩
              obtain ⟨f1, f2, f3, f4, f5⟩ := freeze_facts w.drew g0 (unBl xs).data.toList.length
              exact fin hm gone (by obtain ⟨⟨l⟩⟩ := unBl xs; rfl) f1 f2 f3 f4 fun k hk => f5 k fun e => hk (e ▸ own)
      · cases hc
    · cases hc
  · cases hc


end Go.Proofs.YtedjlbcclhgfmaaDoor

/- Numerals: digits, their value; what Atoi and Itoa say of them. No condition. -/
namespace Go.Proofs.YtedjlbcclhgfmaaDoor
open Go.Lib

def val (acc : Nat) : List UInt8 → Nat
  | [] => acc
  | c :: r => val (10 * acc + (c.toNat - 48)) r
theorem ba_eq {a b : ByteArray} (h : a.data.toList = b.data.toList) : a = b := by
  obtain ⟨⟨a⟩⟩ := a; obtain ⟨⟨b⟩⟩ := b
  have h : a = b := h
  rw [h]
theorem strEq_iff {a b : ByteArray} : pStrEq a b = true ↔ a = b := by
  unfold pStrEq
  rw [beq_iff_eq, toList_data, toList_data]
  exact ⟨ba_eq, fun h => by rw [h]⟩
theorem itoa_coe (n : Nat) : pItoa (n : Int) = ⟨(decDigits n).toArray⟩ := by
  unfold pItoa itoa
  rw [if_neg (by omega)]; simp

end Go.Proofs.YtedjlbcclhgfmaaDoor
