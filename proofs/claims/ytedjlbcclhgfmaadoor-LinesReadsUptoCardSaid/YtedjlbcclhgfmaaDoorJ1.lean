/- Words between blanks. No condition. -/
import Derived.Test.YtedjlbcclhgfmaaDoorFF
import Derived.Test.YtedjlbcclhgfmaaDoorFH
import Derived.Test.YtedjlbcclhgfmaaDoorLib
import Derived.Shelf.Strconv.ErrVarAll
import Derived.Shelf.Strconv.Itoa3
import Derived.Shelf.Strings.Split
import Derived.Shelf.Strings.Shaped
import Derived.Test.YtedjlbcclhgfmaaDoorProg
import Derived.Lib.AtoiAllCases
import Derived.Lib.Strings

/- Plain words of configurations, desks and acts: types of readings, what may be. No condition. -/
namespace Go.Proofs.YtedjlbcclhgfmaaDoor
open Go.RowKit

abbrev tI : Ty := .int .i64
abbrev tyN : Ty := .pair tI .unit
abbrev tyLab : Ty := .pair tI (.pair tI .unit)
abbrev ND := Int × Unit
abbrev LabD := Int × Int × Unit
abbrev CfgD := Int × List LabD × Int × Unit
abbrev CallD := Int × Int × Int × Int × Int × Unit
abbrev ActD := Int × Int × Int × Int × Int × List ND × Int × Int × Int × Int × Int × ByteArray × Unit
abbrev pLab : Par := .agg [.rd tI, .rd tI]
abbrev pCfg : Par := .agg [.rd tI, .rd (.sl tyLab), .rd tI]
abbrev pCall : Par := .agg [.rd tI, .rd tI, .rd tI, .rd tI, .rd tI]
abbrev pAct : Par := .agg [.rd tI, .rd tI, .rd tI, .rd tI, .rd tI, .rd (.sl tyN), .rd tI, .rd tI, .rd tI, .rd tI, .rd tI, .rd .str]
abbrev wLab : TyW := wStruct [wInt, wInt]
abbrev wCfg : TyW := wStruct [wInt, wSl wLab 16, wInt]
def inF (x a b : Int) : Bool := pLe a x && pLe x b
def labF (a : LabD) : Bool := inF a.1 0 9 && inF a.2.1 0 15
def eqLabAt (l : List LabD) (k i : Nat) : Bool := pAndB (pEq (pGet tyLab l k).1 (pGet tyLab l i).1) (pEq (pGet tyLab l k).2.1 (pGet tyLab l i).2.1)
/-- what is wrong with a label, behind those ahead of it -/
def labE (l : List LabD) (i : Nat) : Int := cond (labF (pGet tyLab l i)) (cond (allUpto (fun k => !eqLabAt l k i) i) 0 7) 2
def cfgF (c : CfgD) : Int :=
  cond (inF c.1 1 4) (cond (inF (pInt c.2.1.length) 1 6) (cond (pEq (firstE (labE c.2.1) c.2.1.length) 0) (cond (inF c.2.2.1 1 1048576) 0 2) (firstE (labE c.2.1) c.2.1.length)) 1) 2
def placeF (c : CfgD) (l : Int) : Bool := pLe 0 l && pLt l (pInt c.2.1.length)
def lCheckAInv (_ : Int) (cl : List LabD) (_ : Int) : denVars [.slot 28 false tI] → Prop := FirstInv (labE cl) cl.length
def lCheckAMu (_ : Int) (cl : List LabD) (_ : Int) : denVars [.slot 28 false tI] → Nat := UpMu cl.length
def lCheckBInv (_ : Int) (cl : List LabD) (_ : Int) (i : Int) : denVars [.slot 41 false tI] → Prop := UpInv (fun k => !eqLabAt cl k (pNat i)) (pNat i)
def lCheckBMu (_ : Int) (_ : List LabD) (_ : Int) (i : Int) : denVars [.slot 41 false tI] → Nat := UpMu (pNat i)
variable (cn : Int) (cl : List LabD) (cp : Int)
/-- numbers of bytes to keep -/
def keepBad (l : List ND) : Int := idxOf (fun j => pNot (inF (pGet tyN l j).1 0 6000)) l.length
def keepInv (l : List ND) : denVars [.slot 8 false tI] → Prop := FindInv (fun j => pNot (inF (pGet tyN l j).1 0 6000)) l.length
def keepMu (l : List ND) : denVars [.slot 8 false tI] → Nat := UpMu l.length
def keepUpInv (_ : Int) (_ : List LabD) (_ : Int) (_ _ _ _ _ : Int) (l : List ND) (_ _ _ _ _ : Int) (_ : ByteArray) : denVars [.slot 6 false tI] → Prop := FindInv (fun j => pNot (inF (pGet tyN l j).1 0 6000)) l.length
def keepUpMu (_ : Int) (_ : List LabD) (_ : Int) (_ _ _ _ _ : Int) (l : List ND) (_ _ _ _ _ : Int) (_ : ByteArray) : denVars [.slot 6 false tI] → Nat := UpMu l.length
def callF (x : CallD) : Int :=
  cond (inF x.1 1 5) (cond (inF x.2.1 0 1048576 && inF x.2.2.1 0 5 && inF x.2.2.2.1 0 8 && inF x.2.2.2.2.1 0 1073741824)
    (cond ((pNe x.1 1 || pEq x.2.1 0) && (pEq x.1 2 || pEq x.2.2.1 0) && (pEq x.1 2 || pEq x.1 3 || pEq x.2.2.2.1 0) && (pEq x.1 3 || pEq x.2.2.2.2.1 0)) 0 4) 2) 3
def numbersF (c : CfgD) (z : ActD) : Bool :=
  pLe 0 z.2.1 && pLt z.2.1 c.1 && pLe 0 z.2.2.1 && pLt z.2.2.1 c.1 && placeF c z.2.2.2.1 && inF z.2.2.2.2.1 0 1048576 && decide (z.2.2.2.2.2.1.length ≤ c.2.1.length) && decide (pStrLen z.2.2.2.2.2.2.2.2.2.2.2.1 ≤ 60) && pNot (pGe (keepBad z.2.2.2.2.2.1) 0)
def callOf (z : ActD) : CallD := (z.2.2.2.2.2.2.1, z.2.2.2.2.2.2.2.1, z.2.2.2.2.2.2.2.2.1, z.2.2.2.2.2.2.2.2.2.1, z.2.2.2.2.2.2.2.2.2.2.1, ())
def noCall (x : CallD) : Bool := pEq x.1 0 && pEq x.2.1 0 && pEq x.2.2.1 0 && pEq x.2.2.2.1 0 && pEq x.2.2.2.2.1 0
def bareF (z : ActD) : Bool :=
  (pNe z.1 5 || pEq z.2.1 0) && (inF z.1 2 4 || pEq z.1 1 || pEq z.1 8 || pEq z.2.2.2.1 0) && (inF z.1 2 4 || (pEq z.2.2.1 0 && pEq z.2.2.2.2.1 0)) && (pEq z.1 6 || decide (z.2.2.2.2.2.1.length = 0)) &&
    (pEq z.1 1 || noCall (callOf z)) && (pEq z.1 8 || pStrEq z.2.2.2.2.2.2.2.2.2.2.2.1 ByteArray.empty)
def actF (c : CfgD) (z : ActD) : Int :=
  cond (pEq (cfgF c) 0) (cond (inF z.1 1 8) (cond (numbersF c z) (cond (bareF z) (cond (pEq z.1 1) (callF (callOf z)) 0) 4) 2) 3) (cfgF c)


end Go.Proofs.YtedjlbcclhgfmaaDoor

/- Functions of the program that meet contracts: a short word for it. -/
namespace Go.Proofs.YtedjlbcclhgfmaaDoor

abbrev vnil (α : Type) : List α := []
/-- a text, by its bytes -/
def bs (l : List Nat) : ByteArray := ⟨(l.map UInt8.ofNat).toArray⟩
abbrev Mt (f : FuncId) (c : Ctr) : Prop := Meets Tryd.prog (fun _ => none) f c
abbrev MtG (g : Nat → Option Gl) (f : FuncId) (c : Ctr) : Prop := Meets Tryd.prog g f c


end Go.Proofs.YtedjlbcclhgfmaaDoor

/- Contracts, and what the evaluator says, as plain propositions: LnV. Printed by vc.py. -/
namespace Go.Proofs.YtedjlbcclhgfmaaDoor
open Go.RowKit Go.ChangeShapes Go.WideShapes Go.Deep

abbrev In_S : Shape := ⟨[.one (.rd tI), .one (.rd tI), .one (.rd tI)], []⟩
abbrev In_f : Shape.den In_S → denVars [.slot 0 false .bool] := fun x => (inF x.1.1 x.1.2.1 x.1.2.2.1, ())
abbrev In_p : Shape.den In_S → List Prop := fun _ => []
def cIn : Ctr := shCtr In_S In_p [] [.slot 0 false .bool] In_f
abbrev one_S : Shape := ⟨[pLab], []⟩
abbrev one_f : Shape.den one_S → denVars [.slot 0 false .bool] := fun x => (labF x.1.1, ())
abbrev one_p : Shape.den one_S → List Prop := fun _ => []
def cone : Ctr := shCtr one_S one_p [] [.slot 0 false .bool] one_f
abbrev lCheck_S : Shape := ⟨[pCfg], []⟩
abbrev lCheck_f : Shape.den lCheck_S → denVars [.slot 0 false tI] := fun x => (cfgF x.1.1, ())
abbrev lCheck_p : Shape.den lCheck_S → List Prop := fun x => [pLen x.1.1.2.1 < 4611686018427387904]
def clCheck : Ctr := shCtr lCheck_S lCheck_p [] [.slot 0 false tI] lCheck_f
def ccFault : Ctr := shCtr lCheck_S lCheck_p [] [.slot 0 false tI] lCheck_f
abbrev labelMay_S : Shape := ⟨[pCfg, .one (.rd tI)], []⟩
abbrev labelMay_f : Shape.den labelMay_S → denVars [.slot 0 false .bool] := fun x => (placeF x.1.1 x.1.2.1, ())
abbrev labelMay_p : Shape.den labelMay_S → List Prop := fun x => [pLen x.1.1.2.1 < 4611686018427387904]
def clabelMay : Ctr := shCtr labelMay_S labelMay_p [] [.slot 0 false .bool] labelMay_f
abbrev numbers1_S : Shape := ⟨[.one (.rd tI)], []⟩
abbrev numbers1_f : Shape.den numbers1_S → denVars [.slot 0 false .bool] := fun x => (pNot (inF x.1.1 0 6000), ())
abbrev numbers1_p : Shape.den numbers1_S → List Prop := fun _ => []
def cnumbers1 : Ctr := shCtr numbers1_S numbers1_p [] [.slot 0 false .bool] numbers1_f
abbrev indexFunc_S : Shape := ⟨[.one (.rd (.sl tyN)), .one (.lit (.fn 81 []))], []⟩
abbrev indexFunc_f : Shape.den indexFunc_S → denVars [.slot 0 false tI] := fun x => (keepBad x.1.1, ())
abbrev indexFunc_p : Shape.den indexFunc_S → List Prop := fun x => [pLen x.1.1 < 4611686018427387904]
def cindexFunc : Ctr := shCtr indexFunc_S indexFunc_p [] [.slot 0 false tI] indexFunc_f
abbrev containsFunc_f : Shape.den indexFunc_S → denVars [.slot 0 false .bool] := fun x => (pGe (keepBad x.1.1) 0, ())
def ccontainsFunc : Ctr := shCtr indexFunc_S indexFunc_p [] [.slot 0 false .bool] containsFunc_f
abbrev numbers_S : Shape := ⟨[pCfg, pAct], []⟩
abbrev numbers_f : Shape.den numbers_S → denVars [.slot 0 false .bool] := fun x => (numbersF x.1.1 x.1.2.1, ())
abbrev numbers_p : Shape.den numbers_S → List Prop := fun x => [pLen x.1.1.2.1 < 4611686018427387904, pLen x.1.2.1.2.2.2.2.2.1 < 4611686018427387904]
def cnumbers : Ctr := shCtr numbers_S numbers_p [] [.slot 0 false .bool] numbers_f
abbrev bare_S : Shape := ⟨[pAct], []⟩
abbrev bare_f : Shape.den bare_S → denVars [.slot 0 false .bool] := fun x => (bareF x.1.1, ())
abbrev bare_p : Shape.den bare_S → List Prop := fun x => [pLen x.1.1.2.2.2.2.2.1 < 4611686018427387904]
def cbare : Ctr := shCtr bare_S bare_p [] [.slot 0 false .bool] bare_f
abbrev call_S : Shape := ⟨[pCall], []⟩
abbrev call_f : Shape.den call_S → denVars [.slot 0 false tI] := fun x => (callF x.1.1, ())
abbrev call_p : Shape.den call_S → List Prop := fun _ => []
def ccall : Ctr := shCtr call_S call_p [] [.slot 0 false tI] call_f
def ccallMay : Ctr := shCtr call_S call_p [] [.slot 0 false tI] call_f
abbrev liCheck_f : Shape.den numbers_S → denVars [.slot 0 false tI] := fun x => (actF x.1.1 x.1.2.1, ())
def cliCheck : Ctr := shCtr numbers_S numbers_p [] [.slot 0 false tI] liCheck_f
def caFault : Ctr := shCtr numbers_S numbers_p [] [.slot 0 false tI] liCheck_f
abbrev eqsLnV : List TypeId := [83, 53]

def In_VC (a : Int) (b : Int) (c : Int) : Prop :=
  bif pGe a b then (pLe a c, ()) = (inF a b c, ()) else (Bool.false, ()) = (inF a b c, ())
set_option maxRecDepth 100000 in
theorem In_meets  (h : ∀ (a : Int) (b : Int) (c : Int), In_VC a b c) : Mt 55 cIn :=
  meets_vc (E := envOf Tryd.prog [] eqsLnV) (envOf_ok (fun p hp => by cases hp) (by kernel_rfl)) In_S (fun x => fun ky9 st9 => look [] ky9) Tryd.func55 (by kernel_rfl) (by kernel_rfl) In_p [] [.slot 0 false .bool] In_f (fun x => In_VC x.1.1 x.1.2.1 x.1.2.2.1) (fun x => by kernel_rfl) (fun x _ => h x.1.1 x.1.2.1 x.1.2.2.1)

abbrev one_t0 (al : Int) (ak : Int) : Prop := (Bool.false, ()) = (labF (al, ak, ()), ())

def one_VC (al : Int) (ak : Int) : Prop :=
  bif pGe al (0 : Int) then bif pLe al (9 : Int) then bif pGe ak (0 : Int) then (pLe ak (15 : Int), ()) = (labF (al, ak, ()), ()) else one_t0 al ak else one_t0 al ak else one_t0 al ak
set_option maxRecDepth 100000 in
theorem one_meets  (h : ∀ (al : Int) (ak : Int), one_VC al ak) : Mt 49 cone :=
  meets_vc (E := envOf Tryd.prog [] eqsLnV) (envOf_ok (fun p hp => by cases hp) (by kernel_rfl)) one_S (fun x => fun ky9 st9 => look [] ky9) Tryd.func49 (by kernel_rfl) (by kernel_rfl) one_p [] [.slot 0 false .bool] one_f (fun x => one_VC x.1.1.1 x.1.1.2.1) (fun x => by kernel_rfl) (fun x _ => h x.1.1.1 x.1.1.2.1)

abbrev lCheck_v0 (cn : Int) (cl : List LabD) (cp : Int) := (cfgF (cn, cl, cp, ()), ())
abbrev lCheck_v1 (cl : List LabD) (y0 : kden Bool.false tI × PUnit) := pGet tyLab cl (pNat y0.1)

def lCheck_VC (cn : Int) (cl : (List LabD)) (cp : Int) : Prop :=
  bif pLt cn (1 : Int) then ((2 : Int), ()) = lCheck_v0 cn cl cp else bif pGt cn (4 : Int) then ((2 : Int), ()) = lCheck_v0 cn cl cp else bif pLt (pInt (pLen cl)) (1 : Int) then ((1 : Int), ()) = lCheck_v0 cn cl cp else bif pGt (pInt (pLen
 cl)) (6 : Int) then ((1 : Int), ()) = lCheck_v0 cn cl cp else lCheckAInv cn cl cp ((0 : Int), ()) ∧ ∀ (y0 : kden Bool.false tI × PUnit), lCheckAInv cn cl cp y0 → bif pLt y0.1 (pInt (pLen cl)) then pIn y0.1 (pLen cl) ∧ bif pNot (labF
 (lCheck_v1 cl y0)) then ((2 : Int), ()) = lCheck_v0 cn cl cp else pTo y0.1 (pLen cl) ∧ lCheckBInv cn cl cp y0.1 ((0 : Int), ()) ∧ ∀ (y1 : kden Bool.false tI × PUnit), lCheckBInv cn cl cp y0.1 y1 → bif pLt y1.1 (pInt (pLen (pSub cl 0 (pNat
 y0.1)))) then pIn y1.1 (pLen (pSub cl 0 (pNat y0.1))) ∧ bif pAndB (pEq (pGet tyLab (pSub cl 0 (pNat y0.1)) (pNat y1.1)).1 (lCheck_v1 cl y0).1) (pEq (pGet tyLab (pSub cl 0 (pNat y0.1)) (pNat y1.1)).2.1 (lCheck_v1 cl y0).2.1) then ((7 : Int),
 ()) = lCheck_v0 cn cl cp else lCheckBInv cn cl cp y0.1 (pAdd IntKind.i64 y1.1 (1 : Int), ()) ∧ Nat.le (Nat.succ (lCheckBMu cn cl cp y0.1 (pAdd IntKind.i64 y1.1 (1 : Int), ()))) (lCheckBMu cn cl cp y0.1 y1) else lCheckAInv cn cl cp (pAdd
 IntKind.i64 y0.1 (1 : Int), ()) ∧ Nat.le (Nat.succ (lCheckAMu cn cl cp (pAdd IntKind.i64 y0.1 (1 : Int), ()))) (lCheckAMu cn cl cp y0) else bif pLt cp (1 : Int) then ((2 : Int), ()) = lCheck_v0 cn cl cp else bif pGt cp (1048576 : Int) then
 ((2 : Int), ()) = lCheck_v0 cn cl cp else ((0 : Int), ()) = lCheck_v0 cn cl cp
set_option maxRecDepth 100000 in
theorem lCheck_meets (hone : Mt 49 cone) (h : ∀ (cn : Int) (cl : (List LabD)) (cp : Int), (∀ p ∈ lCheck_p ⟨((cn, cl, cp, ()), ()), ()⟩, p) → lCheck_VC cn cl cp) : Mt 16 clCheck :=
  meets_vc (E := envOf Tryd.prog [(49, (false, cone))] eqsLnV) (envOf_ok (fun p hp => (by simp only [List.mem_cons, List.not_mem_nil, or_false] at hp; rcases hp with rfl; exact hone)) (by kernel_rfl)) lCheck_S (fun x => fun ky9 st9 => look [(6, (⟨[.slot 28 false tI], lCheckAInv x.1.1.1 x.1.1.2.1 x.1.1.2.2.1, lCheckAMu x.1.1.1 x.1.1.2.1 x.1.1.2.2.1⟩ : Ann)), (11, (⟨[.slot 41 false tI], lCheckBInv x.1.1.1 x.1.1.2.1 x.1.1.2.2.1 (slotI st9 28), lCheckBMu x.1.1.1 x.1.1.2.1 x.1.1.2.2.1 (slotI st9 28)⟩ : Ann))] ky9) Tryd.func16 (by kernel_rfl) (by kernel_rfl) lCheck_p [] [.slot 0 false tI] lCheck_f (fun x => lCheck_VC x.1.1.1 x.1.1.2.1 x.1.1.2.2.1) (fun x => by kernel_rfl) (fun x hp => h x.1.1.1 x.1.1.2.1 x.1.1.2.2.1 hp)

abbrev cFault_v0 (cn : Int) (cl : List LabD) (cp : Int) := (cfgF (cn, cl, cp, ()), ())

def cFault_VC (cn : Int) (cl : (List LabD)) (cp : Int) : Prop :=
  bif pNot (inF cn (1 : Int) (4 : Int)) then ((2 : Int), ()) = cFault_v0 cn cl cp else bif pNot (inF (pInt (pLen cl)) (1 : Int) (6 : Int)) then ((1 : Int), ()) = cFault_v0 cn cl cp else lCheckAInv cn cl cp ((0 : Int), ()) ∧ ∀ (y0 : kden
 Bool.false tI × PUnit), lCheckAInv cn cl cp y0 → bif pLt y0.1 (pInt (pLen cl)) then pIn y0.1 (pLen cl) ∧ bif pNot (inF (pGet tyLab cl (pNat y0.1)).1 (0 : Int) (9 : Int)) then ((2 : Int), ()) = cFault_v0 cn cl cp else pIn y0.1 (pLen cl) ∧
 bif pNot (inF (pGet tyLab cl (pNat y0.1)).2.1 (0 : Int) (15 : Int)) then ((2 : Int), ()) = cFault_v0 cn cl cp else lCheckBInv cn cl cp y0.1 ((0 : Int), ()) ∧ ∀ (y1 : kden Bool.false tI × PUnit), lCheckBInv cn cl cp y0.1 y1 → bif pLt y1.1
 y0.1 then pIn y1.1 (pLen cl) ∧ pIn y0.1 (pLen cl) ∧ bif pAndB (pEq (pGet tyLab cl (pNat y1.1)).1 (pGet tyLab cl (pNat y0.1)).1) (pEq (pGet tyLab cl (pNat y1.1)).2.1 (pGet tyLab cl (pNat y0.1)).2.1) then ((7 : Int), ()) = cFault_v0 cn cl cp
 else lCheckBInv cn cl cp y0.1 (pAdd IntKind.i64 y1.1 (1 : Int), ()) ∧ Nat.le (Nat.succ (lCheckBMu cn cl cp y0.1 (pAdd IntKind.i64 y1.1 (1 : Int), ()))) (lCheckBMu cn cl cp y0.1 y1) else lCheckAInv cn cl cp (pAdd IntKind.i64 y0.1 (1 : Int),
 ()) ∧ Nat.le (Nat.succ (lCheckAMu cn cl cp (pAdd IntKind.i64 y0.1 (1 : Int), ()))) (lCheckAMu cn cl cp y0) else bif pNot (inF cp (1 : Int) (1048576 : Int)) then ((2 : Int), ()) = cFault_v0 cn cl cp else ((0 : Int), ()) = cFault_v0 cn cl cp
set_option maxRecDepth 100000 in
theorem cFault_meets (hIn : Mt 55 cIn) (h : ∀ (cn : Int) (cl : (List LabD)) (cp : Int), (∀ p ∈ lCheck_p ⟨((cn, cl, cp, ()), ()), ()⟩, p) → cFault_VC cn cl cp) : Mt 25 ccFault :=
  meets_vc (E := envOf Tryd.prog [(55, (false, cIn))] eqsLnV) (envOf_ok (fun p hp => (by simp only [List.mem_cons, List.not_mem_nil, or_false] at hp; rcases hp with rfl; exact hIn)) (by kernel_rfl)) lCheck_S (fun x => fun ky9 st9 => look [(6, (⟨[.slot 3 false tI], lCheckAInv x.1.1.1 x.1.1.2.1 x.1.1.2.2.1, lCheckAMu x.1.1.1 x.1.1.2.1 x.1.1.2.2.1⟩ : Ann)), (11, (⟨[.slot 4 false tI], lCheckBInv x.1.1.1 x.1.1.2.1 x.1.1.2.2.1 (slotI st9 3), lCheckBMu x.1.1.1 x.1.1.2.1 x.1.1.2.2.1 (slotI st9 3)⟩ : Ann))] ky9) Tryd.func25 (by kernel_rfl) (by kernel_rfl) lCheck_p [] [.slot 0 false tI] lCheck_f (fun x => cFault_VC x.1.1.1 x.1.1.2.1 x.1.1.2.2.1) (fun x => by kernel_rfl) (fun x hp => h x.1.1.1 x.1.1.2.1 x.1.1.2.2.1 hp)

def labelMay_VC (cn : Int) (cl : (List LabD)) (cp : Int) (l : Int) : Prop :=
  (inF l (0 : Int) (pSubI IntKind.i64 (pInt (pLen cl)) (1 : Int)), ()) = (placeF (cn, cl, cp, ()) l, ())
set_option maxRecDepth 100000 in
theorem labelMay_meets (hIn : Mt 55 cIn) (h : ∀ (cn : Int) (cl : (List LabD)) (cp : Int) (l : Int), (∀ p ∈ labelMay_p ⟨((cn, cl, cp, ()), l, ()), ()⟩, p) → labelMay_VC cn cl cp l) : Mt 34 clabelMay :=
  meets_vc (E := envOf Tryd.prog [(55, (false, cIn))] eqsLnV) (envOf_ok (fun p hp => (by simp only [List.mem_cons, List.not_mem_nil, or_false] at hp; rcases hp with rfl; exact hIn)) (by kernel_rfl)) labelMay_S (fun x => fun ky9 st9 => look [] ky9) Tryd.func34 (by kernel_rfl) (by kernel_rfl) labelMay_p [] [.slot 0 false .bool] labelMay_f (fun x => labelMay_VC x.1.1.1 x.1.1.2.1 x.1.1.2.2.1 x.1.2.1) (fun x => by kernel_rfl) (fun x hp => h x.1.1.1 x.1.1.2.1 x.1.1.2.2.1 x.1.2.1 hp)

def numbers1_VC (n : Int) : Prop :=
  bif pLt n (0 : Int) then (Bool.true, ()) = (pNot (inF n (0 : Int) (6000 : Int)), ()) else (pGt n (6000 : Int), ()) = (pNot (inF n (0 : Int) (6000 : Int)), ())
set_option maxRecDepth 100000 in
theorem numbers1_meets  (h : ∀ (n : Int), numbers1_VC n) : Mt 81 cnumbers1 :=
  meets_vc (E := envOf Tryd.prog [] eqsLnV) (envOf_ok (fun p hp => by cases hp) (by kernel_rfl)) numbers1_S (fun x => fun ky9 st9 => look [] ky9) Tryd.func81 (by kernel_rfl) (by kernel_rfl) numbers1_p [] [.slot 0 false .bool] numbers1_f (fun x => numbers1_VC x.1.1) (fun x => by kernel_rfl) (fun x _ => h x.1.1)

def indexFunc_VC (l : (List ND)) : Prop :=
  keepInv l ((0 : Int), ()) ∧ ∀ (y0 : kden Bool.false tI × PUnit), keepInv l y0 → bif pLt y0.1 (pInt (pLen l)) then pIn y0.1 (pLen l) ∧ bif pNot (inF (pGet tyN l (pNat y0.1)).1 (0 : Int) (6000 : Int)) then y0 = (keepBad l, ()) else keepInv l
 (pAdd IntKind.i64 y0.1 (1 : Int), ()) ∧ Nat.le (Nat.succ (keepMu l (pAdd IntKind.i64 y0.1 (1 : Int), ()))) (keepMu l y0) else ((-1 : Int), ()) = (keepBad l, ())
set_option maxRecDepth 100000 in
theorem indexFunc_meets (hnumbers1 : Mt 81 cnumbers1) (h : ∀ (l : (List ND)), (∀ p ∈ indexFunc_p ⟨(l, (), ()), ()⟩, p) → indexFunc_VC l) : Mt 99 cindexFunc :=
  meets_vc (E := envOf Tryd.prog [(81, (false, cnumbers1))] eqsLnV) (envOf_ok (fun p hp => (by simp only [List.mem_cons, List.not_mem_nil, or_false] at hp; rcases hp with rfl; exact hnumbers1)) (by kernel_rfl)) indexFunc_S (fun x => fun ky9 st9 => look [(2, (⟨[.slot 8 false tI], keepInv x.1.1, keepMu x.1.1⟩ : Ann))] ky9) Tryd.func99 (by kernel_rfl) (by kernel_rfl) indexFunc_p [] [.slot 0 false tI] indexFunc_f (fun x => indexFunc_VC x.1.1) (fun x => by kernel_rfl) (fun x hp => h x.1.1 hp)

def containsFunc_VC (l : (List ND)) : Prop :=
  Nat.le (Nat.succ (pLen l)) 4611686018427387904 ∧ (pGe (keepBad l) (0 : Int), ()) = (pGe (keepBad l) (0 : Int), ())
set_option maxRecDepth 100000 in
theorem containsFunc_meets (hindexFunc : Mt 99 cindexFunc) (h : ∀ (l : (List ND)), (∀ p ∈ indexFunc_p ⟨(l, (), ()), ()⟩, p) → containsFunc_VC l) : Mt 80 ccontainsFunc :=
  meets_vc (E := envOf Tryd.prog [(99, (false, cindexFunc))] eqsLnV) (envOf_ok (fun p hp => (by simp only [List.mem_cons, List.not_mem_nil, or_false] at hp; rcases hp with rfl; exact hindexFunc)) (by kernel_rfl)) indexFunc_S (fun x => fun ky9 st9 => look [] ky9) Tryd.func80 (by kernel_rfl) (by kernel_rfl) indexFunc_p [] [.slot 0 false .bool] containsFunc_f (fun x => containsFunc_VC x.1.1) (fun x => by kernel_rfl) (fun x hp => h x.1.1 hp)

abbrev numbers_v0 (cn : Int) (cl : List LabD) (cp : Int) (zk : Int) (zs : Int) (zt : Int) (zl : Int) (zp : Int) (ze : List ND) (zck : Int) (zcn : Int) (zcl : Int) (zcy : Int) (zcv : Int) (zi : ByteArray) := (numbersF (cn, cl, cp, ()) (zk, zs, zt, zl, zp, ze, zck, zcn, zcl, zcy, zcv, zi, ()), ())

def numbers_VC (cn : Int) (cl : (List LabD)) (cp : Int) (zk : Int) (zs : Int) (zt : Int) (zl : Int) (zp : Int) (ze : (List ND)) (zck : Int) (zcn : Int) (zcl : Int) (zcy : Int) (zcv : Int) (zi : ByteArray) : Prop :=
  bif pLt zs (0 : Int) then (Bool.false, ()) = numbers_v0 cn cl cp zk zs zt zl zp ze zck zcn zcl zcy zcv zi else bif pGe zs cn then (Bool.false, ()) = numbers_v0 cn cl cp zk zs zt zl zp ze zck zcn zcl zcy zcv zi else bif pLt zt (0 : Int) then
 (Bool.false, ()) = numbers_v0 cn cl cp zk zs zt zl zp ze zck zcn zcl zcy zcv zi else bif pGe zt cn then (Bool.false, ()) = numbers_v0 cn cl cp zk zs zt zl zp ze zck zcn zcl zcy zcv zi else bif pLt zl (0 : Int) then (Bool.false, ()) =
 numbers_v0 cn cl cp zk zs zt zl zp ze zck zcn zcl zcy zcv zi else bif pGe zl (pInt (pLen cl)) then (Bool.false, ()) = numbers_v0 cn cl cp zk zs zt zl zp ze zck zcn zcl zcy zcv zi else bif pLt zp (0 : Int) then (Bool.false, ()) = numbers_v0
 cn cl cp zk zs zt zl zp ze zck zcn zcl zcy zcv zi else bif pGt zp (1048576 : Int) then (Bool.false, ()) = numbers_v0 cn cl cp zk zs zt zl zp ze zck zcn zcl zcy zcv zi else bif pGt (pInt (pLen ze)) (pInt (pLen cl)) then (Bool.false, ()) =
 numbers_v0 cn cl cp zk zs zt zl zp ze zck zcn zcl zcy zcv zi else bif pGt (pInt (pStrLen zi)) (60 : Int) then (Bool.false, ()) = numbers_v0 cn cl cp zk zs zt zl zp ze zck zcn zcl zcy zcv zi else Nat.le (Nat.succ (pLen ze))
 4611686018427387904 ∧ (pNot (pGe (keepBad ze) (0 : Int)), ()) = numbers_v0 cn cl cp zk zs zt zl zp ze zck zcn zcl zcy zcv zi
set_option maxRecDepth 100000 in
theorem numbers_meets (hcontainsFunc : Mt 80 ccontainsFunc) (h : ∀ (cn : Int) (cl : (List LabD)) (cp : Int) (zk : Int) (zs : Int) (zt : Int) (zl : Int) (zp : Int) (ze : (List ND)) (zck : Int) (zcn : Int) (zcl : Int) (zcy : Int) (zcv : Int) (zi : ByteArray), (∀ p ∈ numbers_p ⟨((cn, cl, cp, ()), (zk, zs, zt, zl, zp, ze, zck, zcn, zcl, zcy, zcv, zi, ()), ()), ()⟩, p) → numbers_VC cn cl cp zk zs zt zl zp ze zck zcn zcl zcy zcv zi) : Mt 50 cnumbers :=
  meets_vc (E := envOf Tryd.prog [(80, (false, ccontainsFunc))] eqsLnV) (envOf_ok (fun p hp => (by simp only [List.mem_cons, List.not_mem_nil, or_false] at hp; rcases hp with rfl; exact hcontainsFunc)) (by kernel_rfl)) numbers_S (fun x => fun ky9 st9 => look [] ky9) Tryd.func50 (by kernel_rfl) (by kernel_rfl) numbers_p [] [.slot 0 false .bool] numbers_f (fun x => numbers_VC x.1.1.1 x.1.1.2.1 x.1.1.2.2.1 x.1.2.1.1 x.1.2.1.2.1 x.1.2.1.2.2.1 x.1.2.1.2.2.2.1 x.1.2.1.2.2.2.2.1 x.1.2.1.2.2.2.2.2.1 x.1.2.1.2.2.2.2.2.2.1 x.1.2.1.2.2.2.2.2.2.2.1 x.1.2.1.2.2.2.2.2.2.2.2.1 x.1.2.1.2.2.2.2.2.2.2.2.2.1 x.1.2.1.2.2.2.2.2.2.2.2.2.2.1 x.1.2.1.2.2.2.2.2.2.2.2.2.2.2.1) (fun x => by kernel_rfl) (fun x hp => h x.1.1.1 x.1.1.2.1 x.1.1.2.2.1 x.1.2.1.1 x.1.2.1.2.1 x.1.2.1.2.2.1 x.1.2.1.2.2.2.1 x.1.2.1.2.2.2.2.1 x.1.2.1.2.2.2.2.2.1 x.1.2.1.2.2.2.2.2.2.1 x.1.2.1.2.2.2.2.2.2.2.1 x.1.2.1.2.2.2.2.2.2.2.2.1 x.1.2.1.2.2.2.2.2.2.2.2.2.1 x.1.2.1.2.2.2.2.2.2.2.2.2.2.1 x.1.2.1.2.2.2.2.2.2.2.2.2.2.2.1 hp)

abbrev bare_v0 (zk : Int) (zs : Int) (zt : Int) (zl : Int) (zp : Int) (ze : List ND) (zck : Int) (zcn : Int) (zcl : Int) (zcy : Int) (zcv : Int) (zi : ByteArray) := (bareF (zk, zs, zt, zl, zp, ze, zck, zcn, zcl, zcy, zcv, zi, ()), ())
abbrev bare_v1 (zk : Int) (zs : Int) (zt : Int) (zl : Int) (zp : Int) (ze : List ND) (zck : Int) (zcn : Int) (zcl : Int) (zcy : Int) (zcv : Int) (zi : ByteArray) := bif pEq zk (1 : Int) then bif pEq zk (8 : Int) then (Bool.true, ()) = bare_v0 zk zs zt zl zp ze zck zcn zcl zcy zcv zi else (pStrEq zi (bs []), ()) = bare_v0 zk zs zt zl zp ze zck zcn zcl zcy zcv zi else bif pAndB (pEq zck (0 : Int)) (pAndB
 (pEq zcn (0 : Int)) (pAndB (pEq zcl (0 : Int)) (pAndB (pEq zcy (0 : Int)) (pEq zcv (0 : Int))))) then bif pEq zk (8 : Int) then (Bool.true, ()) = bare_v0 zk zs zt zl zp ze zck zcn zcl zcy zcv zi else (pStrEq zi (bs []), ()) = bare_v0 zk zs
 zt zl zp ze zck zcn zcl zcy zcv zi else (Bool.false, ()) = bare_v0 zk zs zt zl zp ze zck zcn zcl zcy zcv zi
abbrev bare_v2 (zk : Int) (zs : Int) (zt : Int) (zl : Int) (zp : Int) (ze : List ND) (zck : Int) (zcn : Int) (zcl : Int) (zcy : Int) (zcv : Int) (zi : ByteArray) := bif pEq zk (6 : Int) then bare_v1 zk zs zt zl zp ze zck zcn zcl zcy zcv zi else bif pEq (pInt (pLen ze)) (0 : Int) then bare_v1 zk zs zt zl zp ze zck zcn zcl zcy zcv zi else (Bool.false, ()) = bare_v0 zk zs zt zl zp ze zck zcn zcl zcy zcv
 zi
abbrev bare_v3 (zk : Int) (zs : Int) (zt : Int) (zl : Int) (zp : Int) (ze : List ND) (zck : Int) (zcn : Int) (zcl : Int) (zcy : Int) (zcv : Int) (zi : ByteArray) := bif pEq zk (4 : Int) then bare_v2 zk zs zt zl zp ze zck zcn zcl zcy zcv zi else bif pEq zt (0 : Int) then bif pEq zp (0 : Int) then bare_v2 zk zs zt zl zp ze zck zcn zcl zcy zcv zi else (Bool.false, ()) = bare_v0 zk zs zt zl zp ze zck zcn
 zcl zcy zcv zi else (Bool.false, ()) = bare_v0 zk zs zt zl zp ze zck zcn zcl zcy zcv zi
abbrev bare_v4 (zk : Int) (zs : Int) (zt : Int) (zl : Int) (zp : Int) (ze : List ND) (zck : Int) (zcn : Int) (zcl : Int) (zcy : Int) (zcv : Int) (zi : ByteArray) := bif pEq zk (8 : Int) then bare_v3 zk zs zt zl zp ze zck zcn zcl zcy zcv zi else bif pEq zl (0 : Int) then bare_v3 zk zs zt zl zp ze zck zcn zcl zcy zcv zi else (Bool.false, ()) = bare_v0 zk zs zt zl zp ze zck zcn zcl zcy zcv zi

def bare_VC (zk : Int) (zs : Int) (zt : Int) (zl : Int) (zp : Int) (ze : (List ND)) (zck : Int) (zcn : Int) (zcl : Int) (zcy : Int) (zcv : Int) (zi : ByteArray) : Prop :=
  bif pEq zk (2 : Int) then bare_v2 zk zs zt zl zp ze zck zcn zcl zcy zcv zi else bif pEq zk (3 : Int) then bare_v2 zk zs zt zl zp ze zck zcn zcl zcy zcv zi else bif pEq zk (4 : Int) then bif pEq zk (4 : Int) then bare_v3 zk zs zt zl zp ze
 zck zcn zcl zcy zcv zi else bif pEq zk (1 : Int) then bare_v3 zk zs zt zl zp ze zck zcn zcl zcy zcv zi else bare_v4 zk zs zt zl zp ze zck zcn zcl zcy zcv zi else bif pEq zk (4 : Int) then bif pNe zk (5 : Int) then bare_v3 zk zs zt zl zp ze
 zck zcn zcl zcy zcv zi else bif pEq zs (0 : Int) then bare_v3 zk zs zt zl zp ze zck zcn zcl zcy zcv zi else (Bool.false, ()) = bare_v0 zk zs zt zl zp ze zck zcn zcl zcy zcv zi else bif pEq zk (1 : Int) then bif pNe zk (5 : Int) then bare_v3
 zk zs zt zl zp ze zck zcn zcl zcy zcv zi else bif pEq zs (0 : Int) then bare_v3 zk zs zt zl zp ze zck zcn zcl zcy zcv zi else (Bool.false, ()) = bare_v0 zk zs zt zl zp ze zck zcn zcl zcy zcv zi else bif pNe zk (5 : Int) then bare_v4 zk zs
 zt zl zp ze zck zcn zcl zcy zcv zi else bif pEq zs (0 : Int) then bare_v4 zk zs zt zl zp ze zck zcn zcl zcy zcv zi else (Bool.false, ()) = bare_v0 zk zs zt zl zp ze zck zcn zcl zcy zcv zi
set_option maxRecDepth 100000 in
theorem bare_meets  (h : ∀ (zk : Int) (zs : Int) (zt : Int) (zl : Int) (zp : Int) (ze : (List ND)) (zck : Int) (zcn : Int) (zcl : Int) (zcy : Int) (zcv : Int) (zi : ByteArray), (∀ p ∈ bare_p ⟨((zk, zs, zt, zl, zp, ze, zck, zcn, zcl, zcy, zcv, zi, ()), ()), ()⟩, p) → bare_VC zk zs zt zl zp ze zck zcn zcl zcy zcv zi) : Mt 51 cbare :=
  meets_vc (E := envOf Tryd.prog [] eqsLnV) (envOf_ok (fun p hp => by cases hp) (by kernel_rfl)) bare_S (fun x => fun ky9 st9 => look [] ky9) Tryd.func51 (by kernel_rfl) (by kernel_rfl) bare_p [] [.slot 0 false .bool] bare_f (fun x => bare_VC x.1.1.1 x.1.1.2.1 x.1.1.2.2.1 x.1.1.2.2.2.1 x.1.1.2.2.2.2.1 x.1.1.2.2.2.2.2.1 x.1.1.2.2.2.2.2.2.1 x.1.1.2.2.2.2.2.2.2.1 x.1.1.2.2.2.2.2.2.2.2.1 x.1.1.2.2.2.2.2.2.2.2.2.1 x.1.1.2.2.2.2.2.2.2.2.2.2.1 x.1.1.2.2.2.2.2.2.2.2.2.2.2.1) (fun x => by kernel_rfl) (fun x hp => h x.1.1.1 x.1.1.2.1 x.1.1.2.2.1 x.1.1.2.2.2.1 x.1.1.2.2.2.2.1 x.1.1.2.2.2.2.2.1 x.1.1.2.2.2.2.2.2.1 x.1.1.2.2.2.2.2.2.2.1 x.1.1.2.2.2.2.2.2.2.2.1 x.1.1.2.2.2.2.2.2.2.2.2.1 x.1.1.2.2.2.2.2.2.2.2.2.2.1 x.1.1.2.2.2.2.2.2.2.2.2.2.2.1 hp)

abbrev call_v0 (xk : Int) (xn : Int) (xl : Int) (xy : Int) (xv : Int) := (callF (xk, xn, xl, xy, xv, ()), ())

def call_VC (xk : Int) (xn : Int) (xl : Int) (xy : Int) (xv : Int) : Prop :=
  bif pLt xk (1 : Int) then ((3 : Int), ()) = call_v0 xk xn xl xy xv else bif pGt xk (5 : Int) then ((3 : Int), ()) = call_v0 xk xn xl xy xv else bif pLt xn (0 : Int) then ((2 : Int), ()) = call_v0 xk xn xl xy xv else bif pGt xn (1048576 :
 Int) then ((2 : Int), ()) = call_v0 xk xn xl xy xv else bif pLt xl (0 : Int) then ((2 : Int), ()) = call_v0 xk xn xl xy xv else bif pGe xl (6 : Int) then ((2 : Int), ()) = call_v0 xk xn xl xy xv else bif pLt xy (0 : Int) then ((2 : Int),
 ()) = call_v0 xk xn xl xy xv else bif pGt xy (8 : Int) then ((2 : Int), ()) = call_v0 xk xn xl xy xv else bif pLt xv (0 : Int) then ((2 : Int), ()) = call_v0 xk xn xl xy xv else bif pGt xv (1073741824 : Int) then ((2 : Int), ()) = call_v0
 xk xn xl xy xv else bif pNe xk (1 : Int) then bif pEq xk (2 : Int) then bif pNot (pAndB (pEq xk xk) (pAndB (pEq xn xn) (pAndB (pEq xl xl) (pAndB (pEq xy xy) (pEq xv (0 : Int)))))) then ((4 : Int), ()) = call_v0 xk xn xl xy xv else ((0 :
 Int), ()) = call_v0 xk xn xl xy xv else bif pEq xk (3 : Int) then bif pNot (pAndB (pEq xk xk) (pAndB (pEq xn xn) (pAndB (pEq xl (0 : Int)) (pAndB (pEq xy xy) (pEq xv xv))))) then ((4 : Int), ()) = call_v0 xk xn xl xy xv else ((0 : Int), ())
 = call_v0 xk xn xl xy xv else bif pNot (pAndB (pEq xk xk) (pAndB (pEq xn xn) (pAndB (pEq xl (0 : Int)) (pAndB (pEq xy (0 : Int)) (pEq xv (0 : Int)))))) then ((4 : Int), ()) = call_v0 xk xn xl xy xv else ((0 : Int), ()) = call_v0 xk xn xl xy
 xv else bif pEq xk (2 : Int) then bif pNot (pAndB (pEq xk xk) (pAndB (pEq xn (0 : Int)) (pAndB (pEq xl xl) (pAndB (pEq xy xy) (pEq xv (0 : Int)))))) then ((4 : Int), ()) = call_v0 xk xn xl xy xv else ((0 : Int), ()) = call_v0 xk xn xl xy xv
 else bif pEq xk (3 : Int) then bif pNot (pAndB (pEq xk xk) (pAndB (pEq xn (0 : Int)) (pAndB (pEq xl (0 : Int)) (pAndB (pEq xy xy) (pEq xv xv))))) then ((4 : Int), ()) = call_v0 xk xn xl xy xv else ((0 : Int), ()) = call_v0 xk xn xl xy xv
 else bif pNot (pAndB (pEq xk xk) (pAndB (pEq xn (0 : Int)) (pAndB (pEq xl (0 : Int)) (pAndB (pEq xy (0 : Int)) (pEq xv (0 : Int)))))) then ((4 : Int), ()) = call_v0 xk xn xl xy xv else ((0 : Int), ()) = call_v0 xk xn xl xy xv
set_option maxRecDepth 100000 in
theorem call_meets  (h : ∀ (xk : Int) (xn : Int) (xl : Int) (xy : Int) (xv : Int), call_VC xk xn xl xy xv) : Mt 52 ccall :=
  meets_vc (E := envOf Tryd.prog [] eqsLnV) (envOf_ok (fun p hp => by cases hp) (by kernel_rfl)) call_S (fun x => fun ky9 st9 => look [] ky9) Tryd.func52 (by kernel_rfl) (by kernel_rfl) call_p [] [.slot 0 false tI] call_f (fun x => call_VC x.1.1.1 x.1.1.2.1 x.1.1.2.2.1 x.1.1.2.2.2.1 x.1.1.2.2.2.2.1) (fun x => by kernel_rfl) (fun x _ => h x.1.1.1 x.1.1.2.1 x.1.1.2.2.1 x.1.1.2.2.2.1 x.1.1.2.2.2.2.1)

abbrev callMay_v0 (xk : Int) (xn : Int) (xl : Int) (xy : Int) (xv : Int) := (callF (xk, xn, xl, xy, xv, ()), ())
abbrev callMay_v1 (xk : Int) (xn : Int) (xl : Int) (xy : Int) (xv : Int) := bif pNe xk (3 : Int) then bif pNe xv (0 : Int) then ((4 : Int), ()) = callMay_v0 xk xn xl xy xv else ((0 : Int), ()) = callMay_v0 xk xn xl xy xv else ((0 : Int), ()) = callMay_v0 xk xn xl xy xv
abbrev callMay_v2 (xk : Int) (xn : Int) (xl : Int) (xy : Int) (xv : Int) := bif pNe xk (2 : Int) then bif pNe xk (3 : Int) then bif pNe xy (0 : Int) then ((4 : Int), ()) = callMay_v0 xk xn xl xy xv else callMay_v1 xk xn xl xy xv else callMay_v1 xk xn xl xy xv else callMay_v1 xk xn xl xy xv

def callMay_VC (xk : Int) (xn : Int) (xl : Int) (xy : Int) (xv : Int) : Prop :=
  bif pNot (inF xk (1 : Int) (5 : Int)) then ((3 : Int), ()) = callMay_v0 xk xn xl xy xv else bif pNot (inF xn (0 : Int) (1048576 : Int)) then ((2 : Int), ()) = callMay_v0 xk xn xl xy xv else bif pNot (inF xl (0 : Int) (5 : Int)) then ((2 :
 Int), ()) = callMay_v0 xk xn xl xy xv else bif pNot (inF xy (0 : Int) (8 : Int)) then ((2 : Int), ()) = callMay_v0 xk xn xl xy xv else bif pNot (inF xv (0 : Int) (1073741824 : Int)) then ((2 : Int), ()) = callMay_v0 xk xn xl xy xv else bif
 pEq xk (1 : Int) then bif pNe xn (0 : Int) then ((4 : Int), ()) = callMay_v0 xk xn xl xy xv else bif pNe xk (2 : Int) then bif pNe xl (0 : Int) then ((4 : Int), ()) = callMay_v0 xk xn xl xy xv else callMay_v2 xk xn xl xy xv else callMay_v2
 xk xn xl xy xv else bif pNe xk (2 : Int) then bif pNe xl (0 : Int) then ((4 : Int), ()) = callMay_v0 xk xn xl xy xv else callMay_v2 xk xn xl xy xv else callMay_v2 xk xn xl xy xv
set_option maxRecDepth 100000 in
theorem callMay_meets (hIn : Mt 55 cIn) (h : ∀ (xk : Int) (xn : Int) (xl : Int) (xy : Int) (xv : Int), callMay_VC xk xn xl xy xv) : Mt 56 ccallMay :=
  meets_vc (E := envOf Tryd.prog [(55, (false, cIn))] eqsLnV) (envOf_ok (fun p hp => (by simp only [List.mem_cons, List.not_mem_nil, or_false] at hp; rcases hp with rfl; exact hIn)) (by kernel_rfl)) call_S (fun x => fun ky9 st9 => look [] ky9) Tryd.func56 (by kernel_rfl) (by kernel_rfl) call_p [] [.slot 0 false tI] call_f (fun x => callMay_VC x.1.1.1 x.1.1.2.1 x.1.1.2.2.1 x.1.1.2.2.2.1 x.1.1.2.2.2.2.1) (fun x => by kernel_rfl) (fun x _ => h x.1.1.1 x.1.1.2.1 x.1.1.2.2.1 x.1.1.2.2.2.1 x.1.1.2.2.2.2.1)

abbrev liCheck_v0 (zk : Int) (zs : Int) (zt : Int) (zl : Int) (zp : Int) (ze : List ND) (zck : Int) (zcn : Int) (zcl : Int) (zcy : Int) (zcv : Int) (zi : ByteArray) := (zk, zs, zt, zl, zp, ze, zck, zcn, zcl, zcy, zcv, zi, ())
abbrev liCheck_v1 (cn : Int) (cl : List LabD) (cp : Int) (zk : Int) (zs : Int) (zt : Int) (zl : Int) (zp : Int) (ze : List ND) (zck : Int) (zcn : Int) (zcl : Int) (zcy : Int) (zcv : Int) (zi : ByteArray) := (actF (cn, cl, cp, ()) (liCheck_v0 zk zs zt zl zp ze zck zcn zcl zcy zcv zi), ())

def liCheck_VC (cn : Int) (cl : (List LabD)) (cp : Int) (zk : Int) (zs : Int) (zt : Int) (zl : Int) (zp : Int) (ze : (List ND)) (zck : Int) (zcn : Int) (zcl : Int) (zcy : Int) (zcv : Int) (zi : ByteArray) : Prop :=
  Nat.le (Nat.succ (pLen cl)) 4611686018427387904 ∧ bif pNe (cfgF (cn, cl, cp, ())) (0 : Int) then (cfgF (cn, cl, cp, ()), ()) = liCheck_v1 cn cl cp zk zs zt zl zp ze zck zcn zcl zcy zcv zi else bif pLt zk (1 : Int) then ((3 : Int), ()) =
 liCheck_v1 cn cl cp zk zs zt zl zp ze zck zcn zcl zcy zcv zi else bif pGt zk (8 : Int) then ((3 : Int), ()) = liCheck_v1 cn cl cp zk zs zt zl zp ze zck zcn zcl zcy zcv zi else Nat.le (Nat.succ (pLen cl)) 4611686018427387904 ∧ Nat.le
 (Nat.succ (pLen ze)) 4611686018427387904 ∧ bif pNot (numbersF (cn, cl, cp, ()) (liCheck_v0 zk zs zt zl zp ze zck zcn zcl zcy zcv zi)) then ((2 : Int), ()) = liCheck_v1 cn cl cp zk zs zt zl zp ze zck zcn zcl zcy zcv zi else Nat.le (Nat.succ
 (pLen ze)) 4611686018427387904 ∧ bif pNot (bareF (liCheck_v0 zk zs zt zl zp ze zck zcn zcl zcy zcv zi)) then ((4 : Int), ()) = liCheck_v1 cn cl cp zk zs zt zl zp ze zck zcn zcl zcy zcv zi else bif pEq zk (1 : Int) then (callF (zck, zcn,
 zcl, zcy, zcv, ()), ()) = liCheck_v1 cn cl cp zk zs zt zl zp ze zck zcn zcl zcy zcv zi else ((0 : Int), ()) = liCheck_v1 cn cl cp zk zs zt zl zp ze zck zcn zcl zcy zcv zi
set_option maxRecDepth 100000 in
theorem liCheck_meets (hlCheck : Mt 16 clCheck) (hnumbers : Mt 50 cnumbers) (hbare : Mt 51 cbare) (hcall : Mt 52 ccall) (h : ∀ (cn : Int) (cl : (List LabD)) (cp : Int) (zk : Int) (zs : Int) (zt : Int) (zl : Int) (zp : Int) (ze : (List ND)) (zck : Int) (zcn : Int) (zcl : Int) (zcy : Int) (zcv : Int) (zi : ByteArray), (∀ p ∈ numbers_p ⟨((cn, cl, cp, ()), (zk, zs, zt, zl, zp, ze, zck, zcn, zcl, zcy, zcv, zi, ()), ()), ()⟩, p) → liCheck_VC cn cl cp zk zs zt zl zp ze zck zcn zcl zcy zcv zi) : Mt 17 cliCheck :=
  meets_vc (E := envOf Tryd.prog [(16, (false, clCheck)), (50, (false, cnumbers)), (51, (false, cbare)), (52, (false, ccall))] eqsLnV) (envOf_ok (fun p hp => (by simp only [List.mem_cons, List.not_mem_nil, or_false] at hp; rcases hp with rfl | rfl | rfl | rfl; exact hlCheck; exact hnumbers; exact hbare; exact hcall)) (by kernel_rfl)) numbers_S (fun x => fun ky9 st9 => look [] ky9) Tryd.func17 (by kernel_rfl) (by kernel_rfl) numbers_p [] [.slot 0 false tI] liCheck_f (fun x => liCheck_VC x.1.1.1 x.1.1.2.1 x.1.1.2.2.1 x.1.2.1.1 x.1.2.1.2.1 x.1.2.1.2.2.1 x.1.2.1.2.2.2.1 x.1.2.1.2.2.2.2.1 x.1.2.1.2.2.2.2.2.1 x.1.2.1.2.2.2.2.2.2.1 x.1.2.1.2.2.2.2.2.2.2.1 x.1.2.1.2.2.2.2.2.2.2.2.1 x.1.2.1.2.2.2.2.2.2.2.2.2.1 x.1.2.1.2.2.2.2.2.2.2.2.2.2.1 x.1.2.1.2.2.2.2.2.2.2.2.2.2.2.1) (fun x => by kernel_rfl) (fun x hp => h x.1.1.1 x.1.1.2.1 x.1.1.2.2.1 x.1.2.1.1 x.1.2.1.2.1 x.1.2.1.2.2.1 x.1.2.1.2.2.2.1 x.1.2.1.2.2.2.2.1 x.1.2.1.2.2.2.2.2.1 x.1.2.1.2.2.2.2.2.2.1 x.1.2.1.2.2.2.2.2.2.2.1 x.1.2.1.2.2.2.2.2.2.2.2.1 x.1.2.1.2.2.2.2.2.2.2.2.2.1 x.1.2.1.2.2.2.2.2.2.2.2.2.2.1 x.1.2.1.2.2.2.2.2.2.2.2.2.2.2.1 hp)

abbrev aFault_v0 (cn : Int) (cl : List LabD) (cp : Int) (zk : Int) (zs : Int) (zt : Int) (zl : Int) (zp : Int) (ze : List ND) (zck : Int) (zcn : Int) (zcl : Int) (zcy : Int) (zcv : Int) (zi : ByteArray) := (actF (cn, cl, cp, ()) (zk, zs, zt, zl, zp, ze, zck, zcn, zcl, zcy, zcv, zi, ()), ())
abbrev aFault_v1 (cn : Int) (cl : List LabD) (cp : Int) (zk : Int) (zs : Int) (zt : Int) (zl : Int) (zp : Int) (ze : List ND) (zck : Int) (zcn : Int) (zcl : Int) (zcy : Int) (zcv : Int) (zi : ByteArray) := bif pEq zk (1 : Int) then (callF (zck, zcn, zcl, zcy, zcv, ()), ()) = aFault_v0 cn cl cp zk zs zt zl zp ze zck zcn zcl zcy zcv zi else ((0 : Int), ()) = aFault_v0 cn cl cp zk zs zt zl zp ze zck zcn zcl zcy zcv zi
abbrev aFault_v2 (cn : Int) (cl : List LabD) (cp : Int) (zk : Int) (zs : Int) (zt : Int) (zl : Int) (zp : Int) (ze : List ND) (zck : Int) (zcn : Int) (zcl : Int) (zcy : Int) (zcv : Int) (zi : ByteArray) := bif pNe zk (1 : Int) then bif pNot (pAndB (pEq zck (0 : Int)) (pAndB (pEq zcn (0 : Int)) (pAndB (pEq zcl (0 : Int)) (pAndB (pEq zcy (0 : Int)) (pEq zcv (0 : Int)))))) then ((4 : Int), ()) = aFault_v0 cn cl cp zk zs zt zl zp ze zck zcn zcl
 zcy zcv zi else bif pNe zk (8 : Int) then bif pNot (pStrEq zi (bs [])) then ((4 : Int), ()) = aFault_v0 cn cl cp zk zs zt zl zp ze zck zcn zcl zcy zcv zi else aFault_v1 cn cl cp zk zs zt zl zp ze zck zcn zcl zcy zcv zi else aFault_v1 cn cl
 cp zk zs zt zl zp ze zck zcn zcl zcy zcv zi else bif pNe zk (8 : Int) then bif pNot (pStrEq zi (bs [])) then ((4 : Int), ()) = aFault_v0 cn cl cp zk zs zt zl zp ze zck zcn zcl zcy zcv zi else aFault_v1 cn cl cp zk zs zt zl zp ze zck zcn zcl
 zcy zcv zi else aFault_v1 cn cl cp zk zs zt zl zp ze zck zcn zcl zcy zcv zi
abbrev aFault_v3 (cn : Int) (cl : List LabD) (cp : Int) (zk : Int) (zs : Int) (zt : Int) (zl : Int) (zp : Int) (ze : List ND) (zck : Int) (zcn : Int) (zcl : Int) (zcy : Int) (zcv : Int) (zi : ByteArray) := bif pNe zk (6 : Int) then bif pGt (pInt (pLen ze)) (0 : Int) then ((4 : Int), ()) = aFault_v0 cn cl cp zk zs zt zl zp ze zck zcn zcl zcy zcv zi else aFault_v2 cn cl cp zk zs zt zl zp ze zck zcn zcl zcy zcv zi else aFault_v2 cn cl cp zk zs
 zt zl zp ze zck zcn zcl zcy zcv zi
abbrev aFault_v4 (cn : Int) (cl : List LabD) (cp : Int) (zk : Int) (zs : Int) (zt : Int) (zl : Int) (zp : Int) (ze : List ND) (zck : Int) (zcn : Int) (zcl : Int) (zcy : Int) (zcv : Int) (zi : ByteArray) := bif pNot (inF zk (2 : Int) (4 : Int)) then bif pNe zk (1 : Int) then bif pNe zk (8 : Int) then bif pNe zl (0 : Int) then ((4 : Int), ()) = aFault_v0 cn cl cp zk zs zt zl zp ze zck zcn zcl zcy zcv zi else aFault_v3 cn cl cp zk zs zt zl zp ze
 zck zcn zcl zcy zcv zi else aFault_v3 cn cl cp zk zs zt zl zp ze zck zcn zcl zcy zcv zi else aFault_v3 cn cl cp zk zs zt zl zp ze zck zcn zcl zcy zcv zi else aFault_v3 cn cl cp zk zs zt zl zp ze zck zcn zcl zcy zcv zi
abbrev aFault_v5 (cn : Int) (cl : List LabD) (cp : Int) (zk : Int) (zs : Int) (zt : Int) (zl : Int) (zp : Int) (ze : List ND) (zck : Int) (zcn : Int) (zcl : Int) (zcy : Int) (zcv : Int) (zi : ByteArray) := bif pNot (inF zk (2 : Int) (4 : Int)) then bif pNe zt (0 : Int) then ((4 : Int), ()) = aFault_v0 cn cl cp zk zs zt zl zp ze zck zcn zcl zcy zcv zi else bif pNe zp (0 : Int) then ((4 : Int), ()) = aFault_v0 cn cl cp zk zs zt zl zp ze zck zcn
 zcl zcy zcv zi else aFault_v4 cn cl cp zk zs zt zl zp ze zck zcn zcl zcy zcv zi else aFault_v4 cn cl cp zk zs zt zl zp ze zck zcn zcl zcy zcv zi

def aFault_VC (cn : Int) (cl : (List LabD)) (cp : Int) (zk : Int) (zs : Int) (zt : Int) (zl : Int) (zp : Int) (ze : (List ND)) (zck : Int) (zcn : Int) (zcl : Int) (zcy : Int) (zcv : Int) (zi : ByteArray) : Prop :=
  Nat.le (Nat.succ (pLen cl)) 4611686018427387904 ∧ bif pNe (cfgF (cn, cl, cp, ())) (0 : Int) then (cfgF (cn, cl, cp, ()), ()) = aFault_v0 cn cl cp zk zs zt zl zp ze zck zcn zcl zcy zcv zi else bif pNot (inF zk (1 : Int) (8 : Int)) then ((3 :
 Int), ()) = aFault_v0 cn cl cp zk zs zt zl zp ze zck zcn zcl zcy zcv zi else bif pNot (inF zs (0 : Int) (pSubI IntKind.i64 cn (1 : Int))) then ((2 : Int), ()) = aFault_v0 cn cl cp zk zs zt zl zp ze zck zcn zcl zcy zcv zi else bif pNot (inF
 zt (0 : Int) (pSubI IntKind.i64 cn (1 : Int))) then ((2 : Int), ()) = aFault_v0 cn cl cp zk zs zt zl zp ze zck zcn zcl zcy zcv zi else Nat.le (Nat.succ (pLen cl)) 4611686018427387904 ∧ bif pNot (placeF (cn, cl, cp, ()) zl) then ((2 : Int),
 ()) = aFault_v0 cn cl cp zk zs zt zl zp ze zck zcn zcl zcy zcv zi else bif pNot (inF zp (0 : Int) (1048576 : Int)) then ((2 : Int), ()) = aFault_v0 cn cl cp zk zs zt zl zp ze zck zcn zcl zcy zcv zi else bif pGt (pInt (pLen ze)) (pInt (pLen
 cl)) then ((2 : Int), ()) = aFault_v0 cn cl cp zk zs zt zl zp ze zck zcn zcl zcy zcv zi else bif pGt (pInt (pStrLen zi)) (60 : Int) then ((2 : Int), ()) = aFault_v0 cn cl cp zk zs zt zl zp ze zck zcn zcl zcy zcv zi else keepUpInv cn cl cp
 zk zs zt zl zp ze zck zcn zcl zcy zcv zi ((0 : Int), ()) ∧ ∀ (y0 : kden Bool.false tI × PUnit), keepUpInv cn cl cp zk zs zt zl zp ze zck zcn zcl zcy zcv zi y0 → bif pLt y0.1 (pInt (pLen ze)) then pIn y0.1 (pLen ze) ∧ bif pNot (inF (pGet tyN
 ze (pNat y0.1)).1 (0 : Int) (6000 : Int)) then ((2 : Int), ()) = aFault_v0 cn cl cp zk zs zt zl zp ze zck zcn zcl zcy zcv zi else keepUpInv cn cl cp zk zs zt zl zp ze zck zcn zcl zcy zcv zi (pAdd IntKind.i64 y0.1 (1 : Int), ()) ∧ Nat.le
 (Nat.succ (keepUpMu cn cl cp zk zs zt zl zp ze zck zcn zcl zcy zcv zi (pAdd IntKind.i64 y0.1 (1 : Int), ()))) (keepUpMu cn cl cp zk zs zt zl zp ze zck zcn zcl zcy zcv zi y0) else bif pEq zk (5 : Int) then bif pNe zs (0 : Int) then ((4 :
 Int), ()) = aFault_v0 cn cl cp zk zs zt zl zp ze zck zcn zcl zcy zcv zi else aFault_v5 cn cl cp zk zs zt zl zp ze zck zcn zcl zcy zcv zi else aFault_v5 cn cl cp zk zs zt zl zp ze zck zcn zcl zcy zcv zi
set_option maxRecDepth 100000 in
theorem aFault_meets (hcFault : Mt 25 ccFault) (hIn : Mt 55 cIn) (hlabelMay : Mt 34 clabelMay) (hcallMay : Mt 56 ccallMay) (h : ∀ (cn : Int) (cl : (List LabD)) (cp : Int) (zk : Int) (zs : Int) (zt : Int) (zl : Int) (zp : Int) (ze : (List ND)) (zck : Int) (zcn : Int) (zcl : Int) (zcy : Int) (zcv : Int) (zi : ByteArray), (∀ p ∈ numbers_p ⟨((cn, cl, cp, ()), (zk, zs, zt, zl, zp, ze, zck, zcn, zcl, zcy, zcv, zi, ()), ()), ()⟩, p) → aFault_VC cn cl cp zk zs zt zl zp ze zck zcn zcl zcy zcv zi) : Mt 26 caFault :=
  meets_vc (E := envOf Tryd.prog [(25, (false, ccFault)), (55, (false, cIn)), (34, (false, clabelMay)), (56, (false, ccallMay))] eqsLnV) (envOf_ok (fun p hp => (by simp only [List.mem_cons, List.not_mem_nil, or_false] at hp; rcases hp with rfl | rfl | rfl | rfl; exact hcFault; exact hIn; exact hlabelMay; exact hcallMay)) (by kernel_rfl)) numbers_S (fun x => fun ky9 st9 => look [(9, (⟨[.slot 6 false tI], keepUpInv x.1.1.1 x.1.1.2.1 x.1.1.2.2.1 x.1.2.1.1 x.1.2.1.2.1 x.1.2.1.2.2.1 x.1.2.1.2.2.2.1 x.1.2.1.2.2.2.2.1 x.1.2.1.2.2.2.2.2.1 x.1.2.1.2.2.2.2.2.2.1 x.1.2.1.2.2.2.2.2.2.2.1 x.1.2.1.2.2.2.2.2.2.2.2.1 x.1.2.1.2.2.2.2.2.2.2.2.2.1 x.1.2.1.2.2.2.2.2.2.2.2.2.2.1 x.1.2.1.2.2.2.2.2.2.2.2.2.2.2.1, keepUpMu x.1.1.1 x.1.1.2.1 x.1.1.2.2.1 x.1.2.1.1 x.1.2.1.2.1 x.1.2.1.2.2.1 x.1.2.1.2.2.2.1 x.1.2.1.2.2.2.2.1 x.1.2.1.2.2.2.2.2.1 x.1.2.1.2.2.2.2.2.2.1 x.1.2.1.2.2.2.2.2.2.2.1 x.1.2.1.2.2.2.2.2.2.2.2.1 x.1.2.1.2.2.2.2.2.2.2.2.2.1 x.1.2.1.2.2.2.2.2.2.2.2.2.2.1 x.1.2.1.2.2.2.2.2.2.2.2.2.2.2.1⟩ : Ann))] ky9) Tryd.func26 (by kernel_rfl) (by kernel_rfl) numbers_p [] [.slot 0 false tI] liCheck_f (fun x => aFault_VC x.1.1.1 x.1.1.2.1 x.1.1.2.2.1 x.1.2.1.1 x.1.2.1.2.1 x.1.2.1.2.2.1 x.1.2.1.2.2.2.1 x.1.2.1.2.2.2.2.1 x.1.2.1.2.2.2.2.2.1 x.1.2.1.2.2.2.2.2.2.1 x.1.2.1.2.2.2.2.2.2.2.1 x.1.2.1.2.2.2.2.2.2.2.2.1 x.1.2.1.2.2.2.2.2.2.2.2.2.1 x.1.2.1.2.2.2.2.2.2.2.2.2.2.1 x.1.2.1.2.2.2.2.2.2.2.2.2.2.2.1) (fun x => by kernel_rfl) (fun x hp => h x.1.1.1 x.1.1.2.1 x.1.1.2.2.1 x.1.2.1.1 x.1.2.1.2.1 x.1.2.1.2.2.1 x.1.2.1.2.2.2.1 x.1.2.1.2.2.2.2.1 x.1.2.1.2.2.2.2.2.1 x.1.2.1.2.2.2.2.2.2.1 x.1.2.1.2.2.2.2.2.2.2.1 x.1.2.1.2.2.2.2.2.2.2.2.1 x.1.2.1.2.2.2.2.2.2.2.2.2.1 x.1.2.1.2.2.2.2.2.2.2.2.2.2.1 x.1.2.1.2.2.2.2.2.2.2.2.2.2.2.1 hp)


end Go.Proofs.YtedjlbcclhgfmaaDoor

/- The configuration's checks meet their contracts. No condition. -/
namespace Go.Proofs.YtedjlbcclhgfmaaDoor
open Go.RowKit

theorem In_ok : Meets Tryd.prog (fun _ => none) 55 cIn := In_meets fun a b c => by
  unfold In_VC
  simp only [pGe, pLe, Bool.cond_eq_ite, decide_eq_true_eq, Prod.mk.injEq, eq_self, and_true, inF]
  repeat' split
  all_goals (rw [Bool.eq_iff_iff]; simp only [Bool.and_eq_true, decide_eq_true_eq, Bool.false_eq_true]; constructor <;> intro h <;> first | omega | exact h.elim)
theorem one_ok : Meets Tryd.prog (fun _ => none) 49 cone := one_meets fun a b => by
  unfold one_VC one_t0
  simp only [pGe, pLe, Bool.cond_eq_ite, decide_eq_true_eq, Prod.mk.injEq, eq_self, and_true, inF, labF]
  repeat' split
  all_goals (rw [Bool.eq_iff_iff]; simp only [Bool.and_eq_true, decide_eq_true_eq, Bool.false_eq_true]; constructor <;> intro h <;> first | omega | exact h.elim)

theorem cfgF_sites {c : CfgD} (h : inF c.1 1 4 = false) : cfgF c = 2 := by unfold cfgF; rw [h]; rfl
theorem cfgF_len {c : CfgD} (h1 : inF c.1 1 4 = true) (h : inF (pInt c.2.1.length) 1 6 = false) : cfgF c = 1 := by unfold cfgF; rw [h1, h]; rfl
theorem cfgF_first {c : CfgD} {n : Int} (h1 : inF c.1 1 4 = true) (h2 : inF (pInt c.2.1.length) 1 6 = true) (h : firstE (labE c.2.1) c.2.1.length = n) (hn : pEq n 0 = false) : cfgF c = n := by
  unfold cfgF; rw [h1, h2, h, hn]; rfl
theorem cfgF_end {c : CfgD} (h1 : inF c.1 1 4 = true) (h2 : inF (pInt c.2.1.length) 1 6 = true) (h : firstE (labE c.2.1) c.2.1.length = 0) : cfgF c = cond (inF c.2.2.1 1 1048576) 0 2 := by
  unfold cfgF; rw [h1, h2, h]; rfl
theorem inF_iff {x a b : Int} : inF x a b = true ↔ a ≤ x ∧ x ≤ b := by simp [inF, pLe]
theorem inF_not {x a b : Int} : inF x a b = false ↔ ¬ (a ≤ x ∧ x ≤ b) := by rw [← inF_iff]; simp

theorem labE_bad {l : List LabD} {k : Nat} (h : labF (pGet tyLab l k) = false) : labE l k = 2 := by unfold labE; rw [h]; rfl
theorem labE_ok {l : List LabD} {k : Nat} (h : labF (pGet tyLab l k) = true) : labE l k = cond (allUpto (fun i => !eqLabAt l i k) k) 0 7 := by unfold labE; rw [h]; rfl

/-- the loop over the labels, behind the first two tests -/
theorem cfg_round {c : CfgD} (h1 : inF c.1 1 4 = true) (h2 : inF (pInt c.2.1.length) 1 6 = true) {k : Nat} (hk : pEq (labE c.2.1 k) 0 = false → firstE (labE c.2.1) c.2.1.length = labE c.2.1 k)
    (h : labF (pGet tyLab c.2.1 k) = false) : ((2 : Int), ()) = (cfgF c, ()) := by
  rw [cfgF_first h1 h2 (n := 2) (by rw [hk (by rw [labE_bad h]; rfl), labE_bad h]) rfl]
theorem cfg_twice {c : CfgD} (h1 : inF c.1 1 4 = true) (h2 : inF (pInt c.2.1.length) 1 6 = true) {k : Nat} (hk : pEq (labE c.2.1 k) 0 = false → firstE (labE c.2.1) c.2.1.length = labE c.2.1 k)
    (h : labF (pGet tyLab c.2.1 k) = true) (ha : allUpto (fun i => !eqLabAt c.2.1 i k) k = false) : ((7 : Int), ()) = (cfgF c, ()) := by
  have e : labE c.2.1 k = 7 := by rw [labE_ok h, ha]; rfl
  rw [cfgF_first h1 h2 (n := 7) (by rw [hk (by rw [e]; rfl), e]) rfl]

theorem lB_start {cn : Int} {cl : List LabD} {cp : Int} {k : Nat} : lCheckBInv cn cl cp (k : Int) (0, ()) := UpInv.start
theorem lB_round {cn : Int} {cl : List LabD} {cp : Int} {k : Nat} {z : denVars [.slot 41 false tI]} (hk : k < 4611686018427387904) (h : lCheckBInv cn cl cp (k : Int) z) :
    (∃ i : Nat, z = ((i : Int), ()) ∧ i < k ∧ i < 4611686018427387904 ∧ (eqLabAt cl i k = true → allUpto (fun i => !eqLabAt cl i k) k = false) ∧
      (eqLabAt cl i k = false → lCheckBInv cn cl cp (k : Int) (pAdd .i64 (i : Int) 1, ()) ∧ Nat.le (Nat.succ (lCheckBMu cn cl cp (k : Int) (pAdd .i64 (i : Int) 1, ()))) (lCheckBMu cn cl cp (k : Int) ((i : Int), ())))) ∨
    (z = ((k : Int), ()) ∧ allUpto (fun i => !eqLabAt cl i k) k = true) := by
  unfold lCheckBInv lCheckBMu at *
  simp only [pNat_coe] at h ⊢
  rcases UpInv.round hk h with ⟨i, hz, hi, hib, _, hF, hT⟩ | h
  · exact .inl ⟨i, hz, hi, hib, fun h => hF (by simp [h]), fun h => hT (by simp [h])⟩
  · exact .inr h

theorem lCheck_ok : Meets Tryd.prog (fun _ => none) 16 clCheck := lCheck_meets one_ok fun cn cl cp hp => by
  have hl : cl.length < 4611686018427387904 := hp _ List.mem_cons_self
  unfold lCheck_VC lCheck_v1 lCheck_v0
  simp only [pLen]
  cases hb1 : pLt cn 1
  case true => exact congrArg (·, ()) (cfgF_sites (by rw [inF_not]; simp only [pLt, decide_eq_true_eq] at hb1; omega)).symm
  cases hb2 : pGt cn 4
  case true => exact congrArg (·, ()) (cfgF_sites (by rw [inF_not]; simp only [pGt, decide_eq_true_eq] at hb2; simp only; omega)).symm
  have h1 : inF cn 1 4 = true := by rw [inF_iff]; simp only [pLt, pGt, decide_eq_false_iff_not] at hb1 hb2; omega
  cases hb3 : pLt (pInt cl.length) 1
  case true => exact congrArg (·, ()) (cfgF_len h1 (by rw [inF_not]; simp only [pLt, decide_eq_true_eq] at hb3; simp only; omega)).symm
  cases hb4 : pGt (pInt cl.length) 6
  case true => exact congrArg (·, ()) (cfgF_len h1 (by rw [inF_not]; simp only [pGt, decide_eq_true_eq] at hb4; simp only; omega)).symm
  have h2 : inF (pInt cl.length) 1 6 = true := by rw [inF_iff]; simp only [pLt, pGt, decide_eq_false_iff_not] at hb3 hb4; omega
  refine ⟨UpInv.start, fun y hy => ?_⟩
  rcases FirstInv.round hl hy with ⟨k, rfl, hk, hb, hF, hT⟩ | ⟨rfl, hT⟩
  · simp only [pLt_coe, pLen, hk, decide_true, cond_true, pIn_coe, pNat_coe, true_and]
    cases hlab : labF (pGet tyLab cl k)
    case false => exact cfg_round (c := (cn, cl, cp, ())) h1 h2 hF hlab
    refine ⟨by rw [pTo_coe]; omega, lB_start, fun z hz => ?_⟩
    rcases lB_round hb hz with ⟨i, rfl, hi, hib, hiF, hiT⟩ | ⟨rfl, hiT⟩
    · rw [pSub0_len (by omega), bif_true (show pLt (i : Int) (pInt k) = true from by simp [pLt_coe, hi])]
      refine ⟨pIn_coe.2 hi, ?_⟩
      rw [pNat_coe, pGet_sub0 hi]
      have e : pAndB (pEq (pGet tyLab cl i).1 (pGet tyLab cl k).1) (pEq (pGet tyLab cl i).2.1 (pGet tyLab cl k).2.1) = eqLabAt cl i k := rfl
      rw [e]
      cases hq : eqLabAt cl i k with
      | true => exact cfg_twice (c := (cn, cl, cp, ())) h1 h2 hF hlab (hiF hq)
      | false => exact hiT hq
    · rw [pSub0_len (by omega), bif_false (show pLt (k : Int) (pInt k) = false from by simp [pLt_coe])]
      exact hT (by rw [labE_ok hlab, hiT]; rfl)
  · simp only [pLt_coe, Nat.lt_irrefl, decide_false, cond_false]
    rw [cfgF_end (c := (cn, cl, cp, ())) h1 h2 hT]
    simp only [pLt, pGt, Bool.cond_eq_ite, decide_eq_true_eq, inF_iff]
    repeat' split
    all_goals first | rfl | (exfalso; omega)

theorem cFault_ok : Meets Tryd.prog (fun _ => none) 25 ccFault := cFault_meets In_ok fun cn cl cp hp => by
  have hl : cl.length < 4611686018427387904 := hp _ List.mem_cons_self
  unfold cFault_VC cFault_v0
  cases h1 : inF cn 1 4
  case false => exact congrArg (·, ()) (cfgF_sites h1).symm
  simp only [pLen]
  cases h2 : inF (pInt cl.length) 1 6
  case false => exact congrArg (·, ()) (cfgF_len h1 h2).symm
  refine ⟨UpInv.start, fun y hy => ?_⟩
  rcases FirstInv.round hl hy with ⟨k, rfl, hk, hb, hF, hT⟩ | ⟨rfl, hT⟩
  · simp only [pLt_coe, hk, decide_true, cond_true, pIn_coe, pNat_coe, true_and]
    cases ha : inF (pGet tyLab cl k).1 0 9
    case false => exact cfg_round (c := (cn, cl, cp, ())) h1 h2 hF (by unfold labF; rw [ha]; rfl)
    cases hc : inF (pGet tyLab cl k).2.1 0 15
    case false => exact cfg_round (c := (cn, cl, cp, ())) h1 h2 hF (by unfold labF; rw [ha, hc]; rfl)
    have hlab : labF (pGet tyLab cl k) = true := by unfold labF; rw [ha, hc]; rfl
    refine ⟨lB_start, fun z hz => ?_⟩
    rcases lB_round hb hz with ⟨i, rfl, hi, hib, hiF, hiT⟩ | ⟨rfl, hiT⟩
    · have hi2 : i < cl.length := by omega
      rw [bif_true (show pLt (i : Int) (k : Int) = true from by simp [pLt, hi])]
      refine ⟨pIn_coe.2 hi2, ?_⟩
      rw [pNat_coe]
      have e : pAndB (pEq (pGet tyLab cl i).1 (pGet tyLab cl k).1) (pEq (pGet tyLab cl i).2.1 (pGet tyLab cl k).2.1) = eqLabAt cl i k := rfl
      rw [e]
      cases hq : eqLabAt cl i k with
      | true => exact cfg_twice (c := (cn, cl, cp, ())) h1 h2 hF hlab (hiF hq)
      | false => exact hiT hq
    · rw [show pLt (k : Int) (k : Int) = false from by simp [pLt]]
      exact hT (by rw [labE_ok hlab, hiT]; rfl)
  · simp only [pLt_coe, Nat.lt_irrefl, decide_false, cond_false]
    rw [cfgF_end (c := (cn, cl, cp, ())) h1 h2 hT]
    cases inF cp 1 1048576 <;> rfl

theorem pSub_len1 {n : Nat} (h : n < 4611686018427387904) : pSubI .i64 (pInt n) 1 = (n : Int) - 1 := by unfold pInt; rw [pSubI_in (by omega)]
theorem labelMay_ok : Meets Tryd.prog (fun _ => none) 34 clabelMay := labelMay_meets In_ok fun cn cl cp l hp => by
  have hl : cl.length < 4611686018427387904 := hp _ List.mem_cons_self
  unfold labelMay_VC
  rw [pLen, pSub_len1 hl]
  refine congrArg (·, ()) ?_
  rw [Bool.eq_iff_iff]
  simp only [pInt, placeF]
  simp only [inF, pLe, pLt, Bool.and_eq_true, decide_eq_true_eq]
  omega


end Go.Proofs.YtedjlbcclhgfmaaDoor

/- Acts: the checks meet their contracts. No condition. -/
namespace Go.Proofs.YtedjlbcclhgfmaaDoor
open Go.RowKit

theorem numbers1_ok : Meets Tryd.prog (fun _ => none) 81 cnumbers1 := numbers1_meets fun n => by
  unfold numbers1_VC
  (repeat' (first | refine bif_ok (fun h => ?_) (fun h => ?_) | refine And.intro ?_ ?_ | fail))
  all_goals (refine leafE ?_; grind [pLt, pLe, pGt, pGe, pEq, pNe, pNot, pAndB, pBeq, pInt, pLen, inF, pIn, pTo, pNat])
theorem indexFunc_ok : Meets Tryd.prog (fun _ => none) 99 cindexFunc := indexFunc_meets numbers1_ok fun l hp => by
  have hl : l.length < 4611686018427387904 := hp _ List.mem_cons_self
  refine ⟨UpInv.start, fun y hy => ?_⟩
  rcases FindInv.round hl hy with ⟨k, rfl, hk, hb, hT, hF⟩ | ⟨rfl, hT⟩
  · rw [bif_true (by simp [pLt_coe, pLen, hk]), pNat_coe]
    refine ⟨pIn_coe.2 hk, bif_ok (fun h => ?_) fun h => hF h⟩
    exact congrArg (·, ()) (hT h).symm
  · rw [bif_false (by simp [pLt_coe, pLen])]
    exact congrArg (·, ()) hT.symm
theorem containsFunc_ok : Meets Tryd.prog (fun _ => none) 80 ccontainsFunc := containsFunc_meets indexFunc_ok fun l hp => ⟨hp _ List.mem_cons_self, rfl⟩

theorem numbersF_eq (cn : Int) (cl : List LabD) (cp zk zs zt zl zp : Int) (ze : List ND) (zck zcn zcl zcy zcv : Int) (zi : ByteArray) : numbersF (cn, cl, cp, ()) (zk, zs, zt, zl, zp, ze, zck, zcn, zcl, zcy, zcv, zi, ()) =
    (pLe 0 zs && pLt zs cn && pLe 0 zt && pLt zt cn && (pLe 0 zl && pLt zl (pInt cl.length)) && inF zp 0 1048576 && decide (ze.length ≤ cl.length) && decide (pStrLen zi ≤ 60) && pNot (pGe (keepBad ze) 0)) := rfl
theorem numbers_ok : Meets Tryd.prog (fun _ => none) 50 cnumbers := numbers_meets containsFunc_ok fun cn cl cp zk zs zt zl zp ze zck zcn zcl zcy zcv zi hp => by
  have hl : cl.length < 4611686018427387904 := hp _ List.mem_cons_self
  have hz : ze.length < 4611686018427387904 := hp (pLen ze < 4611686018427387904) (by simp)
  clear hp
  unfold numbers_VC numbers_v0
  rw [numbersF_eq]
  (repeat' (first | refine bif_ok (fun h => ?_) (fun h => ?_) | refine And.intro ?_ ?_ | fail))
  all_goals first
    | exact hz
    | (refine leafF fun q => ?_; grind [pLt, pLe, pGt, pGe, pEq, pNe, pNot, pAndB, pBeq, pInt, pLen, inF, pIn, pTo, pNat])
    | (refine leafE ?_; grind [pLt, pLe, pGt, pGe, pEq, pNe, pNot, pAndB, pBeq, pInt, pLen, inF, pIn, pTo, pNat])

theorem empty_eq (s : ByteArray) : pStrEq s (bs []) = pStrEq s ByteArray.empty := rfl
theorem bareF_eq (zk zs zt zl zp : Int) (ze : List ND) (zck zcn zcl zcy zcv : Int) (zi : ByteArray) : bareF (zk, zs, zt, zl, zp, ze, zck, zcn, zcl, zcy, zcv, zi, ()) =
    ((pNe zk 5 || pEq zs 0) && (inF zk 2 4 || pEq zk 1 || pEq zk 8 || pEq zl 0) && (inF zk 2 4 || (pEq zt 0 && pEq zp 0)) && (pEq zk 6 || decide (ze.length = 0)) &&
    (pEq zk 1 || (pEq zck 0 && pEq zcn 0 && pEq zcl 0 && pEq zcy 0 && pEq zcv 0)) && (pEq zk 8 || pStrEq zi ByteArray.empty)) := rfl
theorem bare_ok : Meets Tryd.prog (fun _ => none) 51 cbare := bare_meets fun zk zs zt zl zp ze zck zcn zcl zcy zcv zi hp => by
  have hz : ze.length < 4611686018427387904 := hp (pLen ze < 4611686018427387904) (by simp)
  clear hp
  unfold bare_VC bare_v4 bare_v3 bare_v2 bare_v1 bare_v0
  (repeat' (first | refine bif_ok (fun h => ?_) (fun h => ?_) | refine And.intro ?_ ?_ | fail))
  all_goals (refine leafE ?_; rw [bareF_eq]; (try rw [empty_eq]); grind [pLt, pLe, pGt, pGe, pEq, pNe, pNot, pAndB, pBeq, pInt, pLen, inF, pIn, pTo, pNat])

theorem callF_eq (xk xn xl xy xv : Int) : callF (xk, xn, xl, xy, xv, ()) =
    cond (inF xk 1 5) (cond (inF xn 0 1048576 && inF xl 0 5 && inF xy 0 8 && inF xv 0 1073741824)
    (cond ((pNe xk 1 || pEq xn 0) && (pEq xk 2 || pEq xl 0) && (pEq xk 2 || pEq xk 3 || pEq xy 0) && (pEq xk 3 || pEq xv 0)) 0 4) 2) 3 := rfl
theorem lcall_ok : Meets Tryd.prog (fun _ => none) 52 ccall := call_meets fun xk xn xl xy xv => by
  unfold call_VC call_v0
  (repeat' (first | refine bif_ok (fun h => ?_) (fun h => ?_) | refine And.intro ?_ ?_ | fail))
  all_goals (refine leafE ?_; rw [callF_eq]; grind [pLt, pLe, pGt, pGe, pEq, pNe, pNot, pAndB, pBeq, pInt, pLen, inF, pIn, pTo, pNat])
theorem callMay_ok : Meets Tryd.prog (fun _ => none) 56 ccallMay := callMay_meets In_ok fun xk xn xl xy xv => by
  unfold callMay_VC callMay_v2 callMay_v1 callMay_v0
  (repeat' (first | refine bif_ok (fun h => ?_) (fun h => ?_) | refine And.intro ?_ ?_ | fail))
  all_goals (refine leafE ?_; rw [callF_eq]; grind [pLt, pLe, pGt, pGe, pEq, pNe, pNot, pAndB, pBeq, pInt, pLen, inF, pIn, pTo, pNat])

theorem actF_eq (cn : Int) (cl : List LabD) (cp zk zs zt zl zp : Int) (ze : List ND) (zck zcn zcl zcy zcv : Int) (zi : ByteArray) : actF (cn, cl, cp, ()) (zk, zs, zt, zl, zp, ze, zck, zcn, zcl, zcy, zcv, zi, ()) =
    cond (pEq (cfgF (cn, cl, cp, ())) 0) (cond (inF zk 1 8) (cond (numbersF (cn, cl, cp, ()) (zk, zs, zt, zl, zp, ze, zck, zcn, zcl, zcy, zcv, zi, ())) (cond (bareF (zk, zs, zt, zl, zp, ze, zck, zcn, zcl, zcy, zcv, zi, ()))
      (cond (pEq zk 1) (callF (zck, zcn, zcl, zcy, zcv, ())) 0) 4) 2) 3) (cfgF (cn, cl, cp, ())) := rfl
theorem liCheck_ok : Meets Tryd.prog (fun _ => none) 17 cliCheck := liCheck_meets lCheck_ok numbers_ok bare_ok lcall_ok fun cn cl cp zk zs zt zl zp ze zck zcn zcl zcy zcv zi hp => by
  have hl : cl.length < 4611686018427387904 := hp _ List.mem_cons_self
  have hz : ze.length < 4611686018427387904 := hp (pLen ze < 4611686018427387904) (by simp)
  clear hp
  unfold liCheck_VC liCheck_v1 liCheck_v0
  rw [actF_eq]
  (repeat' (first | refine bif_ok (fun h => ?_) (fun h => ?_) | refine And.intro ?_ ?_ | fail))
  all_goals first
    | exact hl
    | exact hz
    | (refine leafE ?_; grind [pLt, pLe, pGt, pGe, pEq, pNe, pNot, pAndB, pBeq, pInt, pLen, inF, pIn, pTo, pNat])


theorem cfgF_sites4 {c : CfgD} (h : pNe (cfgF c) 0 = false) : inF c.1 1 4 = true := by
  cases hq : inF c.1 1 4
  · rw [cfgF_sites hq] at h; cases h
  · rfl

set_option maxHeartbeats 4000000 in
theorem aFault_ok : Meets Tryd.prog (fun _ => none) 26 caFault := aFault_meets cFault_ok In_ok labelMay_ok callMay_ok fun cn cl cp zk zs zt zl zp ze zck zcn zcl zcy zcv zi hp => by
  have hl : cl.length < 4611686018427387904 := hp _ List.mem_cons_self
  have hz : ze.length < 4611686018427387904 := hp (pLen ze < 4611686018427387904) (by simp)
  clear hp
  unfold aFault_VC aFault_v5 aFault_v4 aFault_v3 aFault_v2 aFault_v1 aFault_v0
  refine ⟨hl, bif_ok (fun h => ?_) fun hc => ?_⟩
  · refine leafE ?_; rw [actF_eq]; grind [pLt, pLe, pGt, pGe, pEq, pNe, pNot, pAndB, pBeq, pInt, pLen, inF, pIn, pTo, pNat]
  have hc4 := inF_iff.1 (cfgF_sites4 hc)
  have hc0 : pEq (cfgF (cn, cl, cp, ())) 0 = true := by simpa [pNe, pEq] using hc
  have hA := actF_eq cn cl cp zk zs zt zl zp ze zck zcn zcl zcy zcv zi
  rw [hc0, cond_true, numbersF_eq] at hA
  have hP : placeF (cn, cl, cp, ()) zl = (pLe 0 zl && pLt zl (pInt cl.length)) := rfl
  rw [pSubI_in (a := cn) (b := 1) (by simp only at hc4; omega)]
  (repeat' (first | refine bif_ok (fun h => ?_) (fun h => ?_) | refine And.intro ?_ ?_ | fail))
  all_goals first
    | exact hl
    | exact UpInv.start
    | (refine leafE ?_; rw [hA]; grind [pLt, pLe, pGt, pGe, pEq, pNe, pNot, pAndB, pBeq, pInt, pLen, inF, pIn, pTo, pNat])
    | skip
  intro y hy
  rcases FindInv.round hz hy with ⟨k, rfl, hk, hb, hT, hF⟩ | ⟨rfl, hT⟩
  · rw [bif_true (by simp [pLt_coe, pLen, hk]), pNat_coe]
    refine ⟨pIn_coe.2 hk, bif_ok (fun h => ?_) fun h => hF h⟩
    have hkb : keepBad ze = (k : Int) := hT h
    clear hy hT hF
    refine leafE ?_; rw [hA]; grind [pLt, pLe, pGt, pGe, pEq, pNe, pNot, pAndB, pBeq, pInt, pLen, inF, pIn, pTo, pNat]
  · rw [bif_false (by simp [pLt_coe, pLen])]
    have hkb : keepBad ze = -1 := hT
    clear hy hT
    rw [bareF_eq] at hA
    simp only [empty_eq]
    (repeat' (first | refine bif_ok (fun h => ?_) (fun h => ?_) | refine And.intro ?_ ?_ | fail))
    all_goals (refine leafE ?_; rw [hA]; grind [pLt, pLe, pGt, pGe, pEq, pNe, pNot, pAndB, pBeq, pInt, pLen, inF, pIn, pTo, pNat])


end Go.Proofs.YtedjlbcclhgfmaaDoor

/- Functions of Go's library in this program: their bodies are those that the library's laws speak of. No condition. -/
namespace Go.Proofs.YtedjlbcclhgfmaaDoor
open Go.Shelf

def lItoa_ren : Go.Shelf.Ren := ⟨fun | 171 => 20 | 243 => 54 | 246 => 83 | 283 => 100 | 284 => 101 | 285 => 102 | 286 => 103 | 129 => 121 | 317 => 120 | 318 => 122 | 319 => 123 | 320 => 124 | 337 => 132 | 338 => 133 | n => n, fun | 3 => 3 | 9 => 9 | 2 => 2 | 4 => 4 | 171 => 153 | 0 => 0 | 53 => 154 | 37 => 48 | 5 => 5 | 173 => 157 | 212 => 173 | 51 => 174 | 20 => 20 | 213 => 175 | 46 => 111 | 232 => 194 | 233 => 195 | n => n, fun | 17 => 3 | 18 => 8 | 19 => 9 | n => n⟩
theorem lItoa : Go.Proofs.LaysM.n171 Tryd.prog lItoa_ren := {
  mixed := by kernel_rfl
  f129 := Tryd.func121.trans (congrArg some (by kernel_rfl))
  f171 := Tryd.func20.trans (congrArg some (by kernel_rfl))
  f243 := Tryd.func54.trans (congrArg some (by kernel_rfl))
  f246 := Tryd.func83.trans (congrArg some (by kernel_rfl))
  f283 := Tryd.func100.trans (congrArg some (by kernel_rfl))
  f284 := Tryd.func101.trans (congrArg some (by kernel_rfl))
  f285 := Tryd.func102.trans (congrArg some (by kernel_rfl))
  f286 := Tryd.func103.trans (congrArg some (by kernel_rfl))
  f317 := Tryd.func120.trans (congrArg some (by kernel_rfl))
  f318 := Tryd.func122.trans (congrArg some (by kernel_rfl))
  f319 := Tryd.func123.trans (congrArg some (by kernel_rfl))
  f320 := Tryd.func124.trans (congrArg some (by kernel_rfl))
  f337 := Tryd.func132.trans (congrArg some (by kernel_rfl))
  f338 := Tryd.func133.trans (congrArg some (by kernel_rfl))
  t0 := Tryd.underlying0
  a0 := Tryd.isAgg0
  z0 := Tryd.sizeOf0
  v0 := Tryd.zeroValue0
  t2 := Tryd.underlying2
  a2 := Tryd.isAgg2
  z2 := Tryd.sizeOf2
  v2 := Tryd.zeroValue2
  t3 := Tryd.underlying3
  a3 := Tryd.isAgg3
  z3 := Tryd.sizeOf3
  v3 := Tryd.zeroValue3
  t4 := Tryd.underlying4
  a4 := Tryd.isAgg4
  z4 := Tryd.sizeOf4
  v4 := Tryd.zeroValue4
  t5 := Tryd.underlying5
  a5 := Tryd.isAgg5
  z5 := Tryd.sizeOf5
  v5 := Tryd.zeroValue5
  t9 := Tryd.underlying9
  a9 := Tryd.isAgg9
  z9 := Tryd.sizeOf9
  v9 := Tryd.zeroValue9
  t20 := Tryd.underlying20
  a20 := Tryd.isAgg20
  z20 := Tryd.sizeOf20
  v20 := Tryd.zeroValue20
  t37 := Tryd.underlying48
  a37 := Tryd.isAgg48
  z37 := Tryd.sizeOf48
  v37 := Tryd.zeroValue48
  t46 := Tryd.underlying111
  a46 := Tryd.isAgg111
  z46 := Tryd.sizeOf111
  v46 := Tryd.zeroValue111
  t51 := Tryd.underlying174
  a51 := Tryd.isAgg174
  z51 := Tryd.sizeOf174
  v51 := Tryd.zeroValue174
  t53 := Tryd.underlying154
  a53 := Tryd.isAgg154
  z53 := Tryd.sizeOf154
  v53 := Tryd.zeroValue154
  t171 := Tryd.underlying153
  a171 := Tryd.isAgg153
  z171 := Tryd.sizeOf153
  v171 := Tryd.zeroValue153
  t173 := Tryd.underlying157
  a173 := Tryd.isAgg157
  z173 := Tryd.sizeOf157
  v173 := Tryd.zeroValue157
  t212 := Tryd.underlying173
  a212 := Tryd.isAgg173
  z212 := Tryd.sizeOf173
  v212 := Tryd.zeroValue173
  t213 := Tryd.underlying175
  a213 := Tryd.isAgg175
  z213 := Tryd.sizeOf175
  t232 := Tryd.underlying194
  a232 := Tryd.isAgg194
  z232 := Tryd.sizeOf194
  v232 := Tryd.zeroValue194
  t233 := Tryd.underlying195
  a233 := Tryd.isAgg195
  z233 := Tryd.sizeOf195
  v233 := Tryd.zeroValue195
  g17 := by kernel_rfl
  g18 := by kernel_rfl
  g19 := by kernel_rfl
  i0 := by kernel_rfl
  i2 := by kernel_rfl
  i3 := by kernel_rfl
  i4 := by kernel_rfl
  i5 := by kernel_rfl
  i9 := by kernel_rfl
  i20 := by kernel_rfl
  i37 := by kernel_rfl
  i46 := by kernel_rfl
  i51 := by kernel_rfl
  i53 := by kernel_rfl
  i171 := by kernel_rfl
  i173 := by kernel_rfl
  i212 := by kernel_rfl
  i232 := by kernel_rfl
  i233 := by kernel_rfl
  m17 := by kernel_rfl
  m18 := by kernel_rfl
  m19 := by kernel_rfl }

def lAtoi_ren : Go.Shelf.Ren := ⟨fun | 172 => 70 | 244 => 93 | 245 => 94 | 247 => 111 | 279 => 112 | 280 => 113 | 281 => 114 | 282 => 115 | 287 => 127 | 316 => 128 | 171 => 20 | 205 => 129 | 321 => 134 | 322 => 135 | 243 => 54 | 246 => 83 | 283 => 100 | 284 => 101 | 285 => 102 | 286 => 103 | 129 => 121 | 317 => 120 | 318 => 122 | 319 => 123 | 320 => 124 | 337 => 132 | 338 => 133 | n => n, fun | 9 => 9 | 3 => 3 | 75 => 58 | 76 => 59 | 4 => 4 | 5 => 5 | 167 => 166 | 37 => 48 | 0 => 0 | 85 => 167 | 2 => 2 | 168 => 169 | 53 => 154 | 175 => 178 | 46 => 111 | 210 => 181 | 127 => 112 | 145 => 193 | 143 => 191 | 21 => 21 | 171 => 153 | 173 => 157 | 212 => 173 | 51 => 174 | 20 => 20 | 213 => 175 | 232 => 194 | 233 => 195 | 80 => 67 | n => n, fun | 15 => 4 | 16 => 5 | 17 => 3 | 18 => 8 | 19 => 9 | n => n⟩
theorem lAtoi : Go.Proofs.LaysC.n172 Tryd.prog lAtoi_ren := {
  mixed := by kernel_rfl
  f129 := Tryd.func121.trans (congrArg some (by kernel_rfl))
  f171 := Tryd.func20.trans (congrArg some (by kernel_rfl))
  f172 := Tryd.func70.trans (congrArg some (by kernel_rfl))
  f205 := Tryd.func129.trans (congrArg some (by kernel_rfl))
  f243 := Tryd.func54.trans (congrArg some (by kernel_rfl))
  f244 := Tryd.func93.trans (congrArg some (by kernel_rfl))
  f245 := Tryd.func94.trans (congrArg some (by kernel_rfl))
  f246 := Tryd.func83.trans (congrArg some (by kernel_rfl))
  f247 := Tryd.func111.trans (congrArg some (by kernel_rfl))
  f279 := Tryd.func112.trans (congrArg some (by kernel_rfl))
  f280 := Tryd.func113.trans (congrArg some (by kernel_rfl))
  f281 := Tryd.func114.trans (congrArg some (by kernel_rfl))
  f282 := Tryd.func115.trans (congrArg some (by kernel_rfl))
  f283 := Tryd.func100.trans (congrArg some (by kernel_rfl))
  f284 := Tryd.func101.trans (congrArg some (by kernel_rfl))
  f285 := Tryd.func102.trans (congrArg some (by kernel_rfl))
  f286 := Tryd.func103.trans (congrArg some (by kernel_rfl))
  f287 := Tryd.func127.trans (congrArg some (by kernel_rfl))
  f316 := Tryd.func128.trans (congrArg some (by kernel_rfl))
  f317 := Tryd.func120.trans (congrArg some (by kernel_rfl))
  f318 := Tryd.func122.trans (congrArg some (by kernel_rfl))
  f319 := Tryd.func123.trans (congrArg some (by kernel_rfl))
  f320 := Tryd.func124.trans (congrArg some (by kernel_rfl))
  f321 := Tryd.func134.trans (congrArg some (by kernel_rfl))
  f322 := Tryd.func135.trans (congrArg some (by kernel_rfl))
  f337 := Tryd.func132.trans (congrArg some (by kernel_rfl))
  f338 := Tryd.func133.trans (congrArg some (by kernel_rfl))
  t0 := Tryd.underlying0
  a0 := Tryd.isAgg0
  z0 := Tryd.sizeOf0
  v0 := Tryd.zeroValue0
  t2 := Tryd.underlying2
  a2 := Tryd.isAgg2
  z2 := Tryd.sizeOf2
  v2 := Tryd.zeroValue2
  t3 := Tryd.underlying3
  a3 := Tryd.isAgg3
  z3 := Tryd.sizeOf3
  v3 := Tryd.zeroValue3
  t4 := Tryd.underlying4
  a4 := Tryd.isAgg4
  z4 := Tryd.sizeOf4
  v4 := Tryd.zeroValue4
  t5 := Tryd.underlying5
  a5 := Tryd.isAgg5
  z5 := Tryd.sizeOf5
  v5 := Tryd.zeroValue5
  t9 := Tryd.underlying9
  a9 := Tryd.isAgg9
  z9 := Tryd.sizeOf9
  v9 := Tryd.zeroValue9
  t20 := Tryd.underlying20
  a20 := Tryd.isAgg20
  z20 := Tryd.sizeOf20
  v20 := Tryd.zeroValue20
  t21 := Tryd.underlying21
  a21 := Tryd.isAgg21
  z21 := Tryd.sizeOf21
  v21 := Tryd.zeroValue21
  t37 := Tryd.underlying48
  a37 := Tryd.isAgg48
  z37 := Tryd.sizeOf48
  v37 := Tryd.zeroValue48
  t46 := Tryd.underlying111
  a46 := Tryd.isAgg111
  z46 := Tryd.sizeOf111
  v46 := Tryd.zeroValue111
  t51 := Tryd.underlying174
  a51 := Tryd.isAgg174
  z51 := Tryd.sizeOf174
  v51 := Tryd.zeroValue174
  t53 := Tryd.underlying154
  a53 := Tryd.isAgg154
  z53 := Tryd.sizeOf154
  v53 := Tryd.zeroValue154
  t75 := Tryd.underlying58
  a75 := Tryd.isAgg58
  z75 := Tryd.sizeOf58
  v75 := Tryd.zeroValue58
  t76 := Tryd.underlying59
  a76 := Tryd.isAgg59
  z76 := Tryd.sizeOf59
  v76 := Tryd.zeroValue59
  t85 := Tryd.underlying167
  a85 := Tryd.isAgg167
  z85 := Tryd.sizeOf167
  v85 := Tryd.zeroValue167
  t127 := Tryd.underlying112
  a127 := Tryd.isAgg112
  z127 := Tryd.sizeOf112
  v127 := Tryd.zeroValue112
  t143 := Tryd.underlying191
  a143 := Tryd.isAgg191
  z143 := Tryd.sizeOf191
  v143 := Tryd.zeroValue191
  t145 := Tryd.underlying193
  a145 := Tryd.isAgg193
  z145 := Tryd.sizeOf193
  v145 := Tryd.zeroValue193
  t167 := Tryd.underlying166
  a167 := Tryd.isAgg166
  z167 := Tryd.sizeOf166
  v167 := Tryd.zeroValue166
  t168 := Tryd.underlying169
  a168 := Tryd.isAgg169
  z168 := Tryd.sizeOf169
  v168 := Tryd.zeroValue169
  t171 := Tryd.underlying153
  a171 := Tryd.isAgg153
  z171 := Tryd.sizeOf153
  v171 := Tryd.zeroValue153
  t173 := Tryd.underlying157
  a173 := Tryd.isAgg157
  z173 := Tryd.sizeOf157
  v173 := Tryd.zeroValue157
  t175 := Tryd.underlying178
  a175 := Tryd.isAgg178
  z175 := Tryd.sizeOf178
  v175 := Tryd.zeroValue178
  t210 := Tryd.underlying181
  a210 := Tryd.isAgg181
  z210 := Tryd.sizeOf181
  v210 := Tryd.zeroValue181
  t212 := Tryd.underlying173
  a212 := Tryd.isAgg173
  z212 := Tryd.sizeOf173
  v212 := Tryd.zeroValue173
  t213 := Tryd.underlying175
  a213 := Tryd.isAgg175
  z213 := Tryd.sizeOf175
  t232 := Tryd.underlying194
  a232 := Tryd.isAgg194
  z232 := Tryd.sizeOf194
  v232 := Tryd.zeroValue194
  t233 := Tryd.underlying195
  a233 := Tryd.isAgg195
  z233 := Tryd.sizeOf195
  v233 := Tryd.zeroValue195
  g15 := by kernel_rfl
  g16 := by kernel_rfl
  g17 := by kernel_rfl
  g18 := by kernel_rfl
  g19 := by kernel_rfl
  t80 := Tryd.underlying67
  a80 := Tryd.isAgg67
  z80 := Tryd.sizeOf67
  v80 := Tryd.zeroValue67
  i0 := by kernel_rfl
  i2 := by kernel_rfl
  i3 := by kernel_rfl
  i4 := by kernel_rfl
  i5 := by kernel_rfl
  i9 := by kernel_rfl
  i20 := by kernel_rfl
  i21 := by kernel_rfl
  i37 := by kernel_rfl
  i46 := by kernel_rfl
  i51 := by kernel_rfl
  i53 := by kernel_rfl
  i75 := by kernel_rfl
  i76 := by kernel_rfl
  i80 := by kernel_rfl
  i85 := by kernel_rfl
  i127 := by kernel_rfl
  i143 := by kernel_rfl
  i145 := by kernel_rfl
  i167 := by kernel_rfl
  i168 := by kernel_rfl
  i171 := by kernel_rfl
  i173 := by kernel_rfl
  i175 := by kernel_rfl
  i210 := by kernel_rfl
  i212 := by kernel_rfl
  i232 := by kernel_rfl
  i233 := by kernel_rfl
  m15 := by kernel_rfl
  m16 := by kernel_rfl
  m17 := by kernel_rfl
  m18 := by kernel_rfl
  m19 := by kernel_rfl
  c0 := by kernel_rfl
  c2 := by kernel_rfl
  c3 := by kernel_rfl
  c4 := by kernel_rfl
  c5 := by kernel_rfl
  c9 := by kernel_rfl
  c20 := by kernel_rfl
  c21 := by kernel_rfl
  c37 := by kernel_rfl
  c46 := by kernel_rfl
  c51 := by kernel_rfl
  c53 := by kernel_rfl
  c75 := by kernel_rfl
  c76 := by kernel_rfl
  c80 := by kernel_rfl
  c85 := by kernel_rfl
  c127 := by kernel_rfl
  c143 := by kernel_rfl
  c145 := by kernel_rfl
  c167 := by kernel_rfl
  c168 := by kernel_rfl
  c171 := by kernel_rfl
  c173 := by kernel_rfl
  c175 := by kernel_rfl
  c210 := by kernel_rfl
  c212 := by kernel_rfl
  c213 := by kernel_rfl
  c232 := by kernel_rfl
  c233 := by kernel_rfl }

def lSplit_ren : Go.Shelf.Ren := ⟨fun | 146 => 40 | 221 => 69 | 268 => 90 | 138 => 91 | 143 => 92 | 195 => 108 | 197 => 109 | 218 => 110 | 219 => 95 | 260 => 126 | 217 => 116 | 225 => 117 | 224 => 118 | 267 => 119 | 266 => 130 | 314 => 131 | n => n, fun | 9 => 9 | 31 => 93 | 3 => 3 | 4 => 4 | 0 => 0 | 105 => 164 | 21 => 21 | 5 => 5 | 46 => 111 | 119 => 186 | 139 => 189 | 138 => 188 | 146 => 183 | 51 => 174 | n => n, fun | 1 => 2 | 3 => 6 | 4 => 7 | n => n⟩
theorem lSplit : Go.Proofs.Lays.n146 Tryd.prog lSplit_ren := {
  mixed := by kernel_rfl
  f138 := Tryd.func91.trans (congrArg some (by kernel_rfl))
  f143 := Tryd.func92.trans (congrArg some (by kernel_rfl))
  f146 := Tryd.func40.trans (congrArg some (by kernel_rfl))
  f195 := Tryd.func108.trans (congrArg some (by kernel_rfl))
  f197 := Tryd.func109.trans (congrArg some (by kernel_rfl))
  f217 := Tryd.func116.trans (congrArg some (by kernel_rfl))
  f218 := Tryd.func110.trans (congrArg some (by kernel_rfl))
  f219 := Tryd.func95.trans (congrArg some (by kernel_rfl))
  f221 := Tryd.func69.trans (congrArg some (by kernel_rfl))
  f224 := Tryd.func118.trans (congrArg some (by kernel_rfl))
  f225 := Tryd.func117.trans (congrArg some (by kernel_rfl))
  f260 := Tryd.func126.trans (congrArg some (by kernel_rfl))
  f266 := Tryd.func130.trans (congrArg some (by kernel_rfl))
  f267 := Tryd.func119.trans (congrArg some (by kernel_rfl))
  f268 := Tryd.func90.trans (congrArg some (by kernel_rfl))
  f314 := Tryd.func131.trans (congrArg some (by kernel_rfl))
  t0 := Tryd.underlying0
  a0 := Tryd.isAgg0
  z0 := Tryd.sizeOf0
  v0 := Tryd.zeroValue0
  t3 := Tryd.underlying3
  a3 := Tryd.isAgg3
  z3 := Tryd.sizeOf3
  v3 := Tryd.zeroValue3
  t4 := Tryd.underlying4
  a4 := Tryd.isAgg4
  z4 := Tryd.sizeOf4
  v4 := Tryd.zeroValue4
  t5 := Tryd.underlying5
  a5 := Tryd.isAgg5
  z5 := Tryd.sizeOf5
  v5 := Tryd.zeroValue5
  t9 := Tryd.underlying9
  a9 := Tryd.isAgg9
  z9 := Tryd.sizeOf9
  v9 := Tryd.zeroValue9
  t21 := Tryd.underlying21
  a21 := Tryd.isAgg21
  z21 := Tryd.sizeOf21
  v21 := Tryd.zeroValue21
  t31 := Tryd.underlying93
  a31 := Tryd.isAgg93
  z31 := Tryd.sizeOf93
  v31 := Tryd.zeroValue93
  t46 := Tryd.underlying111
  a46 := Tryd.isAgg111
  z46 := Tryd.sizeOf111
  v46 := Tryd.zeroValue111
  t51 := Tryd.underlying174
  a51 := Tryd.isAgg174
  z51 := Tryd.sizeOf174
  v51 := Tryd.zeroValue174
  t105 := Tryd.underlying164
  a105 := Tryd.isAgg164
  z105 := Tryd.sizeOf164
  v105 := Tryd.zeroValue164
  t119 := Tryd.underlying186
  a119 := Tryd.isAgg186
  z119 := Tryd.sizeOf186
  t138 := Tryd.underlying188
  a138 := Tryd.isAgg188
  z138 := Tryd.sizeOf188
  v138 := Tryd.zeroValue188
  t139 := Tryd.underlying189
  a139 := Tryd.isAgg189
  z139 := Tryd.sizeOf189
  v139 := Tryd.zeroValue189
  t146 := Tryd.underlying183
  a146 := Tryd.isAgg183
  z146 := Tryd.sizeOf183
  v146 := Tryd.zeroValue183
  g1 := by kernel_rfl
  g3 := by kernel_rfl
  g4 := by kernel_rfl }



end Go.Proofs.YtedjlbcclhgfmaaDoor

/- Functions of Go's library on strings: what they say in plain words, and that they meet their contracts. The table of powers, the errors and the longest length lie where they are to lie. -/
namespace Go.Proofs.YtedjlbcclhgfmaaDoor
open Go.RowKit Go.Shelf

abbrev tyS : Ty := .pair .str .unit
abbrev SD := ByteArray × Unit
def pSplit (s sep : ByteArray) : List SD := (Go.Lib.splitB sep 0 (Go.Lib.countB s sep) s).map fun x => (x, ())
def pItoa (n : Int) : ByteArray := ⟨(Go.Lib.itoa n).toArray⟩
def pAtoiN (s : ByteArray) : Int := match Go.Lib.atoiAll s.data.toList with
  | .ok v => v
  | .«syntax» => 0
  | .range => Go.Lib.atoiSat s.data.toList
def pAtoiB (s : ByteArray) : Bool := match Go.Lib.atoiAll s.data.toList with
  | .ok _ => false
  | _ => true
def pShort (s : ByteArray) : Prop := s.size < 4294967281
def pOne (s : ByteArray) : Prop := 1 ≤ s.size
def tabsS (m : Int) : Nat → Option Gl := look [(3, Gl.cells (Go.Lib.pow10Tab.map (C.int .u64))), (2, Gl.cells [C.int .i64 m]), (4, Gl.cells [C.ifc true]), (5, Gl.cells [C.ifc true])]
def cAtoi : Ctr := fun args m0 => match args, m0 with
  | [.v false [.str s]], [] => some ([pShort s], .tup [(false, [.int .i64 (pAtoiN s)]), (false, [.ifc (pAtoiB s)])], [])
  | _, _ => none

/-- A call that looks at no object of the caller's and lays new blocks alone. -/
theorem spec_below {P : Program} {g : Nat → Option Gl} {K : FuncId} {args : List SV} {r : SV}
    (h : ∀ (w : World) (N : Blk) (ρ : Nat → Pl) (vs : List Value), (∀ k cs, g k = some cs → GlobR w N k cs) → (∀ b, N b → b < w.heap.size) → All2 (SVR w N ρ (fun _ => none)) args vs →
      Calls P K vs.toArray w fun e w' => ∃ v, e = .returned v ∧ Below w.heap.size w w' ∧ SVR w' (fun b => N b ∨ (w.heap.size ≤ b ∧ b < w'.heap.size)) ρ (fun _ => none) r v) : SpecR P g K args [] r [] := by
  intro w N ρ vs hg hm ha _ _
  refine (h w N ρ vs hg hm.nlt ha).mono fun e w' ⟨v, he, hb, hv⟩ => ?_
  refine ⟨v, ρ, fun b => N b ∨ (w.heap.size ≤ b ∧ b < w'.heap.size), he, fun _ _ => rfl, fun b hb => .inl hb, ⟨fun _ _ h => (by cases h), fun _ _ _ _ _ h => (by cases h), fun b _ ho => ?_, fun b hb' => ?_⟩, hv, ⟨hb.os, hb.tape, hb.output, hb.size, fun b hlt _ => hb.block b hlt⟩, fun b ho => ?_, fun b hb' => ?_⟩
  · obtain ⟨_, _, h, _⟩ := ho; cases h
  · rcases hb' with h | h
    · exact Nat.lt_of_lt_of_le (hm.nlt b h) hb.size
    · exact h.2
  · obtain ⟨_, _, h, _⟩ := ho; cases h
  · rcases hb' with h | h
    · exact .inl h
    · exact .inr (.inl h.1)

theorem all2_1 {w : World} {N : Blk} {ρ : Nat → Pl} {m : Mem} {c : C} {vs : List Value} (h : All2 (SVR w N ρ m) [.v false [c]] vs) : ∃ v, vs = [v] ∧ CR w N ρ m c v := by
  cases h with
  | cons a r => cases r; exact ⟨_, rfl, vr1 a⟩
theorem all2_2 {w : World} {N : Blk} {ρ : Nat → Pl} {m : Mem} {c d : C} {vs : List Value} (h : All2 (SVR w N ρ m) [.v false [c], .v false [d]] vs) : ∃ v u, vs = [v, u] ∧ CR w N ρ m c v ∧ CR w N ρ m d u := by
  cases h with
  | cons a r => cases r with
    | cons b r => cases r; exact ⟨_, _, rfl, vr1 a, vr1 b⟩
theorem glob_var {P : Program} {w : World} {N : Blk} {n : String} {k : Nat} {cs : List C} (hn : P.globalNamed n = some k) (h : GlobR w N k (.cells cs)) : ∃ vals, w.var? P n = some vals ∧ All2 (CR w N (fun _ => pl0 none 0) (fun _ => none)) cs vals.toList := by
  obtain ⟨_, vals, T, fz, hh, ha, _⟩ := h
  exact ⟨vals, by simp [World.var?, hn, hh], ha⟩
theorem all2_ints {w : World} {N : Blk} {ρ : Nat → Pl} {m : Mem} {k : IntKind} : ∀ {zs : List Int} {vs : List Value}, All2 (CR w N ρ m) (zs.map (C.int k)) vs → vs = zs.map (Value.int k)
  | [], _, h => by cases h; rfl
  | z :: zs, _, h => by
    cases h with
    | cons a r =>
      have a : _ = _ := a
      rw [List.map_cons, a, all2_ints r]

theorem grow_below {w : World} {k : Nat} {os : Array Go.Obj} : Below w.heap.size w (Go.Sort.grow (w.drewN k) os) := by
  refine ⟨rfl, rfl, rfl, ?_, fun b hb => ?_⟩
  · show w.heap.size ≤ (w.heap ++ os).size
    rw [Array.size_append]; omega
  · show (w.heap ++ os)[b]? = w.heap[b]?
    rw [Array.getElem?_append_left hb]
theorem Itoa_ok {m : Int} : Meets Tryd.prog (tabsS m) 20 (shCtr ⟨[.one (.rd (.int .i64))], []⟩ (fun x => [pLe (-9223372036854775808) x.1.1 = true, pLe x.1.1 9223372036854775807 = true]) [] [.slot 0 false .str] fun x => (pItoa x.1.1, ())) := by
  refine ⟨⟨_, Tryd.func20, by kernel_rfl, by kernel_rfl⟩, fun args m0 obs r m1 hc hp => ?_⟩
  unfold shCtr at hc
  split at hc
  · rename_i x hx
    simp only [Option.some.injEq, Prod.mk.injEq] at hc
    obtain ⟨rfl, hrm⟩ := hc
    refine shape_spec hx ?_
    obtain ⟨⟨n, _⟩, _⟩ := x
    have h0 : -9223372036854775808 ≤ n := of_decide_eq_true (hp _ List.mem_cons_self)
    have h1 : n ≤ 9223372036854775807 := of_decide_eq_true (hp _ (List.mem_cons_of_mem _ List.mem_cons_self))
    have er : r = .v false [.str (pItoa n)] := (congrArg Prod.fst hrm).symm
    have em : m1 = [] := (congrArg Prod.snd hrm).symm
    subst er em
    refine spec_below fun w N ρ vs hg hlt ha => ?_
    obtain ⟨v, rfl, hv⟩ := all2_1 ha
    have hv : v = .int .i64 n := hv
    subst hv
    obtain ⟨vals, hvar, hva⟩ := glob_var (show Tryd.prog.globalNamed "internal/strconv.uint64pow10" = some 3 by kernel_rfl) (hg 3 _ rfl)
    have htab : Go.Lib.TabIs Tryd.prog w "internal/strconv.uint64pow10" .u64 Go.Lib.pow10Tab := by
      unfold Go.Lib.TabIs
      rw [hvar, ← all2_ints hva]
    have c : Calls Tryd.prog 20 #[.int .i64 n] w fun e w' => e = .returned (.string ⟨(Go.Lib.itoa n).toArray⟩) ∧ ∃ k os, w' = Go.Sort.grow (w.drewN k) os := Any.strconv_Itoa lItoa n h0 h1 w htab
    refine c.mono fun e w' ⟨he, k, os, hw⟩ => ⟨_, he, ?_, ⟨_, rfl, rfl⟩⟩
    subst hw
    exact grow_below
  · cases hc
theorem Split_ok {m : Int} : Meets Tryd.prog (tabsS m) 40 (shCtr ⟨[.one (.rd .str), .one (.rd .str)], []⟩ (fun x => [pShort x.1.1, pOne x.1.2.1]) [] [.slot 0 false (.sl tyS)] fun x => (pSplit x.1.1 x.1.2.1, ())) := by
  refine ⟨⟨_, Tryd.func40, by kernel_rfl, by kernel_rfl⟩, fun args m0 obs r m1 hc hp => ?_⟩
  unfold shCtr at hc
  split at hc
  · rename_i x hx
    simp only [Option.some.injEq, Prod.mk.injEq] at hc
    obtain ⟨rfl, hrm⟩ := hc
    refine shape_spec hx ?_
    obtain ⟨⟨s, sep, _⟩, _⟩ := x
    have h0 : pShort s := hp _ List.mem_cons_self
    have h1 : pOne sep := hp _ (List.mem_cons_of_mem _ List.mem_cons_self)
    have er : r = .v false [.sl tyS (pSplit s sep)] := (congrArg Prod.fst hrm).symm
    have em : m1 = [] := (congrArg Prod.snd hrm).symm
    subst er em
    refine spec_below fun w N ρ vs hg hlt ha => ?_
    obtain ⟨v, u, rfl, hv, hu⟩ := all2_2 ha
    have hv : v = .string s := hv
    have hu : u = .string sep := hu
    subst hv hu
    have hmc : w.cell? ⟨2, 0, none⟩ = some (.int .i64 m) := by
      obtain ⟨_, vals, T, fz, hh, ha, _⟩ := hg 2 _ rfl
      obtain ⟨l⟩ := vals
      cases ha with
      | cons a r =>
        cases r
        have a : _ = _ := a
        subst a
        simp [World.cell?, hh]
    have c : Calls Tryd.prog 40 #[.string s, .string sep] w fun e w' => e = .returned (.slice (some ⟨w.heap.size, 0, none⟩) (Go.Lib.countB s sep + 1) (Go.Lib.countB s sep + 1)) ∧
        w' = w.alloc (.cells ((Go.Lib.splitB sep 0 (Go.Lib.countB s sep) s).map Value.string).toArray 9) := Any.strings_Split lSplit (by kernel_rfl) s sep m w h0 hmc h1
    have hlen := Go.Lib.splitB_all sep h1 0 _ s rfl
    refine c.mono fun e w' ⟨he, hw⟩ => ⟨_, he, ?_, ⟨_, rfl, ?_⟩⟩
    · subst hw
      exact (Below.refl _ _).alloc (Nat.le_refl _) _
    · have hh : w'.heap[w.heap.size]? = some (.cells ((Go.Lib.splitB sep 0 (Go.Lib.countB s sep) s).map Value.string).toArray 9) := by
        subst hw
        show (w.heap.push _)[w.heap.size]? = _
        simp
      have hsz : w'.heap.size = w.heap.size + 1 := by
        subst hw
        show (w.heap.push _).size = _
        simp
      have hl : (pSplit s sep).length = Go.Lib.countB s sep + 1 := by unfold pSplit; rw [List.length_map, hlen]
      refine ⟨_, _, _, rfl, hl, Nat.le_refl _, fun _ => ⟨w.heap.size, 0, rfl, .inr ⟨Nat.le_refl _, by omega⟩, fun k hk => ?_⟩⟩
      have hk : k < (Go.Lib.splitB sep 0 (Go.Lib.countB s sep) s).length := by unfold pSplit at hk; rwa [List.length_map] at hk
      have hx : (pSplit s sep)[k] = ((Go.Lib.splitB sep 0 (Go.Lib.countB s sep) s)[k], ()) := by unfold pSplit; exact List.getElem_map ..
      refine ⟨[.string ((Go.Lib.splitB sep 0 (Go.Lib.countB s sep) s)[k])], by rw [hx]; exact ⟨[_], [], rfl, rfl, rfl⟩, rfl, fun j u hj => ?_⟩
      match j, hj with
      | 0, hj =>
        simp only [List.getElem?_cons_zero, Option.some.injEq] at hj
        subst hj
        show w'.cell? ⟨w.heap.size, 0 + k * 1 + 0, none⟩ = _
        simp [World.cell?, hh, List.getElem?_eq_getElem hk]
  · cases hc
theorem Atoi_ok {m : Int} : Meets Tryd.prog (tabsS m) 70 cAtoi := by
  refine ⟨⟨_, Tryd.func70, by kernel_rfl, by kernel_rfl⟩, fun args m0 obs r m1 hc hp => ?_⟩
  unfold cAtoi at hc
  split at hc
  · rename_i s
    simp only [Option.some.injEq, Prod.mk.injEq] at hc
    obtain ⟨rfl, rfl, rfl⟩ := hc
    have h0 : pShort s := hp _ List.mem_cons_self
    unfold pShort at h0
    refine spec_below fun w N ρ vs hg hlt ha => ?_
    obtain ⟨v, rfl, hv⟩ := all2_1 ha
    have hv : v = .string s := hv
    subst hv
    have errv : ∀ (n : String) (k : Nat), Tryd.prog.globalNamed n = some k → GlobR w N k (.cells [C.ifc true]) → ∃ t p, w.var? Tryd.prog n = some #[.iface t p] := fun n k hn h => by
      obtain ⟨vals, hv, ha⟩ := glob_var hn h
      obtain ⟨l⟩ := vals
      cases ha with
      | cons a r =>
        cases r
        rcases a with ⟨_, t, p, rfl⟩ | ⟨h, _⟩
        · exact ⟨t, p, hv⟩
        · cases h
    have fin : ∀ (n : Int) (b : Bool) (v : Value) (w' : World), pAtoiN s = n → pAtoiB s = b → ((b = true ∧ ∃ t p, v = .iface t p) ∨ (b = false ∧ v = .nilIface)) →
        SVR w' (fun b => N b ∨ (w.heap.size ≤ b ∧ b < w'.heap.size)) ρ (fun _ => none) (.tup [(false, [.int .i64 (pAtoiN s)]), (false, [.ifc (pAtoiB s)])]) (.tuple #[.int .i64 n, v]) := fun n b v w' h1 h2 h3 => by
      rw [h1, h2]
      exact ⟨[.int .i64 n, v], rfl, .cons ⟨_, rfl, rfl⟩ (.cons ⟨_, rfl, h3⟩ .nil)⟩
    cases h : Go.Lib.atoiAll s.data.toList with
    | ok n =>
      have c : Calls Tryd.prog 70 #[.string s] w _ := Any.strconv_Atoi_ok lAtoi s (by omega) n h w
      refine c.mono fun e w' ⟨he, hw⟩ => ⟨_, he, ?_, fin n false _ _ (by unfold pAtoiN; rw [h]) (by unfold pAtoiB; rw [h]) (.inr ⟨rfl, rfl⟩)⟩
      rcases hw with rfl | ⟨t, rfl⟩
      · exact Below.refl _ _
      · exact Go.Lib.bytesWorld_below _ _ _
    | «syntax» =>
      obtain ⟨tp, p, hvar⟩ := errv "strconv.ErrSyntax" 4 (by kernel_rfl) (hg 4 _ rfl)
      have c : Calls Tryd.prog 70 #[.string s] w _ := Any.strconv_Atoi_syntax_var lAtoi s (by omega) h tp p w hvar
      exact c.mono fun e w' ⟨N', he, _, _, hb⟩ => ⟨_, he, hb, fin 0 true _ _ (by unfold pAtoiN; rw [h]) (by unfold pAtoiB; rw [h]) (.inl ⟨rfl, _, _, rfl⟩)⟩
    | range =>
      obtain ⟨tp, p, hvar⟩ := errv "strconv.ErrRange" 5 (by kernel_rfl) (hg 5 _ rfl)
      have c : Calls Tryd.prog 70 #[.string s] w _ := Any.strconv_Atoi_range_var lAtoi s (by omega) h tp p w hvar
      exact c.mono fun e w' ⟨N', he, _, _, hb⟩ => ⟨_, he, hb, fin _ true _ _ (by unfold pAtoiN; rw [h]) (by unfold pAtoiB; rw [h]) (.inl ⟨rfl, _, _, rfl⟩)⟩
  · cases hc


end Go.Proofs.YtedjlbcclhgfmaaDoor

/- Numerals: digits, their value; what Atoi and Itoa say of them. No condition. -/
namespace Go.Proofs.YtedjlbcclhgfmaaDoor
open Go.Lib

def Dig (c : UInt8) : Prop := 48 ≤ c.toNat ∧ c.toNat ≤ 57
def val (acc : Nat) : List UInt8 → Nat
  | [] => acc
  | c :: r => val (10 * acc + (c.toNat - 48)) r
theorem val_app : ∀ (a b : List UInt8) (acc : Nat), val acc (a ++ b) = val (val acc a) b
  | [], _, _ => rfl
  | c :: r, b, acc => val_app r b _
theorem val_le : ∀ (l : List UInt8) (acc : Nat), acc ≤ val acc l
  | [], acc => Nat.le_refl _
  | c :: r, acc => Nat.le_trans (by omega) (val_le r _)
theorem u8_nat {n : Nat} (h : n < 256) : (UInt8.ofNat n).toNat = n := by rw [UInt8.toNat_ofNat']; exact Nat.mod_eq_of_lt h
theorem dec_dig : ∀ (n : Nat), ∀ c ∈ decDigits n, Dig c := by
  intro n
  induction n using Nat.strongRecOn with
  | _ n ih =>
    intro c hc
    rw [decDigits] at hc
    split at hc
    · rw [List.mem_singleton.1 hc]; unfold Dig; rw [u8_nat (by omega)]; omega
    · rcases List.mem_append.1 hc with h | h
      · exact ih (n / 10) (by omega) c h
      · rw [List.mem_singleton.1 h]; unfold Dig; rw [u8_nat (by omega)]; omega
theorem dec_val : ∀ (n : Nat), val 0 (decDigits n) = n := by
  intro n
  induction n using Nat.strongRecOn with
  | _ n ih =>
    rw [decDigits]
    split
    · show 10 * 0 + ((UInt8.ofNat (48 + n)).toNat - 48) = n
      rw [u8_nat (by omega)]; omega
    · rw [val_app, ih (n / 10) (by omega)]
      show 10 * (n / 10) + ((UInt8.ofNat (48 + n % 10)).toNat - 48) = n
      rw [u8_nat (by omega)]; omega
theorem dec_ne (n : Nat) : decDigits n ≠ [] := by
  rw [decDigits]; split <;> simp
theorem ba_eq {a b : ByteArray} (h : a.data.toList = b.data.toList) : a = b := by
  obtain ⟨⟨a⟩⟩ := a; obtain ⟨⟨b⟩⟩ := b
  have h : a = b := h
  rw [h]
theorem strEq_iff {a b : ByteArray} : pStrEq a b = true ↔ a = b := by
  unfold pStrEq
  rw [beq_iff_eq, toList_data, toList_data]
  exact ⟨ba_eq, fun h => by rw [h]⟩
end Go.Proofs.YtedjlbcclhgfmaaDoor

/- Words between blanks. No condition. -/
namespace Go.Proofs.YtedjlbcclhgfmaaDoor
open Go.RowKit Go.Lib

def headTo (x : UInt8) : List (List UInt8) → List (List UInt8)
  | [] => [[x]]
  | w :: t => (x :: w) :: t
def spl : List UInt8 → List (List UInt8)
  | [] => [[]]
  | x :: r => if x = 32 then [] :: spl r else headTo x (spl r)
theorem splitK_ne {x : UInt8} (hx : x ≠ 32) (r : List UInt8) : ∀ k, splitK [32] 0 k (x :: r) = headTo x (splitK [32] 0 k r) := by
  intro k
  have hp : ([32] : List UInt8).isPrefixOf (x :: r) = false := by
    simp only [List.isPrefixOf, Bool.and_true]
    exact beq_eq_false_iff_ne.2 fun h => hx h.symm
  cases k with
  | zero => rfl
  | succ k =>
    have hi : index (x :: r) [32] = if index r [32] == -1 then -1 else index r [32] + 1 := by rw [index, if_neg (by rw [hp]; simp)]
    have hg := index_ge r [32]
    by_cases h : index r [32] = -1
    · have h1 : index (x :: r) [32] = -1 := by rw [hi, h]; rfl
      rw [splitK, if_pos (beq_iff_eq.2 h1), splitK, if_pos (beq_iff_eq.2 h)]; rfl
    · obtain ⟨i, hii⟩ : ∃ i : Nat, index r [32] = (i : Int) := ⟨(index r [32]).toNat, by omega⟩
      have h1 : index (x :: r) [32] = ((i + 1 : Nat) : Int) := by
        rw [hi, if_neg (by simpa using h), hii]; rfl
      have n1 : ¬ (index (x :: r) [32] == -1) = true := by rw [beq_iff_eq, h1]; omega
      have n2 : ¬ (index r [32] == -1) = true := by rw [beq_iff_eq]; exact h
      rw [splitK, if_neg n1, splitK, if_neg n2, h1, hii]
      show (x :: r).take (i + 1) :: splitK [32] 0 k ((x :: r).drop (i + 1 + 1)) = _
      rfl
theorem splitK_spl : ∀ (l : List UInt8) (k : Nat), l.count 32 = k → splitK [32] 0 k l = spl l
  | [], k, h => by
    have : k = 0 := by rw [← h]; rfl
    subst this; rfl
  | x :: r, k, h => by
    unfold spl
    by_cases hx : x = 32
    · subst hx
      rw [if_pos rfl]
      have hk : k = r.count 32 + 1 := by rw [← h, List.count_cons_self]
      subst hk
      have hp : ([32] : List UInt8).isPrefixOf (32 :: r) = true := by simp [List.isPrefixOf]
      have hi : index (32 :: r) [32] = 0 := by rw [index, if_pos hp]
      rw [splitK, if_neg (by rw [hi]; decide), hi]
      show [] :: splitK [32] 0 (r.count 32) r = _
      rw [splitK_spl r _ rfl]
    · rw [if_neg hx, splitK_ne hx, splitK_spl r k (by rw [← h, List.count_cons_of_ne hx])]
theorem spl_none : ∀ (l : List UInt8), (∀ c ∈ l, c ≠ 32) → spl l = [l]
  | [], _ => rfl
  | x :: r, h => by
    unfold spl
    rw [if_neg (h x (by simp)), spl_none r fun c hc => h c (by simp [hc])]; rfl
theorem spl_cut : ∀ (a b : List UInt8), (∀ c ∈ a, c ≠ 32) → spl (a ++ 32 :: b) = a :: spl b
  | [], b, _ => by show spl (32 :: b) = _; rw [spl, if_pos rfl]
  | x :: a, b, h => by
    show spl (x :: (a ++ 32 :: b)) = _
    rw [spl, if_neg (h x (by simp)), spl_cut a b fun c hc => h c (by simp [hc])]; rfl
def toS (l : List UInt8) : SD := (⟨l.toArray⟩, ())
theorem split_spl (s : ByteArray) : pSplit s (bs [32]) = (spl s.data.toList).map toS := by
  have hc : countB s (bs [32]) = s.data.toList.count 32 := count_one 32 s.data.toList
  have h1 := splitB_data (bs [32]) 0 (countB s (bs [32])) s
  have h2 : (bs [32]).data.toList = [32] := rfl
  rw [h2, splitK_spl _ _ hc.symm] at h1
  rw [← h1]
  unfold pSplit
  rw [List.map_map]
  refine List.map_congr_left fun x _ => ?_
  show (x, ()) = toS x.data.toList
  unfold toS
  rw [mk_data]


end Go.Proofs.YtedjlbcclhgfmaaDoor
