/- Contracts, and what the evaluator says, as plain propositions: NeV. Printed by vc.py. -/
import Derived.Test.YtkimjjndbcbiaaaDoorNeW
namespace Go.Proofs.YtkimjjndbcbiaaaDoor
open Go.RowKit Go.ChangeShapes Go.WideShapes Go.Deep

def cIn : Ctr := shCtr ⟨[.one (.rd tI), .one (.rd tI), .one (.rd tI)], []⟩ (fun _ => []) [] [.slot 0 false .bool] (fun x => (inF x.1.1 x.1.2.1 x.1.2.2.1, ()))
def cone : Ctr := shCtr ⟨[pLab], []⟩ (fun _ => []) [] [.slot 0 false .bool] (fun x => (labF x.1.1, ()))
def clCheck : Ctr := shCtr ⟨[pCfg], []⟩ (fun x => [pLen x.1.1.2.1 < 4611686018427387904]) [] [.slot 0 false tI] (fun x => (cfgF x.1.1, ()))
def ccFault : Ctr := shCtr ⟨[pCfg], []⟩ (fun x => [pLen x.1.1.2.1 < 4611686018427387904]) [] [.slot 0 false tI] (fun x => (cfgF x.1.1, ()))
def clabelMay : Ctr := shCtr ⟨[pCfg, .one (.rd tI)], []⟩ (fun x => [pLen x.1.1.2.1 < 4611686018427387904]) [] [.slot 0 false .bool] (fun x => (placeF x.1.1 x.1.2.1, ()))
def cwtxn : Ctr := shCtr ⟨[pCfg, pTxn], []⟩ (fun _ => []) [] [.slot 0 false .bool] (fun x => (txnF x.1.1 x.1.2.1.1 x.1.2.1.2.1, ()))
def cwkey : Ctr := shCtr ⟨[.one (.rd tI)], []⟩ (fun _ => []) [] [.slot 0 false .bool] (fun x => (inF x.1.1 0 7, ()))
def cwvalue : Ctr := shCtr ⟨[.one (.rd tI)], []⟩ (fun _ => []) [] [.slot 0 false .bool] (fun x => (inF x.1.1 0 1073741824, ()))
def cwask : Ctr := shCtr ⟨[.one (.rd tI)], []⟩ (fun _ => []) [] [.slot 0 false .bool] (fun x => (inF x.1.1 0 1048576, ()))
def cwcode : Ctr := shCtr ⟨[.one (.rd tI)], []⟩ (fun _ => []) [] [.slot 0 false .bool] (fun x => (codeF x.1.1, ()))
def ctxnMay : Ctr := shCtr ⟨[pCfg, pTxn], []⟩ (fun x => [inF x.1.1.1 1 4 = true]) [] [.slot 0 false .bool] (fun x => (txnF x.1.1 x.1.2.1.1 x.1.2.1.2.1, ()))
def cMessageFault : Ctr := shCtr ⟨[pCfg, pMsg], []⟩ (fun x => [pLen x.1.1.2.1 < 4611686018427387904]) [] [.slot 0 false tI] (fun x => (msgF x.1.1 x.1.2.1, ()))

def In_VC (a : Int) (b : Int) (c : Int) : Prop :=
  bif pGe a b then (pLe a c, ()) = (inF a b c, ()) else (Bool.false, ()) = (inF a b c, ())
set_option maxRecDepth 100000 in
theorem In_meets  (h : ∀ (a : Int) (b : Int) (c : Int), In_VC a b c) : Meets Tryd.prog (fun _ => none) 53 cIn :=
  meets_vc (E := envOf Tryd.prog [] [104, 39]) (envOf_ok (fun p hp => by cases hp) (by kernel_rfl)) ⟨[.one (.rd tI), .one (.rd tI), .one (.rd tI)], []⟩ (fun x => fun ky9 st9 => look [] ky9) Tryd.func53 (by kernel_rfl) (by kernel_rfl) (fun _ => []) [] [.slot 0 false .bool] (fun x => (inF x.1.1 x.1.2.1 x.1.2.2.1, ())) (fun x => In_VC x.1.1 x.1.2.1 x.1.2.2.1) (fun x => by kernel_rfl) (fun x _ => h x.1.1 x.1.2.1 x.1.2.2.1)

def one_VC (al : Int) (ak : Int) : Prop :=
  bif pGe al (0 : Int) then bif pLe al (9 : Int) then bif pGe ak (0 : Int) then (pLe ak (15 : Int), ()) = (labF (al, ak, ()), ()) else (Bool.false, ()) = (labF (al, ak, ()), ()) else (Bool.false, ()) = (labF (al, ak, ()),
    ()) else (Bool.false, ()) = (labF (al, ak, ()), ())
set_option maxRecDepth 100000 in
theorem one_meets  (h : ∀ (al : Int) (ak : Int), one_VC al ak) : Meets Tryd.prog (fun _ => none) 68 cone :=
  meets_vc (E := envOf Tryd.prog [] [104, 39]) (envOf_ok (fun p hp => by cases hp) (by kernel_rfl)) ⟨[pLab], []⟩ (fun x => fun ky9 st9 => look [] ky9) Tryd.func68 (by kernel_rfl) (by kernel_rfl) (fun _ => []) [] [.slot 0 false .bool] (fun x => (labF x.1.1, ())) (fun x => one_VC x.1.1.1 x.1.1.2.1) (fun x => by kernel_rfl) (fun x _ => h x.1.1.1 x.1.1.2.1)

def lCheck_VC (cn : Int) (cl : (List LabD)) (cp : Int) : Prop :=
  bif pLt cn (1 : Int) then ((2 : Int), ()) = (cfgF (cn, cl, cp, ()), ()) else bif pGt cn (4 : Int) then ((2 : Int), ()) = (cfgF (cn, cl, cp, ()), ()) else bif pLt (pInt (pLen cl)) (1 : Int) then ((1 : Int), ()) = (cfgF
    (cn, cl, cp, ()), ()) else bif pGt (pInt (pLen cl)) (6 : Int) then ((1 : Int), ()) = (cfgF (cn, cl, cp, ()), ()) else lCheckAInv cn cl cp ((0 : Int), ()) ∧ ∀ (y : kden Bool.false tI × PUnit), lCheckAInv cn cl cp y → bif
    pLt y.1 (pInt (pLen cl)) then pIn y.1 (pLen cl) ∧ bif pNot (labF (pGet tyLab cl (pNat y.1))) then ((2 : Int), ()) = (cfgF (cn, cl, cp, ()), ()) else pTo y.1 (pLen cl) ∧ lCheckBInv cn cl cp y.1 ((0 : Int), ()) ∧ ∀ (y_1 :
    kden Bool.false tI × PUnit), lCheckBInv cn cl cp y.1 y_1 → bif pLt y_1.1 (pInt (pLen (pSub cl 0 (pNat y.1)))) then pIn y_1.1 (pLen (pSub cl 0 (pNat y.1))) ∧ bif pAndB (pEq (pGet tyLab (pSub cl 0 (pNat y.1)) (pNat
    y_1.1)).1 (pGet tyLab cl (pNat y.1)).1) (pEq (pGet tyLab (pSub cl 0 (pNat y.1)) (pNat y_1.1)).2.1 (pGet tyLab cl (pNat y.1)).2.1) then ((7 : Int), ()) = (cfgF (cn, cl, cp, ()), ()) else lCheckBInv cn cl cp y.1 (pAdd
    IntKind.i64 y_1.1 (1 : Int), ()) ∧ Nat.le (Nat.succ (lCheckBMu cn cl cp y.1 (pAdd IntKind.i64 y_1.1 (1 : Int), ()))) (lCheckBMu cn cl cp y.1 y_1) else lCheckAInv cn cl cp (pAdd IntKind.i64 y.1 (1 : Int), ()) ∧ Nat.le
    (Nat.succ (lCheckAMu cn cl cp (pAdd IntKind.i64 y.1 (1 : Int), ()))) (lCheckAMu cn cl cp y) else bif pLt cp (1 : Int) then ((2 : Int), ()) = (cfgF (cn, cl, cp, ()), ()) else bif pGt cp (1048576 : Int) then ((2 : Int),
    ()) = (cfgF (cn, cl, cp, ()), ()) else ((0 : Int), ()) = (cfgF (cn, cl, cp, ()), ())
set_option maxRecDepth 100000 in
theorem lCheck_meets (hone : Meets Tryd.prog (fun _ => none) 68 cone) (h : ∀ (cn : Int) (cl : (List LabD)) (cp : Int), (∀ p ∈ (fun x => [pLen x.1.1.2.1 < 4611686018427387904] : Shape.den ⟨[pCfg], []⟩ → List Prop) ⟨((cn, cl, cp, ()), ()), ()⟩, p) → lCheck_VC cn cl cp) : Meets Tryd.prog (fun _ => none) 37 clCheck :=
  meets_vc (E := envOf Tryd.prog [(68, (false, cone))] [104, 39]) (envOf_ok (fun p hp => (by simp only [List.mem_cons, List.not_mem_nil, or_false] at hp; rcases hp with rfl; exact hone)) (by kernel_rfl)) ⟨[pCfg], []⟩ (fun x => fun ky9 st9 => look [(6, (⟨[.slot 28 false tI], lCheckAInv x.1.1.1 x.1.1.2.1 x.1.1.2.2.1, lCheckAMu x.1.1.1 x.1.1.2.1 x.1.1.2.2.1⟩ : Ann)), (11, (⟨[.slot 41 false tI], lCheckBInv x.1.1.1 x.1.1.2.1 x.1.1.2.2.1 (slotI st9 28), lCheckBMu x.1.1.1 x.1.1.2.1 x.1.1.2.2.1 (slotI st9 28)⟩ : Ann))] ky9) Tryd.func37 (by kernel_rfl) (by kernel_rfl) (fun x => [pLen x.1.1.2.1 < 4611686018427387904]) [] [.slot 0 false tI] (fun x => (cfgF x.1.1, ())) (fun x => lCheck_VC x.1.1.1 x.1.1.2.1 x.1.1.2.2.1) (fun x => by kernel_rfl) (fun x hp => h x.1.1.1 x.1.1.2.1 x.1.1.2.2.1 hp)

def cFault_VC (cn : Int) (cl : (List LabD)) (cp : Int) : Prop :=
  bif pNot (inF cn (1 : Int) (4 : Int)) then ((2 : Int), ()) = (cfgF (cn, cl, cp, ()), ()) else bif pNot (inF (pInt (pLen cl)) (1 : Int) (6 : Int)) then ((1 : Int), ()) = (cfgF (cn, cl, cp, ()), ()) else lCheckAInv cn cl
    cp ((0 : Int), ()) ∧ ∀ (y : kden Bool.false tI × PUnit), lCheckAInv cn cl cp y → bif pLt y.1 (pInt (pLen cl)) then pIn y.1 (pLen cl) ∧ bif pNot (inF (pGet tyLab cl (pNat y.1)).1 (0 : Int) (9 : Int)) then ((2 : Int), ())
    = (cfgF (cn, cl, cp, ()), ()) else pIn y.1 (pLen cl) ∧ bif pNot (inF (pGet tyLab cl (pNat y.1)).2.1 (0 : Int) (15 : Int)) then ((2 : Int), ()) = (cfgF (cn, cl, cp, ()), ()) else lCheckBInv cn cl cp y.1 ((0 : Int), ()) ∧
    ∀ (y_1 : kden Bool.false tI × PUnit), lCheckBInv cn cl cp y.1 y_1 → bif pLt y_1.1 y.1 then pIn y_1.1 (pLen cl) ∧ pIn y.1 (pLen cl) ∧ bif pAndB (pEq (pGet tyLab cl (pNat y_1.1)).1 (pGet tyLab cl (pNat y.1)).1) (pEq (pGet
    tyLab cl (pNat y_1.1)).2.1 (pGet tyLab cl (pNat y.1)).2.1) then ((7 : Int), ()) = (cfgF (cn, cl, cp, ()), ()) else lCheckBInv cn cl cp y.1 (pAdd IntKind.i64 y_1.1 (1 : Int), ()) ∧ Nat.le (Nat.succ (lCheckBMu cn cl cp y.1
    (pAdd IntKind.i64 y_1.1 (1 : Int), ()))) (lCheckBMu cn cl cp y.1 y_1) else lCheckAInv cn cl cp (pAdd IntKind.i64 y.1 (1 : Int), ()) ∧ Nat.le (Nat.succ (lCheckAMu cn cl cp (pAdd IntKind.i64 y.1 (1 : Int), ()))) (lCheckAMu
    cn cl cp y) else bif pNot (inF cp (1 : Int) (1048576 : Int)) then ((2 : Int), ()) = (cfgF (cn, cl, cp, ()), ()) else ((0 : Int), ()) = (cfgF (cn, cl, cp, ()), ())
set_option maxRecDepth 100000 in
theorem cFault_meets (hIn : Meets Tryd.prog (fun _ => none) 53 cIn) (h : ∀ (cn : Int) (cl : (List LabD)) (cp : Int), (∀ p ∈ (fun x => [pLen x.1.1.2.1 < 4611686018427387904] : Shape.den ⟨[pCfg], []⟩ → List Prop) ⟨((cn, cl, cp, ()), ()), ()⟩, p) → cFault_VC cn cl cp) : Meets Tryd.prog (fun _ => none) 39 ccFault :=
  meets_vc (E := envOf Tryd.prog [(53, (false, cIn))] [104, 39]) (envOf_ok (fun p hp => (by simp only [List.mem_cons, List.not_mem_nil, or_false] at hp; rcases hp with rfl; exact hIn)) (by kernel_rfl)) ⟨[pCfg], []⟩ (fun x => fun ky9 st9 => look [(6, (⟨[.slot 3 false tI], lCheckAInv x.1.1.1 x.1.1.2.1 x.1.1.2.2.1, lCheckAMu x.1.1.1 x.1.1.2.1 x.1.1.2.2.1⟩ : Ann)), (11, (⟨[.slot 4 false tI], lCheckBInv x.1.1.1 x.1.1.2.1 x.1.1.2.2.1 (slotI st9 3), lCheckBMu x.1.1.1 x.1.1.2.1 x.1.1.2.2.1 (slotI st9 3)⟩ : Ann))] ky9) Tryd.func39 (by kernel_rfl) (by kernel_rfl) (fun x => [pLen x.1.1.2.1 < 4611686018427387904]) [] [.slot 0 false tI] (fun x => (cfgF x.1.1, ())) (fun x => cFault_VC x.1.1.1 x.1.1.2.1 x.1.1.2.2.1) (fun x => by kernel_rfl) (fun x hp => h x.1.1.1 x.1.1.2.1 x.1.1.2.2.1 hp)

def labelMay_VC (cn : Int) (cl : (List LabD)) (cp : Int) (l : Int) : Prop :=
  (inF l (0 : Int) (pSubI IntKind.i64 (pInt (pLen cl)) (1 : Int)), ()) = (placeF (cn, cl, cp, ()) l, ())
set_option maxRecDepth 100000 in
theorem labelMay_meets (hIn : Meets Tryd.prog (fun _ => none) 53 cIn) (h : ∀ (cn : Int) (cl : (List LabD)) (cp : Int) (l : Int), (∀ p ∈ (fun x => [pLen x.1.1.2.1 < 4611686018427387904] : Shape.den ⟨[pCfg, .one (.rd tI)], []⟩ → List Prop) ⟨((cn, cl, cp, ()), l, ()), ()⟩, p) → labelMay_VC cn cl cp l) : Meets Tryd.prog (fun _ => none) 75 clabelMay :=
  meets_vc (E := envOf Tryd.prog [(53, (false, cIn))] [104, 39]) (envOf_ok (fun p hp => (by simp only [List.mem_cons, List.not_mem_nil, or_false] at hp; rcases hp with rfl; exact hIn)) (by kernel_rfl)) ⟨[pCfg, .one (.rd tI)], []⟩ (fun x => fun ky9 st9 => look [] ky9) Tryd.func75 (by kernel_rfl) (by kernel_rfl) (fun x => [pLen x.1.1.2.1 < 4611686018427387904]) [] [.slot 0 false .bool] (fun x => (placeF x.1.1 x.1.2.1, ())) (fun x => labelMay_VC x.1.1.1 x.1.1.2.1 x.1.1.2.2.1 x.1.2.1) (fun x => by kernel_rfl) (fun x hp => h x.1.1.1 x.1.1.2.1 x.1.1.2.2.1 x.1.2.1 hp)

def wtxn_VC (cn : Int) (cl : (List LabD)) (cp : Int) (ts : Int) (tn : Int) : Prop :=
  bif pGe ts (0 : Int) then bif pLt ts cn then bif pGe tn (1 : Int) then (pLe tn (1048576 : Int), ()) = (txnF (cn, cl, cp, ()) ts tn, ()) else (Bool.false, ()) = (txnF (cn, cl, cp, ()) ts tn, ()) else (Bool.false, ()) =
    (txnF (cn, cl, cp, ()) ts tn, ()) else (Bool.false, ()) = (txnF (cn, cl, cp, ()) ts tn, ())
set_option maxRecDepth 100000 in
theorem wtxn_meets  (h : ∀ (cn : Int) (cl : (List LabD)) (cp : Int) (ts : Int) (tn : Int), wtxn_VC cn cl cp ts tn) : Meets Tryd.prog (fun _ => none) 69 cwtxn :=
  meets_vc (E := envOf Tryd.prog [] [104, 39]) (envOf_ok (fun p hp => by cases hp) (by kernel_rfl)) ⟨[pCfg, pTxn], []⟩ (fun x => fun ky9 st9 => look [] ky9) Tryd.func69 (by kernel_rfl) (by kernel_rfl) (fun _ => []) [] [.slot 0 false .bool] (fun x => (txnF x.1.1 x.1.2.1.1 x.1.2.1.2.1, ())) (fun x => wtxn_VC x.1.1.1 x.1.1.2.1 x.1.1.2.2.1 x.1.2.1.1 x.1.2.1.2.1) (fun x => by kernel_rfl) (fun x _ => h x.1.1.1 x.1.1.2.1 x.1.1.2.2.1 x.1.2.1.1 x.1.2.1.2.1)

def wkey_VC (a : Int) : Prop :=
  bif pGe a (0 : Int) then (pLt a (8 : Int), ()) = (inF a (0 : Int) (7 : Int), ()) else (Bool.false, ()) = (inF a (0 : Int) (7 : Int), ())
set_option maxRecDepth 100000 in
theorem wkey_meets  (h : ∀ (a : Int), wkey_VC a) : Meets Tryd.prog (fun _ => none) 70 cwkey :=
  meets_vc (E := envOf Tryd.prog [] [104, 39]) (envOf_ok (fun p hp => by cases hp) (by kernel_rfl)) ⟨[.one (.rd tI)], []⟩ (fun x => fun ky9 st9 => look [] ky9) Tryd.func70 (by kernel_rfl) (by kernel_rfl) (fun _ => []) [] [.slot 0 false .bool] (fun x => (inF x.1.1 0 7, ())) (fun x => wkey_VC x.1.1) (fun x => by kernel_rfl) (fun x _ => h x.1.1)

def wvalue_VC (a : Int) : Prop :=
  bif pGe a (0 : Int) then (pLe a (1073741824 : Int), ()) = (inF a (0 : Int) (1073741824 : Int), ()) else (Bool.false, ()) = (inF a (0 : Int) (1073741824 : Int), ())
set_option maxRecDepth 100000 in
theorem wvalue_meets  (h : ∀ (a : Int), wvalue_VC a) : Meets Tryd.prog (fun _ => none) 71 cwvalue :=
  meets_vc (E := envOf Tryd.prog [] [104, 39]) (envOf_ok (fun p hp => by cases hp) (by kernel_rfl)) ⟨[.one (.rd tI)], []⟩ (fun x => fun ky9 st9 => look [] ky9) Tryd.func71 (by kernel_rfl) (by kernel_rfl) (fun _ => []) [] [.slot 0 false .bool] (fun x => (inF x.1.1 0 1073741824, ())) (fun x => wvalue_VC x.1.1) (fun x => by kernel_rfl) (fun x _ => h x.1.1)

def wask_VC (a : Int) : Prop :=
  bif pGe a (0 : Int) then (pLe a (1048576 : Int), ()) = (inF a (0 : Int) (1048576 : Int), ()) else (Bool.false, ()) = (inF a (0 : Int) (1048576 : Int), ())
set_option maxRecDepth 100000 in
theorem wask_meets  (h : ∀ (a : Int), wask_VC a) : Meets Tryd.prog (fun _ => none) 72 cwask :=
  meets_vc (E := envOf Tryd.prog [] [104, 39]) (envOf_ok (fun p hp => by cases hp) (by kernel_rfl)) ⟨[.one (.rd tI)], []⟩ (fun x => fun ky9 st9 => look [] ky9) Tryd.func72 (by kernel_rfl) (by kernel_rfl) (fun _ => []) [] [.slot 0 false .bool] (fun x => (inF x.1.1 0 1048576, ())) (fun x => wask_VC x.1.1) (fun x => by kernel_rfl) (fun x _ => h x.1.1)

def wcode_VC (a : Int) : Prop :=
  bif pEq a (0 : Int) then (Bool.true, ()) = (codeF a, ()) else bif pEq a (11 : Int) then (Bool.true, ()) = (codeF a, ()) else (pEq a (8 : Int), ()) = (codeF a, ())
set_option maxRecDepth 100000 in
theorem wcode_meets  (h : ∀ (a : Int), wcode_VC a) : Meets Tryd.prog (fun _ => none) 73 cwcode :=
  meets_vc (E := envOf Tryd.prog [] [104, 39]) (envOf_ok (fun p hp => by cases hp) (by kernel_rfl)) ⟨[.one (.rd tI)], []⟩ (fun x => fun ky9 st9 => look [] ky9) Tryd.func73 (by kernel_rfl) (by kernel_rfl) (fun _ => []) [] [.slot 0 false .bool] (fun x => (codeF x.1.1, ())) (fun x => wcode_VC x.1.1) (fun x => by kernel_rfl) (fun x _ => h x.1.1)

def txnMay_VC (cn : Int) (cl : (List LabD)) (cp : Int) (ts : Int) (tn : Int) : Prop :=
  bif inF ts (0 : Int) (pSubI IntKind.i64 cn (1 : Int)) then (inF tn (1 : Int) (1048576 : Int), ()) = (txnF (cn, cl, cp, ()) ts tn, ()) else (Bool.false, ()) = (txnF (cn, cl, cp, ()) ts tn, ())
set_option maxRecDepth 100000 in
theorem txnMay_meets (hIn : Meets Tryd.prog (fun _ => none) 53 cIn) (h : ∀ (cn : Int) (cl : (List LabD)) (cp : Int) (ts : Int) (tn : Int), (∀ p ∈ (fun x => [inF x.1.1.1 1 4 = true] : Shape.den ⟨[pCfg, pTxn], []⟩ → List Prop) ⟨((cn, cl, cp, ()), (ts, tn, ()), ()), ()⟩, p) → txnMay_VC cn cl cp ts tn) : Meets Tryd.prog (fun _ => none) 74 ctxnMay :=
  meets_vc (E := envOf Tryd.prog [(53, (false, cIn))] [104, 39]) (envOf_ok (fun p hp => (by simp only [List.mem_cons, List.not_mem_nil, or_false] at hp; rcases hp with rfl; exact hIn)) (by kernel_rfl)) ⟨[pCfg, pTxn], []⟩ (fun x => fun ky9 st9 => look [] ky9) Tryd.func74 (by kernel_rfl) (by kernel_rfl) (fun x => [inF x.1.1.1 1 4 = true]) [] [.slot 0 false .bool] (fun x => (txnF x.1.1 x.1.2.1.1 x.1.2.1.2.1, ())) (fun x => txnMay_VC x.1.1.1 x.1.1.2.1 x.1.1.2.2.1 x.1.2.1.1 x.1.2.1.2.1) (fun x => by kernel_rfl) (fun x hp => h x.1.1.1 x.1.1.2.1 x.1.1.2.2.1 x.1.2.1.1 x.1.2.1.2.1 hp)

def MessageFault_VC (cn : Int) (cl : (List LabD)) (cp : Int) (mk : Int) (mf : Int) (mt : Int) (ms : Int) (mn : Int) (ml : Int) (my : Int) (mv : Int) (me : Int) (ma : Int) (md : Bool) (mc : Int) : Prop :=
  Nat.le (Nat.succ (pLen cl)) 4611686018427387904 ∧ bif pNe (cfgF (cn, cl, cp, ())) (0 : Int) then (cfgF (cn, cl, cp, ()), ()) = (msgF (cn, cl, cp, ()) (mk, mf, mt, ms, mn, ml, my, mv, me, ma, md, mc, ()), ()) else bif
    pNot (inF mk (1 : Int) (9 : Int)) then ((3 : Int), ()) = (msgF (cn, cl, cp, ()) (mk, mf, mt, ms, mn, ml, my, mv, me, ma, md, mc, ()), ()) else bif pNot (inF mf (0 : Int) (pSubI IntKind.i64 cn (1 : Int))) then ((2 : Int),
    ()) = (msgF (cn, cl, cp, ()) (mk, mf, mt, ms, mn, ml, my, mv, me, ma, md, mc, ()), ()) else bif pNot (inF mt (0 : Int) (pSubI IntKind.i64 cn (1 : Int))) then ((2 : Int), ()) = (msgF (cn, cl, cp, ()) (mk, mf, mt, ms, mn,
    ml, my, mv, me, ma, md, mc, ()), ()) else inF cn (1 : Int) (4 : Int) = Bool.true ∧ bif pNot (txnF (cn, cl, cp, ()) ms mn) then ((2 : Int), ()) = (msgF (cn, cl, cp, ()) (mk, mf, mt, ms, mn, ml, my, mv, me, ma, md, mc,
    ()), ()) else Nat.le (Nat.succ (pLen cl)) 4611686018427387904 ∧ bif pNot (placeF (cn, cl, cp, ()) ml) then ((2 : Int), ()) = (msgF (cn, cl, cp, ()) (mk, mf, mt, ms, mn, ml, my, mv, me, ma, md, mc, ()), ()) else bif pNot
    (inF my (0 : Int) (7 : Int)) then ((2 : Int), ()) = (msgF (cn, cl, cp, ()) (mk, mf, mt, ms, mn, ml, my, mv, me, ma, md, mc, ()), ()) else bif pNot (inF mv (0 : Int) (1073741824 : Int)) then ((2 : Int), ()) = (msgF (cn,
    cl, cp, ()) (mk, mf, mt, ms, mn, ml, my, mv, me, ma, md, mc, ()), ()) else bif pNot (inF me (0 : Int) (1048576 : Int)) then ((2 : Int), ()) = (msgF (cn, cl, cp, ()) (mk, mf, mt, ms, mn, ml, my, mv, me, ma, md, mc, ()),
    ()) else bif pNot (inF ma (0 : Int) (1048576 : Int)) then ((2 : Int), ()) = (msgF (cn, cl, cp, ()) (mk, mf, mt, ms, mn, ml, my, mv, me, ma, md, mc, ()), ()) else bif pNe mc (0 : Int) then bif pNe mc (11 : Int) then bif
    pNe mc (8 : Int) then ((2 : Int), ()) = (msgF (cn, cl, cp, ()) (mk, mf, mt, ms, mn, ml, my, mv, me, ma, md, mc, ()), ()) else bif pEq mk (1 : Int) then bif pNot (pAndB (pEq mk mk) (pAndB (pEq mf mf) (pAndB (pEq mt mt)
    (pAndB (pEq ms ms) (pAndB (pEq mn mn) (pAndB (pEq ml ml) (pAndB (pEq my my) (pAndB (pEq (0 : Int) mv) (pAndB (pEq (0 : Int) me) (pAndB (pEq ma ma) (pAndB (pBeq Bool.false md) (pEq (0 : Int) mc)))))))))))) then ((4 :
    Int), ()) = (msgF (cn, cl, cp, ()) (mk, mf, mt, ms, mn, ml, my, mv, me, ma, md, mc, ()), ()) else ((0 : Int), ()) = (msgF (cn, cl, cp, ()) (mk, mf, mt, ms, mn, ml, my, mv, me, ma, md, mc, ()), ()) else bif pEq mk (2 :
    Int) then bif pNot (pAndB (pEq mk mk) (pAndB (pEq mf mf) (pAndB (pEq mt mt) (pAndB (pEq ms ms) (pAndB (pEq mn mn) (pAndB (pEq (0 : Int) ml) (pAndB (pEq my my) (pAndB (pEq mv mv) (pAndB (pEq (0 : Int) me) (pAndB (pEq ma
    ma) (pAndB (pBeq Bool.false md) (pEq (0 : Int) mc)))))))))))) then ((4 : Int), ()) = (msgF (cn, cl, cp, ()) (mk, mf, mt, ms, mn, ml, my, mv, me, ma, md, mc, ()), ()) else ((0 : Int), ()) = (msgF (cn, cl, cp, ()) (mk, mf,
    mt, ms, mn, ml, my, mv, me, ma, md, mc, ()), ()) else bif pEq mk (5 : Int) then bif pEq mc (0 : Int) then bif pNot (pAndB (pEq mk mk) (pAndB (pEq mf mf) (pAndB (pEq mt mt) (pAndB (pEq ms ms) (pAndB (pEq mn mn) (pAndB
    (pEq ml ml) (pAndB (pEq my my) (pAndB (pEq mv mv) (pAndB (pEq me me) (pAndB (pEq ma ma) (pAndB (pBeq Bool.false md) (pEq mc mc)))))))))))) then ((4 : Int), ()) = (msgF (cn, cl, cp, ()) (mk, mf, mt, ms, mn, ml, my, mv,
    me, ma, md, mc, ()), ()) else ((0 : Int), ()) = (msgF (cn, cl, cp, ()) (mk, mf, mt, ms, mn, ml, my, mv, me, ma, md, mc, ()), ()) else bif pNot (pAndB (pEq mk mk) (pAndB (pEq mf mf) (pAndB (pEq mt mt) (pAndB (pEq ms ms)
    (pAndB (pEq mn mn) (pAndB (pEq ml ml) (pAndB (pEq my my) (pAndB (pEq (0 : Int) mv) (pAndB (pEq (0 : Int) me) (pAndB (pEq ma ma) (pAndB (pBeq Bool.false md) (pEq mc mc)))))))))))) then ((4 : Int), ()) = (msgF (cn, cl, cp,
    ()) (mk, mf, mt, ms, mn, ml, my, mv, me, ma, md, mc, ()), ()) else ((0 : Int), ()) = (msgF (cn, cl, cp, ()) (mk, mf, mt, ms, mn, ml, my, mv, me, ma, md, mc, ()), ()) else bif pEq mk (6 : Int) then bif pNot (pAndB (pEq mk
    mk) (pAndB (pEq mf mf) (pAndB (pEq mt mt) (pAndB (pEq ms ms) (pAndB (pEq mn mn) (pAndB (pEq (0 : Int) ml) (pAndB (pEq my my) (pAndB (pEq (0 : Int) mv) (pAndB (pEq (0 : Int) me) (pAndB (pEq ma ma) (pAndB (pBeq Bool.false
    md) (pEq mc mc)))))))))))) then ((4 : Int), ()) = (msgF (cn, cl, cp, ()) (mk, mf, mt, ms, mn, ml, my, mv, me, ma, md, mc, ()), ()) else ((0 : Int), ()) = (msgF (cn, cl, cp, ()) (mk, mf, mt, ms, mn, ml, my, mv, me, ma,
    md, mc, ()), ()) else bif pEq mk (4 : Int) then bif pNot (pAndB (pEq mk mk) (pAndB (pEq mf mf) (pAndB (pEq mt mt) (pAndB (pEq ms ms) (pAndB (pEq mn mn) (pAndB (pEq (0 : Int) ml) (pAndB (pEq (0 : Int) my) (pAndB (pEq (0 :
    Int) mv) (pAndB (pEq (0 : Int) me) (pAndB (pEq (0 : Int) ma) (pAndB (pBeq md md) (pEq (0 : Int) mc)))))))))))) then ((4 : Int), ()) = (msgF (cn, cl, cp, ()) (mk, mf, mt, ms, mn, ml, my, mv, me, ma, md, mc, ()), ()) else
    ((0 : Int), ()) = (msgF (cn, cl, cp, ()) (mk, mf, mt, ms, mn, ml, my, mv, me, ma, md, mc, ()), ()) else bif pEq mk (3 : Int) then bif pNot (pAndB (pEq mk mk) (pAndB (pEq mf mf) (pAndB (pEq mt mt) (pAndB (pEq ms ms)
    (pAndB (pEq mn mn) (pAndB (pEq ml ml) (pAndB (pEq my my) (pAndB (pEq (0 : Int) mv) (pAndB (pEq me me) (pAndB (pEq (0 : Int) ma) (pAndB (pBeq Bool.false md) (pEq (0 : Int) mc)))))))))))) then ((4 : Int), ()) = (msgF (cn,
    cl, cp, ()) (mk, mf, mt, ms, mn, ml, my, mv, me, ma, md, mc, ()), ()) else ((0 : Int), ()) = (msgF (cn, cl, cp, ()) (mk, mf, mt, ms, mn, ml, my, mv, me, ma, md, mc, ()), ()) else bif pEq mk (7 : Int) then bif pNot (pAndB
    (pEq mk mk) (pAndB (pEq mf mf) (pAndB (pEq mt mt) (pAndB (pEq ms ms) (pAndB (pEq mn mn) (pAndB (pEq ml ml) (pAndB (pEq my my) (pAndB (pEq (0 : Int) mv) (pAndB (pEq me me) (pAndB (pEq (0 : Int) ma) (pAndB (pBeq md md)
    (pEq (0 : Int) mc)))))))))))) then ((4 : Int), ()) = (msgF (cn, cl, cp, ()) (mk, mf, mt, ms, mn, ml, my, mv, me, ma, md, mc, ()), ()) else ((0 : Int), ()) = (msgF (cn, cl, cp, ()) (mk, mf, mt, ms, mn, ml, my, mv, me, ma,
    md, mc, ()), ()) else bif pNot (pAndB (pEq mk mk) (pAndB (pEq mf mf) (pAndB (pEq mt mt) (pAndB (pEq ms ms) (pAndB (pEq mn mn) (pAndB (pEq (0 : Int) ml) (pAndB (pEq (0 : Int) my) (pAndB (pEq (0 : Int) mv) (pAndB (pEq (0 :
    Int) me) (pAndB (pEq (0 : Int) ma) (pAndB (pBeq Bool.false md) (pEq (0 : Int) mc)))))))))))) then ((4 : Int), ()) = (msgF (cn, cl, cp, ()) (mk, mf, mt, ms, mn, ml, my, mv, me, ma, md, mc, ()), ()) else ((0 : Int), ()) =
    (msgF (cn, cl, cp, ()) (mk, mf, mt, ms, mn, ml, my, mv, me, ma, md, mc, ()), ()) else bif pEq mk (1 : Int) then bif pNot (pAndB (pEq mk mk) (pAndB (pEq mf mf) (pAndB (pEq mt mt) (pAndB (pEq ms ms) (pAndB (pEq mn mn)
    (pAndB (pEq ml ml) (pAndB (pEq my my) (pAndB (pEq (0 : Int) mv) (pAndB (pEq (0 : Int) me) (pAndB (pEq ma ma) (pAndB (pBeq Bool.false md) (pEq (0 : Int) mc)))))))))))) then ((4 : Int), ()) = (msgF (cn, cl, cp, ()) (mk,
    mf, mt, ms, mn, ml, my, mv, me, ma, md, mc, ()), ()) else ((0 : Int), ()) = (msgF (cn, cl, cp, ()) (mk, mf, mt, ms, mn, ml, my, mv, me, ma, md, mc, ()), ()) else bif pEq mk (2 : Int) then bif pNot (pAndB (pEq mk mk)
    (pAndB (pEq mf mf) (pAndB (pEq mt mt) (pAndB (pEq ms ms) (pAndB (pEq mn mn) (pAndB (pEq (0 : Int) ml) (pAndB (pEq my my) (pAndB (pEq mv mv) (pAndB (pEq (0 : Int) me) (pAndB (pEq ma ma) (pAndB (pBeq Bool.false md) (pEq (0
    : Int) mc)))))))))))) then ((4 : Int), ()) = (msgF (cn, cl, cp, ()) (mk, mf, mt, ms, mn, ml, my, mv, me, ma, md, mc, ()), ()) else ((0 : Int), ()) = (msgF (cn, cl, cp, ()) (mk, mf, mt, ms, mn, ml, my, mv, me, ma, md, mc,
    ()), ()) else bif pEq mk (5 : Int) then bif pEq mc (0 : Int) then bif pNot (pAndB (pEq mk mk) (pAndB (pEq mf mf) (pAndB (pEq mt mt) (pAndB (pEq ms ms) (pAndB (pEq mn mn) (pAndB (pEq ml ml) (pAndB (pEq my my) (pAndB (pEq
    mv mv) (pAndB (pEq me me) (pAndB (pEq ma ma) (pAndB (pBeq Bool.false md) (pEq mc mc)))))))))))) then ((4 : Int), ()) = (msgF (cn, cl, cp, ()) (mk, mf, mt, ms, mn, ml, my, mv, me, ma, md, mc, ()), ()) else ((0 : Int), ())
    = (msgF (cn, cl, cp, ()) (mk, mf, mt, ms, mn, ml, my, mv, me, ma, md, mc, ()), ()) else bif pNot (pAndB (pEq mk mk) (pAndB (pEq mf mf) (pAndB (pEq mt mt) (pAndB (pEq ms ms) (pAndB (pEq mn mn) (pAndB (pEq ml ml) (pAndB
    (pEq my my) (pAndB (pEq (0 : Int) mv) (pAndB (pEq (0 : Int) me) (pAndB (pEq ma ma) (pAndB (pBeq Bool.false md) (pEq mc mc)))))))))))) then ((4 : Int), ()) = (msgF (cn, cl, cp, ()) (mk, mf, mt, ms, mn, ml, my, mv, me, ma,
    md, mc, ()), ()) else ((0 : Int), ()) = (msgF (cn, cl, cp, ()) (mk, mf, mt, ms, mn, ml, my, mv, me, ma, md, mc, ()), ()) else bif pEq mk (6 : Int) then bif pNot (pAndB (pEq mk mk) (pAndB (pEq mf mf) (pAndB (pEq mt mt)
    (pAndB (pEq ms ms) (pAndB (pEq mn mn) (pAndB (pEq (0 : Int) ml) (pAndB (pEq my my) (pAndB (pEq (0 : Int) mv) (pAndB (pEq (0 : Int) me) (pAndB (pEq ma ma) (pAndB (pBeq Bool.false md) (pEq mc mc)))))))))))) then ((4 :
    Int), ()) = (msgF (cn, cl, cp, ()) (mk, mf, mt, ms, mn, ml, my, mv, me, ma, md, mc, ()), ()) else ((0 : Int), ()) = (msgF (cn, cl, cp, ()) (mk, mf, mt, ms, mn, ml, my, mv, me, ma, md, mc, ()), ()) else bif pEq mk (4 :
    Int) then bif pNot (pAndB (pEq mk mk) (pAndB (pEq mf mf) (pAndB (pEq mt mt) (pAndB (pEq ms ms) (pAndB (pEq mn mn) (pAndB (pEq (0 : Int) ml) (pAndB (pEq (0 : Int) my) (pAndB (pEq (0 : Int) mv) (pAndB (pEq (0 : Int) me)
    (pAndB (pEq (0 : Int) ma) (pAndB (pBeq md md) (pEq (0 : Int) mc)))))))))))) then ((4 : Int), ()) = (msgF (cn, cl, cp, ()) (mk, mf, mt, ms, mn, ml, my, mv, me, ma, md, mc, ()), ()) else ((0 : Int), ()) = (msgF (cn, cl,
    cp, ()) (mk, mf, mt, ms, mn, ml, my, mv, me, ma, md, mc, ()), ()) else bif pEq mk (3 : Int) then bif pNot (pAndB (pEq mk mk) (pAndB (pEq mf mf) (pAndB (pEq mt mt) (pAndB (pEq ms ms) (pAndB (pEq mn mn) (pAndB (pEq ml ml)
    (pAndB (pEq my my) (pAndB (pEq (0 : Int) mv) (pAndB (pEq me me) (pAndB (pEq (0 : Int) ma) (pAndB (pBeq Bool.false md) (pEq (0 : Int) mc)))))))))))) then ((4 : Int), ()) = (msgF (cn, cl, cp, ()) (mk, mf, mt, ms, mn, ml,
    my, mv, me, ma, md, mc, ()), ()) else ((0 : Int), ()) = (msgF (cn, cl, cp, ()) (mk, mf, mt, ms, mn, ml, my, mv, me, ma, md, mc, ()), ()) else bif pEq mk (7 : Int) then bif pNot (pAndB (pEq mk mk) (pAndB (pEq mf mf)
    (pAndB (pEq mt mt) (pAndB (pEq ms ms) (pAndB (pEq mn mn) (pAndB (pEq ml ml) (pAndB (pEq my my) (pAndB (pEq (0 : Int) mv) (pAndB (pEq me me) (pAndB (pEq (0 : Int) ma) (pAndB (pBeq md md) (pEq (0 : Int) mc)))))))))))) then
    ((4 : Int), ()) = (msgF (cn, cl, cp, ()) (mk, mf, mt, ms, mn, ml, my, mv, me, ma, md, mc, ()), ()) else ((0 : Int), ()) = (msgF (cn, cl, cp, ()) (mk, mf, mt, ms, mn, ml, my, mv, me, ma, md, mc, ()), ()) else bif pNot
    (pAndB (pEq mk mk) (pAndB (pEq mf mf) (pAndB (pEq mt mt) (pAndB (pEq ms ms) (pAndB (pEq mn mn) (pAndB (pEq (0 : Int) ml) (pAndB (pEq (0 : Int) my) (pAndB (pEq (0 : Int) mv) (pAndB (pEq (0 : Int) me) (pAndB (pEq (0 : Int)
    ma) (pAndB (pBeq Bool.false md) (pEq (0 : Int) mc)))))))))))) then ((4 : Int), ()) = (msgF (cn, cl, cp, ()) (mk, mf, mt, ms, mn, ml, my, mv, me, ma, md, mc, ()), ()) else ((0 : Int), ()) = (msgF (cn, cl, cp, ()) (mk, mf,
    mt, ms, mn, ml, my, mv, me, ma, md, mc, ()), ()) else bif pEq mk (1 : Int) then bif pNot (pAndB (pEq mk mk) (pAndB (pEq mf mf) (pAndB (pEq mt mt) (pAndB (pEq ms ms) (pAndB (pEq mn mn) (pAndB (pEq ml ml) (pAndB (pEq my
    my) (pAndB (pEq (0 : Int) mv) (pAndB (pEq (0 : Int) me) (pAndB (pEq ma ma) (pAndB (pBeq Bool.false md) (pEq (0 : Int) mc)))))))))))) then ((4 : Int), ()) = (msgF (cn, cl, cp, ()) (mk, mf, mt, ms, mn, ml, my, mv, me, ma,
    md, mc, ()), ()) else ((0 : Int), ()) = (msgF (cn, cl, cp, ()) (mk, mf, mt, ms, mn, ml, my, mv, me, ma, md, mc, ()), ()) else bif pEq mk (2 : Int) then bif pNot (pAndB (pEq mk mk) (pAndB (pEq mf mf) (pAndB (pEq mt mt)
    (pAndB (pEq ms ms) (pAndB (pEq mn mn) (pAndB (pEq (0 : Int) ml) (pAndB (pEq my my) (pAndB (pEq mv mv) (pAndB (pEq (0 : Int) me) (pAndB (pEq ma ma) (pAndB (pBeq Bool.false md) (pEq (0 : Int) mc)))))))))))) then ((4 :
    Int), ()) = (msgF (cn, cl, cp, ()) (mk, mf, mt, ms, mn, ml, my, mv, me, ma, md, mc, ()), ()) else ((0 : Int), ()) = (msgF (cn, cl, cp, ()) (mk, mf, mt, ms, mn, ml, my, mv, me, ma, md, mc, ()), ()) else bif pEq mk (5 :
    Int) then bif pEq mc (0 : Int) then bif pNot (pAndB (pEq mk mk) (pAndB (pEq mf mf) (pAndB (pEq mt mt) (pAndB (pEq ms ms) (pAndB (pEq mn mn) (pAndB (pEq ml ml) (pAndB (pEq my my) (pAndB (pEq mv mv) (pAndB (pEq me me)
    (pAndB (pEq ma ma) (pAndB (pBeq Bool.false md) (pEq mc mc)))))))))))) then ((4 : Int), ()) = (msgF (cn, cl, cp, ()) (mk, mf, mt, ms, mn, ml, my, mv, me, ma, md, mc, ()), ()) else ((0 : Int), ()) = (msgF (cn, cl, cp, ())
    (mk, mf, mt, ms, mn, ml, my, mv, me, ma, md, mc, ()), ()) else bif pNot (pAndB (pEq mk mk) (pAndB (pEq mf mf) (pAndB (pEq mt mt) (pAndB (pEq ms ms) (pAndB (pEq mn mn) (pAndB (pEq ml ml) (pAndB (pEq my my) (pAndB (pEq (0
    : Int) mv) (pAndB (pEq (0 : Int) me) (pAndB (pEq ma ma) (pAndB (pBeq Bool.false md) (pEq mc mc)))))))))))) then ((4 : Int), ()) = (msgF (cn, cl, cp, ()) (mk, mf, mt, ms, mn, ml, my, mv, me, ma, md, mc, ()), ()) else ((0
    : Int), ()) = (msgF (cn, cl, cp, ()) (mk, mf, mt, ms, mn, ml, my, mv, me, ma, md, mc, ()), ()) else bif pEq mk (6 : Int) then bif pNot (pAndB (pEq mk mk) (pAndB (pEq mf mf) (pAndB (pEq mt mt) (pAndB (pEq ms ms) (pAndB
    (pEq mn mn) (pAndB (pEq (0 : Int) ml) (pAndB (pEq my my) (pAndB (pEq (0 : Int) mv) (pAndB (pEq (0 : Int) me) (pAndB (pEq ma ma) (pAndB (pBeq Bool.false md) (pEq mc mc)))))))))))) then ((4 : Int), ()) = (msgF (cn, cl, cp,
    ()) (mk, mf, mt, ms, mn, ml, my, mv, me, ma, md, mc, ()), ()) else ((0 : Int), ()) = (msgF (cn, cl, cp, ()) (mk, mf, mt, ms, mn, ml, my, mv, me, ma, md, mc, ()), ()) else bif pEq mk (4 : Int) then bif pNot (pAndB (pEq mk
    mk) (pAndB (pEq mf mf) (pAndB (pEq mt mt) (pAndB (pEq ms ms) (pAndB (pEq mn mn) (pAndB (pEq (0 : Int) ml) (pAndB (pEq (0 : Int) my) (pAndB (pEq (0 : Int) mv) (pAndB (pEq (0 : Int) me) (pAndB (pEq (0 : Int) ma) (pAndB
    (pBeq md md) (pEq (0 : Int) mc)))))))))))) then ((4 : Int), ()) = (msgF (cn, cl, cp, ()) (mk, mf, mt, ms, mn, ml, my, mv, me, ma, md, mc, ()), ()) else ((0 : Int), ()) = (msgF (cn, cl, cp, ()) (mk, mf, mt, ms, mn, ml,
    my, mv, me, ma, md, mc, ()), ()) else bif pEq mk (3 : Int) then bif pNot (pAndB (pEq mk mk) (pAndB (pEq mf mf) (pAndB (pEq mt mt) (pAndB (pEq ms ms) (pAndB (pEq mn mn) (pAndB (pEq ml ml) (pAndB (pEq my my) (pAndB (pEq (0
    : Int) mv) (pAndB (pEq me me) (pAndB (pEq (0 : Int) ma) (pAndB (pBeq Bool.false md) (pEq (0 : Int) mc)))))))))))) then ((4 : Int), ()) = (msgF (cn, cl, cp, ()) (mk, mf, mt, ms, mn, ml, my, mv, me, ma, md, mc, ()), ())
    else ((0 : Int), ()) = (msgF (cn, cl, cp, ()) (mk, mf, mt, ms, mn, ml, my, mv, me, ma, md, mc, ()), ()) else bif pEq mk (7 : Int) then bif pNot (pAndB (pEq mk mk) (pAndB (pEq mf mf) (pAndB (pEq mt mt) (pAndB (pEq ms ms)
    (pAndB (pEq mn mn) (pAndB (pEq ml ml) (pAndB (pEq my my) (pAndB (pEq (0 : Int) mv) (pAndB (pEq me me) (pAndB (pEq (0 : Int) ma) (pAndB (pBeq md md) (pEq (0 : Int) mc)))))))))))) then ((4 : Int), ()) = (msgF (cn, cl, cp,
    ()) (mk, mf, mt, ms, mn, ml, my, mv, me, ma, md, mc, ()), ()) else ((0 : Int), ()) = (msgF (cn, cl, cp, ()) (mk, mf, mt, ms, mn, ml, my, mv, me, ma, md, mc, ()), ()) else bif pNot (pAndB (pEq mk mk) (pAndB (pEq mf mf)
    (pAndB (pEq mt mt) (pAndB (pEq ms ms) (pAndB (pEq mn mn) (pAndB (pEq (0 : Int) ml) (pAndB (pEq (0 : Int) my) (pAndB (pEq (0 : Int) mv) (pAndB (pEq (0 : Int) me) (pAndB (pEq (0 : Int) ma) (pAndB (pBeq Bool.false md) (pEq
    (0 : Int) mc)))))))))))) then ((4 : Int), ()) = (msgF (cn, cl, cp, ()) (mk, mf, mt, ms, mn, ml, my, mv, me, ma, md, mc, ()), ()) else ((0 : Int), ()) = (msgF (cn, cl, cp, ()) (mk, mf, mt, ms, mn, ml, my, mv, me, ma, md,
    mc, ()), ())
set_option maxRecDepth 100000 in
theorem MessageFault_meets (hcFault : Meets Tryd.prog (fun _ => none) 39 ccFault) (hIn : Meets Tryd.prog (fun _ => none) 53 cIn) (htxnMay : Meets Tryd.prog (fun _ => none) 74 ctxnMay) (hlabelMay : Meets Tryd.prog (fun _ => none) 75 clabelMay) (h : ∀ (cn : Int) (cl : (List LabD)) (cp : Int) (mk : Int) (mf : Int) (mt : Int) (ms : Int) (mn : Int) (ml : Int) (my : Int) (mv : Int) (me : Int) (ma : Int) (md : Bool) (mc : Int), (∀ p ∈ (fun x => [pLen x.1.1.2.1 < 4611686018427387904] : Shape.den ⟨[pCfg, pMsg], []⟩ → List Prop) ⟨((cn, cl, cp, ()), (mk, mf, mt, ms, mn, ml, my, mv, me, ma, md, mc, ()), ()), ()⟩, p) → MessageFault_VC cn cl cp mk mf mt ms mn ml my mv me ma md mc) : Meets Tryd.prog (fun _ => none) 40 cMessageFault :=
  meets_vc (E := envOf Tryd.prog [(39, (false, ccFault)), (53, (false, cIn)), (74, (false, ctxnMay)), (75, (false, clabelMay))] [104, 39]) (envOf_ok (fun p hp => (by simp only [List.mem_cons, List.not_mem_nil, or_false] at hp; rcases hp with rfl | rfl | rfl | rfl; exact hcFault; exact hIn; exact htxnMay; exact hlabelMay)) (by kernel_rfl)) ⟨[pCfg, pMsg], []⟩ (fun x => fun ky9 st9 => look [] ky9) Tryd.func40 (by kernel_rfl) (by kernel_rfl) (fun x => [pLen x.1.1.2.1 < 4611686018427387904]) [] [.slot 0 false tI] (fun x => (msgF x.1.1 x.1.2.1, ())) (fun x => MessageFault_VC x.1.1.1 x.1.1.2.1 x.1.1.2.2.1 x.1.2.1.1 x.1.2.1.2.1 x.1.2.1.2.2.1 x.1.2.1.2.2.2.1 x.1.2.1.2.2.2.2.1 x.1.2.1.2.2.2.2.2.1 x.1.2.1.2.2.2.2.2.2.1 x.1.2.1.2.2.2.2.2.2.2.1 x.1.2.1.2.2.2.2.2.2.2.2.1 x.1.2.1.2.2.2.2.2.2.2.2.2.1 x.1.2.1.2.2.2.2.2.2.2.2.2.2.1 x.1.2.1.2.2.2.2.2.2.2.2.2.2.2.1) (fun x => by kernel_rfl) (fun x hp => h x.1.1.1 x.1.1.2.1 x.1.1.2.2.1 x.1.2.1.1 x.1.2.1.2.1 x.1.2.1.2.2.1 x.1.2.1.2.2.2.1 x.1.2.1.2.2.2.2.1 x.1.2.1.2.2.2.2.2.1 x.1.2.1.2.2.2.2.2.2.1 x.1.2.1.2.2.2.2.2.2.2.1 x.1.2.1.2.2.2.2.2.2.2.2.1 x.1.2.1.2.2.2.2.2.2.2.2.2.1 x.1.2.1.2.2.2.2.2.2.2.2.2.2.1 x.1.2.1.2.2.2.2.2.2.2.2.2.2.2.1 hp)

end Go.Proofs.YtkimjjndbcbiaaaDoor
