/- Contracts, and what the evaluator says, as plain propositions: PaV. Printed by vc.py. -/
import Derived.Test.YtkhnakdmkhidbaaPbW
import Derived.Test.YtkhnakdmkhidbaaSvA
namespace Go.Proofs.Ytkhnakdmkhidbaa
open Go.RowKit Go.ChangeShapes Go.WideShapes Go.Deep

def cone : Ctr := shCtr ⟨[pLab], []⟩ (fun _ => []) [] [.slot 0 false .bool] (fun x => (labF x.1.1, ()))
def clCheck : Ctr := shCtr ⟨[pCfg], []⟩ (fun x => [pLen x.1.1.2.1 < 4611686018427387904]) [] [.slot 0 false tI] (fun x => (cfgF x.1.1, ()))
def ccFault : Ctr := shCtr ⟨[pCfg], []⟩ (fun x => [pLen x.1.1.2.1 < 4611686018427387904]) [] [.slot 0 false tI] (fun x => (cfgF x.1.1, ()))
def clabelMay : Ctr := shCtr ⟨[pCfg, .one (.rd tI)], []⟩ (fun x => [pLen x.1.1.2.1 < 4611686018427387904]) [] [.slot 0 false .bool] (fun x => (placeF x.1.1 x.1.2.1, ()))

def one_VC (al : Int) (ak : Int) : Prop :=
  bif pGe al (0 : Int) then bif pLe al (9 : Int) then bif pGe ak (0 : Int) then (pLe ak (15 : Int), ()) = (labF (al, ak, ()), ()) else (Bool.false, ()) = (labF (al, ak, ()), ()) else (Bool.false, ()) = (labF (al, ak, ()),
    ()) else (Bool.false, ()) = (labF (al, ak, ()), ())
set_option maxRecDepth 100000 in
theorem one_meets  (h : ∀ (al : Int) (ak : Int), one_VC al ak) : Meets Try.prog (fun _ => none) 62 cone :=
  meets_vc (E := envOf Try.prog [] [29, 51, 53, 55, 110, 103, 79]) (envOf_ok (fun p hp => by cases hp) (by kernel_rfl)) ⟨[pLab], []⟩ (fun x => fun ky9 st9 => look [] ky9) Try.func62 (by kernel_rfl) (by kernel_rfl) (fun _ => []) [] [.slot 0 false .bool] (fun x => (labF x.1.1, ())) (fun x => one_VC x.1.1.1 x.1.1.2.1) (fun x => by kernel_rfl) (fun x _ => h x.1.1.1 x.1.1.2.1)

def lCheck_VC (cn : Int) (cl : (List LabD)) (cp : Int) : Prop :=
  bif pLt cn (1 : Int) then ((2 : Int), ()) = (cfgF (cn, cl, cp, ()), ()) else bif pGt cn (4 : Int) then ((2 : Int), ()) = (cfgF (cn, cl, cp, ()), ()) else bif pLt (pInt (pLen cl)) (1 : Int) then ((1 : Int), ()) = (cfgF
    (cn, cl, cp, ()), ()) else bif pGt (pInt (pLen cl)) (6 : Int) then ((1 : Int), ()) = (cfgF (cn, cl, cp, ()), ()) else lCheckAInv cn cl cp ((0 : Int), ()) ∧ ∀ (y : kden Bool.false tI × PUnit), lCheckAInv cn cl cp y → bif
    pLt y.1 (pInt (pLen cl)) then pIn y.1 (pLen cl) ∧ bif pNot (labF ((pGet tyTxn cl (pNat y.1)).1, (pGet tyTxn cl (pNat y.1)).2.1, ())) then ((2 : Int), ()) = (cfgF (cn, cl, cp, ()), ()) else pTo y.1 (pLen cl) ∧ lCheckBInv
    cn cl cp y.1 ((0 : Int), ()) ∧ ∀ (y_1 : kden Bool.false tI × PUnit), lCheckBInv cn cl cp y.1 y_1 → bif pLt y_1.1 (pInt (pLen (pSub cl 0 (pNat y.1)))) then pIn y_1.1 (pLen (pSub cl 0 (pNat y.1))) ∧ bif pAndB (pEq (pGet
    tyTxn (pSub cl 0 (pNat y.1)) (pNat y_1.1)).1 (pGet tyTxn cl (pNat y.1)).1) (pEq (pGet tyTxn (pSub cl 0 (pNat y.1)) (pNat y_1.1)).2.1 (pGet tyTxn cl (pNat y.1)).2.1) then ((7 : Int), ()) = (cfgF (cn, cl, cp, ()), ()) else
    lCheckBInv cn cl cp y.1 (pAdd IntKind.i64 y_1.1 (1 : Int), ()) ∧ Nat.le (Nat.succ (lCheckBMu cn cl cp y.1 (pAdd IntKind.i64 y_1.1 (1 : Int), ()))) (lCheckBMu cn cl cp y.1 y_1) else lCheckAInv cn cl cp (pAdd IntKind.i64
    y.1 (1 : Int), ()) ∧ Nat.le (Nat.succ (lCheckAMu cn cl cp (pAdd IntKind.i64 y.1 (1 : Int), ()))) (lCheckAMu cn cl cp y) else bif pLt cp (1 : Int) then ((2 : Int), ()) = (cfgF (cn, cl, cp, ()), ()) else bif pGt cp
    (1048576 : Int) then ((2 : Int), ()) = (cfgF (cn, cl, cp, ()), ()) else ((0 : Int), ()) = (cfgF (cn, cl, cp, ()), ())
set_option maxRecDepth 100000 in
theorem lCheck_meets (hone : Meets Try.prog (fun _ => none) 62 cone) (h : ∀ (cn : Int) (cl : (List LabD)) (cp : Int), (∀ p ∈ (fun x => [pLen x.1.1.2.1 < 4611686018427387904] : Shape.den ⟨[pCfg], []⟩ → List Prop) ⟨((cn, cl, cp, ()), ()), ()⟩, p) → lCheck_VC cn cl cp) : Meets Try.prog (fun _ => none) 52 clCheck :=
  meets_vc (E := envOf Try.prog [(62, (false, cone))] [29, 51, 53, 55, 110, 103, 79]) (envOf_ok (fun p hp => (by simp only [List.mem_cons, List.not_mem_nil, or_false] at hp; rcases hp with rfl; exact hone)) (by kernel_rfl)) ⟨[pCfg], []⟩ (fun x => fun ky9 st9 => look [(6, (⟨[.slot 28 false tI], lCheckAInv x.1.1.1 x.1.1.2.1 x.1.1.2.2.1, lCheckAMu x.1.1.1 x.1.1.2.1 x.1.1.2.2.1⟩ : Ann)), (11, (⟨[.slot 41 false tI], lCheckBInv x.1.1.1 x.1.1.2.1 x.1.1.2.2.1 (slotI st9 28), lCheckBMu x.1.1.1 x.1.1.2.1 x.1.1.2.2.1 (slotI st9 28)⟩ : Ann))] ky9) Try.func52 (by kernel_rfl) (by kernel_rfl) (fun x => [pLen x.1.1.2.1 < 4611686018427387904]) [] [.slot 0 false tI] (fun x => (cfgF x.1.1, ())) (fun x => lCheck_VC x.1.1.1 x.1.1.2.1 x.1.1.2.2.1) (fun x => by kernel_rfl) (fun x hp => h x.1.1.1 x.1.1.2.1 x.1.1.2.2.1 hp)

def cFault_VC (cn : Int) (cl : (List LabD)) (cp : Int) : Prop :=
  bif pNot (inF cn (1 : Int) (4 : Int)) then ((2 : Int), ()) = (cfgF (cn, cl, cp, ()), ()) else bif pNot (inF (pInt (pLen cl)) (1 : Int) (6 : Int)) then ((1 : Int), ()) = (cfgF (cn, cl, cp, ()), ()) else lCheckAInv cn cl
    cp ((0 : Int), ()) ∧ ∀ (y : kden Bool.false tI × PUnit), lCheckAInv cn cl cp y → bif pLt y.1 (pInt (pLen cl)) then pIn y.1 (pLen cl) ∧ bif pNot (inF (pGet tyTxn cl (pNat y.1)).1 (0 : Int) (9 : Int)) then ((2 : Int), ())
    = (cfgF (cn, cl, cp, ()), ()) else pIn y.1 (pLen cl) ∧ bif pNot (inF (pGet tyTxn cl (pNat y.1)).2.1 (0 : Int) (15 : Int)) then ((2 : Int), ()) = (cfgF (cn, cl, cp, ()), ()) else lCheckBInv cn cl cp y.1 ((0 : Int), ()) ∧
    ∀ (y_1 : kden Bool.false tI × PUnit), lCheckBInv cn cl cp y.1 y_1 → bif pLt y_1.1 y.1 then pIn y_1.1 (pLen cl) ∧ pIn y.1 (pLen cl) ∧ bif pAndB (pEq (pGet tyTxn cl (pNat y_1.1)).1 (pGet tyTxn cl (pNat y.1)).1) (pEq (pGet
    tyTxn cl (pNat y_1.1)).2.1 (pGet tyTxn cl (pNat y.1)).2.1) then ((7 : Int), ()) = (cfgF (cn, cl, cp, ()), ()) else lCheckBInv cn cl cp y.1 (pAdd IntKind.i64 y_1.1 (1 : Int), ()) ∧ Nat.le (Nat.succ (lCheckBMu cn cl cp y.1
    (pAdd IntKind.i64 y_1.1 (1 : Int), ()))) (lCheckBMu cn cl cp y.1 y_1) else lCheckAInv cn cl cp (pAdd IntKind.i64 y.1 (1 : Int), ()) ∧ Nat.le (Nat.succ (lCheckAMu cn cl cp (pAdd IntKind.i64 y.1 (1 : Int), ()))) (lCheckAMu
    cn cl cp y) else bif pNot (inF cp (1 : Int) (1048576 : Int)) then ((2 : Int), ()) = (cfgF (cn, cl, cp, ()), ()) else ((0 : Int), ()) = (cfgF (cn, cl, cp, ()), ())
set_option maxRecDepth 100000 in
theorem cFault_meets (hIn : Meets Try.prog (fun _ => none) 51 cIn) (h : ∀ (cn : Int) (cl : (List LabD)) (cp : Int), (∀ p ∈ (fun x => [pLen x.1.1.2.1 < 4611686018427387904] : Shape.den ⟨[pCfg], []⟩ → List Prop) ⟨((cn, cl, cp, ()), ()), ()⟩, p) → cFault_VC cn cl cp) : Meets Try.prog (fun _ => none) 53 ccFault :=
  meets_vc (E := envOf Try.prog [(51, (false, cIn))] [29, 51, 53, 55, 110, 103, 79]) (envOf_ok (fun p hp => (by simp only [List.mem_cons, List.not_mem_nil, or_false] at hp; rcases hp with rfl; exact hIn)) (by kernel_rfl)) ⟨[pCfg], []⟩ (fun x => fun ky9 st9 => look [(6, (⟨[.slot 3 false tI], lCheckAInv x.1.1.1 x.1.1.2.1 x.1.1.2.2.1, lCheckAMu x.1.1.1 x.1.1.2.1 x.1.1.2.2.1⟩ : Ann)), (11, (⟨[.slot 4 false tI], lCheckBInv x.1.1.1 x.1.1.2.1 x.1.1.2.2.1 (slotI st9 3), lCheckBMu x.1.1.1 x.1.1.2.1 x.1.1.2.2.1 (slotI st9 3)⟩ : Ann))] ky9) Try.func53 (by kernel_rfl) (by kernel_rfl) (fun x => [pLen x.1.1.2.1 < 4611686018427387904]) [] [.slot 0 false tI] (fun x => (cfgF x.1.1, ())) (fun x => cFault_VC x.1.1.1 x.1.1.2.1 x.1.1.2.2.1) (fun x => by kernel_rfl) (fun x hp => h x.1.1.1 x.1.1.2.1 x.1.1.2.2.1 hp)

def labelMay_VC (cn : Int) (cl : (List LabD)) (cp : Int) (l : Int) : Prop :=
  (inF l (0 : Int) (pSubI IntKind.i64 (pInt (pLen cl)) (1 : Int)), ()) = (placeF (cn, cl, cp, ()) l, ())
set_option maxRecDepth 100000 in
theorem labelMay_meets (hIn : Meets Try.prog (fun _ => none) 51 cIn) (h : ∀ (cn : Int) (cl : (List LabD)) (cp : Int) (l : Int), (∀ p ∈ (fun x => [pLen x.1.1.2.1 < 4611686018427387904] : Shape.den ⟨[pCfg, .one (.rd tI)], []⟩ → List Prop) ⟨((cn, cl, cp, ()), l, ()), ()⟩, p) → labelMay_VC cn cl cp l) : Meets Try.prog (fun _ => none) 54 clabelMay :=
  meets_vc (E := envOf Try.prog [(51, (false, cIn))] [29, 51, 53, 55, 110, 103, 79]) (envOf_ok (fun p hp => (by simp only [List.mem_cons, List.not_mem_nil, or_false] at hp; rcases hp with rfl; exact hIn)) (by kernel_rfl)) ⟨[pCfg, .one (.rd tI)], []⟩ (fun x => fun ky9 st9 => look [] ky9) Try.func54 (by kernel_rfl) (by kernel_rfl) (fun x => [pLen x.1.1.2.1 < 4611686018427387904]) [] [.slot 0 false .bool] (fun x => (placeF x.1.1 x.1.2.1, ())) (fun x => labelMay_VC x.1.1.1 x.1.1.2.1 x.1.1.2.2.1 x.1.2.1) (fun x => by kernel_rfl) (fun x hp => h x.1.1.1 x.1.1.2.1 x.1.1.2.2.1 x.1.2.1 hp)

end Go.Proofs.Ytkhnakdmkhidbaa
