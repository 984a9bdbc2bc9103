/- Contracts, and what the evaluator says, as plain propositions: NuV. Printed by vc.py. -/
import Derived.Test.YtgocemdodabgkaaDoorJ1

/- Contracts, and what the evaluator says, as plain propositions: NsV. Printed by vc.py. -/
namespace Go.Proofs.YtgocemdodabgkaaDoor
open Go.RowKit Go.ChangeShapes Go.WideShapes Go.Deep

abbrev In_S : Shape := ⟨[.one (.rd tI), .one (.rd tI), .one (.rd tI)], []⟩
abbrev In_f : Shape.den In_S → denVars [.slot 0 false .bool] := fun x => (inF x.1.1 x.1.2.1 x.1.2.2.1, ())
abbrev In_p : Shape.den In_S → List Prop := fun _ => []
def cIn : Ctr := shCtr In_S In_p [] [.slot 0 false .bool] In_f
abbrev one_S : Shape := ⟨[pLab], []⟩
abbrev one_f : Shape.den one_S → denVars [.slot 0 false .bool] := fun x => (labF x.1.1, ())
abbrev one_p : Shape.den one_S → List Prop := fun _ => []
def cone : Ctr := shCtr one_S one_p [] [.slot 0 false .bool] one_f
abbrev lCheck_S : Shape := ⟨[pCfg], []⟩
abbrev lCheck_f : Shape.den lCheck_S → denVars [.slot 0 false tI] := fun x => (cfgF x.1.1, ())
abbrev lCheck_p : Shape.den lCheck_S → List Prop := fun x => [pLen x.1.1.2.1 < 4611686018427387904]
def clCheck : Ctr := shCtr lCheck_S lCheck_p [] [.slot 0 false tI] lCheck_f
def ccFault : Ctr := shCtr lCheck_S lCheck_p [] [.slot 0 false tI] lCheck_f
abbrev labelMay_S : Shape := ⟨[pCfg, .one (.rd tI)], []⟩
abbrev labelMay_f : Shape.den labelMay_S → denVars [.slot 0 false .bool] := fun x => (placeF x.1.1 x.1.2.1, ())
abbrev labelMay_p : Shape.den labelMay_S → List Prop := fun x => [pLen x.1.1.2.1 < 4611686018427387904]
def clabelMay : Ctr := shCtr labelMay_S labelMay_p [] [.slot 0 false .bool] labelMay_f
abbrev wtxn_S : Shape := ⟨[pCfg, pTxn], []⟩
abbrev wtxn_f : Shape.den wtxn_S → denVars [.slot 0 false .bool] := fun x => (txnF x.1.1 x.1.2.1.1 x.1.2.1.2.1, ())
abbrev wtxn_p : Shape.den wtxn_S → List Prop := fun _ => []
def cwtxn : Ctr := shCtr wtxn_S wtxn_p [] [.slot 0 false .bool] wtxn_f
abbrev wkey_S : Shape := ⟨[.one (.rd tI)], []⟩
abbrev wkey_f : Shape.den wkey_S → denVars [.slot 0 false .bool] := fun x => (inF x.1.1 0 7, ())
abbrev wkey_p : Shape.den wkey_S → List Prop := fun _ => []
def cwkey : Ctr := shCtr wkey_S wkey_p [] [.slot 0 false .bool] wkey_f
abbrev wvalue_f : Shape.den wkey_S → denVars [.slot 0 false .bool] := fun x => (inF x.1.1 0 1073741824, ())
def cwvalue : Ctr := shCtr wkey_S wkey_p [] [.slot 0 false .bool] wvalue_f
abbrev wask_f : Shape.den wkey_S → denVars [.slot 0 false .bool] := fun x => (inF x.1.1 0 1048576, ())
def cwask : Ctr := shCtr wkey_S wkey_p [] [.slot 0 false .bool] wask_f
abbrev wcode_f : Shape.den wkey_S → denVars [.slot 0 false .bool] := fun x => (codeF x.1.1, ())
def cwcode : Ctr := shCtr wkey_S wkey_p [] [.slot 0 false .bool] wcode_f
abbrev txnMay_p : Shape.den wtxn_S → List Prop := fun x => [inF x.1.1.1 1 4 = true]
def ctxnMay : Ctr := shCtr wtxn_S txnMay_p [] [.slot 0 false .bool] wtxn_f
abbrev MessageFault_S : Shape := ⟨[pCfg, pMsg], []⟩
abbrev MessageFault_f : Shape.den MessageFault_S → denVars [.slot 0 false tI] := fun x => (msgF x.1.1 x.1.2.1, ())
abbrev MessageFault_p : Shape.den MessageFault_S → List Prop := fun x => [pLen x.1.1.2.1 < 4611686018427387904]
def cMessageFault : Ctr := shCtr MessageFault_S MessageFault_p [] [.slot 0 false tI] MessageFault_f
abbrev eqsNeV : List TypeId := [115, 53]

def In_VC (a : Int) (b : Int) (c : Int) : Prop :=
  bif pGe a b then (pLe a c, ()) = (inF a b c, ()) else (Bool.false, ()) = (inF a b c, ())
set_option maxRecDepth 100000 in
theorem In_meets  (h : ∀ (a : Int) (b : Int) (c : Int), In_VC a b c) : Mt 26 cIn :=
  meets_vc (E := envN Tryd.prog (fun _ => none) [] eqsNeV [(43, [0])] []) (envN_ok (fun p hp => by cases hp) (by kernel_rfl)) In_S (fun x => fun ky9 st9 => look [] ky9) Tryd.func26 (by kernel_rfl) (by kernel_rfl) In_p [] [.slot 0 false .bool] In_f (fun x => In_VC x.1.1 x.1.2.1 x.1.2.2.1) (fun x => by kernel_rfl) (fun x _ => h x.1.1 x.1.2.1 x.1.2.2.1)

def one_VC (al : Int) (ak : Int) : Prop :=
  bif pGe al (0 : Int) then bif pLe al (9 : Int) then bif pGe ak (0 : Int) then (pLe ak (15 : Int), ()) = (labF (al, ak, ()), ()) else (Bool.false, ()) = (labF (al, ak, ()), ()) else (Bool.false, ()) = (labF (al, ak, ()), ()) else
 (Bool.false, ()) = (labF (al, ak, ()), ())
set_option maxRecDepth 100000 in
theorem one_meets  (h : ∀ (al : Int) (ak : Int), one_VC al ak) : Mt 56 cone :=
  meets_vc (E := envN Tryd.prog (fun _ => none) [] eqsNeV [(43, [0])] []) (envN_ok (fun p hp => by cases hp) (by kernel_rfl)) one_S (fun x => fun ky9 st9 => look [] ky9) Tryd.func56 (by kernel_rfl) (by kernel_rfl) one_p [] [.slot 0 false .bool] one_f (fun x => one_VC x.1.1.1 x.1.1.2.1) (fun x => by kernel_rfl) (fun x _ => h x.1.1.1 x.1.1.2.1)

def lCheck_VC (cn : Int) (cl : (List LabD)) (cp : Int) : Prop :=
  bif pLt cn (1 : Int) then ((2 : Int), ()) = (cfgF (cn, cl, cp, ()), ()) else bif pGt cn (4 : Int) then ((2 : Int), ()) = (cfgF (cn, cl, cp, ()), ()) else bif pLt (pInt (pLen cl)) (1 : Int) then ((1 : Int), ()) = (cfgF (cn, cl, cp, ()), ())
 else bif pGt (pInt (pLen cl)) (6 : Int) then ((1 : Int), ()) = (cfgF (cn, cl, cp, ()), ()) else lCheckAInv cn cl cp ((0 : Int), ()) ∧ ∀ (y : kden Bool.false tI × PUnit), lCheckAInv cn cl cp y → bif pLt y.1 (pInt (pLen cl)) then pIn y.1
 (pLen cl) ∧ bif pNot (labF (pGet tyLab cl (pNat y.1))) then ((2 : Int), ()) = (cfgF (cn, cl, cp, ()), ()) else pTo y.1 (pLen cl) ∧ lCheckBInv cn cl cp y.1 ((0 : Int), ()) ∧ ∀ (y_1 : kden Bool.false tI × PUnit), lCheckBInv cn cl cp y.1 y_1 →
 bif pLt y_1.1 (pInt (pLen (pSub cl 0 (pNat y.1)))) then pIn y_1.1 (pLen (pSub cl 0 (pNat y.1))) ∧ bif pAndB (pEq (pGet tyLab (pSub cl 0 (pNat y.1)) (pNat y_1.1)).1 (pGet tyLab cl (pNat y.1)).1) (pEq (pGet tyLab (pSub cl 0 (pNat y.1)) (pNat
 y_1.1)).2.1 (pGet tyLab cl (pNat y.1)).2.1) then ((7 : Int), ()) = (cfgF (cn, cl, cp, ()), ()) else lCheckBInv cn cl cp y.1 (pAdd IntKind.i64 y_1.1 (1 : Int), ()) ∧ Nat.le (Nat.succ (lCheckBMu cn cl cp y.1 (pAdd IntKind.i64 y_1.1 (1 : Int),
 ()))) (lCheckBMu cn cl cp y.1 y_1) else lCheckAInv cn cl cp (pAdd IntKind.i64 y.1 (1 : Int), ()) ∧ Nat.le (Nat.succ (lCheckAMu cn cl cp (pAdd IntKind.i64 y.1 (1 : Int), ()))) (lCheckAMu cn cl cp y) else bif pLt cp (1 : Int) then ((2 : Int),
 ()) = (cfgF (cn, cl, cp, ()), ()) else bif pGt cp (1048576 : Int) then ((2 : Int), ()) = (cfgF (cn, cl, cp, ()), ()) else ((0 : Int), ()) = (cfgF (cn, cl, cp, ()), ())
set_option maxRecDepth 100000 in
theorem lCheck_meets (hone : Mt 56 cone) (h : ∀ (cn : Int) (cl : (List LabD)) (cp : Int), (∀ p ∈ lCheck_p ⟨((cn, cl, cp, ()), ()), ()⟩, p) → lCheck_VC cn cl cp) : Mt 22 clCheck :=
  meets_vc (E := envN Tryd.prog (fun _ => none) [(56, (false, cone))] eqsNeV [(43, [0])] []) (envN_ok (fun p hp => (by simp only [List.mem_cons, List.not_mem_nil, or_false] at hp; rcases hp with rfl; exact hone)) (by kernel_rfl)) lCheck_S (fun x => fun ky9 st9 => look [(6, (⟨[.slot 28 false tI], lCheckAInv x.1.1.1 x.1.1.2.1 x.1.1.2.2.1, lCheckAMu x.1.1.1 x.1.1.2.1 x.1.1.2.2.1⟩ : Ann)), (11, (⟨[.slot 41 false tI], lCheckBInv x.1.1.1 x.1.1.2.1 x.1.1.2.2.1 (slotI st9 28), lCheckBMu x.1.1.1 x.1.1.2.1 x.1.1.2.2.1 (slotI st9 28)⟩ : Ann))] ky9) Tryd.func22 (by kernel_rfl) (by kernel_rfl) lCheck_p [] [.slot 0 false tI] lCheck_f (fun x => lCheck_VC x.1.1.1 x.1.1.2.1 x.1.1.2.2.1) (fun x => by kernel_rfl) (fun x hp => h x.1.1.1 x.1.1.2.1 x.1.1.2.2.1 hp)

def cFault_VC (cn : Int) (cl : (List LabD)) (cp : Int) : Prop :=
  bif pNot (inF cn (1 : Int) (4 : Int)) then ((2 : Int), ()) = (cfgF (cn, cl, cp, ()), ()) else bif pNot (inF (pInt (pLen cl)) (1 : Int) (6 : Int)) then ((1 : Int), ()) = (cfgF (cn, cl, cp, ()), ()) else lCheckAInv cn cl cp ((0 : Int), ()) ∧
 ∀ (y : kden Bool.false tI × PUnit), lCheckAInv cn cl cp y → bif pLt y.1 (pInt (pLen cl)) then pIn y.1 (pLen cl) ∧ bif pNot (inF (pGet tyLab cl (pNat y.1)).1 (0 : Int) (9 : Int)) then ((2 : Int), ()) = (cfgF (cn, cl, cp, ()), ()) else pIn
 y.1 (pLen cl) ∧ bif pNot (inF (pGet tyLab cl (pNat y.1)).2.1 (0 : Int) (15 : Int)) then ((2 : Int), ()) = (cfgF (cn, cl, cp, ()), ()) else lCheckBInv cn cl cp y.1 ((0 : Int), ()) ∧ ∀ (y_1 : kden Bool.false tI × PUnit), lCheckBInv cn cl cp
 y.1 y_1 → bif pLt y_1.1 y.1 then pIn y_1.1 (pLen cl) ∧ pIn y.1 (pLen cl) ∧ bif pAndB (pEq (pGet tyLab cl (pNat y_1.1)).1 (pGet tyLab cl (pNat y.1)).1) (pEq (pGet tyLab cl (pNat y_1.1)).2.1 (pGet tyLab cl (pNat y.1)).2.1) then ((7 : Int),
 ()) = (cfgF (cn, cl, cp, ()), ()) else lCheckBInv cn cl cp y.1 (pAdd IntKind.i64 y_1.1 (1 : Int), ()) ∧ Nat.le (Nat.succ (lCheckBMu cn cl cp y.1 (pAdd IntKind.i64 y_1.1 (1 : Int), ()))) (lCheckBMu cn cl cp y.1 y_1) else lCheckAInv cn cl cp
 (pAdd IntKind.i64 y.1 (1 : Int), ()) ∧ Nat.le (Nat.succ (lCheckAMu cn cl cp (pAdd IntKind.i64 y.1 (1 : Int), ()))) (lCheckAMu cn cl cp y) else bif pNot (inF cp (1 : Int) (1048576 : Int)) then ((2 : Int), ()) = (cfgF (cn, cl, cp, ()), ())
 else ((0 : Int), ()) = (cfgF (cn, cl, cp, ()), ())
set_option maxRecDepth 100000 in
theorem cFault_meets (hIn : Mt 26 cIn) (h : ∀ (cn : Int) (cl : (List LabD)) (cp : Int), (∀ p ∈ lCheck_p ⟨((cn, cl, cp, ()), ()), ()⟩, p) → cFault_VC cn cl cp) : Mt 25 ccFault :=
  meets_vc (E := envN Tryd.prog (fun _ => none) [(26, (false, cIn))] eqsNeV [(43, [0])] []) (envN_ok (fun p hp => (by simp only [List.mem_cons, List.not_mem_nil, or_false] at hp; rcases hp with rfl; exact hIn)) (by kernel_rfl)) lCheck_S (fun x => fun ky9 st9 => look [(6, (⟨[.slot 3 false tI], lCheckAInv x.1.1.1 x.1.1.2.1 x.1.1.2.2.1, lCheckAMu x.1.1.1 x.1.1.2.1 x.1.1.2.2.1⟩ : Ann)), (11, (⟨[.slot 4 false tI], lCheckBInv x.1.1.1 x.1.1.2.1 x.1.1.2.2.1 (slotI st9 3), lCheckBMu x.1.1.1 x.1.1.2.1 x.1.1.2.2.1 (slotI st9 3)⟩ : Ann))] ky9) Tryd.func25 (by kernel_rfl) (by kernel_rfl) lCheck_p [] [.slot 0 false tI] lCheck_f (fun x => cFault_VC x.1.1.1 x.1.1.2.1 x.1.1.2.2.1) (fun x => by kernel_rfl) (fun x hp => h x.1.1.1 x.1.1.2.1 x.1.1.2.2.1 hp)

def labelMay_VC (cn : Int) (cl : (List LabD)) (cp : Int) (l : Int) : Prop :=
  (inF l (0 : Int) (pSubI IntKind.i64 (pInt (pLen cl)) (1 : Int)), ()) = (placeF (cn, cl, cp, ()) l, ())
set_option maxRecDepth 100000 in
theorem labelMay_meets (hIn : Mt 26 cIn) (h : ∀ (cn : Int) (cl : (List LabD)) (cp : Int) (l : Int), (∀ p ∈ labelMay_p ⟨((cn, cl, cp, ()), l, ()), ()⟩, p) → labelMay_VC cn cl cp l) : Mt 77 clabelMay :=
  meets_vc (E := envN Tryd.prog (fun _ => none) [(26, (false, cIn))] eqsNeV [(43, [0])] []) (envN_ok (fun p hp => (by simp only [List.mem_cons, List.not_mem_nil, or_false] at hp; rcases hp with rfl; exact hIn)) (by kernel_rfl)) labelMay_S (fun x => fun ky9 st9 => look [] ky9) Tryd.func77 (by kernel_rfl) (by kernel_rfl) labelMay_p [] [.slot 0 false .bool] labelMay_f (fun x => labelMay_VC x.1.1.1 x.1.1.2.1 x.1.1.2.2.1 x.1.2.1) (fun x => by kernel_rfl) (fun x hp => h x.1.1.1 x.1.1.2.1 x.1.1.2.2.1 x.1.2.1 hp)

def wtxn_VC (cn : Int) (cl : (List LabD)) (cp : Int) (ts : Int) (tn : Int) : Prop :=
  bif pGe ts (0 : Int) then bif pLt ts cn then bif pGe tn (1 : Int) then (pLe tn (1048576 : Int), ()) = (txnF (cn, cl, cp, ()) ts tn, ()) else (Bool.false, ()) = (txnF (cn, cl, cp, ()) ts tn, ()) else (Bool.false, ()) = (txnF (cn, cl, cp, ())
 ts tn, ()) else (Bool.false, ()) = (txnF (cn, cl, cp, ()) ts tn, ())
set_option maxRecDepth 100000 in
theorem wtxn_meets  (h : ∀ (cn : Int) (cl : (List LabD)) (cp : Int) (ts : Int) (tn : Int), wtxn_VC cn cl cp ts tn) : Mt 57 cwtxn :=
  meets_vc (E := envN Tryd.prog (fun _ => none) [] eqsNeV [(43, [0])] []) (envN_ok (fun p hp => by cases hp) (by kernel_rfl)) wtxn_S (fun x => fun ky9 st9 => look [] ky9) Tryd.func57 (by kernel_rfl) (by kernel_rfl) wtxn_p [] [.slot 0 false .bool] wtxn_f (fun x => wtxn_VC x.1.1.1 x.1.1.2.1 x.1.1.2.2.1 x.1.2.1.1 x.1.2.1.2.1) (fun x => by kernel_rfl) (fun x _ => h x.1.1.1 x.1.1.2.1 x.1.1.2.2.1 x.1.2.1.1 x.1.2.1.2.1)

def wkey_VC (a : Int) : Prop :=
  bif pGe a (0 : Int) then (pLt a (8 : Int), ()) = (inF a (0 : Int) (7 : Int), ()) else (Bool.false, ()) = (inF a (0 : Int) (7 : Int), ())
set_option maxRecDepth 100000 in
theorem wkey_meets  (h : ∀ (a : Int), wkey_VC a) : Mt 58 cwkey :=
  meets_vc (E := envN Tryd.prog (fun _ => none) [] eqsNeV [(43, [0])] []) (envN_ok (fun p hp => by cases hp) (by kernel_rfl)) wkey_S (fun x => fun ky9 st9 => look [] ky9) Tryd.func58 (by kernel_rfl) (by kernel_rfl) wkey_p [] [.slot 0 false .bool] wkey_f (fun x => wkey_VC x.1.1) (fun x => by kernel_rfl) (fun x _ => h x.1.1)

def wvalue_VC (a : Int) : Prop :=
  bif pGe a (0 : Int) then (pLe a (1073741824 : Int), ()) = (inF a (0 : Int) (1073741824 : Int), ()) else (Bool.false, ()) = (inF a (0 : Int) (1073741824 : Int), ())
set_option maxRecDepth 100000 in
theorem wvalue_meets  (h : ∀ (a : Int), wvalue_VC a) : Mt 59 cwvalue :=
  meets_vc (E := envN Tryd.prog (fun _ => none) [] eqsNeV [(43, [0])] []) (envN_ok (fun p hp => by cases hp) (by kernel_rfl)) wkey_S (fun x => fun ky9 st9 => look [] ky9) Tryd.func59 (by kernel_rfl) (by kernel_rfl) wkey_p [] [.slot 0 false .bool] wvalue_f (fun x => wvalue_VC x.1.1) (fun x => by kernel_rfl) (fun x _ => h x.1.1)

def wask_VC (a : Int) : Prop :=
  bif pGe a (0 : Int) then (pLe a (1048576 : Int), ()) = (inF a (0 : Int) (1048576 : Int), ()) else (Bool.false, ()) = (inF a (0 : Int) (1048576 : Int), ())
set_option maxRecDepth 100000 in
theorem wask_meets  (h : ∀ (a : Int), wask_VC a) : Mt 60 cwask :=
  meets_vc (E := envN Tryd.prog (fun _ => none) [] eqsNeV [(43, [0])] []) (envN_ok (fun p hp => by cases hp) (by kernel_rfl)) wkey_S (fun x => fun ky9 st9 => look [] ky9) Tryd.func60 (by kernel_rfl) (by kernel_rfl) wkey_p [] [.slot 0 false .bool] wask_f (fun x => wask_VC x.1.1) (fun x => by kernel_rfl) (fun x _ => h x.1.1)

def wcode_VC (a : Int) : Prop :=
  bif pEq a (0 : Int) then (Bool.true, ()) = (codeF a, ()) else bif pEq a (11 : Int) then (Bool.true, ()) = (codeF a, ()) else (pEq a (8 : Int), ()) = (codeF a, ())
set_option maxRecDepth 100000 in
theorem wcode_meets  (h : ∀ (a : Int), wcode_VC a) : Mt 75 cwcode :=
  meets_vc (E := envN Tryd.prog (fun _ => none) [] eqsNeV [(43, [0])] []) (envN_ok (fun p hp => by cases hp) (by kernel_rfl)) wkey_S (fun x => fun ky9 st9 => look [] ky9) Tryd.func75 (by kernel_rfl) (by kernel_rfl) wkey_p [] [.slot 0 false .bool] wcode_f (fun x => wcode_VC x.1.1) (fun x => by kernel_rfl) (fun x _ => h x.1.1)

def txnMay_VC (cn : Int) (cl : (List LabD)) (cp : Int) (ts : Int) (tn : Int) : Prop :=
  bif inF ts (0 : Int) (pSubI IntKind.i64 cn (1 : Int)) then (inF tn (1 : Int) (1048576 : Int), ()) = (txnF (cn, cl, cp, ()) ts tn, ()) else (Bool.false, ()) = (txnF (cn, cl, cp, ()) ts tn, ())
set_option maxRecDepth 100000 in
theorem txnMay_meets (hIn : Mt 26 cIn) (h : ∀ (cn : Int) (cl : (List LabD)) (cp : Int) (ts : Int) (tn : Int), (∀ p ∈ txnMay_p ⟨((cn, cl, cp, ()), (ts, tn, ()), ()), ()⟩, p) → txnMay_VC cn cl cp ts tn) : Mt 66 ctxnMay :=
  meets_vc (E := envN Tryd.prog (fun _ => none) [(26, (false, cIn))] eqsNeV [(43, [0])] []) (envN_ok (fun p hp => (by simp only [List.mem_cons, List.not_mem_nil, or_false] at hp; rcases hp with rfl; exact hIn)) (by kernel_rfl)) wtxn_S (fun x => fun ky9 st9 => look [] ky9) Tryd.func66 (by kernel_rfl) (by kernel_rfl) txnMay_p [] [.slot 0 false .bool] wtxn_f (fun x => txnMay_VC x.1.1.1 x.1.1.2.1 x.1.1.2.2.1 x.1.2.1.1 x.1.2.1.2.1) (fun x => by kernel_rfl) (fun x hp => h x.1.1.1 x.1.1.2.1 x.1.1.2.2.1 x.1.2.1.1 x.1.2.1.2.1 hp)

abbrev MessageFault_v0 (cn : Int) (cl : (List LabD)) (cp : Int) (mk : Int) (mf : Int) (mt : Int) (ms : Int) (mn : Int) (ml : Int) (my : Int) (mv : Int) (me : Int) (ma : Int) (md : Bool) (mc : Int) := (msgF (cn, cl, cp, ()) (mk, mf, mt, ms, mn, ml, my, mv, me, ma, md, mc, ()), ())
abbrev MessageFault_t0 (cn : Int) (cl : (List LabD)) (cp : Int) (mk : Int) (mf : Int) (mt : Int) (ms : Int) (mn : Int) (ml : Int) (my : Int) (mv : Int) (me : Int) (ma : Int) (md : Bool) (mc : Int) : Prop := bif pEq mk (1 : Int) then bif pNot (pAndB (pEq mk mk) (pAndB (pEq mf mf) (pAndB (pEq mt mt) (pAndB (pEq ms ms) (pAndB (pEq mn mn) (pAndB (pEq ml ml) (pAndB (pEq my my) (pAndB (pEq (0 : Int) mv) (pAndB (pEq (0 : Int) me) (pAndB (pEq ma ma)
 (pAndB (pBeq Bool.false md) (pEq (0 : Int) mc)))))))))))) then ((4 : Int), ()) = (MessageFault_v0 cn cl cp mk mf mt ms mn ml my mv me ma md mc) else ((0 : Int), ()) = (MessageFault_v0 cn cl cp mk mf mt ms mn ml my mv me ma md mc) else bif
 pEq mk (2 : Int) then bif pNot (pAndB (pEq mk mk) (pAndB (pEq mf mf) (pAndB (pEq mt mt) (pAndB (pEq ms ms) (pAndB (pEq mn mn) (pAndB (pEq (0 : Int) ml) (pAndB (pEq my my) (pAndB (pEq mv mv) (pAndB (pEq (0 : Int) me) (pAndB (pEq ma ma)
 (pAndB (pBeq Bool.false md) (pEq (0 : Int) mc)))))))))))) then ((4 : Int), ()) = (MessageFault_v0 cn cl cp mk mf mt ms mn ml my mv me ma md mc) else ((0 : Int), ()) = (MessageFault_v0 cn cl cp mk mf mt ms mn ml my mv me ma md mc) else bif
 pEq mk (5 : Int) then bif pEq mc (0 : Int) then bif pNot (pAndB (pEq mk mk) (pAndB (pEq mf mf) (pAndB (pEq mt mt) (pAndB (pEq ms ms) (pAndB (pEq mn mn) (pAndB (pEq ml ml) (pAndB (pEq my my) (pAndB (pEq mv mv) (pAndB (pEq me me) (pAndB (pEq
 ma ma) (pAndB (pBeq Bool.false md) (pEq mc mc)))))))))))) then ((4 : Int), ()) = (MessageFault_v0 cn cl cp mk mf mt ms mn ml my mv me ma md mc) else ((0 : Int), ()) = (MessageFault_v0 cn cl cp mk mf mt ms mn ml my mv me ma md mc) else bif
 pNot (pAndB (pEq mk mk) (pAndB (pEq mf mf) (pAndB (pEq mt mt) (pAndB (pEq ms ms) (pAndB (pEq mn mn) (pAndB (pEq ml ml) (pAndB (pEq my my) (pAndB (pEq (0 : Int) mv) (pAndB (pEq (0 : Int) me) (pAndB (pEq ma ma) (pAndB (pBeq Bool.false md)
 (pEq mc mc)))))))))))) then ((4 : Int), ()) = (MessageFault_v0 cn cl cp mk mf mt ms mn ml my mv me ma md mc) else ((0 : Int), ()) = (MessageFault_v0 cn cl cp mk mf mt ms mn ml my mv me ma md mc) else bif pEq mk (6 : Int) then bif pNot
 (pAndB (pEq mk mk) (pAndB (pEq mf mf) (pAndB (pEq mt mt) (pAndB (pEq ms ms) (pAndB (pEq mn mn) (pAndB (pEq (0 : Int) ml) (pAndB (pEq my my) (pAndB (pEq (0 : Int) mv) (pAndB (pEq (0 : Int) me) (pAndB (pEq ma ma) (pAndB (pBeq Bool.false md)
 (pEq mc mc)))))))))))) then ((4 : Int), ()) = (MessageFault_v0 cn cl cp mk mf mt ms mn ml my mv me ma md mc) else ((0 : Int), ()) = (MessageFault_v0 cn cl cp mk mf mt ms mn ml my mv me ma md mc) else bif pEq mk (4 : Int) then bif pNot
 (pAndB (pEq mk mk) (pAndB (pEq mf mf) (pAndB (pEq mt mt) (pAndB (pEq ms ms) (pAndB (pEq mn mn) (pAndB (pEq (0 : Int) ml) (pAndB (pEq (0 : Int) my) (pAndB (pEq (0 : Int) mv) (pAndB (pEq (0 : Int) me) (pAndB (pEq (0 : Int) ma) (pAndB (pBeq md
 md) (pEq (0 : Int) mc)))))))))))) then ((4 : Int), ()) = (MessageFault_v0 cn cl cp mk mf mt ms mn ml my mv me ma md mc) else ((0 : Int), ()) = (MessageFault_v0 cn cl cp mk mf mt ms mn ml my mv me ma md mc) else bif pEq mk (3 : Int) then bif
 pNot (pAndB (pEq mk mk) (pAndB (pEq mf mf) (pAndB (pEq mt mt) (pAndB (pEq ms ms) (pAndB (pEq mn mn) (pAndB (pEq ml ml) (pAndB (pEq my my) (pAndB (pEq (0 : Int) mv) (pAndB (pEq me me) (pAndB (pEq (0 : Int) ma) (pAndB (pBeq Bool.false md)
 (pEq (0 : Int) mc)))))))))))) then ((4 : Int), ()) = (MessageFault_v0 cn cl cp mk mf mt ms mn ml my mv me ma md mc) else ((0 : Int), ()) = (MessageFault_v0 cn cl cp mk mf mt ms mn ml my mv me ma md mc) else bif pEq mk (7 : Int) then bif
 pNot (pAndB (pEq mk mk) (pAndB (pEq mf mf) (pAndB (pEq mt mt) (pAndB (pEq ms ms) (pAndB (pEq mn mn) (pAndB (pEq ml ml) (pAndB (pEq my my) (pAndB (pEq (0 : Int) mv) (pAndB (pEq me me) (pAndB (pEq (0 : Int) ma) (pAndB (pBeq md md) (pEq (0 :
 Int) mc)))))))))))) then ((4 : Int), ()) = (MessageFault_v0 cn cl cp mk mf mt ms mn ml my mv me ma md mc) else ((0 : Int), ()) = (MessageFault_v0 cn cl cp mk mf mt ms mn ml my mv me ma md mc) else bif pNot (pAndB (pEq mk mk) (pAndB (pEq mf
 mf) (pAndB (pEq mt mt) (pAndB (pEq ms ms) (pAndB (pEq mn mn) (pAndB (pEq (0 : Int) ml) (pAndB (pEq (0 : Int) my) (pAndB (pEq (0 : Int) mv) (pAndB (pEq (0 : Int) me) (pAndB (pEq (0 : Int) ma) (pAndB (pBeq Bool.false md) (pEq (0 : Int)
 mc)))))))))))) then ((4 : Int), ()) = (MessageFault_v0 cn cl cp mk mf mt ms mn ml my mv me ma md mc) else ((0 : Int), ()) = (MessageFault_v0 cn cl cp mk mf mt ms mn ml my mv me ma md mc)

def MessageFault_VC (cn : Int) (cl : (List LabD)) (cp : Int) (mk : Int) (mf : Int) (mt : Int) (ms : Int) (mn : Int) (ml : Int) (my : Int) (mv : Int) (me : Int) (ma : Int) (md : Bool) (mc : Int) : Prop :=
  Nat.le (Nat.succ (pLen cl)) 4611686018427387904 ∧ bif pNe (cfgF (cn, cl, cp, ())) (0 : Int) then (cfgF (cn, cl, cp, ()), ()) = (MessageFault_v0 cn cl cp mk mf mt ms mn ml my mv me ma md mc) else bif pNot (inF mk (1 : Int) (9 : Int)) then
 ((3 : Int), ()) = (MessageFault_v0 cn cl cp mk mf mt ms mn ml my mv me ma md mc) else bif pNot (inF mf (0 : Int) (pSubI IntKind.i64 cn (1 : Int))) then ((2 : Int), ()) = (MessageFault_v0 cn cl cp mk mf mt ms mn ml my mv me ma md mc) else
 bif pNot (inF mt (0 : Int) (pSubI IntKind.i64 cn (1 : Int))) then ((2 : Int), ()) = (MessageFault_v0 cn cl cp mk mf mt ms mn ml my mv me ma md mc) else inF cn (1 : Int) (4 : Int) = Bool.true ∧ bif pNot (txnF (cn, cl, cp, ()) ms mn) then ((2
 : Int), ()) = (MessageFault_v0 cn cl cp mk mf mt ms mn ml my mv me ma md mc) else Nat.le (Nat.succ (pLen cl)) 4611686018427387904 ∧ bif pNot (placeF (cn, cl, cp, ()) ml) then ((2 : Int), ()) = (MessageFault_v0 cn cl cp mk mf mt ms mn ml my
 mv me ma md mc) else bif pNot (inF my (0 : Int) (7 : Int)) then ((2 : Int), ()) = (MessageFault_v0 cn cl cp mk mf mt ms mn ml my mv me ma md mc) else bif pNot (inF mv (0 : Int) (1073741824 : Int)) then ((2 : Int), ()) = (MessageFault_v0 cn
 cl cp mk mf mt ms mn ml my mv me ma md mc) else bif pNot (inF me (0 : Int) (1048576 : Int)) then ((2 : Int), ()) = (MessageFault_v0 cn cl cp mk mf mt ms mn ml my mv me ma md mc) else bif pNot (inF ma (0 : Int) (1048576 : Int)) then ((2 :
 Int), ()) = (MessageFault_v0 cn cl cp mk mf mt ms mn ml my mv me ma md mc) else bif pNe mc (0 : Int) then bif pNe mc (11 : Int) then bif pNe mc (8 : Int) then ((2 : Int), ()) = (MessageFault_v0 cn cl cp mk mf mt ms mn ml my mv me ma md mc)
 else MessageFault_t0 cn cl cp mk mf mt ms mn ml my mv me ma md mc else MessageFault_t0 cn cl cp mk mf mt ms mn ml my mv me ma md mc else MessageFault_t0 cn cl cp mk mf mt ms mn ml my mv me ma md mc
set_option maxRecDepth 100000 in
theorem MessageFault_meets (hcFault : Mt 25 ccFault) (hIn : Mt 26 cIn) (htxnMay : Mt 66 ctxnMay) (hlabelMay : Mt 77 clabelMay) (h : ∀ (cn : Int) (cl : (List LabD)) (cp : Int) (mk : Int) (mf : Int) (mt : Int) (ms : Int) (mn : Int) (ml : Int) (my : Int) (mv : Int) (me : Int) (ma : Int) (md : Bool) (mc : Int), (∀ p ∈ MessageFault_p ⟨((cn, cl, cp, ()), (mk, mf, mt, ms, mn, ml, my, mv, me, ma, md, mc, ()), ()), ()⟩, p) → MessageFault_VC cn cl cp mk mf mt ms mn ml my mv me ma md mc) : Mt 40 cMessageFault :=
  meets_vc (E := envN Tryd.prog (fun _ => none) [(25, (false, ccFault)), (26, (false, cIn)), (66, (false, ctxnMay)), (77, (false, clabelMay))] eqsNeV [(43, [0])] []) (envN_ok (fun p hp => (by simp only [List.mem_cons, List.not_mem_nil, or_false] at hp; rcases hp with rfl | rfl | rfl | rfl; exact hcFault; exact hIn; exact htxnMay; exact hlabelMay)) (by kernel_rfl)) MessageFault_S (fun x => fun ky9 st9 => look [] ky9) Tryd.func40 (by kernel_rfl) (by kernel_rfl) MessageFault_p [] [.slot 0 false tI] MessageFault_f (fun x => MessageFault_VC x.1.1.1 x.1.1.2.1 x.1.1.2.2.1 x.1.2.1.1 x.1.2.1.2.1 x.1.2.1.2.2.1 x.1.2.1.2.2.2.1 x.1.2.1.2.2.2.2.1 x.1.2.1.2.2.2.2.2.1 x.1.2.1.2.2.2.2.2.2.1 x.1.2.1.2.2.2.2.2.2.2.1 x.1.2.1.2.2.2.2.2.2.2.2.1 x.1.2.1.2.2.2.2.2.2.2.2.2.1 x.1.2.1.2.2.2.2.2.2.2.2.2.2.1 x.1.2.1.2.2.2.2.2.2.2.2.2.2.2.1) (fun x => by kernel_rfl) (fun x hp => h x.1.1.1 x.1.1.2.1 x.1.1.2.2.1 x.1.2.1.1 x.1.2.1.2.1 x.1.2.1.2.2.1 x.1.2.1.2.2.2.1 x.1.2.1.2.2.2.2.1 x.1.2.1.2.2.2.2.2.1 x.1.2.1.2.2.2.2.2.2.1 x.1.2.1.2.2.2.2.2.2.2.1 x.1.2.1.2.2.2.2.2.2.2.2.1 x.1.2.1.2.2.2.2.2.2.2.2.2.1 x.1.2.1.2.2.2.2.2.2.2.2.2.2.1 x.1.2.1.2.2.2.2.2.2.2.2.2.2.2.1 hp)


end Go.Proofs.YtgocemdodabgkaaDoor

/- Contracts, and what the evaluator says, as plain propositions: NuV. Printed by vc.py. -/
namespace Go.Proofs.YtgocemdodabgkaaDoor
open Go.RowKit Go.ChangeShapes Go.WideShapes Go.Deep

abbrev CheckMessage_S : Shape := ⟨[pCfg, pMsg], []⟩
abbrev CheckMessage_f : Shape.den CheckMessage_S → denVars [.slot 0 false tI] := fun x => (msgF x.1.1 x.1.2.1, ())
abbrev CheckMessage_p : Shape.den CheckMessage_S → List Prop := fun x => [pLen x.1.1.2.1 < 4611686018427387904]
def cCheckMessage : Ctr := shCtr CheckMessage_S CheckMessage_p [] [.slot 0 false tI] CheckMessage_f
abbrev nCheck_S : Shape := ⟨[pCfg, .one (.rd (.sl tyRow))], []⟩
abbrev nCheck_f : Shape.den nCheck_S → denVars [.slot 0 false tI] := fun x => (flyF x.1.1 x.1.2.1, ())
abbrev nCheck_p : Shape.den nCheck_S → List Prop := fun x => [pLen x.1.1.2.1 < 4611686018427387904, pLen x.1.2.1 < 4611686018427387904, (∀ q ∈ x.1.2.1, pLen q.1 < 4611686018427387904)]
def cnCheck : Ctr := shCtr nCheck_S nCheck_p [] [.slot 0 false tI] nCheck_f
def cFlyingFault : Ctr := shCtr nCheck_S nCheck_p [] [.slot 0 false tI] nCheck_f
abbrev eqsNbV : List TypeId := [115, 53]

abbrev CheckMessage_v0 (cn : Int) (cl : (List LabD)) (cp : Int) (mk : Int) (mf : Int) (mt : Int) (ms : Int) (mn : Int) (ml : Int) (my : Int) (mv : Int) (me : Int) (ma : Int) (md : Bool) (mc : Int) := (msgF (cn, cl, cp, ()) (mk, mf, mt, ms, mn, ml, my, mv, me, ma, md, mc, ()), ())
abbrev CheckMessage_t6 (cn : Int) (cl : (List LabD)) (cp : Int) (mk : Int) (mf : Int) (mt : Int) (ms : Int) (mn : Int) (ml : Int) (my : Int) (mv : Int) (me : Int) (ma : Int) (md : Bool) (mc : Int) : Prop := bif pNe mc (0 : Int) then bif pNe (pAdd IntKind.i64 mv me) (0 : Int) then ((4 : Int), ()) = (CheckMessage_v0 cn cl cp mk mf mt ms mn ml my mv me ma md mc) else ((0 : Int), ()) = (CheckMessage_v0 cn cl cp mk mf mt ms mn ml my mv me ma md mc)
 else ((0 : Int), ()) = (CheckMessage_v0 cn cl cp mk mf mt ms mn ml my mv me ma md mc)
abbrev CheckMessage_t5 (cn : Int) (cl : (List LabD)) (cp : Int) (mk : Int) (mf : Int) (mt : Int) (ms : Int) (mn : Int) (ml : Int) (my : Int) (mv : Int) (me : Int) (ma : Int) (md : Bool) (mc : Int) : Prop := bif pNot (pGet tyParts messagesT (pNat mk)).2.2.2.2.2.2.1 then bif pNe mc (0 : Int) then ((4 : Int), ()) = (CheckMessage_v0 cn cl cp mk mf mt ms mn ml my mv me ma md mc) else CheckMessage_t6 cn cl cp mk mf mt ms mn ml my mv me ma md mc else
 CheckMessage_t6 cn cl cp mk mf mt ms mn ml my mv me ma md mc
abbrev CheckMessage_t4 (cn : Int) (cl : (List LabD)) (cp : Int) (mk : Int) (mf : Int) (mt : Int) (ms : Int) (mn : Int) (ml : Int) (my : Int) (mv : Int) (me : Int) (ma : Int) (md : Bool) (mc : Int) : Prop := bif pNot (pGet tyParts messagesT (pNat mk)).2.2.2.2.2.1 then bif md then ((4 : Int), ()) = (CheckMessage_v0 cn cl cp mk mf mt ms mn ml my mv me ma md mc) else CheckMessage_t5 cn cl cp mk mf mt ms mn ml my mv me ma md mc else CheckMessage_t5
 cn cl cp mk mf mt ms mn ml my mv me ma md mc
abbrev CheckMessage_t3 (cn : Int) (cl : (List LabD)) (cp : Int) (mk : Int) (mf : Int) (mt : Int) (ms : Int) (mn : Int) (ml : Int) (my : Int) (mv : Int) (me : Int) (ma : Int) (md : Bool) (mc : Int) : Prop := bif pNot (pGet tyParts messagesT (pNat mk)).2.2.2.2.1 then bif pNe ma (0 : Int) then ((4 : Int), ()) = (CheckMessage_v0 cn cl cp mk mf mt ms mn ml my mv me ma md mc) else CheckMessage_t4 cn cl cp mk mf mt ms mn ml my mv me ma md mc else
 CheckMessage_t4 cn cl cp mk mf mt ms mn ml my mv me ma md mc
abbrev CheckMessage_t2 (cn : Int) (cl : (List LabD)) (cp : Int) (mk : Int) (mf : Int) (mt : Int) (ms : Int) (mn : Int) (ml : Int) (my : Int) (mv : Int) (me : Int) (ma : Int) (md : Bool) (mc : Int) : Prop := bif pNot (pGet tyParts messagesT (pNat mk)).2.2.2.1 then bif pNe me (0 : Int) then ((4 : Int), ()) = (CheckMessage_v0 cn cl cp mk mf mt ms mn ml my mv me ma md mc) else CheckMessage_t3 cn cl cp mk mf mt ms mn ml my mv me ma md mc else
 CheckMessage_t3 cn cl cp mk mf mt ms mn ml my mv me ma md mc
abbrev CheckMessage_t1 (cn : Int) (cl : (List LabD)) (cp : Int) (mk : Int) (mf : Int) (mt : Int) (ms : Int) (mn : Int) (ml : Int) (my : Int) (mv : Int) (me : Int) (ma : Int) (md : Bool) (mc : Int) : Prop := bif pNot (pGet tyParts messagesT (pNat mk)).2.2.1 then bif pNe mv (0 : Int) then ((4 : Int), ()) = (CheckMessage_v0 cn cl cp mk mf mt ms mn ml my mv me ma md mc) else CheckMessage_t2 cn cl cp mk mf mt ms mn ml my mv me ma md mc else
 CheckMessage_t2 cn cl cp mk mf mt ms mn ml my mv me ma md mc
abbrev CheckMessage_t0 (cn : Int) (cl : (List LabD)) (cp : Int) (mk : Int) (mf : Int) (mt : Int) (ms : Int) (mn : Int) (ml : Int) (my : Int) (mv : Int) (me : Int) (ma : Int) (md : Bool) (mc : Int) : Prop := bif pNot (pGet tyParts messagesT (pNat mk)).2.1 then bif pNe my (0 : Int) then ((4 : Int), ()) = (CheckMessage_v0 cn cl cp mk mf mt ms mn ml my mv me ma md mc) else CheckMessage_t1 cn cl cp mk mf mt ms mn ml my mv me ma md mc else
 CheckMessage_t1 cn cl cp mk mf mt ms mn ml my mv me ma md mc

def CheckMessage_VC (cn : Int) (cl : (List LabD)) (cp : Int) (mk : Int) (mf : Int) (mt : Int) (ms : Int) (mn : Int) (ml : Int) (my : Int) (mv : Int) (me : Int) (ma : Int) (md : Bool) (mc : Int) : Prop :=
  Nat.le (Nat.succ (pLen cl)) 4611686018427387904 ∧ bif pNe (cfgF (cn, cl, cp, ())) (0 : Int) then (cfgF (cn, cl, cp, ()), ()) = (CheckMessage_v0 cn cl cp mk mf mt ms mn ml my mv me ma md mc) else bif pLt mk (1 : Int) then ((3 : Int), ()) =
 (CheckMessage_v0 cn cl cp mk mf mt ms mn ml my mv me ma md mc) else bif pGt mk (9 : Int) then ((3 : Int), ()) = (CheckMessage_v0 cn cl cp mk mf mt ms mn ml my mv me ma md mc) else bif pLt mf (0 : Int) then ((2 : Int), ()) = (CheckMessage_v0
 cn cl cp mk mf mt ms mn ml my mv me ma md mc) else bif pGe mf cn then ((2 : Int), ()) = (CheckMessage_v0 cn cl cp mk mf mt ms mn ml my mv me ma md mc) else bif pLt mt (0 : Int) then ((2 : Int), ()) = (CheckMessage_v0 cn cl cp mk mf mt ms mn
 ml my mv me ma md mc) else bif pGe mt cn then ((2 : Int), ()) = (CheckMessage_v0 cn cl cp mk mf mt ms mn ml my mv me ma md mc) else bif pNot (txnF (cn, cl, cp, ()) ms mn) then ((2 : Int), ()) = (CheckMessage_v0 cn cl cp mk mf mt ms mn ml my
 mv me ma md mc) else bif pLt ml (0 : Int) then ((2 : Int), ()) = (CheckMessage_v0 cn cl cp mk mf mt ms mn ml my mv me ma md mc) else bif pGe ml (pInt (pLen cl)) then ((2 : Int), ()) = (CheckMessage_v0 cn cl cp mk mf mt ms mn ml my mv me ma
 md mc) else bif pNot (inF my (0 : Int) (7 : Int)) then ((2 : Int), ()) = (CheckMessage_v0 cn cl cp mk mf mt ms mn ml my mv me ma md mc) else bif pNot (inF mv (0 : Int) (1073741824 : Int)) then ((2 : Int), ()) = (CheckMessage_v0 cn cl cp mk
 mf mt ms mn ml my mv me ma md mc) else bif pLt me (0 : Int) then ((2 : Int), ()) = (CheckMessage_v0 cn cl cp mk mf mt ms mn ml my mv me ma md mc) else bif pGt me (1048576 : Int) then ((2 : Int), ()) = (CheckMessage_v0 cn cl cp mk mf mt ms
 mn ml my mv me ma md mc) else bif pNot (inF ma (0 : Int) (1048576 : Int)) then ((2 : Int), ()) = (CheckMessage_v0 cn cl cp mk mf mt ms mn ml my mv me ma md mc) else bif pNot (codeF mc) then ((2 : Int), ()) = (CheckMessage_v0 cn cl cp mk mf
 mt ms mn ml my mv me ma md mc) else pIn mk 10 ∧ bif pNot (pGet tyParts messagesT (pNat mk)).1 then bif pNe ml (0 : Int) then ((4 : Int), ()) = (CheckMessage_v0 cn cl cp mk mf mt ms mn ml my mv me ma md mc) else CheckMessage_t0 cn cl cp mk
 mf mt ms mn ml my mv me ma md mc else CheckMessage_t0 cn cl cp mk mf mt ms mn ml my mv me ma md mc
set_option maxRecDepth 100000 in
theorem CheckMessage_meets (hlCheck : MtG tabsM 22 clCheck) (hwtxn : MtG tabsM 57 cwtxn) (hwkey : MtG tabsM 58 cwkey) (hwvalue : MtG tabsM 59 cwvalue) (hwask : MtG tabsM 60 cwask) (hwcode : MtG tabsM 75 cwcode) (h : ∀ (cn : Int) (cl : (List LabD)) (cp : Int) (mk : Int) (mf : Int) (mt : Int) (ms : Int) (mn : Int) (ml : Int) (my : Int) (mv : Int) (me : Int) (ma : Int) (md : Bool) (mc : Int), (∀ p ∈ CheckMessage_p ⟨((cn, cl, cp, ()), (mk, mf, mt, ms, mn, ml, my, mv, me, ma, md, mc, ()), ()), ()⟩, p) → CheckMessage_VC cn cl cp mk mf mt ms mn ml my mv me ma md mc) : MtG tabsM 37 cCheckMessage :=
  meets_vc (E := envN Tryd.prog tabsM [(22, (false, clCheck)), (57, (false, cwtxn)), (58, (false, cwkey)), (59, (false, cwvalue)), (60, (false, cwask)), (75, (false, cwcode))] eqsNbV [(43, [0])] []) (envN_ok (fun p hp => (by simp only [List.mem_cons, List.not_mem_nil, or_false] at hp; rcases hp with rfl | rfl | rfl | rfl | rfl | rfl; exact hlCheck; exact hwtxn; exact hwkey; exact hwvalue; exact hwask; exact hwcode)) (by kernel_rfl)) CheckMessage_S (fun x => fun ky9 st9 => look [] ky9) Tryd.func37 (by kernel_rfl) (by kernel_rfl) CheckMessage_p [] [.slot 0 false tI] CheckMessage_f (fun x => CheckMessage_VC x.1.1.1 x.1.1.2.1 x.1.1.2.2.1 x.1.2.1.1 x.1.2.1.2.1 x.1.2.1.2.2.1 x.1.2.1.2.2.2.1 x.1.2.1.2.2.2.2.1 x.1.2.1.2.2.2.2.2.1 x.1.2.1.2.2.2.2.2.2.1 x.1.2.1.2.2.2.2.2.2.2.1 x.1.2.1.2.2.2.2.2.2.2.2.1 x.1.2.1.2.2.2.2.2.2.2.2.2.1 x.1.2.1.2.2.2.2.2.2.2.2.2.2.1 x.1.2.1.2.2.2.2.2.2.2.2.2.2.2.1) (fun x => by kernel_rfl) (fun x hp => h x.1.1.1 x.1.1.2.1 x.1.1.2.2.1 x.1.2.1.1 x.1.2.1.2.1 x.1.2.1.2.2.1 x.1.2.1.2.2.2.1 x.1.2.1.2.2.2.2.1 x.1.2.1.2.2.2.2.2.1 x.1.2.1.2.2.2.2.2.2.1 x.1.2.1.2.2.2.2.2.2.2.1 x.1.2.1.2.2.2.2.2.2.2.2.1 x.1.2.1.2.2.2.2.2.2.2.2.2.1 x.1.2.1.2.2.2.2.2.2.2.2.2.2.1 x.1.2.1.2.2.2.2.2.2.2.2.2.2.2.1 hp)

def nCheck_VC (cn : Int) (cl : (List LabD)) (cp : Int) (fl : (List RowD)) : Prop :=
  Nat.le (Nat.succ (pLen cl)) 4611686018427387904 ∧ bif pNe (cfgF (cn, cl, cp, ())) (0 : Int) then (cfgF (cn, cl, cp, ()), ()) = (flyF (cn, cl, cp, ()) fl, ()) else bif pNe (pInt (pLen fl)) (pMul IntKind.i64 cn cn) then ((9 : Int), ()) =
 (flyF (cn, cl, cp, ()) fl, ()) else nflyInv cn cl cp fl ((0 : Int), ()) ∧ ∀ (y : kden Bool.false tI × PUnit), nflyInv cn cl cp fl y → bif pLt y.1 (pInt (pLen fl)) then pIn y.1 (pLen fl) ∧ bif pGt (pInt (pLen (pGet tyRow fl (pNat y.1)).1))
 (30 : Int) then ((9 : Int), ()) = (flyF (cn, cl, cp, ()) fl, ()) else nrowInv cn cl cp fl y.1 ((0 : Int), ()) ∧ ∀ (y_1 : kden Bool.false tI × PUnit), nrowInv cn cl cp fl y.1 y_1 → bif pLt y_1.1 (pInt (pLen (pGet tyRow fl (pNat y.1)).1))
 then pIn y_1.1 (pLen (pGet tyRow fl (pNat y.1)).1) ∧ Nat.le (Nat.succ (pLen cl)) 4611686018427387904 ∧ bif pNe (msgF (cn, cl, cp, ()) (pGet tyMsg (pGet tyRow fl (pNat y.1)).1 (pNat y_1.1))) (0 : Int) then ((9 : Int), ()) = (flyF (cn, cl,
 cp, ()) fl, ()) else pNz cn ∧ bif pNe (pGet tyMsg (pGet tyRow fl (pNat y.1)).1 (pNat y_1.1)).2.1 (pQuo IntKind.i64 y.1 cn) then ((9 : Int), ()) = (flyF (cn, cl, cp, ()) fl, ()) else pNz cn ∧ bif pNe (pGet tyMsg (pGet tyRow fl (pNat y.1)).1
 (pNat y_1.1)).2.2.1 (pRem y.1 cn) then ((9 : Int), ()) = (flyF (cn, cl, cp, ()) fl, ()) else nrowInv cn cl cp fl y.1 (pAdd IntKind.i64 y_1.1 (1 : Int), ()) ∧ Nat.le (Nat.succ (nrowMu cn cl cp fl y.1 (pAdd IntKind.i64 y_1.1 (1 : Int), ())))
 (nrowMu cn cl cp fl y.1 y_1) else nflyInv cn cl cp fl (pAdd IntKind.i64 y.1 (1 : Int), ()) ∧ Nat.le (Nat.succ (nflyMu cn cl cp fl (pAdd IntKind.i64 y.1 (1 : Int), ()))) (nflyMu cn cl cp fl y) else ((0 : Int), ()) = (flyF (cn, cl, cp, ())
 fl, ())
set_option maxRecDepth 100000 in
theorem nCheck_meets (hlCheck : MtG tabsM 22 clCheck) (hCheckMessage : MtG tabsM 37 cCheckMessage) (h : ∀ (cn : Int) (cl : (List LabD)) (cp : Int) (fl : (List RowD)), (∀ p ∈ nCheck_p ⟨((cn, cl, cp, ()), fl, ()), ()⟩, p) → nCheck_VC cn cl cp fl) : MtG tabsM 36 cnCheck :=
  meets_vc (E := envN Tryd.prog tabsM [(22, (false, clCheck)), (37, (false, cCheckMessage))] eqsNbV [(43, [0])] []) (envN_ok (fun p hp => (by simp only [List.mem_cons, List.not_mem_nil, or_false] at hp; rcases hp with rfl | rfl; exact hlCheck; exact hCheckMessage)) (by kernel_rfl)) nCheck_S (fun x => fun ky9 st9 => look [(7, (⟨[.slot 25 false tI], nflyInv x.1.1.1 x.1.1.2.1 x.1.1.2.2.1 x.1.2.1, nflyMu x.1.1.1 x.1.1.2.1 x.1.1.2.2.1 x.1.2.1⟩ : Ann)), (12, (⟨[.slot 35 false tI], nrowInv x.1.1.1 x.1.1.2.1 x.1.1.2.2.1 x.1.2.1 (slotI st9 25), nrowMu x.1.1.1 x.1.1.2.1 x.1.1.2.2.1 x.1.2.1 (slotI st9 25)⟩ : Ann))] ky9) Tryd.func36 (by kernel_rfl) (by kernel_rfl) nCheck_p [] [.slot 0 false tI] nCheck_f (fun x => nCheck_VC x.1.1.1 x.1.1.2.1 x.1.1.2.2.1 x.1.2.1) (fun x => by kernel_rfl) (fun x hp => h x.1.1.1 x.1.1.2.1 x.1.1.2.2.1 x.1.2.1 hp)

def FlyingFault_VC (cn : Int) (cl : (List LabD)) (cp : Int) (fl : (List RowD)) : Prop :=
  Nat.le (Nat.succ (pLen cl)) 4611686018427387904 ∧ bif pNe (cfgF (cn, cl, cp, ())) (0 : Int) then (cfgF (cn, cl, cp, ()), ()) = (flyF (cn, cl, cp, ()) fl, ()) else bif pNe (pInt (pLen fl)) (pMul IntKind.i64 cn cn) then ((9 : Int), ()) =
 (flyF (cn, cl, cp, ()) fl, ()) else nflyInv cn cl cp fl ((0 : Int), ()) ∧ ∀ (y : kden Bool.false tI × PUnit), nflyInv cn cl cp fl y → bif pLt y.1 (pInt (pLen fl)) then pIn y.1 (pLen fl) ∧ bif pGt (pInt (pLen (pGet tyRow fl (pNat y.1)).1))
 (30 : Int) then ((9 : Int), ()) = (flyF (cn, cl, cp, ()) fl, ()) else nrowInv cn cl cp fl y.1 ((0 : Int), ()) ∧ ∀ (y_1 : kden Bool.false tI × PUnit), nrowInv cn cl cp fl y.1 y_1 → pIn y.1 (pLen fl) ∧ bif pLt y_1.1 (pInt (pLen (pGet tyRow fl
 (pNat y.1)).1)) then pIn y.1 (pLen fl) ∧ pIn y_1.1 (pLen (pGet tyRow fl (pNat y.1)).1) ∧ Nat.le (Nat.succ (pLen cl)) 4611686018427387904 ∧ bif pNe (msgF (cn, cl, cp, ()) (pGet tyMsg (pGet tyRow fl (pNat y.1)).1 (pNat y_1.1))) (0 : Int) then
 ((9 : Int), ()) = (flyF (cn, cl, cp, ()) fl, ()) else bif pNe (pAdd IntKind.i64 (pMul IntKind.i64 (pGet tyMsg (pGet tyRow fl (pNat y.1)).1 (pNat y_1.1)).2.1 cn) (pGet tyMsg (pGet tyRow fl (pNat y.1)).1 (pNat y_1.1)).2.2.1) y.1 then ((9 :
 Int), ()) = (flyF (cn, cl, cp, ()) fl, ()) else nrowInv cn cl cp fl y.1 (pAdd IntKind.i64 y_1.1 (1 : Int), ()) ∧ Nat.le (Nat.succ (nrowMu cn cl cp fl y.1 (pAdd IntKind.i64 y_1.1 (1 : Int), ()))) (nrowMu cn cl cp fl y.1 y_1) else nflyInv cn
 cl cp fl (pAdd IntKind.i64 y.1 (1 : Int), ()) ∧ Nat.le (Nat.succ (nflyMu cn cl cp fl (pAdd IntKind.i64 y.1 (1 : Int), ()))) (nflyMu cn cl cp fl y) else ((0 : Int), ()) = (flyF (cn, cl, cp, ()) fl, ())
set_option maxRecDepth 100000 in
theorem FlyingFault_meets (hcFault : MtG tabsM 25 ccFault) (hMessageFault : MtG tabsM 40 cMessageFault) (h : ∀ (cn : Int) (cl : (List LabD)) (cp : Int) (fl : (List RowD)), (∀ p ∈ nCheck_p ⟨((cn, cl, cp, ()), fl, ()), ()⟩, p) → FlyingFault_VC cn cl cp fl) : MtG tabsM 39 cFlyingFault :=
  meets_vc (E := envN Tryd.prog tabsM [(25, (false, ccFault)), (40, (false, cMessageFault))] eqsNbV [(43, [0])] []) (envN_ok (fun p hp => (by simp only [List.mem_cons, List.not_mem_nil, or_false] at hp; rcases hp with rfl | rfl; exact hcFault; exact hMessageFault)) (by kernel_rfl)) nCheck_S (fun x => fun ky9 st9 => look [(7, (⟨[.slot 6 false tI], nflyInv x.1.1.1 x.1.1.2.1 x.1.1.2.2.1 x.1.2.1, nflyMu x.1.1.1 x.1.1.2.1 x.1.1.2.2.1 x.1.2.1⟩ : Ann)), (12, (⟨[.slot 7 false tI], nrowInv x.1.1.1 x.1.1.2.1 x.1.1.2.2.1 x.1.2.1 (slotI st9 6), nrowMu x.1.1.1 x.1.1.2.1 x.1.1.2.2.1 x.1.2.1 (slotI st9 6)⟩ : Ann))] ky9) Tryd.func39 (by kernel_rfl) (by kernel_rfl) nCheck_p [] [.slot 0 false tI] nCheck_f (fun x => FlyingFault_VC x.1.1.1 x.1.1.2.1 x.1.1.2.2.1 x.1.2.1) (fun x => by kernel_rfl) (fun x hp => h x.1.1.1 x.1.1.2.1 x.1.1.2.2.1 x.1.2.1 hp)


end Go.Proofs.YtgocemdodabgkaaDoor

/- Contracts, and what the evaluator says, as plain propositions: NuV. Printed by vc.py. -/
namespace Go.Proofs.YtgocemdodabgkaaDoor
open Go.RowKit Go.ChangeShapes Go.WideShapes Go.Deep

abbrev delM_S : Shape := ⟨[.one (.own 0), .one (.rd tI), .one (.rd tI)], [.row tyMsg]⟩
abbrev delM_f : Shape.den delM_S → denVars [.slot 0 true tyMsg] := fun x => (pDel x.2.1 (pNat x.1.2.1), ())
abbrev delM_p : Shape.den delM_S → List Prop := fun x => [pIn x.1.2.1 (pLen x.2.1), x.1.2.2.1 = pAdd .i64 x.1.2.1 1, pLen x.2.1 < 4611686018427387904]
def cdelM : Ctr := shCtr delM_S delM_p [0] [.slot 0 true tyMsg] delM_f
abbrev Take_S : Shape := ⟨[pCfg, .one (.rd (.sl tyRow)), .one (.rd tI), .one (.rd tI), .one (.rd tI), .one (.rd tI)], []⟩
abbrev Take_f : Shape.den Take_S → denVars [.slot 0 true kFly, .agg 1 vMsg, .slot 2 false tI] := fun x => (takeF x.1.1 x.1.2.1 x.1.2.2.1 x.1.2.2.2.1 x.1.2.2.2.2.1 x.1.2.2.2.2.2.1, takeM x.1.1 x.1.2.1 x.1.2.2.1 x.1.2.2.2.1 x.1.2.2.2.2.1 x.1.2.2.2.2.2.1, takeE x.1.1 x.1.2.1 x.1.2.2.1 x.1.2.2.2.1 x.1.2.2.2.2.1 x.1.2.2.2.2.2.1, ())
abbrev Take_p : Shape.den Take_S → List Prop := fun x => [pLen x.1.1.2.1 < 4611686018427387904, pLen x.1.2.1 < 4611686018427387904, (∀ q ∈ x.1.2.1, pLen q.1 < 4611686018427387904)]
def cTake : Ctr := shCtr Take_S Take_p [] [.slot 0 true kFly, .agg 1 vMsg, .slot 2 false tI] Take_f
def cTakenOf : Ctr := shCtr Take_S Take_p [] [.slot 0 true kFly, .agg 1 vMsg, .slot 2 false tI] Take_f
abbrev eqsNuV : List TypeId := [115, 53]

abbrev Take_v0 (cn : Int) (u : Int) (v : Int) := (pAdd IntKind.i64 (pMul IntKind.i64 u cn) v)
abbrev Take_v1 := ((0 : Int), (0 : Int), (0 : Int), (0 : Int), (0 : Int), (0 : Int), (0 : Int), (0 : Int), (0 : Int), (0 : Int), Bool.false, (0 : Int), ())
abbrev Take_v2 (cn : Int) (fl : (List RowD)) (u : Int) (v : Int) := (pLen (pGet tyRow fl (pNat (Take_v0 cn u v))).1)
abbrev Take_v3 (cn : Int) (cl : (List LabD)) (cp : Int) (fl : (List RowD)) (u : Int) (v : Int) (i : Int) (k : Int) := (takeF (cn, cl, cp, ()) fl u v i k, takeM (cn, cl, cp, ()) fl u v i k, takeE (cn, cl, cp, ()) fl u v i k, ())
abbrev Take_v4 (cn : Int) (fl : (List RowD)) (u : Int) (v : Int) (i : Int) := (pGet tyMsg (pGet tyRow fl (pNat (Take_v0 cn u v))).1 (pNat (pRem i (pInt (Take_v2 cn fl u v)))))
abbrev Take_t1 (cn : Int) (cl : (List LabD)) (cp : Int) (fl : (List RowD)) (u : Int) (v : Int) (i : Int) (k : Int) : Prop := ([], (Take_v1), (2 : Int), ()) = (Take_v3 cn cl cp fl u v i k)
abbrev Take_t0 (cn : Int) (cl : (List LabD)) (cp : Int) (fl : (List RowD)) (u : Int) (v : Int) (i : Int) (k : Int) : Prop := bif pLt u (0 : Int) then Take_t1 cn cl cp fl u v i k else bif pGe u cn then Take_t1 cn cl cp fl u v i k else bif pLt v (0 : Int) then Take_t1 cn cl cp fl u v i k else bif pGe v cn then Take_t1 cn cl cp fl u v i k else bif pLt i (0 : Int)
 then Take_t1 cn cl cp fl u v i k else RowsOk fl ∧ pIn (Take_v0 cn u v) (pLen fl) ∧ bif pEq (pInt (Take_v2 cn fl u v)) (0 : Int) then ([], (Take_v1), (6 : Int), ()) = (Take_v3 cn cl cp fl u v i k) else pIn (Take_v0 cn u v) (pLen fl) ∧ pNat
 (Take_v0 cn u v) = pNat (Take_v0 cn u v) ∧ pNz (pInt (Take_v2 cn fl u v)) ∧ pIn (Take_v0 cn u v) (pLen fl) ∧ pNat (Take_v0 cn u v) = pNat (Take_v0 cn u v) ∧ pIn (pRem i (pInt (Take_v2 cn fl u v))) (Take_v2 cn fl u v) ∧ bif pEq k (4 : Int)
 then pIn (Take_v0 cn u v) (pLen fl) ∧ pNat (Take_v0 cn u v) = pNat (Take_v0 cn u v) ∧ bif pEq (pInt (Take_v2 cn fl u v)) (30 : Int) then ([], (Take_v1), (8 : Int), ()) = (Take_v3 cn cl cp fl u v i k) else pIn (Take_v0 cn u v) (pLen fl) ∧
 pNat (Take_v0 cn u v) = pNat (Take_v0 cn u v) ∧ pRoom (pPlus (Take_v2 cn fl u v) (pLen [(Take_v4 cn fl u v i)])) 96 ∧ pIn (Take_v0 cn u v) (pLen fl) ∧ pNat (Take_v0 cn u v) = pNat (Take_v0 cn u v) ∧ (pSet fl (pNat (Take_v0 cn u v)) (pApp
 (pGet tyRow fl (pNat (Take_v0 cn u v))).1 [(Take_v4 cn fl u v i)], ()), (Take_v4 cn fl u v i), (0 : Int), ()) = (Take_v3 cn cl cp fl u v i k) else pIn (Take_v0 cn u v) (pLen fl) ∧ pNat (Take_v0 cn u v) = pNat (Take_v0 cn u v) ∧ pIn (pRem i
 (pInt (Take_v2 cn fl u v))) (Take_v2 cn fl u v) ∧ pAdd IntKind.i64 (pRem i (pInt (Take_v2 cn fl u v))) (1 : Int) = pAdd IntKind.i64 (pRem i (pInt (Take_v2 cn fl u v))) (1 : Int) ∧ Nat.le (Nat.succ (Take_v2 cn fl u v)) 4611686018427387904 ∧
 pIn (Take_v0 cn u v) (pLen fl) ∧ pNat (Take_v0 cn u v) = pNat (Take_v0 cn u v) ∧ (pSet fl (pNat (Take_v0 cn u v)) (pDel (pGet tyRow fl (pNat (Take_v0 cn u v))).1 (pNat (pRem i (pInt (Take_v2 cn fl u v)))), ()), (Take_v4 cn fl u v i), (0 :
 Int), ()) = (Take_v3 cn cl cp fl u v i k)

def Take_VC (cn : Int) (cl : (List LabD)) (cp : Int) (fl : (List RowD)) (u : Int) (v : Int) (i : Int) (k : Int) : Prop :=
  Nat.le (Nat.succ (pLen cl)) 4611686018427387904 ∧ Nat.le (Nat.succ (pLen fl)) 4611686018427387904 ∧ (∀ (q : List (Int × Int × Int × Int × Int × Int × Int × Int × Int × Int × Bool × Int × PUnit) × PUnit), List.Mem q fl → Nat.le (Nat.succ
 (pLen q.1)) 4611686018427387904) ∧ bif pNe (flyF (cn, cl, cp, ()) fl) (0 : Int) then ([], (Take_v1), flyF (cn, cl, cp, ()) fl, ()) = (Take_v3 cn cl cp fl u v i k) else bif pNe k (2 : Int) then bif pNe k (3 : Int) then bif pNe k (4 : Int)
 then ([], (Take_v1), (3 : Int), ()) = (Take_v3 cn cl cp fl u v i k) else Take_t0 cn cl cp fl u v i k else Take_t0 cn cl cp fl u v i k else Take_t0 cn cl cp fl u v i k
set_option maxRecDepth 100000 in
theorem Take_meets (hnCheck : MtG tabsM 36 cnCheck) (hnown : MtG tabsM 38 cnown) (hdelM : MtG tabsM 42 cdelM) (h : ∀ (cn : Int) (cl : (List LabD)) (cp : Int) (fl : (List RowD)) (u : Int) (v : Int) (i : Int) (k : Int), (∀ p ∈ Take_p ⟨((cn, cl, cp, ()), fl, u, v, i, k, ()), ()⟩, p) → Take_VC cn cl cp fl u v i k) : MtG tabsM 16 cTake :=
  meets_vc (E := envN Tryd.prog tabsM [(36, (false, cnCheck)), (38, (false, cnown)), (42, (true, cdelM))] eqsNuV [(43, [0])] []) (envN_ok (fun p hp => (by simp only [List.mem_cons, List.not_mem_nil, or_false] at hp; rcases hp with rfl | rfl | rfl; exact hnCheck; exact hnown; exact hdelM)) (by kernel_rfl)) Take_S (fun x => fun ky9 st9 => look [] ky9) Tryd.func16 (by kernel_rfl) (by kernel_rfl) Take_p [] [.slot 0 true kFly, .agg 1 vMsg, .slot 2 false tI] Take_f (fun x => Take_VC x.1.1.1 x.1.1.2.1 x.1.1.2.2.1 x.1.2.1 x.1.2.2.1 x.1.2.2.2.1 x.1.2.2.2.2.1 x.1.2.2.2.2.2.1) (fun x => by kernel_rfl) (fun x hp => h x.1.1.1 x.1.1.2.1 x.1.1.2.2.1 x.1.2.1 x.1.2.2.1 x.1.2.2.2.1 x.1.2.2.2.2.1 x.1.2.2.2.2.2.1 hp)

abbrev TakenOf_v0 (cn : Int) (fl : (List RowD)) (u : Int) (v : Int) := (pGet tyRow fl (pNat (pAdd IntKind.i64 (pMul IntKind.i64 u cn) v)))
abbrev TakenOf_v1 := ((0 : Int), (0 : Int), (0 : Int), (0 : Int), (0 : Int), (0 : Int), (0 : Int), (0 : Int), (0 : Int), (0 : Int), Bool.false, (0 : Int), ())
abbrev TakenOf_v2 (cn : Int) (cl : (List LabD)) (cp : Int) (fl : (List RowD)) (u : Int) (v : Int) (i : Int) (k : Int) := (takeF (cn, cl, cp, ()) fl u v i k, takeM (cn, cl, cp, ()) fl u v i k, takeE (cn, cl, cp, ()) fl u v i k, ())
abbrev TakenOf_v3 (cn : Int) (u : Int) (v : Int) := (pAdd IntKind.i64 (pMul IntKind.i64 u cn) v)
abbrev TakenOf_v4 (cn : Int) (fl : (List RowD)) (u : Int) (v : Int) (i : Int) := (pGet tyMsg (TakenOf_v0 cn fl u v).1 (pNat (pRem i (pInt (pLen (TakenOf_v0 cn fl u v).1)))))
abbrev TakenOf_t1 (cn : Int) (cl : (List LabD)) (cp : Int) (fl : (List RowD)) (u : Int) (v : Int) (i : Int) (k : Int) : Prop := ([], (TakenOf_v1), (2 : Int), ()) = (TakenOf_v2 cn cl cp fl u v i k)
abbrev TakenOf_t3 (cn : Int) (cl : (List LabD)) (cp : Int) (fl : (List RowD)) (u : Int) (v : Int) (i : Int) (k : Int) : Prop := RowsOk fl ∧ pIn (TakenOf_v3 cn u v) (pLen fl) ∧ pNz (pInt (pLen (TakenOf_v0 cn fl u v).1)) ∧ pIn (pRem i (pInt (pLen (TakenOf_v0 cn fl u v).1))) (pLen (TakenOf_v0 cn fl u v).1) ∧ bif pEq k (4 : Int) then pIn (TakenOf_v3 cn u v) (pLen fl) ∧
 pRoom (pPlus (pLen (TakenOf_v0 cn fl u v).1) (pLen [(TakenOf_v4 cn fl u v i)])) 96 ∧ pIn (TakenOf_v3 cn u v) (pLen fl) ∧ pNat (TakenOf_v3 cn u v) = pNat (TakenOf_v3 cn u v) ∧ (pSet fl (pNat (TakenOf_v3 cn u v)) (pApp (TakenOf_v0 cn fl u
 v).1 [(TakenOf_v4 cn fl u v i)], ()), (TakenOf_v4 cn fl u v i), (0 : Int), ()) = (TakenOf_v2 cn cl cp fl u v i k) else ntakenInv cn cl cp fl u v i k ((0 : Int), [], ()) ∧ ∀ (y : kden Bool.false tI × kden Bool.true tyMsg × PUnit), ntakenInv
 cn cl cp fl u v i k y → bif pLt y.1 (pInt (pLen (TakenOf_v0 cn fl u v).1)) then pNz (pInt (pLen (TakenOf_v0 cn fl u v).1)) ∧ bif pNe y.1 (pRem i (pInt (pLen (TakenOf_v0 cn fl u v).1))) then pIn (TakenOf_v3 cn u v) (pLen fl) ∧ pIn y.1 (pLen
 (TakenOf_v0 cn fl u v).1) ∧ pRoom (pPlus (pLen y.2.1) (pLen [(pGet tyMsg (TakenOf_v0 cn fl u v).1 (pNat y.1))])) 96 ∧ ntakenInv cn cl cp fl u v i k (pAdd IntKind.i64 y.1 (1 : Int), pApp y.2.1 [(pGet tyMsg (TakenOf_v0 cn fl u v).1 (pNat
 y.1))], ()) ∧ Nat.le (Nat.succ (ntakenMu cn cl cp fl u v i k (pAdd IntKind.i64 y.1 (1 : Int), pApp y.2.1 [(pGet tyMsg (TakenOf_v0 cn fl u v).1 (pNat y.1))], ()))) (ntakenMu cn cl cp fl u v i k y) else ntakenInv cn cl cp fl u v i k (pAdd
 IntKind.i64 y.1 (1 : Int), y.2.1, ()) ∧ Nat.le (Nat.succ (ntakenMu cn cl cp fl u v i k (pAdd IntKind.i64 y.1 (1 : Int), y.2.1, ()))) (ntakenMu cn cl cp fl u v i k y) else pIn (TakenOf_v3 cn u v) (pLen fl) ∧ (pSet fl (pNat (TakenOf_v3 cn u
 v)) (y.2.1, ()), (TakenOf_v4 cn fl u v i), (0 : Int), ()) = (TakenOf_v2 cn cl cp fl u v i k)
abbrev TakenOf_t2 (cn : Int) (cl : (List LabD)) (cp : Int) (fl : (List RowD)) (u : Int) (v : Int) (i : Int) (k : Int) : Prop := bif pNe (flyF (cn, cl, cp, ()) fl) (0 : Int) then ([], (TakenOf_v1), flyF (cn, cl, cp, ()) fl, ()) = (TakenOf_v2 cn cl cp fl u v i k) else pIn (TakenOf_v3 cn u v) (pLen fl) ∧ bif pEq (pInt (pLen (TakenOf_v0 cn fl u v).1)) (0 : Int) then
 ([], (TakenOf_v1), (6 : Int), ()) = (TakenOf_v2 cn cl cp fl u v i k) else bif pEq k (4 : Int) then bif pGe (pInt (pLen (TakenOf_v0 cn fl u v).1)) (30 : Int) then ([], (TakenOf_v1), (8 : Int), ()) = (TakenOf_v2 cn cl cp fl u v i k) else
 TakenOf_t3 cn cl cp fl u v i k else TakenOf_t3 cn cl cp fl u v i k
abbrev TakenOf_t0 (cn : Int) (cl : (List LabD)) (cp : Int) (fl : (List RowD)) (u : Int) (v : Int) (i : Int) (k : Int) : Prop := bif pEq (flyF (cn, cl, cp, ()) fl) (0 : Int) then bif pNot (inF u (0 : Int) (pSubI IntKind.i64 cn (1 : Int))) then TakenOf_t1 cn cl cp fl u v i k else bif pNot (inF v (0 : Int) (pSubI IntKind.i64 cn (1 : Int))) then TakenOf_t1 cn cl cp fl u
 v i k else bif pLt i (0 : Int) then TakenOf_t1 cn cl cp fl u v i k else TakenOf_t2 cn cl cp fl u v i k else TakenOf_t2 cn cl cp fl u v i k

def TakenOf_VC (cn : Int) (cl : (List LabD)) (cp : Int) (fl : (List RowD)) (u : Int) (v : Int) (i : Int) (k : Int) : Prop :=
  Nat.le (Nat.succ (pLen cl)) 4611686018427387904 ∧ Nat.le (Nat.succ (pLen fl)) 4611686018427387904 ∧ (∀ (q : List (Int × Int × Int × Int × Int × Int × Int × Int × Int × Int × Bool × Int × PUnit) × PUnit), List.Mem q fl → Nat.le (Nat.succ
 (pLen q.1)) 4611686018427387904) ∧ bif pEq (flyF (cn, cl, cp, ()) fl) (0 : Int) then bif pNot (inF k (2 : Int) (4 : Int)) then ([], (TakenOf_v1), (3 : Int), ()) = (TakenOf_v2 cn cl cp fl u v i k) else TakenOf_t0 cn cl cp fl u v i k else
 TakenOf_t0 cn cl cp fl u v i k
set_option maxRecDepth 100000 in
theorem TakenOf_meets (hFlyingFault : MtG tabsM 39 cFlyingFault) (hIn : MtG tabsM 26 cIn) (hFlyingCopy : MtG tabsM 12 cFlyingCopy) (h : ∀ (cn : Int) (cl : (List LabD)) (cp : Int) (fl : (List RowD)) (u : Int) (v : Int) (i : Int) (k : Int), (∀ p ∈ Take_p ⟨((cn, cl, cp, ()), fl, u, v, i, k, ()), ()⟩, p) → TakenOf_VC cn cl cp fl u v i k) : MtG tabsM 17 cTakenOf :=
  meets_vc (E := envN Tryd.prog tabsM [(39, (false, cFlyingFault)), (26, (false, cIn)), (12, (false, cFlyingCopy))] eqsNuV [(43, [0])] []) (envN_ok (fun p hp => (by simp only [List.mem_cons, List.not_mem_nil, or_false] at hp; rcases hp with rfl | rfl | rfl; exact hFlyingFault; exact hIn; exact hFlyingCopy)) (by kernel_rfl)) Take_S (fun x => fun ky9 st9 => look [(21, (⟨[.slot 21 false tI, .slot 20 true tyMsg], ntakenInv x.1.1.1 x.1.1.2.1 x.1.1.2.2.1 x.1.2.1 x.1.2.2.1 x.1.2.2.2.1 x.1.2.2.2.2.1 x.1.2.2.2.2.2.1, ntakenMu x.1.1.1 x.1.1.2.1 x.1.1.2.2.1 x.1.2.1 x.1.2.2.1 x.1.2.2.2.1 x.1.2.2.2.2.1 x.1.2.2.2.2.2.1⟩ : Ann))] ky9) Tryd.func17 (by kernel_rfl) (by kernel_rfl) Take_p [] [.slot 0 true kFly, .agg 1 vMsg, .slot 2 false tI] Take_f (fun x => TakenOf_VC x.1.1.1 x.1.1.2.1 x.1.1.2.2.1 x.1.2.1 x.1.2.2.1 x.1.2.2.2.1 x.1.2.2.2.2.1 x.1.2.2.2.2.2.1) (fun x => by kernel_rfl) (fun x hp => h x.1.1.1 x.1.1.2.1 x.1.1.2.2.1 x.1.2.1 x.1.2.2.1 x.1.2.2.2.1 x.1.2.2.2.2.1 x.1.2.2.2.2.2.1 hp)

abbrev NetTakes_v0 := (Int × Int × Int × Int × Int × Int × Int × Int × Int × Int × Bool × Int × PUnit)

def NetTakes_VC (cn : Int) (cl : (List LabD)) (cp : Int) (fl : (List RowD)) (u : Int) (v : Int) (i : Int) (k : Int) : Prop :=
  RowsOk fl ∧ Nat.le (Nat.succ (pLen cl)) 4611686018427387904 ∧ Nat.le (Nat.succ (pLen fl)) 4611686018427387904 ∧ (∀ (q : List (NetTakes_v0) × PUnit), List.Mem q fl → Nat.le (Nat.succ (pLen q.1)) 4611686018427387904) ∧ Nat.le (Nat.succ (pLen
 cl)) 4611686018427387904 ∧ Nat.le (Nat.succ (pLen fl)) 4611686018427387904 ∧ (∀ (q : List (NetTakes_v0) × PUnit), List.Mem q fl → Nat.le (Nat.succ (pLen q.1)) 4611686018427387904) ∧ bif pEq (takeE (cn, cl, cp, ()) fl u v i k) (takeE (cn,
 cl, cp, ()) fl u v i k) then bif pAndB (pEq (takeM (cn, cl, cp, ()) fl u v i k).1 (takeM (cn, cl, cp, ()) fl u v i k).1) (pAndB (pEq (takeM (cn, cl, cp, ()) fl u v i k).2.1 (takeM (cn, cl, cp, ()) fl u v i k).2.1) (pAndB (pEq (takeM (cn,
 cl, cp, ()) fl u v i k).2.2.1 (takeM (cn, cl, cp, ()) fl u v i k).2.2.1) (pAndB (pEq (takeM (cn, cl, cp, ()) fl u v i k).2.2.2.1 (takeM (cn, cl, cp, ()) fl u v i k).2.2.2.1) (pAndB (pEq (takeM (cn, cl, cp, ()) fl u v i k).2.2.2.2.1 (takeM
 (cn, cl, cp, ()) fl u v i k).2.2.2.2.1) (pAndB (pEq (takeM (cn, cl, cp, ()) fl u v i k).2.2.2.2.2.1 (takeM (cn, cl, cp, ()) fl u v i k).2.2.2.2.2.1) (pAndB (pEq (takeM (cn, cl, cp, ()) fl u v i k).2.2.2.2.2.2.1 (takeM (cn, cl, cp, ()) fl u
 v i k).2.2.2.2.2.2.1) (pAndB (pEq (takeM (cn, cl, cp, ()) fl u v i k).2.2.2.2.2.2.2.1 (takeM (cn, cl, cp, ()) fl u v i k).2.2.2.2.2.2.2.1) (pAndB (pEq (takeM (cn, cl, cp, ()) fl u v i k).2.2.2.2.2.2.2.2.1 (takeM (cn, cl, cp, ()) fl u v i
 k).2.2.2.2.2.2.2.2.1) (pAndB (pEq (takeM (cn, cl, cp, ()) fl u v i k).2.2.2.2.2.2.2.2.2.1 (takeM (cn, cl, cp, ()) fl u v i k).2.2.2.2.2.2.2.2.2.1) (pAndB (pBeq (takeM (cn, cl, cp, ()) fl u v i k).2.2.2.2.2.2.2.2.2.2.1 (takeM (cn, cl, cp,
 ()) fl u v i k).2.2.2.2.2.2.2.2.2.2.1) (pEq (takeM (cn, cl, cp, ()) fl u v i k).2.2.2.2.2.2.2.2.2.2.2.1 (takeM (cn, cl, cp, ()) fl u v i k).2.2.2.2.2.2.2.2.2.2.2.1))))))))))) then Nat.le (Nat.succ (pLen (takeF (cn, cl, cp, ()) fl u v i k)))
 4611686018427387904 ∧ (∀ (q : List (NetTakes_v0) × PUnit), List.Mem q (takeF (cn, cl, cp, ()) fl u v i k) → Nat.le (Nat.succ (pLen q.1)) 4611686018427387904) ∧ bif sameFlyF (takeF (cn, cl, cp, ()) fl u v i k) (takeF (cn, cl, cp, ()) fl u v
 i k) then Nat.le (Nat.succ (pLen fl)) 4611686018427387904 ∧ (∀ (q : List (NetTakes_v0) × PUnit), List.Mem q fl → Nat.le (Nat.succ (pLen q.1)) 4611686018427387904) ∧ (sameFlyF fl fl, ()) = (Bool.true, ()) else (Bool.false, ()) = (Bool.true,
 ()) else (Bool.false, ()) = (Bool.true, ()) else (Bool.false, ()) = (Bool.true, ())
set_option maxRecDepth 100000 in
theorem NetTakes_walk {H : Type} {enc : TypeId × Value → H} (hFlyingCopy : MtG tabsM 12 cFlyingCopy) (hTake : MtG tabsM 16 cTake) (hTakenOf : MtG tabsM 17 cTakenOf) (hsameFly : MtG tabsM 15 csameFly) (h : ∀ (x : denL [(true, wCfg), (false, (wSl (wSl wMsg 96) 24)), (false, wInt), (false, wInt), (false, wInt), (false, wInt)]), okL [(true, wCfg), (false, (wSl (wSl wMsg 96) 24)), (false, wInt), (false, wInt), (false, wInt), (false, wInt)] x → NetTakes_VC x.1.1 x.1.2.1 x.1.2.2.1 x.2.1.1 x.2.2.1.1 x.2.2.2.1.1 x.2.2.2.2.1.1 x.2.2.2.2.2.1.1) : ∀ (W : World) (base : Nat) (args : Array Value) (ds : List (DataW H)) (p : List MemPlace), DataW.TrodAll enc Tryd.prog W 0 (fun _ => true) true Tryd.f5.params.toList args.toList ds p → (∀ (j : Nat) (t : TypeId) (v : Value), Tryd.f5.params[j]? = some t → args[j]? = some v → Value.okWide Tryd.prog W .any base t v) → (∀ x ∈ p, x.block < W.heap.size) → (DataW.weightsEach Tryd.prog Tryd.f5.params.toList ds).all (· ≤ reachBytes) = true → TabsM W → Calls Tryd.prog 5 args W fun e W1 => e = .returned (.bool true) ∧ Below W.heap.size W W1 :=
  law_walkLG (E := envN Tryd.prog tabsM [(12, (false, cFlyingCopy)), (16, (false, cTake)), (17, (false, cTakenOf)), (15, (false, csameFly))] eqsNuV [(43, [0])] []) (envN_ok (fun p hp => (by simp only [List.mem_cons, List.not_mem_nil, or_false] at hp; rcases hp with rfl | rfl | rfl | rfl; exact hFlyingCopy; exact hTake; exact hTakenOf; exact hsameFly)) (by kernel_rfl)) TabsM tabsM_ok Tryd.func5 (by kernel_rfl) [(true, wCfg), (false, (wSl (wSl wMsg 96) 24)), (false, wInt), (false, wInt), (false, wInt), (false, wInt)] (by kernel_rfl) (fun x => fun ky9 st9 => look [] ky9) (fun x => NetTakes_VC x.1.1 x.1.2.1 x.1.2.2.1 x.2.1.1 x.2.2.1.1 x.2.2.2.1.1 x.2.2.2.2.1.1 x.2.2.2.2.2.1.1) (fun x => by kernel_rfl) h


end Go.Proofs.YtgocemdodabgkaaDoor
