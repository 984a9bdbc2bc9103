/- Messages: the checks meet their contracts. No condition. -/
import Derived.Test.YtnkcmkegjckncaaDoorJ5
import Derived.Test.YtnkcmkegjckncaaDoorJ1

/- Contracts, and what the evaluator says, as plain propositions: ChV. Printed by vc.py. -/
namespace Go.Proofs.YtnkcmkegjckncaaDoor
open Go.RowKit Go.ChangeShapes Go.WideShapes Go.Deep

abbrev wtxn_S : Shape := ⟨[pCfg, pTxn], []⟩
abbrev wtxn_f : Shape.den wtxn_S → denVars [.slot 0 false .bool] := fun x => (txnF x.1.1 x.1.2.1.1 x.1.2.1.2.1, ())
abbrev wtxn_p : Shape.den wtxn_S → List Prop := fun _ => []
def cwtxn : Ctr := shCtr wtxn_S wtxn_p [] [.slot 0 false .bool] wtxn_f
abbrev wkey_S : Shape := ⟨[.one (.rd tI)], []⟩
abbrev wkey_f : Shape.den wkey_S → denVars [.slot 0 false .bool] := fun x => (inF x.1.1 0 7, ())
abbrev wkey_p : Shape.den wkey_S → List Prop := fun _ => []
def cwkey : Ctr := shCtr wkey_S wkey_p [] [.slot 0 false .bool] wkey_f
abbrev wvalue_f : Shape.den wkey_S → denVars [.slot 0 false .bool] := fun x => (inF x.1.1 0 1073741824, ())
def cwvalue : Ctr := shCtr wkey_S wkey_p [] [.slot 0 false .bool] wvalue_f
abbrev wask_f : Shape.den wkey_S → denVars [.slot 0 false .bool] := fun x => (inF x.1.1 0 1048576, ())
def cwask : Ctr := shCtr wkey_S wkey_p [] [.slot 0 false .bool] wask_f
abbrev wcode_f : Shape.den wkey_S → denVars [.slot 0 false .bool] := fun x => (codeF x.1.1, ())
def cwcode : Ctr := shCtr wkey_S wkey_p [] [.slot 0 false .bool] wcode_f
abbrev txnMay_p : Shape.den wtxn_S → List Prop := fun x => [inF x.1.1.1 1 4 = true]
def ctxnMay : Ctr := shCtr wtxn_S txnMay_p [] [.slot 0 false .bool] wtxn_f
abbrev MessageFault_S : Shape := ⟨[pCfg, pMsg], []⟩
abbrev MessageFault_f : Shape.den MessageFault_S → denVars [.slot 0 false tI] := fun x => (msgF x.1.1 x.1.2.1, ())
abbrev MessageFault_p : Shape.den MessageFault_S → List Prop := fun x => [pLen x.1.1.2.1 < 4611686018427387904]
def cMessageFault : Ctr := shCtr MessageFault_S MessageFault_p [] [.slot 0 false tI] MessageFault_f
abbrev deskFault0_S : Shape := ⟨[pCfg, .one (.rd tI), .one (.rd tI), pDesk], []⟩
abbrev deskFault0_f : Shape.den deskFault0_S → denVars [.slot 0 false tI] := fun x => (0, ())
abbrev deskFault0_p : Shape.den deskFault0_S → List Prop := fun x => [pLen x.1.1.2.1 < 4611686018427387904, pLen x.1.2.2.2.1.2.1 < 4611686018427387904, (∀ q ∈ x.1.2.2.2.1.2.1, pLen q.2.2.1 < 4611686018427387904 ∧ pLen q.2.2.2.1 < 4611686018427387904), begE x.1.1 x.1.2.1 x.1.2.2.1 x.1.2.2.2.1 = 0]
def cdeskFault0 : Ctr := shCtr deskFault0_S deskFault0_p [] [.slot 0 false tI] deskFault0_f
abbrev MessageFault0_f : Shape.den MessageFault_S → denVars [.slot 0 false tI] := fun x => (0, ())
abbrev MessageFault0_p : Shape.den MessageFault_S → List Prop := fun x => [pLen x.1.1.2.1 < 4611686018427387904, msgF x.1.1 x.1.2.1 = 0]
def cMessageFault0 : Ctr := shCtr MessageFault_S MessageFault0_p [] [.slot 0 false tI] MessageFault0_f
abbrev eqsCiU : List TypeId := [101, 73, 32, 29, 96]

abbrev wtxn_t0 (cn : Int) (cl : List LabD) (cp : Int) (ts : Int) (tn : Int) : Prop := (Bool.false, ()) = (txnF (cn, cl, cp, ()) ts tn, ())

def wtxn_VC (cn : Int) (cl : (List LabD)) (cp : Int) (ts : Int) (tn : Int) : Prop :=
  bif pGe ts (0 : Int) then bif pLt ts cn then bif pGe tn (1 : Int) then (pLe tn (1048576 : Int), ()) = (txnF (cn, cl, cp, ()) ts tn, ()) else wtxn_t0 cn cl cp ts tn else wtxn_t0 cn cl cp ts tn else wtxn_t0 cn cl cp ts tn
set_option maxRecDepth 100000 in
theorem wtxn_meets  (h : ∀ (cn : Int) (cl : (List LabD)) (cp : Int) (ts : Int) (tn : Int), wtxn_VC cn cl cp ts tn) : Mt 33 cwtxn :=
  meets_vc (E := envN Tryd.prog (fun _ => none) [] eqsCiU [(25, [2, 3])] []) (envN_ok (fun p hp => by cases hp) (by kernel_rfl)) wtxn_S (fun x => fun ky9 st9 => look [] ky9) Tryd.func33 (by kernel_rfl) (by kernel_rfl) wtxn_p [] [.slot 0 false .bool] wtxn_f (fun x => wtxn_VC x.1.1.1 x.1.1.2.1 x.1.1.2.2.1 x.1.2.1.1 x.1.2.1.2.1) (fun x => by kernel_rfl) (fun x _ => h x.1.1.1 x.1.1.2.1 x.1.1.2.2.1 x.1.2.1.1 x.1.2.1.2.1)

def wkey_VC (a : Int) : Prop :=
  bif pGe a (0 : Int) then (pLt a (8 : Int), ()) = (inF a (0 : Int) (7 : Int), ()) else (Bool.false, ()) = (inF a (0 : Int) (7 : Int), ())
set_option maxRecDepth 100000 in
theorem wkey_meets  (h : ∀ (a : Int), wkey_VC a) : Mt 34 cwkey :=
  meets_vc (E := envN Tryd.prog (fun _ => none) [] eqsCiU [(25, [2, 3])] []) (envN_ok (fun p hp => by cases hp) (by kernel_rfl)) wkey_S (fun x => fun ky9 st9 => look [] ky9) Tryd.func34 (by kernel_rfl) (by kernel_rfl) wkey_p [] [.slot 0 false .bool] wkey_f (fun x => wkey_VC x.1.1) (fun x => by kernel_rfl) (fun x _ => h x.1.1)

def wvalue_VC (a : Int) : Prop :=
  bif pGe a (0 : Int) then (pLe a (1073741824 : Int), ()) = (inF a (0 : Int) (1073741824 : Int), ()) else (Bool.false, ()) = (inF a (0 : Int) (1073741824 : Int), ())
set_option maxRecDepth 100000 in
theorem wvalue_meets  (h : ∀ (a : Int), wvalue_VC a) : Mt 35 cwvalue :=
  meets_vc (E := envN Tryd.prog (fun _ => none) [] eqsCiU [(25, [2, 3])] []) (envN_ok (fun p hp => by cases hp) (by kernel_rfl)) wkey_S (fun x => fun ky9 st9 => look [] ky9) Tryd.func35 (by kernel_rfl) (by kernel_rfl) wkey_p [] [.slot 0 false .bool] wvalue_f (fun x => wvalue_VC x.1.1) (fun x => by kernel_rfl) (fun x _ => h x.1.1)

def wask_VC (a : Int) : Prop :=
  bif pGe a (0 : Int) then (pLe a (1048576 : Int), ()) = (inF a (0 : Int) (1048576 : Int), ()) else (Bool.false, ()) = (inF a (0 : Int) (1048576 : Int), ())
set_option maxRecDepth 100000 in
theorem wask_meets  (h : ∀ (a : Int), wask_VC a) : Mt 36 cwask :=
  meets_vc (E := envN Tryd.prog (fun _ => none) [] eqsCiU [(25, [2, 3])] []) (envN_ok (fun p hp => by cases hp) (by kernel_rfl)) wkey_S (fun x => fun ky9 st9 => look [] ky9) Tryd.func36 (by kernel_rfl) (by kernel_rfl) wkey_p [] [.slot 0 false .bool] wask_f (fun x => wask_VC x.1.1) (fun x => by kernel_rfl) (fun x _ => h x.1.1)

def wcode_VC (a : Int) : Prop :=
  bif pEq a (0 : Int) then (Bool.true, ()) = (codeF a, ()) else bif pEq a (11 : Int) then (Bool.true, ()) = (codeF a, ()) else (pEq a (8 : Int), ()) = (codeF a, ())
set_option maxRecDepth 100000 in
theorem wcode_meets  (h : ∀ (a : Int), wcode_VC a) : Mt 37 cwcode :=
  meets_vc (E := envN Tryd.prog (fun _ => none) [] eqsCiU [(25, [2, 3])] []) (envN_ok (fun p hp => by cases hp) (by kernel_rfl)) wkey_S (fun x => fun ky9 st9 => look [] ky9) Tryd.func37 (by kernel_rfl) (by kernel_rfl) wkey_p [] [.slot 0 false .bool] wcode_f (fun x => wcode_VC x.1.1) (fun x => by kernel_rfl) (fun x _ => h x.1.1)

def txnMay_VC (cn : Int) (cl : (List LabD)) (cp : Int) (ts : Int) (tn : Int) : Prop :=
  bif inF ts (0 : Int) (pSubI IntKind.i64 cn (1 : Int)) then (inF tn (1 : Int) (1048576 : Int), ()) = (txnF (cn, cl, cp, ()) ts tn, ()) else (Bool.false, ()) = (txnF (cn, cl, cp, ()) ts tn, ())
set_option maxRecDepth 100000 in
theorem txnMay_meets (hIn : Mt 51 cIn) (h : ∀ (cn : Int) (cl : (List LabD)) (cp : Int) (ts : Int) (tn : Int), (∀ p ∈ txnMay_p ⟨((cn, cl, cp, ()), (ts, tn, ()), ()), ()⟩, p) → txnMay_VC cn cl cp ts tn) : Mt 53 ctxnMay :=
  meets_vc (E := envN Tryd.prog (fun _ => none) [(51, (false, cIn))] eqsCiU [(25, [2, 3])] []) (envN_ok (fun p hp => (by simp only [List.mem_cons, List.not_mem_nil, or_false] at hp; rcases hp with rfl; exact hIn)) (by kernel_rfl)) wtxn_S (fun x => fun ky9 st9 => look [] ky9) Tryd.func53 (by kernel_rfl) (by kernel_rfl) txnMay_p [] [.slot 0 false .bool] wtxn_f (fun x => txnMay_VC x.1.1.1 x.1.1.2.1 x.1.1.2.2.1 x.1.2.1.1 x.1.2.1.2.1) (fun x => by kernel_rfl) (fun x hp => h x.1.1.1 x.1.1.2.1 x.1.1.2.2.1 x.1.2.1.1 x.1.2.1.2.1 hp)

abbrev MessageFault_v0 (cn : Int) (cl : List LabD) (cp : Int) (mk : Int) (mf : Int) (mt : Int) (ms : Int) (mn : Int) (ml : Int) (my : Int) (mv : Int) (me : Int) (ma : Int) (md : Bool) (mc : Int) := (msgF (cn, cl, cp, ()) (mk, mf, mt, ms, mn, ml, my, mv, me, ma, md, mc, ()), ())
abbrev MessageFault_v1 (my : Int) (mv : Int) (me : Int) (ma : Int) (md : Bool) (mc : Int) := pAndB (pEq my my) (pAndB (pEq (0 : Int) mv) (pAndB (pEq (0 : Int) me) (pAndB (pEq ma ma) (pAndB (pBeq Bool.false md) (pEq mc mc)))))
abbrev MessageFault_v2 (cn : Int) (cl : List LabD) (cp : Int) (mk : Int) (mf : Int) (mt : Int) (ms : Int) (mn : Int) (ml : Int) (my : Int) (mv : Int) (me : Int) (ma : Int) (md : Bool) (mc : Int) := bif pEq mk (1 : Int) then bif pNot (pAndB (pEq mk mk) (pAndB (pEq mf mf) (pAndB (pEq mt mt) (pAndB (pEq ms ms) (pAndB (pEq mn mn) (pAndB (pEq ml ml) (pAndB (pEq my my) (pAndB (pEq (0 : Int) mv) (pAndB (pEq (0 : Int) me) (pAndB (pEq ma ma)
 (pAndB (pBeq Bool.false md) (pEq (0 : Int) mc)))))))))))) then ((4 : Int), ()) = MessageFault_v0 cn cl cp mk mf mt ms mn ml my mv me ma md mc else ((0 : Int), ()) = MessageFault_v0 cn cl cp mk mf mt ms mn ml my mv me ma md mc else bif pEq
 mk (2 : Int) then bif pNot (pAndB (pEq mk mk) (pAndB (pEq mf mf) (pAndB (pEq mt mt) (pAndB (pEq ms ms) (pAndB (pEq mn mn) (pAndB (pEq (0 : Int) ml) (pAndB (pEq my my) (pAndB (pEq mv mv) (pAndB (pEq (0 : Int) me) (pAndB (pEq ma ma) (pAndB
 (pBeq Bool.false md) (pEq (0 : Int) mc)))))))))))) then ((4 : Int), ()) = MessageFault_v0 cn cl cp mk mf mt ms mn ml my mv me ma md mc else ((0 : Int), ()) = MessageFault_v0 cn cl cp mk mf mt ms mn ml my mv me ma md mc else bif pEq mk (5 :
 Int) then bif pEq mc (0 : Int) then bif pNot (pAndB (pEq mk mk) (pAndB (pEq mf mf) (pAndB (pEq mt mt) (pAndB (pEq ms ms) (pAndB (pEq mn mn) (pAndB (pEq ml ml) (pAndB (pEq my my) (pAndB (pEq mv mv) (pAndB (pEq me me) (pAndB (pEq ma ma)
 (pAndB (pBeq Bool.false md) (pEq mc mc)))))))))))) then ((4 : Int), ()) = MessageFault_v0 cn cl cp mk mf mt ms mn ml my mv me ma md mc else ((0 : Int), ()) = MessageFault_v0 cn cl cp mk mf mt ms mn ml my mv me ma md mc else bif pNot (pAndB
 (pEq mk mk) (pAndB (pEq mf mf) (pAndB (pEq mt mt) (pAndB (pEq ms ms) (pAndB (pEq mn mn) (pAndB (pEq ml ml) (MessageFault_v1 my mv me ma md mc))))))) then ((4 : Int), ()) = MessageFault_v0 cn cl cp mk mf mt ms mn ml my mv me ma md mc else
 ((0 : Int), ()) = MessageFault_v0 cn cl cp mk mf mt ms mn ml my mv me ma md mc else bif pEq mk (6 : Int) then bif pNot (pAndB (pEq mk mk) (pAndB (pEq mf mf) (pAndB (pEq mt mt) (pAndB (pEq ms ms) (pAndB (pEq mn mn) (pAndB (pEq (0 : Int) ml)
 (MessageFault_v1 my mv me ma md mc))))))) then ((4 : Int), ()) = MessageFault_v0 cn cl cp mk mf mt ms mn ml my mv me ma md mc else ((0 : Int), ()) = MessageFault_v0 cn cl cp mk mf mt ms mn ml my mv me ma md mc else bif pEq mk (4 : Int) then
 bif pNot (pAndB (pEq mk mk) (pAndB (pEq mf mf) (pAndB (pEq mt mt) (pAndB (pEq ms ms) (pAndB (pEq mn mn) (pAndB (pEq (0 : Int) ml) (pAndB (pEq (0 : Int) my) (pAndB (pEq (0 : Int) mv) (pAndB (pEq (0 : Int) me) (pAndB (pEq (0 : Int) ma) (pAndB
 (pBeq md md) (pEq (0 : Int) mc)))))))))))) then ((4 : Int), ()) = MessageFault_v0 cn cl cp mk mf mt ms mn ml my mv me ma md mc else ((0 : Int), ()) = MessageFault_v0 cn cl cp mk mf mt ms mn ml my mv me ma md mc else bif pEq mk (3 : Int)
 then bif pNot (pAndB (pEq mk mk) (pAndB (pEq mf mf) (pAndB (pEq mt mt) (pAndB (pEq ms ms) (pAndB (pEq mn mn) (pAndB (pEq ml ml) (pAndB (pEq my my) (pAndB (pEq (0 : Int) mv) (pAndB (pEq me me) (pAndB (pEq (0 : Int) ma) (pAndB (pBeq
 Bool.false md) (pEq (0 : Int) mc)))))))))))) then ((4 : Int), ()) = MessageFault_v0 cn cl cp mk mf mt ms mn ml my mv me ma md mc else ((0 : Int), ()) = MessageFault_v0 cn cl cp mk mf mt ms mn ml my mv me ma md mc else bif pEq mk (7 : Int)
 then bif pNot (pAndB (pEq mk mk) (pAndB (pEq mf mf) (pAndB (pEq mt mt) (pAndB (pEq ms ms) (pAndB (pEq mn mn) (pAndB (pEq ml ml) (pAndB (pEq my my) (pAndB (pEq (0 : Int) mv) (pAndB (pEq me me) (pAndB (pEq (0 : Int) ma) (pAndB (pBeq md md)
 (pEq (0 : Int) mc)))))))))))) then ((4 : Int), ()) = MessageFault_v0 cn cl cp mk mf mt ms mn ml my mv me ma md mc else ((0 : Int), ()) = MessageFault_v0 cn cl cp mk mf mt ms mn ml my mv me ma md mc else bif pNot (pAndB (pEq mk mk) (pAndB
 (pEq mf mf) (pAndB (pEq mt mt) (pAndB (pEq ms ms) (pAndB (pEq mn mn) (pAndB (pEq (0 : Int) ml) (pAndB (pEq (0 : Int) my) (pAndB (pEq (0 : Int) mv) (pAndB (pEq (0 : Int) me) (pAndB (pEq (0 : Int) ma) (pAndB (pBeq Bool.false md) (pEq (0 :
 Int) mc)))))))))))) then ((4 : Int), ()) = MessageFault_v0 cn cl cp mk mf mt ms mn ml my mv me ma md mc else ((0 : Int), ()) = MessageFault_v0 cn cl cp mk mf mt ms mn ml my mv me ma md mc

def MessageFault_VC (cn : Int) (cl : (List LabD)) (cp : Int) (mk : Int) (mf : Int) (mt : Int) (ms : Int) (mn : Int) (ml : Int) (my : Int) (mv : Int) (me : Int) (ma : Int) (md : Bool) (mc : Int) : Prop :=
  Nat.le (Nat.succ (pLen cl)) 4611686018427387904 ∧ bif pNe (cfgF (cn, cl, cp, ())) (0 : Int) then (cfgF (cn, cl, cp, ()), ()) = MessageFault_v0 cn cl cp mk mf mt ms mn ml my mv me ma md mc else bif pNot (inF mk (1 : Int) (9 : Int)) then ((3
 : Int), ()) = MessageFault_v0 cn cl cp mk mf mt ms mn ml my mv me ma md mc else bif pNot (inF mf (0 : Int) (pSubI IntKind.i64 cn (1 : Int))) then ((2 : Int), ()) = MessageFault_v0 cn cl cp mk mf mt ms mn ml my mv me ma md mc else bif pNot
 (inF mt (0 : Int) (pSubI IntKind.i64 cn (1 : Int))) then ((2 : Int), ()) = MessageFault_v0 cn cl cp mk mf mt ms mn ml my mv me ma md mc else inF cn (1 : Int) (4 : Int) = Bool.true ∧ bif pNot (txnF (cn, cl, cp, ()) ms mn) then ((2 : Int),
 ()) = MessageFault_v0 cn cl cp mk mf mt ms mn ml my mv me ma md mc else Nat.le (Nat.succ (pLen cl)) 4611686018427387904 ∧ bif pNot (placeF (cn, cl, cp, ()) ml) then ((2 : Int), ()) = MessageFault_v0 cn cl cp mk mf mt ms mn ml my mv me ma md
 mc else bif pNot (inF my (0 : Int) (7 : Int)) then ((2 : Int), ()) = MessageFault_v0 cn cl cp mk mf mt ms mn ml my mv me ma md mc else bif pNot (inF mv (0 : Int) (1073741824 : Int)) then ((2 : Int), ()) = MessageFault_v0 cn cl cp mk mf mt
 ms mn ml my mv me ma md mc else bif pNot (inF me (0 : Int) (1048576 : Int)) then ((2 : Int), ()) = MessageFault_v0 cn cl cp mk mf mt ms mn ml my mv me ma md mc else bif pNot (inF ma (0 : Int) (1048576 : Int)) then ((2 : Int), ()) =
 MessageFault_v0 cn cl cp mk mf mt ms mn ml my mv me ma md mc else bif pNe mc (0 : Int) then bif pNe mc (11 : Int) then bif pNe mc (8 : Int) then ((2 : Int), ()) = MessageFault_v0 cn cl cp mk mf mt ms mn ml my mv me ma md mc else
 MessageFault_v2 cn cl cp mk mf mt ms mn ml my mv me ma md mc else MessageFault_v2 cn cl cp mk mf mt ms mn ml my mv me ma md mc else MessageFault_v2 cn cl cp mk mf mt ms mn ml my mv me ma md mc
set_option maxRecDepth 100000 in
theorem MessageFault_meets (hcFault : Mt 52 ccFault) (hIn : Mt 51 cIn) (htxnMay : Mt 53 ctxnMay) (hlabelMay : Mt 50 clabelMay) (h : ∀ (cn : Int) (cl : (List LabD)) (cp : Int) (mk : Int) (mf : Int) (mt : Int) (ms : Int) (mn : Int) (ml : Int) (my : Int) (mv : Int) (me : Int) (ma : Int) (md : Bool) (mc : Int), (∀ p ∈ MessageFault_p ⟨((cn, cl, cp, ()), (mk, mf, mt, ms, mn, ml, my, mv, me, ma, md, mc, ()), ()), ()⟩, p) → MessageFault_VC cn cl cp mk mf mt ms mn ml my mv me ma md mc) : Mt 19 cMessageFault :=
  meets_vc (E := envN Tryd.prog (fun _ => none) [(52, (false, ccFault)), (51, (false, cIn)), (53, (false, ctxnMay)), (50, (false, clabelMay))] eqsCiU [(25, [2, 3])] []) (envN_ok (fun p hp => (by simp only [List.mem_cons, List.not_mem_nil, or_false] at hp; rcases hp with rfl | rfl | rfl | rfl; exact hcFault; exact hIn; exact htxnMay; exact hlabelMay)) (by kernel_rfl)) MessageFault_S (fun x => fun ky9 st9 => look [] ky9) Tryd.func19 (by kernel_rfl) (by kernel_rfl) MessageFault_p [] [.slot 0 false tI] MessageFault_f (fun x => MessageFault_VC x.1.1.1 x.1.1.2.1 x.1.1.2.2.1 x.1.2.1.1 x.1.2.1.2.1 x.1.2.1.2.2.1 x.1.2.1.2.2.2.1 x.1.2.1.2.2.2.2.1 x.1.2.1.2.2.2.2.2.1 x.1.2.1.2.2.2.2.2.2.1 x.1.2.1.2.2.2.2.2.2.2.1 x.1.2.1.2.2.2.2.2.2.2.2.1 x.1.2.1.2.2.2.2.2.2.2.2.2.1 x.1.2.1.2.2.2.2.2.2.2.2.2.2.1 x.1.2.1.2.2.2.2.2.2.2.2.2.2.2.1) (fun x => by kernel_rfl) (fun x hp => h x.1.1.1 x.1.1.2.1 x.1.1.2.2.1 x.1.2.1.1 x.1.2.1.2.1 x.1.2.1.2.2.1 x.1.2.1.2.2.2.1 x.1.2.1.2.2.2.2.1 x.1.2.1.2.2.2.2.2.1 x.1.2.1.2.2.2.2.2.2.1 x.1.2.1.2.2.2.2.2.2.2.1 x.1.2.1.2.2.2.2.2.2.2.2.1 x.1.2.1.2.2.2.2.2.2.2.2.2.1 x.1.2.1.2.2.2.2.2.2.2.2.2.2.1 x.1.2.1.2.2.2.2.2.2.2.2.2.2.2.1 hp)


end Go.Proofs.YtnkcmkegjckncaaDoor

/- Contracts, and what the evaluator says, as plain propositions: CiV. Printed by vc.py. -/
namespace Go.Proofs.YtnkcmkegjckncaaDoor
open Go.RowKit Go.ChangeShapes Go.WideShapes Go.Deep

abbrev CheckMessage_S : Shape := ⟨[pCfg, pMsg], []⟩
abbrev CheckMessage_f : Shape.den CheckMessage_S → denVars [.slot 0 false tI] := fun x => (msgF x.1.1 x.1.2.1, ())
abbrev CheckMessage_p : Shape.den CheckMessage_S → List Prop := fun x => [pLen x.1.1.2.1 < 4611686018427387904]
def cCheckMessage : Ctr := shCtr CheckMessage_S CheckMessage_p [] [.slot 0 false tI] CheckMessage_f
abbrev CheckMessage0_f : Shape.den CheckMessage_S → denVars [.slot 0 false tI] := fun x => (0, ())
abbrev CheckMessage0_p : Shape.den CheckMessage_S → List Prop := fun x => [pLen x.1.1.2.1 < 4611686018427387904, msgF x.1.1 x.1.2.1 = 0]
def cCheckMessage0 : Ctr := shCtr CheckMessage_S CheckMessage0_p [] [.slot 0 false tI] CheckMessage0_f
abbrev eqsCiV : List TypeId := [101, 73, 32, 29, 96]

abbrev CheckMessage_v0 (cn : Int) (cl : List LabD) (cp : Int) (mk : Int) (mf : Int) (mt : Int) (ms : Int) (mn : Int) (ml : Int) (my : Int) (mv : Int) (me : Int) (ma : Int) (md : Bool) (mc : Int) := (msgF (cn, cl, cp, ()) (mk, mf, mt, ms, mn, ml, my, mv, me, ma, md, mc, ()), ())
abbrev CheckMessage_v1 := (Bool.false, Bool.false, Bool.false, Bool.false, Bool.false, Bool.false, Bool.false, Bool.false, ())
abbrev CheckMessage_v2 (mk : Int) := pGet (Ty.pair Ty.bool (Ty.pair Ty.bool (Ty.pair Ty.bool (Ty.pair Ty.bool (Ty.pair Ty.bool (Ty.pair Ty.bool (Ty.pair Ty.bool (Ty.pair Ty.bool Ty.unit)))))))) (CheckMessage_v1 :: (Bool.true, Bool.true, Bool.false, Bool.false, Bool.true,
 Bool.false, Bool.false, Bool.false, ()) :: (Bool.false, Bool.true, Bool.true, Bool.false, Bool.true, Bool.false, Bool.false, Bool.false, ()) :: (Bool.true, Bool.true, Bool.false, Bool.true, Bool.false, Bool.false, Bool.false, Bool.false,
 ()) :: (Bool.false, Bool.false, Bool.false, Bool.false, Bool.false, Bool.true, Bool.false, Bool.false, ()) :: (Bool.true, Bool.true, Bool.true, Bool.true, Bool.true, Bool.false, Bool.true, Bool.false, ()) :: (Bool.false, Bool.true,
 Bool.false, Bool.false, Bool.true, Bool.false, Bool.true, Bool.false, ()) :: (Bool.true, Bool.true, Bool.false, Bool.true, Bool.false, Bool.true, Bool.false, Bool.false, ()) :: CheckMessage_v1 :: CheckMessage_v1 :: vnil (Bool × Bool × Bool
 × Bool × Bool × Bool × Bool × Bool × PUnit)) (pNat mk)
abbrev CheckMessage_v3 (cn : Int) (cl : List LabD) (cp : Int) (mk : Int) (mf : Int) (mt : Int) (ms : Int) (mn : Int) (ml : Int) (my : Int) (mv : Int) (me : Int) (ma : Int) (md : Bool) (mc : Int) := bif pNe mc (0 : Int) then bif pNe (pAdd IntKind.i64 mv me) (0 : Int) then ((4 : Int), ()) = CheckMessage_v0 cn cl cp mk mf mt ms mn ml my mv me ma md mc else ((0 : Int), ()) = CheckMessage_v0 cn cl cp mk mf mt ms mn ml my mv me ma md mc
 else ((0 : Int), ()) = CheckMessage_v0 cn cl cp mk mf mt ms mn ml my mv me ma md mc
abbrev CheckMessage_v4 (cn : Int) (cl : List LabD) (cp : Int) (mk : Int) (mf : Int) (mt : Int) (ms : Int) (mn : Int) (ml : Int) (my : Int) (mv : Int) (me : Int) (ma : Int) (md : Bool) (mc : Int) := bif pNot (CheckMessage_v2 mk).2.2.2.2.2.2.1 then bif pNe mc (0 : Int) then ((4 : Int), ()) = CheckMessage_v0 cn cl cp mk mf mt ms mn ml my mv me ma md mc else CheckMessage_v3 cn cl cp mk mf mt ms mn ml my mv me ma md mc else CheckMessage_v3
 cn cl cp mk mf mt ms mn ml my mv me ma md mc
abbrev CheckMessage_v5 (cn : Int) (cl : List LabD) (cp : Int) (mk : Int) (mf : Int) (mt : Int) (ms : Int) (mn : Int) (ml : Int) (my : Int) (mv : Int) (me : Int) (ma : Int) (md : Bool) (mc : Int) := bif pNot (CheckMessage_v2 mk).2.2.2.2.2.1 then bif md then ((4 : Int), ()) = CheckMessage_v0 cn cl cp mk mf mt ms mn ml my mv me ma md mc else CheckMessage_v4 cn cl cp mk mf mt ms mn ml my mv me ma md mc else CheckMessage_v4 cn cl cp mk mf
 mt ms mn ml my mv me ma md mc
abbrev CheckMessage_v6 (cn : Int) (cl : List LabD) (cp : Int) (mk : Int) (mf : Int) (mt : Int) (ms : Int) (mn : Int) (ml : Int) (my : Int) (mv : Int) (me : Int) (ma : Int) (md : Bool) (mc : Int) := bif pNot (CheckMessage_v2 mk).2.2.2.2.1 then bif pNe ma (0 : Int) then ((4 : Int), ()) = CheckMessage_v0 cn cl cp mk mf mt ms mn ml my mv me ma md mc else CheckMessage_v5 cn cl cp mk mf mt ms mn ml my mv me ma md mc else CheckMessage_v5 cn
 cl cp mk mf mt ms mn ml my mv me ma md mc
abbrev CheckMessage_v7 (cn : Int) (cl : List LabD) (cp : Int) (mk : Int) (mf : Int) (mt : Int) (ms : Int) (mn : Int) (ml : Int) (my : Int) (mv : Int) (me : Int) (ma : Int) (md : Bool) (mc : Int) := bif pNot (CheckMessage_v2 mk).2.2.2.1 then bif pNe me (0 : Int) then ((4 : Int), ()) = CheckMessage_v0 cn cl cp mk mf mt ms mn ml my mv me ma md mc else CheckMessage_v6 cn cl cp mk mf mt ms mn ml my mv me ma md mc else CheckMessage_v6 cn cl
 cp mk mf mt ms mn ml my mv me ma md mc
abbrev CheckMessage_v8 (cn : Int) (cl : List LabD) (cp : Int) (mk : Int) (mf : Int) (mt : Int) (ms : Int) (mn : Int) (ml : Int) (my : Int) (mv : Int) (me : Int) (ma : Int) (md : Bool) (mc : Int) := bif pNot (CheckMessage_v2 mk).2.2.1 then bif pNe mv (0 : Int) then ((4 : Int), ()) = CheckMessage_v0 cn cl cp mk mf mt ms mn ml my mv me ma md mc else CheckMessage_v7 cn cl cp mk mf mt ms mn ml my mv me ma md mc else CheckMessage_v7 cn cl
 cp mk mf mt ms mn ml my mv me ma md mc
abbrev CheckMessage_v9 (cn : Int) (cl : List LabD) (cp : Int) (mk : Int) (mf : Int) (mt : Int) (ms : Int) (mn : Int) (ml : Int) (my : Int) (mv : Int) (me : Int) (ma : Int) (md : Bool) (mc : Int) := bif pNot (CheckMessage_v2 mk).2.1 then bif pNe my (0 : Int) then ((4 : Int), ()) = CheckMessage_v0 cn cl cp mk mf mt ms mn ml my mv me ma md mc else CheckMessage_v8 cn cl cp mk mf mt ms mn ml my mv me ma md mc else CheckMessage_v8 cn cl cp
 mk mf mt ms mn ml my mv me ma md mc

def CheckMessage_VC (cn : Int) (cl : (List LabD)) (cp : Int) (mk : Int) (mf : Int) (mt : Int) (ms : Int) (mn : Int) (ml : Int) (my : Int) (mv : Int) (me : Int) (ma : Int) (md : Bool) (mc : Int) : Prop :=
  Nat.le (Nat.succ (pLen cl)) 4611686018427387904 ∧ bif pNe (cfgF (cn, cl, cp, ())) (0 : Int) then (cfgF (cn, cl, cp, ()), ()) = CheckMessage_v0 cn cl cp mk mf mt ms mn ml my mv me ma md mc else bif pLt mk (1 : Int) then ((3 : Int), ()) =
 CheckMessage_v0 cn cl cp mk mf mt ms mn ml my mv me ma md mc else bif pGt mk (9 : Int) then ((3 : Int), ()) = CheckMessage_v0 cn cl cp mk mf mt ms mn ml my mv me ma md mc else bif pLt mf (0 : Int) then ((2 : Int), ()) = CheckMessage_v0 cn
 cl cp mk mf mt ms mn ml my mv me ma md mc else bif pGe mf cn then ((2 : Int), ()) = CheckMessage_v0 cn cl cp mk mf mt ms mn ml my mv me ma md mc else bif pLt mt (0 : Int) then ((2 : Int), ()) = CheckMessage_v0 cn cl cp mk mf mt ms mn ml my
 mv me ma md mc else bif pGe mt cn then ((2 : Int), ()) = CheckMessage_v0 cn cl cp mk mf mt ms mn ml my mv me ma md mc else bif pNot (txnF (cn, cl, cp, ()) ms mn) then ((2 : Int), ()) = CheckMessage_v0 cn cl cp mk mf mt ms mn ml my mv me ma
 md mc else bif pLt ml (0 : Int) then ((2 : Int), ()) = CheckMessage_v0 cn cl cp mk mf mt ms mn ml my mv me ma md mc else bif pGe ml (pInt (pLen cl)) then ((2 : Int), ()) = CheckMessage_v0 cn cl cp mk mf mt ms mn ml my mv me ma md mc else
 bif pNot (inF my (0 : Int) (7 : Int)) then ((2 : Int), ()) = CheckMessage_v0 cn cl cp mk mf mt ms mn ml my mv me ma md mc else bif pNot (inF mv (0 : Int) (1073741824 : Int)) then ((2 : Int), ()) = CheckMessage_v0 cn cl cp mk mf mt ms mn ml
 my mv me ma md mc else bif pLt me (0 : Int) then ((2 : Int), ()) = CheckMessage_v0 cn cl cp mk mf mt ms mn ml my mv me ma md mc else bif pGt me (1048576 : Int) then ((2 : Int), ()) = CheckMessage_v0 cn cl cp mk mf mt ms mn ml my mv me ma md
 mc else bif pNot (inF ma (0 : Int) (1048576 : Int)) then ((2 : Int), ()) = CheckMessage_v0 cn cl cp mk mf mt ms mn ml my mv me ma md mc else bif pNot (codeF mc) then ((2 : Int), ()) = CheckMessage_v0 cn cl cp mk mf mt ms mn ml my mv me ma
 md mc else pIn mk 10 ∧ bif pNot (CheckMessage_v2 mk).1 then bif pNe ml (0 : Int) then ((4 : Int), ()) = CheckMessage_v0 cn cl cp mk mf mt ms mn ml my mv me ma md mc else CheckMessage_v9 cn cl cp mk mf mt ms mn ml my mv me ma md mc else
 CheckMessage_v9 cn cl cp mk mf mt ms mn ml my mv me ma md mc
set_option maxRecDepth 100000 in
theorem CheckMessage_meets (hlCheck : MtG tabsM 32 clCheck) (hwtxn : MtG tabsM 33 cwtxn) (hwkey : MtG tabsM 34 cwkey) (hwvalue : MtG tabsM 35 cwvalue) (hwask : MtG tabsM 36 cwask) (hwcode : MtG tabsM 37 cwcode) (h : ∀ (cn : Int) (cl : (List LabD)) (cp : Int) (mk : Int) (mf : Int) (mt : Int) (ms : Int) (mn : Int) (ml : Int) (my : Int) (mv : Int) (me : Int) (ma : Int) (md : Bool) (mc : Int), (∀ p ∈ CheckMessage_p ⟨((cn, cl, cp, ()), (mk, mf, mt, ms, mn, ml, my, mv, me, ma, md, mc, ()), ()), ()⟩, p) → CheckMessage_VC cn cl cp mk mf mt ms mn ml my mv me ma md mc) : MtG tabsM 12 cCheckMessage :=
  meets_vc (E := envN Tryd.prog tabsM [(32, (false, clCheck)), (33, (false, cwtxn)), (34, (false, cwkey)), (35, (false, cwvalue)), (36, (false, cwask)), (37, (false, cwcode))] eqsCiV [(25, [2, 3])] []) (envN_ok (fun p hp => (by simp only [List.mem_cons, List.not_mem_nil, or_false] at hp; rcases hp with rfl | rfl | rfl | rfl | rfl | rfl; exact hlCheck; exact hwtxn; exact hwkey; exact hwvalue; exact hwask; exact hwcode)) (by kernel_rfl)) CheckMessage_S (fun x => fun ky9 st9 => look [] ky9) Tryd.func12 (by kernel_rfl) (by kernel_rfl) CheckMessage_p [] [.slot 0 false tI] CheckMessage_f (fun x => CheckMessage_VC x.1.1.1 x.1.1.2.1 x.1.1.2.2.1 x.1.2.1.1 x.1.2.1.2.1 x.1.2.1.2.2.1 x.1.2.1.2.2.2.1 x.1.2.1.2.2.2.2.1 x.1.2.1.2.2.2.2.2.1 x.1.2.1.2.2.2.2.2.2.1 x.1.2.1.2.2.2.2.2.2.2.1 x.1.2.1.2.2.2.2.2.2.2.2.1 x.1.2.1.2.2.2.2.2.2.2.2.2.1 x.1.2.1.2.2.2.2.2.2.2.2.2.2.1 x.1.2.1.2.2.2.2.2.2.2.2.2.2.2.1) (fun x => by kernel_rfl) (fun x hp => h x.1.1.1 x.1.1.2.1 x.1.1.2.2.1 x.1.2.1.1 x.1.2.1.2.1 x.1.2.1.2.2.1 x.1.2.1.2.2.2.1 x.1.2.1.2.2.2.2.1 x.1.2.1.2.2.2.2.2.1 x.1.2.1.2.2.2.2.2.2.1 x.1.2.1.2.2.2.2.2.2.2.1 x.1.2.1.2.2.2.2.2.2.2.2.1 x.1.2.1.2.2.2.2.2.2.2.2.2.1 x.1.2.1.2.2.2.2.2.2.2.2.2.2.1 x.1.2.1.2.2.2.2.2.2.2.2.2.2.2.1 hp)


end Go.Proofs.YtnkcmkegjckncaaDoor

/- Messages: the checks meet their contracts. No condition. -/
namespace Go.Proofs.YtnkcmkegjckncaaDoor
open Go.RowKit

theorem wtxn_ok : Meets Tryd.prog (fun _ => none) 33 cwtxn := wtxn_meets fun cn cl cp ts tn => by
  unfold wtxn_VC wtxn_t0
  (repeat' (first | refine bif_ok (fun h => ?_) (fun h => ?_) | refine And.intro ?_ ?_ | fail))
  all_goals (refine leafE ?_; simp only [txnF]; grind [pLt, pLe, pGt, pGe, pEq, pNe, pNot, pAndB, pBeq, pInt, pLen, inF, pIn, pTo, pNat])
theorem wkey_ok : Meets Tryd.prog (fun _ => none) 34 cwkey := wkey_meets fun a => by
  unfold wkey_VC
  (repeat' (first | refine bif_ok (fun h => ?_) (fun h => ?_) | refine And.intro ?_ ?_ | fail))
  all_goals (refine leafE ?_; grind [pLt, pLe, pGt, pGe, pEq, pNe, pNot, pAndB, pBeq, pInt, pLen, inF, pIn, pTo, pNat])
theorem wvalue_ok : Meets Tryd.prog (fun _ => none) 35 cwvalue := wvalue_meets fun a => by
  unfold wvalue_VC
  (repeat' (first | refine bif_ok (fun h => ?_) (fun h => ?_) | refine And.intro ?_ ?_ | fail))
  all_goals (refine leafE ?_; grind [pLt, pLe, pGt, pGe, pEq, pNe, pNot, pAndB, pBeq, pInt, pLen, inF, pIn, pTo, pNat])
theorem wask_ok : Meets Tryd.prog (fun _ => none) 36 cwask := wask_meets fun a => by
  unfold wask_VC
  (repeat' (first | refine bif_ok (fun h => ?_) (fun h => ?_) | refine And.intro ?_ ?_ | fail))
  all_goals (refine leafE ?_; grind [pLt, pLe, pGt, pGe, pEq, pNe, pNot, pAndB, pBeq, pInt, pLen, inF, pIn, pTo, pNat])
theorem wcode_ok : Meets Tryd.prog (fun _ => none) 37 cwcode := wcode_meets fun a => by
  unfold wcode_VC
  (repeat' (first | refine bif_ok (fun h => ?_) (fun h => ?_) | refine And.intro ?_ ?_ | fail))
  all_goals (refine leafE ?_; simp only [codeF]; grind [pLt, pLe, pGt, pGe, pEq, pNe, pNot, pAndB, pBeq, pInt, pLen, inF, pIn, pTo, pNat])
theorem txnMay_ok : Meets Tryd.prog (fun _ => none) 53 ctxnMay := txnMay_meets In_ok fun cn cl cp ts tn hp => by
  have h4 : inF cn 1 4 = true := hp _ List.mem_cons_self
  have h5 := inF_iff.1 h4
  unfold txnMay_VC
  rw [pSubI_in (a := cn) (b := 1) (by omega)]
  (repeat' (first | refine bif_ok (fun h => ?_) (fun h => ?_) | refine And.intro ?_ ?_ | fail))
  all_goals (refine leafE ?_; simp only [txnF]; grind [pLt, pLe, pGt, pGe, pEq, pNe, pNot, pAndB, pBeq, pInt, pLen, inF, pIn, pTo, pNat])

theorem msgF_eq (cn : Int) (cl : List LabD) (cp mk mf mt ms mn ml my mv me ma : Int) (md : Bool) (mc : Int) (r1 r2 r3 r4 r5 r6 r7 r8 : Bool) (hr : pGet tyParts messagesT (pNat mk) = (r1, r2, r3, r4, r5, r6, r7, r8, ())) :
    msgF (cn, cl, cp, ()) (mk, mf, mt, ms, mn, ml, my, mv, me, ma, md, mc, ()) = cond (pEq (cfgF (cn, cl, cp, ())) 0) (cond (inF mk 1 9)
      (cond (pLe 0 mf && pLt mf cn && pLe 0 mt && pLt mt cn && txnF (cn, cl, cp, ()) ms mn && placeF (cn, cl, cp, ()) ml && inF my 0 7 && inF mv 0 1073741824 && inF me 0 1048576 && inF ma 0 1048576 && codeF mc)
        (cond ((r1 || pEq ml 0) && (r2 || pEq my 0) && (r3 || pEq mv 0) && (r4 || pEq me 0) && (r5 || pEq ma 0) && (r6 || !md) && (r7 || pEq mc 0) && (pEq mc 0 || (pEq mv 0 && pEq me 0))) 0 4) 2) 3) (cfgF (cn, cl, cp, ())) := by
  unfold msgF msgForm
  simp only [hr]
  rfl

theorem bif_dup {r b : Bool} {X T : Prop} (h1 : r = false → b = true → X) (h2 : (r || !b) = true → T) : bif pNot r then (bif b then X else T) else T := by
  cases r <;> cases b <;> simp_all [pNot]

set_option maxHeartbeats 4000000 in
theorem CheckMessage_ok : Meets Tryd.prog tabsM 12 cCheckMessage := CheckMessage_meets lCheck_ok.any wtxn_ok.any wkey_ok.any wvalue_ok.any wask_ok.any wcode_ok.any fun cn cl cp mk mf mt ms mn ml my mv me ma md mc hp => by
  have hl : cl.length < 4611686018427387904 := hp _ List.mem_cons_self
  clear hp
  delta CheckMessage_VC CheckMessage_v9 CheckMessage_v8 CheckMessage_v7 CheckMessage_v6 CheckMessage_v5 CheckMessage_v4 CheckMessage_v3 CheckMessage_v0
  have hP : placeF (cn, cl, cp, ()) ml = (pLe 0 ml && pLt ml (pInt cl.length)) := rfl
  have hlen : messagesT.length = 10 := rfl
  have hlen : pLen messagesT = 10 := rfl
  generalize hr : CheckMessage_v2 mk = r
  have hr : pGet tyParts messagesT (pNat mk) = r := hr
  obtain ⟨r1, r2, r3, r4, r5, r6, r7, r8, u⟩ := r
  have hM := msgF_eq cn cl cp mk mf mt ms mn ml my mv me ma md mc r1 r2 r3 r4 r5 r6 r7 r8 hr
  have hadd : inF mv 0 1073741824 = true → pLt me 0 = false → pGt me 1048576 = false → pAdd .i64 mv me = mv + me := fun h1 h2 h3 => pAdd_in (by
    rw [inF_iff] at h1; simp only [pLt, pGt, decide_eq_false_iff_not] at h2 h3; omega)
  try dsimp only
  clear hr
  refine ⟨hl, ?_⟩
  (repeat' (first | refine bif_dup (fun h1 h2 => ?_) (fun h => ?_) | refine bif_ok (fun h => ?_) (fun h => ?_) | with_reducible refine And.intro ?_ ?_ | fail))
  all_goals first
    | (unfold pIn; simp only [pLt, pGt, decide_eq_false_iff_not] at *; omega)
    | (refine leafE ?_; rw [hM]; grind [pLt, pLe, pGt, pGe, pEq, pNe, pNot, pAndB, pBeq, pInt, pLen, inF, pIn, pTo, pNat])
    | skip


theorem row1 : pGet tyParts messagesT (pNat 1) = (true, true, false, false, true, false, false, false, ()) := rfl
theorem row2 : pGet tyParts messagesT (pNat 2) = (false, true, true, false, true, false, false, false, ()) := rfl
theorem row3 : pGet tyParts messagesT (pNat 3) = (true, true, false, true, false, false, false, false, ()) := rfl
theorem row4 : pGet tyParts messagesT (pNat 4) = (false, false, false, false, false, true, false, false, ()) := rfl
theorem row5 : pGet tyParts messagesT (pNat 5) = (true, true, true, true, true, false, true, false, ()) := rfl
theorem row6 : pGet tyParts messagesT (pNat 6) = (false, true, false, false, true, false, true, false, ()) := rfl
theorem row7 : pGet tyParts messagesT (pNat 7) = (true, true, false, true, false, true, false, false, ()) := rfl
theorem row8 : pGet tyParts messagesT (pNat 8) = (false, false, false, false, false, false, false, false, ()) := rfl
theorem row9 : pGet tyParts messagesT (pNat 9) = (false, false, false, false, false, false, false, false, ()) := rfl
set_option maxHeartbeats 4000000 in
theorem MessageFault_ok : Meets Tryd.prog (fun _ => none) 19 cMessageFault := MessageFault_meets cFault_ok In_ok txnMay_ok labelMay_ok fun cn cl cp mk mf mt ms mn ml my mv me ma md mc hp => by
  have hl : cl.length < 4611686018427387904 := hp _ List.mem_cons_self
  clear hp
  unfold MessageFault_VC MessageFault_v2 MessageFault_v1 MessageFault_v0
  refine ⟨hl, bif_ok (fun h => ?_) fun hc => ?_⟩
  · refine leafE ?_; unfold msgF; grind [pLt, pLe, pGt, pGe, pEq, pNe, pNot, pAndB, pBeq, pInt, pLen, inF, pIn, pTo, pNat]
  have h4 := cfgF_sites4 hc
  have hc4 := inF_iff.1 h4
  have hc0 : pEq (cfgF (cn, cl, cp, ())) 0 = true := by simpa [pNe, pEq] using hc
  rw [pSubI_in (a := cn) (b := 1) (by simp only at hc4; omega)]
  refine bif_ok (fun h => ?_) fun hk => ?_
  · refine leafE ?_; unfold msgF; grind [pLt, pLe, pGt, pGe, pEq, pNe, pNot, pAndB, pBeq, pInt, pLen, inF, pIn, pTo, pNat]
  have hk9 : mk = 1 ∨ mk = 2 ∨ mk = 3 ∨ mk = 4 ∨ mk = 5 ∨ mk = 6 ∨ mk = 7 ∨ mk = 8 ∨ mk = 9 := by
    have : inF mk 1 9 = true := by cases hq : inF mk 1 9 with
      | true => rfl
      | false => rw [hq] at hk; cases hk
    rw [inF_iff] at this; omega
  rcases hk9 with rfl | rfl | rfl | rfl | rfl | rfl | rfl | rfl | rfl
  · have hM := msgF_eq cn cl cp 1 mf mt ms mn ml my mv me ma md mc _ _ _ _ _ _ _ _ row1
    rw [hc0, cond_true] at hM
    simp only [codeF, Bool.true_or, Bool.false_or, Bool.true_and, Bool.and_true] at hM
    (repeat' (first | refine bif_ok (fun h => ?_) (fun h => ?_) | refine And.intro ?_ ?_ | fail))
    all_goals first
      | exact hl
      | exact h4
      | (refine leafE ?_; rw [hM]; clear hM; grind [pLt, pLe, pGt, pGe, pEq, pNe, pNot, pAndB, pBeq, pInt, pLen, inF, pIn, pTo, pNat])
      | skip
  · have hM := msgF_eq cn cl cp 2 mf mt ms mn ml my mv me ma md mc _ _ _ _ _ _ _ _ row2
    rw [hc0, cond_true] at hM
    simp only [codeF, Bool.true_or, Bool.false_or, Bool.true_and, Bool.and_true] at hM
    (repeat' (first | refine bif_ok (fun h => ?_) (fun h => ?_) | refine And.intro ?_ ?_ | fail))
    all_goals first
      | exact hl
      | exact h4
      | (refine leafE ?_; rw [hM]; clear hM; grind [pLt, pLe, pGt, pGe, pEq, pNe, pNot, pAndB, pBeq, pInt, pLen, inF, pIn, pTo, pNat])
      | skip
  · have hM := msgF_eq cn cl cp 3 mf mt ms mn ml my mv me ma md mc _ _ _ _ _ _ _ _ row3
    rw [hc0, cond_true] at hM
    simp only [codeF, Bool.true_or, Bool.false_or, Bool.true_and, Bool.and_true] at hM
    (repeat' (first | refine bif_ok (fun h => ?_) (fun h => ?_) | refine And.intro ?_ ?_ | fail))
    all_goals first
      | exact hl
      | exact h4
      | (refine leafE ?_; rw [hM]; clear hM; grind [pLt, pLe, pGt, pGe, pEq, pNe, pNot, pAndB, pBeq, pInt, pLen, inF, pIn, pTo, pNat])
      | skip
  · have hM := msgF_eq cn cl cp 4 mf mt ms mn ml my mv me ma md mc _ _ _ _ _ _ _ _ row4
    rw [hc0, cond_true] at hM
    simp only [codeF, Bool.true_or, Bool.false_or, Bool.true_and, Bool.and_true] at hM
    (repeat' (first | refine bif_ok (fun h => ?_) (fun h => ?_) | refine And.intro ?_ ?_ | fail))
    all_goals first
      | exact hl
      | exact h4
      | (refine leafE ?_; rw [hM]; clear hM; grind [pLt, pLe, pGt, pGe, pEq, pNe, pNot, pAndB, pBeq, pInt, pLen, inF, pIn, pTo, pNat])
      | skip
  · have hM := msgF_eq cn cl cp 5 mf mt ms mn ml my mv me ma md mc _ _ _ _ _ _ _ _ row5
    rw [hc0, cond_true] at hM
    simp only [codeF, Bool.true_or, Bool.false_or, Bool.true_and, Bool.and_true] at hM
    (repeat' (first | refine bif_ok (fun h => ?_) (fun h => ?_) | refine And.intro ?_ ?_ | fail))
    all_goals first
      | exact hl
      | exact h4
      | (refine leafE ?_; rw [hM]; clear hM; grind [pLt, pLe, pGt, pGe, pEq, pNe, pNot, pAndB, pBeq, pInt, pLen, inF, pIn, pTo, pNat])
      | skip
  · have hM := msgF_eq cn cl cp 6 mf mt ms mn ml my mv me ma md mc _ _ _ _ _ _ _ _ row6
    rw [hc0, cond_true] at hM
    simp only [codeF, Bool.true_or, Bool.false_or, Bool.true_and, Bool.and_true] at hM
    (repeat' (first | refine bif_ok (fun h => ?_) (fun h => ?_) | refine And.intro ?_ ?_ | fail))
    all_goals first
      | exact hl
      | exact h4
      | (refine leafE ?_; rw [hM]; clear hM; grind [pLt, pLe, pGt, pGe, pEq, pNe, pNot, pAndB, pBeq, pInt, pLen, inF, pIn, pTo, pNat])
      | skip
  · have hM := msgF_eq cn cl cp 7 mf mt ms mn ml my mv me ma md mc _ _ _ _ _ _ _ _ row7
    rw [hc0, cond_true] at hM
    simp only [codeF, Bool.true_or, Bool.false_or, Bool.true_and, Bool.and_true] at hM
    (repeat' (first | refine bif_ok (fun h => ?_) (fun h => ?_) | refine And.intro ?_ ?_ | fail))
    all_goals first
      | exact hl
      | exact h4
      | (refine leafE ?_; rw [hM]; clear hM; grind [pLt, pLe, pGt, pGe, pEq, pNe, pNot, pAndB, pBeq, pInt, pLen, inF, pIn, pTo, pNat])
      | skip
  · have hM := msgF_eq cn cl cp 8 mf mt ms mn ml my mv me ma md mc _ _ _ _ _ _ _ _ row8
    rw [hc0, cond_true] at hM
    simp only [codeF, Bool.true_or, Bool.false_or, Bool.true_and, Bool.and_true] at hM
    (repeat' (first | refine bif_ok (fun h => ?_) (fun h => ?_) | refine And.intro ?_ ?_ | fail))
    all_goals first
      | exact hl
      | exact h4
      | (refine leafE ?_; rw [hM]; clear hM; grind [pLt, pLe, pGt, pGe, pEq, pNe, pNot, pAndB, pBeq, pInt, pLen, inF, pIn, pTo, pNat])
      | skip
  · have hM := msgF_eq cn cl cp 9 mf mt ms mn ml my mv me ma md mc _ _ _ _ _ _ _ _ row9
    rw [hc0, cond_true] at hM
    simp only [codeF, Bool.true_or, Bool.false_or, Bool.true_and, Bool.and_true] at hM
    (repeat' (first | refine bif_ok (fun h => ?_) (fun h => ?_) | refine And.intro ?_ ?_ | fail))
    all_goals first
      | exact hl
      | exact h4
      | (refine leafE ?_; rw [hM]; clear hM; grind [pLt, pLe, pGt, pGe, pEq, pNe, pNot, pAndB, pBeq, pInt, pLen, inF, pIn, pTo, pNat])
      | skip


theorem MessageFault0_ok : Meets Tryd.prog (fun _ => none) 19 cMessageFault0 := meets_mono MessageFault_ok fun x hp => ⟨fun p h => by
    simp only [List.mem_cons, List.not_mem_nil, or_false] at h; subst h; exact hp _ List.mem_cons_self, congrArg (·, ()) (hp _ (List.mem_cons_of_mem _ List.mem_cons_self))⟩
theorem CheckMessage0_ok : Meets Tryd.prog tabsM 12 cCheckMessage0 := meets_mono CheckMessage_ok fun x hp => ⟨fun p h => by
    simp only [List.mem_cons, List.not_mem_nil, or_false] at h; subst h; exact hp _ List.mem_cons_self, congrArg (·, ()) (hp _ (List.mem_cons_of_mem _ List.mem_cons_self))⟩
theorem deskFault0_ok : Meets Tryd.prog (fun _ => none) 18 cdeskFault0 := meets_mono deskFault_ok fun x hp => ⟨fun p h => by
    simp only [List.mem_cons, List.not_mem_nil, or_false] at h
    rcases h with rfl | rfl | rfl
    · exact hp _ List.mem_cons_self
    · exact hp _ (List.mem_cons_of_mem _ List.mem_cons_self)
    · exact hp _ (List.mem_cons_of_mem _ (List.mem_cons_of_mem _ List.mem_cons_self)), congrArg (·, ()) (hp _ (List.mem_cons_of_mem _ (List.mem_cons_of_mem _ (List.mem_cons_of_mem _ List.mem_cons_self))))⟩


end Go.Proofs.YtnkcmkegjckncaaDoor
