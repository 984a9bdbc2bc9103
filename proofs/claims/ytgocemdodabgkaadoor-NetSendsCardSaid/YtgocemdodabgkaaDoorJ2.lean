/- Messages: the checks meet their contracts. No condition. -/
import Derived.Test.YtgocemdodabgkaaDoorJ1

/- Contracts, and what the evaluator says, as plain propositions: NuV. Printed by vc.py. -/
namespace Go.Proofs.YtgocemdodabgkaaDoor
open Go.RowKit Go.ChangeShapes Go.WideShapes Go.Deep

abbrev CheckMessage_S : Shape := ⟨[pCfg, pMsg], []⟩
abbrev CheckMessage_f : Shape.den CheckMessage_S → denVars [.slot 0 false tI] := fun x => (msgF x.1.1 x.1.2.1, ())
abbrev CheckMessage_p : Shape.den CheckMessage_S → List Prop := fun x => [pLen x.1.1.2.1 < 4611686018427387904]
def cCheckMessage : Ctr := shCtr CheckMessage_S CheckMessage_p [] [.slot 0 false tI] CheckMessage_f
abbrev nCheck_S : Shape := ⟨[pCfg, .one (.rd (.sl tyRow))], []⟩
abbrev nCheck_f : Shape.den nCheck_S → denVars [.slot 0 false tI] := fun x => (flyF x.1.1 x.1.2.1, ())
abbrev nCheck_p : Shape.den nCheck_S → List Prop := fun x => [pLen x.1.1.2.1 < 4611686018427387904, pLen x.1.2.1 < 4611686018427387904, (∀ q ∈ x.1.2.1, pLen q.1 < 4611686018427387904)]
def cnCheck : Ctr := shCtr nCheck_S nCheck_p [] [.slot 0 false tI] nCheck_f
def cFlyingFault : Ctr := shCtr nCheck_S nCheck_p [] [.slot 0 false tI] nCheck_f
abbrev eqsNbV : List TypeId := [115, 53]

abbrev CheckMessage_v0 (cn : Int) (cl : (List LabD)) (cp : Int) (mk : Int) (mf : Int) (mt : Int) (ms : Int) (mn : Int) (ml : Int) (my : Int) (mv : Int) (me : Int) (ma : Int) (md : Bool) (mc : Int) := (msgF (cn, cl, cp, ()) (mk, mf, mt, ms, mn, ml, my, mv, me, ma, md, mc, ()), ())
abbrev CheckMessage_t6 (cn : Int) (cl : (List LabD)) (cp : Int) (mk : Int) (mf : Int) (mt : Int) (ms : Int) (mn : Int) (ml : Int) (my : Int) (mv : Int) (me : Int) (ma : Int) (md : Bool) (mc : Int) : Prop := bif pNe mc (0 : Int) then bif pNe (pAdd IntKind.i64 mv me) (0 : Int) then ((4 : Int), ()) = (CheckMessage_v0 cn cl cp mk mf mt ms mn ml my mv me ma md mc) else ((0 : Int), ()) = (CheckMessage_v0 cn cl cp mk mf mt ms mn ml my mv me ma md mc)
 else ((0 : Int), ()) = (CheckMessage_v0 cn cl cp mk mf mt ms mn ml my mv me ma md mc)
abbrev CheckMessage_t5 (cn : Int) (cl : (List LabD)) (cp : Int) (mk : Int) (mf : Int) (mt : Int) (ms : Int) (mn : Int) (ml : Int) (my : Int) (mv : Int) (me : Int) (ma : Int) (md : Bool) (mc : Int) : Prop := bif pNot (pGet tyParts messagesT (pNat mk)).2.2.2.2.2.2.1 then bif pNe mc (0 : Int) then ((4 : Int), ()) = (CheckMessage_v0 cn cl cp mk mf mt ms mn ml my mv me ma md mc) else CheckMessage_t6 cn cl cp mk mf mt ms mn ml my mv me ma md mc else
 CheckMessage_t6 cn cl cp mk mf mt ms mn ml my mv me ma md mc
abbrev CheckMessage_t4 (cn : Int) (cl : (List LabD)) (cp : Int) (mk : Int) (mf : Int) (mt : Int) (ms : Int) (mn : Int) (ml : Int) (my : Int) (mv : Int) (me : Int) (ma : Int) (md : Bool) (mc : Int) : Prop := bif pNot (pGet tyParts messagesT (pNat mk)).2.2.2.2.2.1 then bif md then ((4 : Int), ()) = (CheckMessage_v0 cn cl cp mk mf mt ms mn ml my mv me ma md mc) else CheckMessage_t5 cn cl cp mk mf mt ms mn ml my mv me ma md mc else CheckMessage_t5
 cn cl cp mk mf mt ms mn ml my mv me ma md mc
abbrev CheckMessage_t3 (cn : Int) (cl : (List LabD)) (cp : Int) (mk : Int) (mf : Int) (mt : Int) (ms : Int) (mn : Int) (ml : Int) (my : Int) (mv : Int) (me : Int) (ma : Int) (md : Bool) (mc : Int) : Prop := bif pNot (pGet tyParts messagesT (pNat mk)).2.2.2.2.1 then bif pNe ma (0 : Int) then ((4 : Int), ()) = (CheckMessage_v0 cn cl cp mk mf mt ms mn ml my mv me ma md mc) else CheckMessage_t4 cn cl cp mk mf mt ms mn ml my mv me ma md mc else
 CheckMessage_t4 cn cl cp mk mf mt ms mn ml my mv me ma md mc
abbrev CheckMessage_t2 (cn : Int) (cl : (List LabD)) (cp : Int) (mk : Int) (mf : Int) (mt : Int) (ms : Int) (mn : Int) (ml : Int) (my : Int) (mv : Int) (me : Int) (ma : Int) (md : Bool) (mc : Int) : Prop := bif pNot (pGet tyParts messagesT (pNat mk)).2.2.2.1 then bif pNe me (0 : Int) then ((4 : Int), ()) = (CheckMessage_v0 cn cl cp mk mf mt ms mn ml my mv me ma md mc) else CheckMessage_t3 cn cl cp mk mf mt ms mn ml my mv me ma md mc else
 CheckMessage_t3 cn cl cp mk mf mt ms mn ml my mv me ma md mc
abbrev CheckMessage_t1 (cn : Int) (cl : (List LabD)) (cp : Int) (mk : Int) (mf : Int) (mt : Int) (ms : Int) (mn : Int) (ml : Int) (my : Int) (mv : Int) (me : Int) (ma : Int) (md : Bool) (mc : Int) : Prop := bif pNot (pGet tyParts messagesT (pNat mk)).2.2.1 then bif pNe mv (0 : Int) then ((4 : Int), ()) = (CheckMessage_v0 cn cl cp mk mf mt ms mn ml my mv me ma md mc) else CheckMessage_t2 cn cl cp mk mf mt ms mn ml my mv me ma md mc else
 CheckMessage_t2 cn cl cp mk mf mt ms mn ml my mv me ma md mc
abbrev CheckMessage_t0 (cn : Int) (cl : (List LabD)) (cp : Int) (mk : Int) (mf : Int) (mt : Int) (ms : Int) (mn : Int) (ml : Int) (my : Int) (mv : Int) (me : Int) (ma : Int) (md : Bool) (mc : Int) : Prop := bif pNot (pGet tyParts messagesT (pNat mk)).2.1 then bif pNe my (0 : Int) then ((4 : Int), ()) = (CheckMessage_v0 cn cl cp mk mf mt ms mn ml my mv me ma md mc) else CheckMessage_t1 cn cl cp mk mf mt ms mn ml my mv me ma md mc else
 CheckMessage_t1 cn cl cp mk mf mt ms mn ml my mv me ma md mc

def CheckMessage_VC (cn : Int) (cl : (List LabD)) (cp : Int) (mk : Int) (mf : Int) (mt : Int) (ms : Int) (mn : Int) (ml : Int) (my : Int) (mv : Int) (me : Int) (ma : Int) (md : Bool) (mc : Int) : Prop :=
  Nat.le (Nat.succ (pLen cl)) 4611686018427387904 ∧ bif pNe (cfgF (cn, cl, cp, ())) (0 : Int) then (cfgF (cn, cl, cp, ()), ()) = (CheckMessage_v0 cn cl cp mk mf mt ms mn ml my mv me ma md mc) else bif pLt mk (1 : Int) then ((3 : Int), ()) =
 (CheckMessage_v0 cn cl cp mk mf mt ms mn ml my mv me ma md mc) else bif pGt mk (9 : Int) then ((3 : Int), ()) = (CheckMessage_v0 cn cl cp mk mf mt ms mn ml my mv me ma md mc) else bif pLt mf (0 : Int) then ((2 : Int), ()) = (CheckMessage_v0
 cn cl cp mk mf mt ms mn ml my mv me ma md mc) else bif pGe mf cn then ((2 : Int), ()) = (CheckMessage_v0 cn cl cp mk mf mt ms mn ml my mv me ma md mc) else bif pLt mt (0 : Int) then ((2 : Int), ()) = (CheckMessage_v0 cn cl cp mk mf mt ms mn
 ml my mv me ma md mc) else bif pGe mt cn then ((2 : Int), ()) = (CheckMessage_v0 cn cl cp mk mf mt ms mn ml my mv me ma md mc) else bif pNot (txnF (cn, cl, cp, ()) ms mn) then ((2 : Int), ()) = (CheckMessage_v0 cn cl cp mk mf mt ms mn ml my
 mv me ma md mc) else bif pLt ml (0 : Int) then ((2 : Int), ()) = (CheckMessage_v0 cn cl cp mk mf mt ms mn ml my mv me ma md mc) else bif pGe ml (pInt (pLen cl)) then ((2 : Int), ()) = (CheckMessage_v0 cn cl cp mk mf mt ms mn ml my mv me ma
 md mc) else bif pNot (inF my (0 : Int) (7 : Int)) then ((2 : Int), ()) = (CheckMessage_v0 cn cl cp mk mf mt ms mn ml my mv me ma md mc) else bif pNot (inF mv (0 : Int) (1073741824 : Int)) then ((2 : Int), ()) = (CheckMessage_v0 cn cl cp mk
 mf mt ms mn ml my mv me ma md mc) else bif pLt me (0 : Int) then ((2 : Int), ()) = (CheckMessage_v0 cn cl cp mk mf mt ms mn ml my mv me ma md mc) else bif pGt me (1048576 : Int) then ((2 : Int), ()) = (CheckMessage_v0 cn cl cp mk mf mt ms
 mn ml my mv me ma md mc) else bif pNot (inF ma (0 : Int) (1048576 : Int)) then ((2 : Int), ()) = (CheckMessage_v0 cn cl cp mk mf mt ms mn ml my mv me ma md mc) else bif pNot (codeF mc) then ((2 : Int), ()) = (CheckMessage_v0 cn cl cp mk mf
 mt ms mn ml my mv me ma md mc) else pIn mk 10 ∧ bif pNot (pGet tyParts messagesT (pNat mk)).1 then bif pNe ml (0 : Int) then ((4 : Int), ()) = (CheckMessage_v0 cn cl cp mk mf mt ms mn ml my mv me ma md mc) else CheckMessage_t0 cn cl cp mk
 mf mt ms mn ml my mv me ma md mc else CheckMessage_t0 cn cl cp mk mf mt ms mn ml my mv me ma md mc
set_option maxRecDepth 100000 in
theorem CheckMessage_meets (hlCheck : MtG tabsM 22 clCheck) (hwtxn : MtG tabsM 57 cwtxn) (hwkey : MtG tabsM 58 cwkey) (hwvalue : MtG tabsM 59 cwvalue) (hwask : MtG tabsM 60 cwask) (hwcode : MtG tabsM 75 cwcode) (h : ∀ (cn : Int) (cl : (List LabD)) (cp : Int) (mk : Int) (mf : Int) (mt : Int) (ms : Int) (mn : Int) (ml : Int) (my : Int) (mv : Int) (me : Int) (ma : Int) (md : Bool) (mc : Int), (∀ p ∈ CheckMessage_p ⟨((cn, cl, cp, ()), (mk, mf, mt, ms, mn, ml, my, mv, me, ma, md, mc, ()), ()), ()⟩, p) → CheckMessage_VC cn cl cp mk mf mt ms mn ml my mv me ma md mc) : MtG tabsM 37 cCheckMessage :=
  meets_vc (E := envN Tryd.prog tabsM [(22, (false, clCheck)), (57, (false, cwtxn)), (58, (false, cwkey)), (59, (false, cwvalue)), (60, (false, cwask)), (75, (false, cwcode))] eqsNbV [(43, [0])] []) (envN_ok (fun p hp => (by simp only [List.mem_cons, List.not_mem_nil, or_false] at hp; rcases hp with rfl | rfl | rfl | rfl | rfl | rfl; exact hlCheck; exact hwtxn; exact hwkey; exact hwvalue; exact hwask; exact hwcode)) (by kernel_rfl)) CheckMessage_S (fun x => fun ky9 st9 => look [] ky9) Tryd.func37 (by kernel_rfl) (by kernel_rfl) CheckMessage_p [] [.slot 0 false tI] CheckMessage_f (fun x => CheckMessage_VC x.1.1.1 x.1.1.2.1 x.1.1.2.2.1 x.1.2.1.1 x.1.2.1.2.1 x.1.2.1.2.2.1 x.1.2.1.2.2.2.1 x.1.2.1.2.2.2.2.1 x.1.2.1.2.2.2.2.2.1 x.1.2.1.2.2.2.2.2.2.1 x.1.2.1.2.2.2.2.2.2.2.1 x.1.2.1.2.2.2.2.2.2.2.2.1 x.1.2.1.2.2.2.2.2.2.2.2.2.1 x.1.2.1.2.2.2.2.2.2.2.2.2.2.1 x.1.2.1.2.2.2.2.2.2.2.2.2.2.2.1) (fun x => by kernel_rfl) (fun x hp => h x.1.1.1 x.1.1.2.1 x.1.1.2.2.1 x.1.2.1.1 x.1.2.1.2.1 x.1.2.1.2.2.1 x.1.2.1.2.2.2.1 x.1.2.1.2.2.2.2.1 x.1.2.1.2.2.2.2.2.1 x.1.2.1.2.2.2.2.2.2.1 x.1.2.1.2.2.2.2.2.2.2.1 x.1.2.1.2.2.2.2.2.2.2.2.1 x.1.2.1.2.2.2.2.2.2.2.2.2.1 x.1.2.1.2.2.2.2.2.2.2.2.2.2.1 x.1.2.1.2.2.2.2.2.2.2.2.2.2.2.1 hp)

def nCheck_VC (cn : Int) (cl : (List LabD)) (cp : Int) (fl : (List RowD)) : Prop :=
  Nat.le (Nat.succ (pLen cl)) 4611686018427387904 ∧ bif pNe (cfgF (cn, cl, cp, ())) (0 : Int) then (cfgF (cn, cl, cp, ()), ()) = (flyF (cn, cl, cp, ()) fl, ()) else bif pNe (pInt (pLen fl)) (pMul IntKind.i64 cn cn) then ((9 : Int), ()) =
 (flyF (cn, cl, cp, ()) fl, ()) else nflyInv cn cl cp fl ((0 : Int), ()) ∧ ∀ (y : kden Bool.false tI × PUnit), nflyInv cn cl cp fl y → bif pLt y.1 (pInt (pLen fl)) then pIn y.1 (pLen fl) ∧ bif pGt (pInt (pLen (pGet tyRow fl (pNat y.1)).1))
 (30 : Int) then ((9 : Int), ()) = (flyF (cn, cl, cp, ()) fl, ()) else nrowInv cn cl cp fl y.1 ((0 : Int), ()) ∧ ∀ (y_1 : kden Bool.false tI × PUnit), nrowInv cn cl cp fl y.1 y_1 → bif pLt y_1.1 (pInt (pLen (pGet tyRow fl (pNat y.1)).1))
 then pIn y_1.1 (pLen (pGet tyRow fl (pNat y.1)).1) ∧ Nat.le (Nat.succ (pLen cl)) 4611686018427387904 ∧ bif pNe (msgF (cn, cl, cp, ()) (pGet tyMsg (pGet tyRow fl (pNat y.1)).1 (pNat y_1.1))) (0 : Int) then ((9 : Int), ()) = (flyF (cn, cl,
 cp, ()) fl, ()) else pNz cn ∧ bif pNe (pGet tyMsg (pGet tyRow fl (pNat y.1)).1 (pNat y_1.1)).2.1 (pQuo IntKind.i64 y.1 cn) then ((9 : Int), ()) = (flyF (cn, cl, cp, ()) fl, ()) else pNz cn ∧ bif pNe (pGet tyMsg (pGet tyRow fl (pNat y.1)).1
 (pNat y_1.1)).2.2.1 (pRem y.1 cn) then ((9 : Int), ()) = (flyF (cn, cl, cp, ()) fl, ()) else nrowInv cn cl cp fl y.1 (pAdd IntKind.i64 y_1.1 (1 : Int), ()) ∧ Nat.le (Nat.succ (nrowMu cn cl cp fl y.1 (pAdd IntKind.i64 y_1.1 (1 : Int), ())))
 (nrowMu cn cl cp fl y.1 y_1) else nflyInv cn cl cp fl (pAdd IntKind.i64 y.1 (1 : Int), ()) ∧ Nat.le (Nat.succ (nflyMu cn cl cp fl (pAdd IntKind.i64 y.1 (1 : Int), ()))) (nflyMu cn cl cp fl y) else ((0 : Int), ()) = (flyF (cn, cl, cp, ())
 fl, ())
set_option maxRecDepth 100000 in
theorem nCheck_meets (hlCheck : MtG tabsM 22 clCheck) (hCheckMessage : MtG tabsM 37 cCheckMessage) (h : ∀ (cn : Int) (cl : (List LabD)) (cp : Int) (fl : (List RowD)), (∀ p ∈ nCheck_p ⟨((cn, cl, cp, ()), fl, ()), ()⟩, p) → nCheck_VC cn cl cp fl) : MtG tabsM 36 cnCheck :=
  meets_vc (E := envN Tryd.prog tabsM [(22, (false, clCheck)), (37, (false, cCheckMessage))] eqsNbV [(43, [0])] []) (envN_ok (fun p hp => (by simp only [List.mem_cons, List.not_mem_nil, or_false] at hp; rcases hp with rfl | rfl; exact hlCheck; exact hCheckMessage)) (by kernel_rfl)) nCheck_S (fun x => fun ky9 st9 => look [(7, (⟨[.slot 25 false tI], nflyInv x.1.1.1 x.1.1.2.1 x.1.1.2.2.1 x.1.2.1, nflyMu x.1.1.1 x.1.1.2.1 x.1.1.2.2.1 x.1.2.1⟩ : Ann)), (12, (⟨[.slot 35 false tI], nrowInv x.1.1.1 x.1.1.2.1 x.1.1.2.2.1 x.1.2.1 (slotI st9 25), nrowMu x.1.1.1 x.1.1.2.1 x.1.1.2.2.1 x.1.2.1 (slotI st9 25)⟩ : Ann))] ky9) Tryd.func36 (by kernel_rfl) (by kernel_rfl) nCheck_p [] [.slot 0 false tI] nCheck_f (fun x => nCheck_VC x.1.1.1 x.1.1.2.1 x.1.1.2.2.1 x.1.2.1) (fun x => by kernel_rfl) (fun x hp => h x.1.1.1 x.1.1.2.1 x.1.1.2.2.1 x.1.2.1 hp)

def FlyingFault_VC (cn : Int) (cl : (List LabD)) (cp : Int) (fl : (List RowD)) : Prop :=
  Nat.le (Nat.succ (pLen cl)) 4611686018427387904 ∧ bif pNe (cfgF (cn, cl, cp, ())) (0 : Int) then (cfgF (cn, cl, cp, ()), ()) = (flyF (cn, cl, cp, ()) fl, ()) else bif pNe (pInt (pLen fl)) (pMul IntKind.i64 cn cn) then ((9 : Int), ()) =
 (flyF (cn, cl, cp, ()) fl, ()) else nflyInv cn cl cp fl ((0 : Int), ()) ∧ ∀ (y : kden Bool.false tI × PUnit), nflyInv cn cl cp fl y → bif pLt y.1 (pInt (pLen fl)) then pIn y.1 (pLen fl) ∧ bif pGt (pInt (pLen (pGet tyRow fl (pNat y.1)).1))
 (30 : Int) then ((9 : Int), ()) = (flyF (cn, cl, cp, ()) fl, ()) else nrowInv cn cl cp fl y.1 ((0 : Int), ()) ∧ ∀ (y_1 : kden Bool.false tI × PUnit), nrowInv cn cl cp fl y.1 y_1 → pIn y.1 (pLen fl) ∧ bif pLt y_1.1 (pInt (pLen (pGet tyRow fl
 (pNat y.1)).1)) then pIn y.1 (pLen fl) ∧ pIn y_1.1 (pLen (pGet tyRow fl (pNat y.1)).1) ∧ Nat.le (Nat.succ (pLen cl)) 4611686018427387904 ∧ bif pNe (msgF (cn, cl, cp, ()) (pGet tyMsg (pGet tyRow fl (pNat y.1)).1 (pNat y_1.1))) (0 : Int) then
 ((9 : Int), ()) = (flyF (cn, cl, cp, ()) fl, ()) else bif pNe (pAdd IntKind.i64 (pMul IntKind.i64 (pGet tyMsg (pGet tyRow fl (pNat y.1)).1 (pNat y_1.1)).2.1 cn) (pGet tyMsg (pGet tyRow fl (pNat y.1)).1 (pNat y_1.1)).2.2.1) y.1 then ((9 :
 Int), ()) = (flyF (cn, cl, cp, ()) fl, ()) else nrowInv cn cl cp fl y.1 (pAdd IntKind.i64 y_1.1 (1 : Int), ()) ∧ Nat.le (Nat.succ (nrowMu cn cl cp fl y.1 (pAdd IntKind.i64 y_1.1 (1 : Int), ()))) (nrowMu cn cl cp fl y.1 y_1) else nflyInv cn
 cl cp fl (pAdd IntKind.i64 y.1 (1 : Int), ()) ∧ Nat.le (Nat.succ (nflyMu cn cl cp fl (pAdd IntKind.i64 y.1 (1 : Int), ()))) (nflyMu cn cl cp fl y) else ((0 : Int), ()) = (flyF (cn, cl, cp, ()) fl, ())
set_option maxRecDepth 100000 in
theorem FlyingFault_meets (hcFault : MtG tabsM 25 ccFault) (hMessageFault : MtG tabsM 40 cMessageFault) (h : ∀ (cn : Int) (cl : (List LabD)) (cp : Int) (fl : (List RowD)), (∀ p ∈ nCheck_p ⟨((cn, cl, cp, ()), fl, ()), ()⟩, p) → FlyingFault_VC cn cl cp fl) : MtG tabsM 39 cFlyingFault :=
  meets_vc (E := envN Tryd.prog tabsM [(25, (false, ccFault)), (40, (false, cMessageFault))] eqsNbV [(43, [0])] []) (envN_ok (fun p hp => (by simp only [List.mem_cons, List.not_mem_nil, or_false] at hp; rcases hp with rfl | rfl; exact hcFault; exact hMessageFault)) (by kernel_rfl)) nCheck_S (fun x => fun ky9 st9 => look [(7, (⟨[.slot 6 false tI], nflyInv x.1.1.1 x.1.1.2.1 x.1.1.2.2.1 x.1.2.1, nflyMu x.1.1.1 x.1.1.2.1 x.1.1.2.2.1 x.1.2.1⟩ : Ann)), (12, (⟨[.slot 7 false tI], nrowInv x.1.1.1 x.1.1.2.1 x.1.1.2.2.1 x.1.2.1 (slotI st9 6), nrowMu x.1.1.1 x.1.1.2.1 x.1.1.2.2.1 x.1.2.1 (slotI st9 6)⟩ : Ann))] ky9) Tryd.func39 (by kernel_rfl) (by kernel_rfl) nCheck_p [] [.slot 0 false tI] nCheck_f (fun x => FlyingFault_VC x.1.1.1 x.1.1.2.1 x.1.1.2.2.1 x.1.2.1) (fun x => by kernel_rfl) (fun x hp => h x.1.1.1 x.1.1.2.1 x.1.1.2.2.1 x.1.2.1 hp)


end Go.Proofs.YtgocemdodabgkaaDoor

/- Contracts, and what the evaluator says, as plain propositions: NuV. Printed by vc.py. -/
namespace Go.Proofs.YtgocemdodabgkaaDoor
open Go.RowKit Go.ChangeShapes Go.WideShapes Go.Deep

abbrev Send_S : Shape := ⟨[pCfg, .one (.rd (.sl tyRow)), .one (.rd (.sl tyMsg))], []⟩
abbrev Send_f : Shape.den Send_S → denVars [.slot 0 true kFly, .slot 1 false tI] := fun x => (sendF x.1.1 x.1.2.1 x.1.2.2.1, sendE x.1.1 x.1.2.1 x.1.2.2.1, ())
abbrev Send_p : Shape.den Send_S → List Prop := fun x => [pLen x.1.1.2.1 < 4611686018427387904, pLen x.1.2.1 < 4611686018427387904, (∀ q ∈ x.1.2.1, pLen q.1 < 4611686018427387904), pLen x.1.2.2.1 < 4611686018427387904]
def cSend : Ctr := shCtr Send_S Send_p [] [.slot 0 true kFly, .slot 1 false tI] Send_f
def cSentOf : Ctr := shCtr Send_S Send_p [] [.slot 0 true kFly, .slot 1 false tI] Send_f
abbrev eqsNuV : List TypeId := [115, 53]

def Send_VC (cn : Int) (cl : (List LabD)) (cp : Int) (fl : (List RowD)) (l : (List MsgD)) : Prop :=
  Nat.le (Nat.succ (pLen cl)) 4611686018427387904 ∧ Nat.le (Nat.succ (pLen fl)) 4611686018427387904 ∧ (∀ (q : List (Int × Int × Int × Int × Int × Int × Int × Int × Int × Int × Bool × Int × PUnit) × PUnit), List.Mem q fl → Nat.le (Nat.succ
 (pLen q.1)) 4611686018427387904) ∧ bif pNe (flyF (cn, cl, cp, ()) fl) (0 : Int) then ([], flyF (cn, cl, cp, ()) fl, ()) = (sendF (cn, cl, cp, ()) fl l, sendE (cn, cl, cp, ()) fl l, ()) else nsendAInv cn cl cp fl l ((0 : Int), ()) ∧ ∀ (y :
 kden Bool.false tI × PUnit), nsendAInv cn cl cp fl l y → bif pLt y.1 (pInt (pLen l)) then pIn y.1 (pLen l) ∧ Nat.le (Nat.succ (pLen cl)) 4611686018427387904 ∧ bif pNe (msgF (cn, cl, cp, ()) (pGet tyMsg l (pNat y.1))) (0 : Int) then ([],
 msgF (cn, cl, cp, ()) (pGet tyMsg l (pNat y.1)), ()) = (sendF (cn, cl, cp, ()) fl l, sendE (cn, cl, cp, ()) fl l, ()) else nsendAInv cn cl cp fl l (pAdd IntKind.i64 y.1 (1 : Int), ()) ∧ Nat.le (Nat.succ (nsendAMu cn cl cp fl l (pAdd
 IntKind.i64 y.1 (1 : Int), ()))) (nsendAMu cn cl cp fl l y) else RowsOk fl ∧ nsendBInv cn cl cp fl l ((0 : Int), fl, ()) ∧ ∀ (y_1 : kden Bool.false tI × kden Bool.true kFly × PUnit), nsendBInv cn cl cp fl l y_1 → bif pLt y_1.1 (pInt (pLen
 l)) then pIn y_1.1 (pLen l) ∧ pIn (pAdd IntKind.i64 (pMul IntKind.i64 (pGet tyMsg l (pNat y_1.1)).2.1 cn) (pGet tyMsg l (pNat y_1.1)).2.2.1) (pLen y_1.2.1) ∧ bif pLt (pInt (pLen (pGet tyRow y_1.2.1 (pNat (pAdd IntKind.i64 (pMul IntKind.i64
 (pGet tyMsg l (pNat y_1.1)).2.1 cn) (pGet tyMsg l (pNat y_1.1)).2.2.1))).1)) (30 : Int) then pIn (pAdd IntKind.i64 (pMul IntKind.i64 (pGet tyMsg l (pNat y_1.1)).2.1 cn) (pGet tyMsg l (pNat y_1.1)).2.2.1) (pLen y_1.2.1) ∧ pNat (pAdd
 IntKind.i64 (pMul IntKind.i64 (pGet tyMsg l (pNat y_1.1)).2.1 cn) (pGet tyMsg l (pNat y_1.1)).2.2.1) = pNat (pAdd IntKind.i64 (pMul IntKind.i64 (pGet tyMsg l (pNat y_1.1)).2.1 cn) (pGet tyMsg l (pNat y_1.1)).2.2.1) ∧ pRoom (pPlus (pLen
 (pGet tyRow y_1.2.1 (pNat (pAdd IntKind.i64 (pMul IntKind.i64 (pGet tyMsg l (pNat y_1.1)).2.1 cn) (pGet tyMsg l (pNat y_1.1)).2.2.1))).1) (pLen [(pGet tyMsg l (pNat y_1.1))])) 96 ∧ pIn (pAdd IntKind.i64 (pMul IntKind.i64 (pGet tyMsg l (pNat
 y_1.1)).2.1 cn) (pGet tyMsg l (pNat y_1.1)).2.2.1) (pLen y_1.2.1) ∧ pNat (pAdd IntKind.i64 (pMul IntKind.i64 (pGet tyMsg l (pNat y_1.1)).2.1 cn) (pGet tyMsg l (pNat y_1.1)).2.2.1) = pNat (pAdd IntKind.i64 (pMul IntKind.i64 (pGet tyMsg l
 (pNat y_1.1)).2.1 cn) (pGet tyMsg l (pNat y_1.1)).2.2.1) ∧ nsendBInv cn cl cp fl l (pAdd IntKind.i64 y_1.1 (1 : Int), pSet y_1.2.1 (pNat (pAdd IntKind.i64 (pMul IntKind.i64 (pGet tyMsg l (pNat y_1.1)).2.1 cn) (pGet tyMsg l (pNat
 y_1.1)).2.2.1)) (pApp (pGet tyRow y_1.2.1 (pNat (pAdd IntKind.i64 (pMul IntKind.i64 (pGet tyMsg l (pNat y_1.1)).2.1 cn) (pGet tyMsg l (pNat y_1.1)).2.2.1))).1 [(pGet tyMsg l (pNat y_1.1))], ()), ()) ∧ Nat.le (Nat.succ (nsendBMu cn cl cp fl
 l (pAdd IntKind.i64 y_1.1 (1 : Int), pSet y_1.2.1 (pNat (pAdd IntKind.i64 (pMul IntKind.i64 (pGet tyMsg l (pNat y_1.1)).2.1 cn) (pGet tyMsg l (pNat y_1.1)).2.2.1)) (pApp (pGet tyRow y_1.2.1 (pNat (pAdd IntKind.i64 (pMul IntKind.i64 (pGet
 tyMsg l (pNat y_1.1)).2.1 cn) (pGet tyMsg l (pNat y_1.1)).2.2.1))).1 [(pGet tyMsg l (pNat y_1.1))], ()), ()))) (nsendBMu cn cl cp fl l y_1) else nsendBInv cn cl cp fl l (pAdd IntKind.i64 y_1.1 (1 : Int), pSet y_1.2.1 (pNat (pAdd IntKind.i64
 (pMul IntKind.i64 (pGet tyMsg l (pNat y_1.1)).2.1 cn) (pGet tyMsg l (pNat y_1.1)).2.2.1)) (pGet tyRow y_1.2.1 (pNat (pAdd IntKind.i64 (pMul IntKind.i64 (pGet tyMsg l (pNat y_1.1)).2.1 cn) (pGet tyMsg l (pNat y_1.1)).2.2.1))), ()) ∧ Nat.le
 (Nat.succ (nsendBMu cn cl cp fl l (pAdd IntKind.i64 y_1.1 (1 : Int), pSet y_1.2.1 (pNat (pAdd IntKind.i64 (pMul IntKind.i64 (pGet tyMsg l (pNat y_1.1)).2.1 cn) (pGet tyMsg l (pNat y_1.1)).2.2.1)) (pGet tyRow y_1.2.1 (pNat (pAdd IntKind.i64
 (pMul IntKind.i64 (pGet tyMsg l (pNat y_1.1)).2.1 cn) (pGet tyMsg l (pNat y_1.1)).2.2.1))), ()))) (nsendBMu cn cl cp fl l y_1) else (y_1.2.1, (0 : Int), ()) = (sendF (cn, cl, cp, ()) fl l, sendE (cn, cl, cp, ()) fl l, ())
set_option maxRecDepth 100000 in
theorem Send_meets (hnCheck : MtG tabsM 36 cnCheck) (hCheckMessage : MtG tabsM 37 cCheckMessage) (hnown : MtG tabsM 38 cnown) (h : ∀ (cn : Int) (cl : (List LabD)) (cp : Int) (fl : (List RowD)) (l : (List MsgD)), (∀ p ∈ Send_p ⟨((cn, cl, cp, ()), fl, l, ()), ()⟩, p) → Send_VC cn cl cp fl l) : MtG tabsM 13 cSend :=
  meets_vc (E := envN Tryd.prog tabsM [(36, (false, cnCheck)), (37, (false, cCheckMessage)), (38, (false, cnown))] eqsNuV [(43, [0])] [12]) (envN_ok (fun p hp => (by simp only [List.mem_cons, List.not_mem_nil, or_false] at hp; rcases hp with rfl | rfl | rfl; exact hnCheck; exact hCheckMessage; exact hnown)) (by kernel_rfl)) Send_S (fun x => fun ky9 st9 => look [(5, (⟨[.slot 24 false tI], nsendAInv x.1.1.1 x.1.1.2.1 x.1.1.2.2.1 x.1.2.1 x.1.2.2.1, nsendAMu x.1.1.1 x.1.1.2.1 x.1.1.2.2.1 x.1.2.1 x.1.2.2.1⟩ : Ann)), (13, (⟨[.slot 39 false tI, .slot 12 true kFly], nsendBInv x.1.1.1 x.1.1.2.1 x.1.1.2.2.1 x.1.2.1 x.1.2.2.1, nsendBMu x.1.1.1 x.1.1.2.1 x.1.1.2.2.1 x.1.2.1 x.1.2.2.1⟩ : Ann))] ky9) Tryd.func13 (by kernel_rfl) (by kernel_rfl) Send_p [] [.slot 0 true kFly, .slot 1 false tI] Send_f (fun x => Send_VC x.1.1.1 x.1.1.2.1 x.1.1.2.2.1 x.1.2.1 x.1.2.2.1) (fun x => by kernel_rfl) (fun x hp => h x.1.1.1 x.1.1.2.1 x.1.1.2.2.1 x.1.2.1 x.1.2.2.1 hp)

abbrev SentOf_t0 (cn : Int) (cl : (List LabD)) (cp : Int) (fl : (List RowD)) (l : (List MsgD)) (y : kden Bool.false tI × kden Bool.false tI × PUnit) : Prop := bif pNe y.2.1 (0 : Int) then ([], y.2.1, ()) = (sendF (cn, cl, cp, ()) fl l, sendE (cn, cl, cp, ()) fl l, ()) else RowsOk fl ∧ nsentBInv cn cl cp fl l ((0 : Int), fl, ()) ∧ ∀ (y_1 : kden Bool.false tI × kden Bool.true kFly × PUnit),
 nsentBInv cn cl cp fl l y_1 → bif pLt y_1.1 (pInt (pLen l)) then pIn y_1.1 (pLen l) ∧ pIn y_1.1 (pLen l) ∧ pIn (pAdd IntKind.i64 (pMul IntKind.i64 (pGet tyMsg l (pNat y_1.1)).2.1 cn) (pGet tyMsg l (pNat y_1.1)).2.2.1) (pLen y_1.2.1) ∧ bif
 pLt (pInt (pLen (pGet tyRow y_1.2.1 (pNat (pAdd IntKind.i64 (pMul IntKind.i64 (pGet tyMsg l (pNat y_1.1)).2.1 cn) (pGet tyMsg l (pNat y_1.1)).2.2.1))).1)) (30 : Int) then pIn (pAdd IntKind.i64 (pMul IntKind.i64 (pGet tyMsg l (pNat
 y_1.1)).2.1 cn) (pGet tyMsg l (pNat y_1.1)).2.2.1) (pLen y_1.2.1) ∧ pNat (pAdd IntKind.i64 (pMul IntKind.i64 (pGet tyMsg l (pNat y_1.1)).2.1 cn) (pGet tyMsg l (pNat y_1.1)).2.2.1) = pNat (pAdd IntKind.i64 (pMul IntKind.i64 (pGet tyMsg l
 (pNat y_1.1)).2.1 cn) (pGet tyMsg l (pNat y_1.1)).2.2.1) ∧ pIn y_1.1 (pLen l) ∧ pRoom (pPlus (pLen (pGet tyRow y_1.2.1 (pNat (pAdd IntKind.i64 (pMul IntKind.i64 (pGet tyMsg l (pNat y_1.1)).2.1 cn) (pGet tyMsg l (pNat y_1.1)).2.2.1))).1)
 (pLen [(pGet tyMsg l (pNat y_1.1))])) 96 ∧ pIn (pAdd IntKind.i64 (pMul IntKind.i64 (pGet tyMsg l (pNat y_1.1)).2.1 cn) (pGet tyMsg l (pNat y_1.1)).2.2.1) (pLen y_1.2.1) ∧ pNat (pAdd IntKind.i64 (pMul IntKind.i64 (pGet tyMsg l (pNat
 y_1.1)).2.1 cn) (pGet tyMsg l (pNat y_1.1)).2.2.1) = pNat (pAdd IntKind.i64 (pMul IntKind.i64 (pGet tyMsg l (pNat y_1.1)).2.1 cn) (pGet tyMsg l (pNat y_1.1)).2.2.1) ∧ nsentBInv cn cl cp fl l (pAdd IntKind.i64 y_1.1 (1 : Int), pSet y_1.2.1
 (pNat (pAdd IntKind.i64 (pMul IntKind.i64 (pGet tyMsg l (pNat y_1.1)).2.1 cn) (pGet tyMsg l (pNat y_1.1)).2.2.1)) (pApp (pGet tyRow y_1.2.1 (pNat (pAdd IntKind.i64 (pMul IntKind.i64 (pGet tyMsg l (pNat y_1.1)).2.1 cn) (pGet tyMsg l (pNat
 y_1.1)).2.2.1))).1 [(pGet tyMsg l (pNat y_1.1))], ()), ()) ∧ Nat.le (Nat.succ (nsentBMu cn cl cp fl l (pAdd IntKind.i64 y_1.1 (1 : Int), pSet y_1.2.1 (pNat (pAdd IntKind.i64 (pMul IntKind.i64 (pGet tyMsg l (pNat y_1.1)).2.1 cn) (pGet tyMsg
 l (pNat y_1.1)).2.2.1)) (pApp (pGet tyRow y_1.2.1 (pNat (pAdd IntKind.i64 (pMul IntKind.i64 (pGet tyMsg l (pNat y_1.1)).2.1 cn) (pGet tyMsg l (pNat y_1.1)).2.2.1))).1 [(pGet tyMsg l (pNat y_1.1))], ()), ()))) (nsentBMu cn cl cp fl l y_1)
 else nsentBInv cn cl cp fl l (pAdd IntKind.i64 y_1.1 (1 : Int), pSet y_1.2.1 (pNat (pAdd IntKind.i64 (pMul IntKind.i64 (pGet tyMsg l (pNat y_1.1)).2.1 cn) (pGet tyMsg l (pNat y_1.1)).2.2.1)) (pGet tyRow y_1.2.1 (pNat (pAdd IntKind.i64 (pMul
 IntKind.i64 (pGet tyMsg l (pNat y_1.1)).2.1 cn) (pGet tyMsg l (pNat y_1.1)).2.2.1))), ()) ∧ Nat.le (Nat.succ (nsentBMu cn cl cp fl l (pAdd IntKind.i64 y_1.1 (1 : Int), pSet y_1.2.1 (pNat (pAdd IntKind.i64 (pMul IntKind.i64 (pGet tyMsg l
 (pNat y_1.1)).2.1 cn) (pGet tyMsg l (pNat y_1.1)).2.2.1)) (pGet tyRow y_1.2.1 (pNat (pAdd IntKind.i64 (pMul IntKind.i64 (pGet tyMsg l (pNat y_1.1)).2.1 cn) (pGet tyMsg l (pNat y_1.1)).2.2.1))), ()))) (nsentBMu cn cl cp fl l y_1) else
 (y_1.2.1, (0 : Int), ()) = (sendF (cn, cl, cp, ()) fl l, sendE (cn, cl, cp, ()) fl l, ())

def SentOf_VC (cn : Int) (cl : (List LabD)) (cp : Int) (fl : (List RowD)) (l : (List MsgD)) : Prop :=
  Nat.le (Nat.succ (pLen cl)) 4611686018427387904 ∧ Nat.le (Nat.succ (pLen fl)) 4611686018427387904 ∧ (∀ (q : List (Int × Int × Int × Int × Int × Int × Int × Int × Int × Int × Bool × Int × PUnit) × PUnit), List.Mem q fl → Nat.le (Nat.succ
 (pLen q.1)) 4611686018427387904) ∧ nsentAInv cn cl cp fl l ((0 : Int), flyF (cn, cl, cp, ()) fl, ()) ∧ ∀ (y : kden Bool.false tI × kden Bool.false tI × PUnit), nsentAInv cn cl cp fl l y → bif pLt y.1 (pInt (pLen l)) then bif pEq y.2.1 (0 :
 Int) then pIn y.1 (pLen l) ∧ Nat.le (Nat.succ (pLen cl)) 4611686018427387904 ∧ nsentAInv cn cl cp fl l (pAdd IntKind.i64 y.1 (1 : Int), msgF (cn, cl, cp, ()) (pGet tyMsg l (pNat y.1)), ()) ∧ Nat.le (Nat.succ (nsentAMu cn cl cp fl l (pAdd
 IntKind.i64 y.1 (1 : Int), msgF (cn, cl, cp, ()) (pGet tyMsg l (pNat y.1)), ()))) (nsentAMu cn cl cp fl l y) else SentOf_t0 cn cl cp fl l y else SentOf_t0 cn cl cp fl l y
set_option maxRecDepth 100000 in
theorem SentOf_meets (hFlyingFault : MtG tabsM 39 cFlyingFault) (hMessageFault : MtG tabsM 40 cMessageFault) (hFlyingCopy : MtG tabsM 12 cFlyingCopy) (h : ∀ (cn : Int) (cl : (List LabD)) (cp : Int) (fl : (List RowD)) (l : (List MsgD)), (∀ p ∈ Send_p ⟨((cn, cl, cp, ()), fl, l, ()), ()⟩, p) → SentOf_VC cn cl cp fl l) : MtG tabsM 14 cSentOf :=
  meets_vc (E := envN Tryd.prog tabsM [(39, (false, cFlyingFault)), (40, (false, cMessageFault)), (12, (false, cFlyingCopy))] eqsNuV [(43, [0])] [10]) (envN_ok (fun p hp => (by simp only [List.mem_cons, List.not_mem_nil, or_false] at hp; rcases hp with rfl | rfl | rfl; exact hFlyingFault; exact hMessageFault; exact hFlyingCopy)) (by kernel_rfl)) Send_S (fun x => fun ky9 st9 => look [(3, (⟨[.slot 9 false tI, .slot 8 false tI], nsentAInv x.1.1.1 x.1.1.2.1 x.1.1.2.2.1 x.1.2.1 x.1.2.2.1, nsentAMu x.1.1.1 x.1.1.2.1 x.1.1.2.2.1 x.1.2.1 x.1.2.2.1⟩ : Ann)), (10, (⟨[.slot 11 false tI, .slot 10 true kFly], nsentBInv x.1.1.1 x.1.1.2.1 x.1.1.2.2.1 x.1.2.1 x.1.2.2.1, nsentBMu x.1.1.1 x.1.1.2.1 x.1.1.2.2.1 x.1.2.1 x.1.2.2.1⟩ : Ann))] ky9) Tryd.func14 (by kernel_rfl) (by kernel_rfl) Send_p [] [.slot 0 true kFly, .slot 1 false tI] Send_f (fun x => SentOf_VC x.1.1.1 x.1.1.2.1 x.1.1.2.2.1 x.1.2.1 x.1.2.2.1) (fun x => by kernel_rfl) (fun x hp => h x.1.1.1 x.1.1.2.1 x.1.1.2.2.1 x.1.2.1 x.1.2.2.1 hp)

abbrev NetSends_v0 := (Int × Int × Int × Int × Int × Int × Int × Int × Int × Int × Bool × Int × PUnit)

def NetSends_VC (cn : Int) (cl : (List LabD)) (cp : Int) (fl : (List RowD)) (l : (List MsgD)) : Prop :=
  RowsOk fl ∧ pRoom (pPlus (pLen ([] : List Unit)) (pLen l)) 96 ∧ Nat.le (Nat.succ (pLen cl)) 4611686018427387904 ∧ Nat.le (Nat.succ (pLen fl)) 4611686018427387904 ∧ (∀ (q : List (NetSends_v0) × PUnit), List.Mem q fl → Nat.le (Nat.succ (pLen
 q.1)) 4611686018427387904) ∧ Nat.le (Nat.succ (pLen (pApp [] l))) 4611686018427387904 ∧ Nat.le (Nat.succ (pLen cl)) 4611686018427387904 ∧ Nat.le (Nat.succ (pLen fl)) 4611686018427387904 ∧ (∀ (q : List (NetSends_v0) × PUnit), List.Mem q fl →
 Nat.le (Nat.succ (pLen q.1)) 4611686018427387904) ∧ Nat.le (Nat.succ (pLen l)) 4611686018427387904 ∧ bif pEq (sendE (cn, cl, cp, ()) fl (pApp [] l)) (sendE (cn, cl, cp, ()) fl l) then Nat.le (Nat.succ (pLen (sendF (cn, cl, cp, ()) fl (pApp
 [] l)))) 4611686018427387904 ∧ (∀ (q : List (NetSends_v0) × PUnit), List.Mem q (sendF (cn, cl, cp, ()) fl (pApp [] l)) → Nat.le (Nat.succ (pLen q.1)) 4611686018427387904) ∧ bif sameFlyF (sendF (cn, cl, cp, ()) fl (pApp [] l)) (sendF (cn,
 cl, cp, ()) fl l) then Nat.le (Nat.succ (pLen fl)) 4611686018427387904 ∧ (∀ (q : List (NetSends_v0) × PUnit), List.Mem q fl → Nat.le (Nat.succ (pLen q.1)) 4611686018427387904) ∧ (sameFlyF fl fl, ()) = (Bool.true, ()) else (Bool.false, ()) =
 (Bool.true, ()) else (Bool.false, ()) = (Bool.true, ())
set_option maxRecDepth 100000 in
theorem NetSends_walk {H : Type} {enc : TypeId × Value → H} (hFlyingCopy : MtG tabsM 12 cFlyingCopy) (hSend : MtG tabsM 13 cSend) (hSentOf : MtG tabsM 14 cSentOf) (hsameFly : MtG tabsM 15 csameFly) (h : ∀ (x : denL [(true, wCfg), (false, (wSl (wSl wMsg 96) 24)), (false, (wSl wMsg 96))]), okL [(true, wCfg), (false, (wSl (wSl wMsg 96) 24)), (false, (wSl wMsg 96))] x → NetSends_VC x.1.1 x.1.2.1 x.1.2.2.1 x.2.1.1 x.2.2.1.1) : ∀ (W : World) (base : Nat) (args : Array Value) (ds : List (DataW H)) (p : List MemPlace), DataW.TrodAll enc Tryd.prog W 0 (fun _ => true) true Tryd.f4.params.toList args.toList ds p → (∀ (j : Nat) (t : TypeId) (v : Value), Tryd.f4.params[j]? = some t → args[j]? = some v → Value.okWide Tryd.prog W .any base t v) → (∀ x ∈ p, x.block < W.heap.size) → (DataW.weightsEach Tryd.prog Tryd.f4.params.toList ds).all (· ≤ reachBytes) = true → TabsM W → Calls Tryd.prog 4 args W fun e W1 => e = .returned (.bool true) ∧ Below W.heap.size W W1 :=
  law_walkLG (E := envN Tryd.prog tabsM [(12, (false, cFlyingCopy)), (13, (false, cSend)), (14, (false, cSentOf)), (15, (false, csameFly))] eqsNuV [(43, [0])] []) (envN_ok (fun p hp => (by simp only [List.mem_cons, List.not_mem_nil, or_false] at hp; rcases hp with rfl | rfl | rfl | rfl; exact hFlyingCopy; exact hSend; exact hSentOf; exact hsameFly)) (by kernel_rfl)) TabsM tabsM_ok Tryd.func4 (by kernel_rfl) [(true, wCfg), (false, (wSl (wSl wMsg 96) 24)), (false, (wSl wMsg 96))] (by kernel_rfl) (fun x => fun ky9 st9 => look [] ky9) (fun x => NetSends_VC x.1.1 x.1.2.1 x.1.2.2.1 x.2.1.1 x.2.2.1.1) (fun x => by kernel_rfl) h

end Go.Proofs.YtgocemdodabgkaaDoor

/- The configuration's checks meet their contracts. No condition. -/
namespace Go.Proofs.YtgocemdodabgkaaDoor
open Go.RowKit

theorem In_ok : Meets Tryd.prog (fun _ => none) 26 cIn := In_meets fun a b c => by
  unfold In_VC
  simp only [pGe, pLe, Bool.cond_eq_ite, decide_eq_true_eq, Prod.mk.injEq, eq_self, and_true, inF]
  repeat' split
  all_goals (rw [Bool.eq_iff_iff]; simp only [Bool.and_eq_true, decide_eq_true_eq, Bool.false_eq_true]; constructor <;> intro h <;> first | omega | exact h.elim)
theorem one_ok : Meets Tryd.prog (fun _ => none) 56 cone := one_meets fun a b => by
  unfold one_VC
  simp only [pGe, pLe, Bool.cond_eq_ite, decide_eq_true_eq, Prod.mk.injEq, eq_self, and_true, inF, labF]
  repeat' split
  all_goals (rw [Bool.eq_iff_iff]; simp only [Bool.and_eq_true, decide_eq_true_eq, Bool.false_eq_true]; constructor <;> intro h <;> first | omega | exact h.elim)

theorem cfgF_sites {c : CfgD} (h : inF c.1 1 4 = false) : cfgF c = 2 := by unfold cfgF; rw [h]; rfl
theorem cfgF_len {c : CfgD} (h1 : inF c.1 1 4 = true) (h : inF (pInt c.2.1.length) 1 6 = false) : cfgF c = 1 := by unfold cfgF; rw [h1, h]; rfl
theorem cfgF_first {c : CfgD} {n : Int} (h1 : inF c.1 1 4 = true) (h2 : inF (pInt c.2.1.length) 1 6 = true) (h : firstE (labE c.2.1) c.2.1.length = n) (hn : pEq n 0 = false) : cfgF c = n := by
  unfold cfgF; rw [h1, h2, h, hn]; rfl
theorem cfgF_end {c : CfgD} (h1 : inF c.1 1 4 = true) (h2 : inF (pInt c.2.1.length) 1 6 = true) (h : firstE (labE c.2.1) c.2.1.length = 0) : cfgF c = cond (inF c.2.2.1 1 1048576) 0 2 := by
  unfold cfgF; rw [h1, h2, h]; rfl
theorem inF_iff {x a b : Int} : inF x a b = true ↔ a ≤ x ∧ x ≤ b := by simp [inF, pLe]
theorem inF_not {x a b : Int} : inF x a b = false ↔ ¬ (a ≤ x ∧ x ≤ b) := by rw [← inF_iff]; simp

theorem labE_bad {l : List LabD} {k : Nat} (h : labF (pGet tyLab l k) = false) : labE l k = 2 := by unfold labE; rw [h]; rfl
theorem labE_ok {l : List LabD} {k : Nat} (h : labF (pGet tyLab l k) = true) : labE l k = cond (allUpto (fun i => !eqLabAt l i k) k) 0 7 := by unfold labE; rw [h]; rfl

/-- the loop over the labels, behind the first two tests -/
theorem cfg_round {c : CfgD} (h1 : inF c.1 1 4 = true) (h2 : inF (pInt c.2.1.length) 1 6 = true) {k : Nat} (hk : pEq (labE c.2.1 k) 0 = false → firstE (labE c.2.1) c.2.1.length = labE c.2.1 k)
    (h : labF (pGet tyLab c.2.1 k) = false) : ((2 : Int), ()) = (cfgF c, ()) := by
  rw [cfgF_first h1 h2 (n := 2) (by rw [hk (by rw [labE_bad h]; rfl), labE_bad h]) rfl]
theorem cfg_twice {c : CfgD} (h1 : inF c.1 1 4 = true) (h2 : inF (pInt c.2.1.length) 1 6 = true) {k : Nat} (hk : pEq (labE c.2.1 k) 0 = false → firstE (labE c.2.1) c.2.1.length = labE c.2.1 k)
    (h : labF (pGet tyLab c.2.1 k) = true) (ha : allUpto (fun i => !eqLabAt c.2.1 i k) k = false) : ((7 : Int), ()) = (cfgF c, ()) := by
  have e : labE c.2.1 k = 7 := by rw [labE_ok h, ha]; rfl
  rw [cfgF_first h1 h2 (n := 7) (by rw [hk (by rw [e]; rfl), e]) rfl]

theorem lB_start {cn : Int} {cl : List LabD} {cp : Int} {k : Nat} : lCheckBInv cn cl cp (k : Int) (0, ()) := UpInv.start
theorem lB_round {cn : Int} {cl : List LabD} {cp : Int} {k : Nat} {z : denVars [.slot 41 false tI]} (hk : k < 4611686018427387904) (h : lCheckBInv cn cl cp (k : Int) z) :
    (∃ i : Nat, z = ((i : Int), ()) ∧ i < k ∧ i < 4611686018427387904 ∧ (eqLabAt cl i k = true → allUpto (fun i => !eqLabAt cl i k) k = false) ∧
      (eqLabAt cl i k = false → lCheckBInv cn cl cp (k : Int) (pAdd .i64 (i : Int) 1, ()) ∧ Nat.le (Nat.succ (lCheckBMu cn cl cp (k : Int) (pAdd .i64 (i : Int) 1, ()))) (lCheckBMu cn cl cp (k : Int) ((i : Int), ())))) ∨
    (z = ((k : Int), ()) ∧ allUpto (fun i => !eqLabAt cl i k) k = true) := by
  unfold lCheckBInv lCheckBMu at *
  simp only [pNat_coe] at h ⊢
  rcases UpInv.round hk h with ⟨i, hz, hi, hib, _, hF, hT⟩ | h
  · exact .inl ⟨i, hz, hi, hib, fun h => hF (by simp [h]), fun h => hT (by simp [h])⟩
  · exact .inr h

theorem lCheck_ok : Meets Tryd.prog (fun _ => none) 22 clCheck := lCheck_meets one_ok fun cn cl cp hp => by
  have hl : cl.length < 4611686018427387904 := hp _ List.mem_cons_self
  unfold lCheck_VC
  simp only [pLen]
  cases hb1 : pLt cn 1
  case true => exact congrArg (·, ()) (cfgF_sites (by rw [inF_not]; simp only [pLt, decide_eq_true_eq] at hb1; omega)).symm
  cases hb2 : pGt cn 4
  case true => exact congrArg (·, ()) (cfgF_sites (by rw [inF_not]; simp only [pGt, decide_eq_true_eq] at hb2; simp only; omega)).symm
  have h1 : inF cn 1 4 = true := by rw [inF_iff]; simp only [pLt, pGt, decide_eq_false_iff_not] at hb1 hb2; omega
  cases hb3 : pLt (pInt cl.length) 1
  case true => exact congrArg (·, ()) (cfgF_len h1 (by rw [inF_not]; simp only [pLt, decide_eq_true_eq] at hb3; simp only; omega)).symm
  cases hb4 : pGt (pInt cl.length) 6
  case true => exact congrArg (·, ()) (cfgF_len h1 (by rw [inF_not]; simp only [pGt, decide_eq_true_eq] at hb4; simp only; omega)).symm
  have h2 : inF (pInt cl.length) 1 6 = true := by rw [inF_iff]; simp only [pLt, pGt, decide_eq_false_iff_not] at hb3 hb4; omega
  refine ⟨UpInv.start, fun y hy => ?_⟩
  rcases FirstInv.round hl hy with ⟨k, rfl, hk, hb, hF, hT⟩ | ⟨rfl, hT⟩
  · simp only [pLt_coe, pLen, hk, decide_true, cond_true, pIn_coe, pNat_coe, true_and]
    cases hlab : labF (pGet tyLab cl k)
    case false => exact cfg_round (c := (cn, cl, cp, ())) h1 h2 hF hlab
    refine ⟨by rw [pTo_coe]; omega, lB_start, fun z hz => ?_⟩
    rcases lB_round hb hz with ⟨i, rfl, hi, hib, hiF, hiT⟩ | ⟨rfl, hiT⟩
    · rw [pSub0_len (by omega), bif_true (show pLt (i : Int) (pInt k) = true from by simp [pLt_coe, hi])]
      refine ⟨pIn_coe.2 hi, ?_⟩
      rw [pNat_coe, pGet_sub0 hi]
      have e : pAndB (pEq (pGet tyLab cl i).1 (pGet tyLab cl k).1) (pEq (pGet tyLab cl i).2.1 (pGet tyLab cl k).2.1) = eqLabAt cl i k := rfl
      rw [e]
      cases hq : eqLabAt cl i k with
      | true => exact cfg_twice (c := (cn, cl, cp, ())) h1 h2 hF hlab (hiF hq)
      | false => exact hiT hq
    · rw [pSub0_len (by omega), bif_false (show pLt (k : Int) (pInt k) = false from by simp [pLt_coe])]
      exact hT (by rw [labE_ok hlab, hiT]; rfl)
  · simp only [pLt_coe, Nat.lt_irrefl, decide_false, cond_false]
    rw [cfgF_end (c := (cn, cl, cp, ())) h1 h2 hT]
    simp only [pLt, pGt, Bool.cond_eq_ite, decide_eq_true_eq, inF_iff]
    repeat' split
    all_goals first | rfl | (exfalso; omega)

theorem cFault_ok : Meets Tryd.prog (fun _ => none) 25 ccFault := cFault_meets In_ok fun cn cl cp hp => by
  have hl : cl.length < 4611686018427387904 := hp _ List.mem_cons_self
  unfold cFault_VC
  cases h1 : inF cn 1 4
  case false => exact congrArg (·, ()) (cfgF_sites h1).symm
  simp only [pLen]
  cases h2 : inF (pInt cl.length) 1 6
  case false => exact congrArg (·, ()) (cfgF_len h1 h2).symm
  refine ⟨UpInv.start, fun y hy => ?_⟩
  rcases FirstInv.round hl hy with ⟨k, rfl, hk, hb, hF, hT⟩ | ⟨rfl, hT⟩
  · simp only [pLt_coe, hk, decide_true, cond_true, pIn_coe, pNat_coe, true_and]
    cases ha : inF (pGet tyLab cl k).1 0 9
    case false => exact cfg_round (c := (cn, cl, cp, ())) h1 h2 hF (by unfold labF; rw [ha]; rfl)
    cases hc : inF (pGet tyLab cl k).2.1 0 15
    case false => exact cfg_round (c := (cn, cl, cp, ())) h1 h2 hF (by unfold labF; rw [ha, hc]; rfl)
    have hlab : labF (pGet tyLab cl k) = true := by unfold labF; rw [ha, hc]; rfl
    refine ⟨lB_start, fun z hz => ?_⟩
    rcases lB_round hb hz with ⟨i, rfl, hi, hib, hiF, hiT⟩ | ⟨rfl, hiT⟩
    · have hi2 : i < cl.length := by omega
      rw [bif_true (show pLt (i : Int) (k : Int) = true from by simp [pLt, hi])]
      refine ⟨pIn_coe.2 hi2, ?_⟩
      rw [pNat_coe]
      have e : pAndB (pEq (pGet tyLab cl i).1 (pGet tyLab cl k).1) (pEq (pGet tyLab cl i).2.1 (pGet tyLab cl k).2.1) = eqLabAt cl i k := rfl
      rw [e]
      cases hq : eqLabAt cl i k with
      | true => exact cfg_twice (c := (cn, cl, cp, ())) h1 h2 hF hlab (hiF hq)
      | false => exact hiT hq
    · rw [show pLt (k : Int) (k : Int) = false from by simp [pLt]]
      exact hT (by rw [labE_ok hlab, hiT]; rfl)
  · simp only [pLt_coe, Nat.lt_irrefl, decide_false, cond_false]
    rw [cfgF_end (c := (cn, cl, cp, ())) h1 h2 hT]
    cases inF cp 1 1048576 <;> rfl

theorem pSub_len1 {n : Nat} (h : n < 4611686018427387904) : pSubI .i64 (pInt n) 1 = (n : Int) - 1 := by unfold pInt; rw [pSubI_in (by omega)]
theorem labelMay_ok : Meets Tryd.prog (fun _ => none) 77 clabelMay := labelMay_meets In_ok fun cn cl cp l hp => by
  have hl : cl.length < 4611686018427387904 := hp _ List.mem_cons_self
  unfold labelMay_VC
  rw [pLen, pSub_len1 hl]
  refine congrArg (·, ()) ?_
  rw [Bool.eq_iff_iff]
  simp only [pInt, placeF]
  simp only [inF, pLe, pLt, Bool.and_eq_true, decide_eq_true_eq]
  omega


end Go.Proofs.YtgocemdodabgkaaDoor

/- Messages: the checks meet their contracts. No condition. -/
namespace Go.Proofs.YtgocemdodabgkaaDoor
open Go.RowKit

theorem wtxn_ok : Meets Tryd.prog (fun _ => none) 57 cwtxn := wtxn_meets fun cn cl cp ts tn => by
  unfold wtxn_VC
  (repeat' (first | refine bif_ok (fun h => ?_) (fun h => ?_) | refine And.intro ?_ ?_ | fail))
  all_goals (refine leafE ?_; simp only [txnF]; grind [pLt, pLe, pGt, pGe, pEq, pNe, pNot, pAndB, pBeq, pInt, pLen, inF, pIn, pTo, pNat])
theorem wkey_ok : Meets Tryd.prog (fun _ => none) 58 cwkey := wkey_meets fun a => by
  unfold wkey_VC
  (repeat' (first | refine bif_ok (fun h => ?_) (fun h => ?_) | refine And.intro ?_ ?_ | fail))
  all_goals (refine leafE ?_; grind [pLt, pLe, pGt, pGe, pEq, pNe, pNot, pAndB, pBeq, pInt, pLen, inF, pIn, pTo, pNat])
theorem wvalue_ok : Meets Tryd.prog (fun _ => none) 59 cwvalue := wvalue_meets fun a => by
  unfold wvalue_VC
  (repeat' (first | refine bif_ok (fun h => ?_) (fun h => ?_) | refine And.intro ?_ ?_ | fail))
  all_goals (refine leafE ?_; grind [pLt, pLe, pGt, pGe, pEq, pNe, pNot, pAndB, pBeq, pInt, pLen, inF, pIn, pTo, pNat])
theorem wask_ok : Meets Tryd.prog (fun _ => none) 60 cwask := wask_meets fun a => by
  unfold wask_VC
  (repeat' (first | refine bif_ok (fun h => ?_) (fun h => ?_) | refine And.intro ?_ ?_ | fail))
  all_goals (refine leafE ?_; grind [pLt, pLe, pGt, pGe, pEq, pNe, pNot, pAndB, pBeq, pInt, pLen, inF, pIn, pTo, pNat])
theorem wcode_ok : Meets Tryd.prog (fun _ => none) 75 cwcode := wcode_meets fun a => by
  unfold wcode_VC
  (repeat' (first | refine bif_ok (fun h => ?_) (fun h => ?_) | refine And.intro ?_ ?_ | fail))
  all_goals (refine leafE ?_; simp only [codeF]; grind [pLt, pLe, pGt, pGe, pEq, pNe, pNot, pAndB, pBeq, pInt, pLen, inF, pIn, pTo, pNat])
theorem txnMay_ok : Meets Tryd.prog (fun _ => none) 66 ctxnMay := txnMay_meets In_ok fun cn cl cp ts tn hp => by
  have h4 : inF cn 1 4 = true := hp _ List.mem_cons_self
  have h5 := inF_iff.1 h4
  unfold txnMay_VC
  rw [pSubI_in (a := cn) (b := 1) (by omega)]
  (repeat' (first | refine bif_ok (fun h => ?_) (fun h => ?_) | refine And.intro ?_ ?_ | fail))
  all_goals (refine leafE ?_; simp only [txnF]; grind [pLt, pLe, pGt, pGe, pEq, pNe, pNot, pAndB, pBeq, pInt, pLen, inF, pIn, pTo, pNat])

theorem cfgF_sites4 {c : CfgD} (h : pNe (cfgF c) 0 = false) : inF c.1 1 4 = true := by
  cases hq : inF c.1 1 4
  · rw [cfgF_sites hq] at h; cases h
  · rfl

theorem msgF_eq (cn : Int) (cl : List LabD) (cp mk mf mt ms mn ml my mv me ma : Int) (md : Bool) (mc : Int) (r1 r2 r3 r4 r5 r6 r7 r8 : Bool) (hr : pGet tyParts messagesT (pNat mk) = (r1, r2, r3, r4, r5, r6, r7, r8, ())) :
    msgF (cn, cl, cp, ()) (mk, mf, mt, ms, mn, ml, my, mv, me, ma, md, mc, ()) = cond (pEq (cfgF (cn, cl, cp, ())) 0) (cond (inF mk 1 9)
      (cond (pLe 0 mf && pLt mf cn && pLe 0 mt && pLt mt cn && txnF (cn, cl, cp, ()) ms mn && placeF (cn, cl, cp, ()) ml && inF my 0 7 && inF mv 0 1073741824 && inF me 0 1048576 && inF ma 0 1048576 && codeF mc)
        (cond ((r1 || pEq ml 0) && (r2 || pEq my 0) && (r3 || pEq mv 0) && (r4 || pEq me 0) && (r5 || pEq ma 0) && (r6 || !md) && (r7 || pEq mc 0) && (pEq mc 0 || (pEq mv 0 && pEq me 0))) 0 4) 2) 3) (cfgF (cn, cl, cp, ())) := by
  unfold msgF msgForm
  simp only [hr]
  rfl

theorem bif_dup {r b : Bool} {X T : Prop} (h1 : r = false → b = true → X) (h2 : (r || !b) = true → T) : bif pNot r then (bif b then X else T) else T := by
  cases r <;> cases b <;> simp_all [pNot]

set_option maxHeartbeats 4000000 in
theorem CheckMessage_ok : Meets Tryd.prog tabsM 37 cCheckMessage := CheckMessage_meets lCheck_ok.any wtxn_ok.any wkey_ok.any wvalue_ok.any wask_ok.any wcode_ok.any fun cn cl cp mk mf mt ms mn ml my mv me ma md mc hp => by
  have hl : cl.length < 4611686018427387904 := hp _ List.mem_cons_self
  clear hp
  unfold CheckMessage_VC CheckMessage_t0 CheckMessage_t1 CheckMessage_t2 CheckMessage_t3 CheckMessage_t4 CheckMessage_t5 CheckMessage_t6 CheckMessage_v0
  have hP : placeF (cn, cl, cp, ()) ml = (pLe 0 ml && pLt ml (pInt cl.length)) := rfl
  have hlen : messagesT.length = 10 := rfl
  generalize hr : pGet tyParts messagesT (pNat mk) = r
  obtain ⟨r1, r2, r3, r4, r5, r6, r7, r8, u⟩ := r
  have hM := msgF_eq cn cl cp mk mf mt ms mn ml my mv me ma md mc r1 r2 r3 r4 r5 r6 r7 r8 hr
  have hadd : inF mv 0 1073741824 = true → pLt me 0 = false → pGt me 1048576 = false → pAdd .i64 mv me = mv + me := fun h1 h2 h3 => pAdd_in (by
    rw [inF_iff] at h1; simp only [pLt, pGt, decide_eq_false_iff_not] at h2 h3; omega)
  dsimp only
  clear hr
  refine ⟨hl, ?_⟩
  (repeat' (first | refine bif_dup (fun h1 h2 => ?_) (fun h => ?_) | refine bif_ok (fun h => ?_) (fun h => ?_) | with_reducible refine And.intro ?_ ?_ | fail))
  all_goals first
    | (unfold pIn; simp only [pLt, pGt, decide_eq_false_iff_not] at *; omega)
    | (refine leafE ?_; rw [hM]; grind [pLt, pLe, pGt, pGe, pEq, pNe, pNot, pAndB, pBeq, pInt, pLen, inF, pIn, pTo, pNat])
    | skip


theorem row1 : pGet tyParts messagesT (pNat 1) = (true, true, false, false, true, false, false, false, ()) := rfl
theorem row2 : pGet tyParts messagesT (pNat 2) = (false, true, true, false, true, false, false, false, ()) := rfl
theorem row3 : pGet tyParts messagesT (pNat 3) = (true, true, false, true, false, false, false, false, ()) := rfl
theorem row4 : pGet tyParts messagesT (pNat 4) = (false, false, false, false, false, true, false, false, ()) := rfl
theorem row5 : pGet tyParts messagesT (pNat 5) = (true, true, true, true, true, false, true, false, ()) := rfl
theorem row6 : pGet tyParts messagesT (pNat 6) = (false, true, false, false, true, false, true, false, ()) := rfl
theorem row7 : pGet tyParts messagesT (pNat 7) = (true, true, false, true, false, true, false, false, ()) := rfl
theorem row8 : pGet tyParts messagesT (pNat 8) = (false, false, false, false, false, false, false, false, ()) := rfl
theorem row9 : pGet tyParts messagesT (pNat 9) = (false, false, false, false, false, false, false, false, ()) := rfl
set_option maxHeartbeats 4000000 in
theorem MessageFault_ok : Meets Tryd.prog (fun _ => none) 40 cMessageFault := MessageFault_meets cFault_ok In_ok txnMay_ok labelMay_ok fun cn cl cp mk mf mt ms mn ml my mv me ma md mc hp => by
  have hl : cl.length < 4611686018427387904 := hp _ List.mem_cons_self
  clear hp
  unfold MessageFault_VC MessageFault_t0 MessageFault_v0
  refine ⟨hl, bif_ok (fun h => ?_) fun hc => ?_⟩
  · refine leafE ?_; unfold msgF; grind [pLt, pLe, pGt, pGe, pEq, pNe, pNot, pAndB, pBeq, pInt, pLen, inF, pIn, pTo, pNat]
  have h4 := cfgF_sites4 hc
  have hc4 := inF_iff.1 h4
  have hc0 : pEq (cfgF (cn, cl, cp, ())) 0 = true := by simpa [pNe, pEq] using hc
  rw [pSubI_in (a := cn) (b := 1) (by simp only at hc4; omega)]
  refine bif_ok (fun h => ?_) fun hk => ?_
  · refine leafE ?_; unfold msgF; grind [pLt, pLe, pGt, pGe, pEq, pNe, pNot, pAndB, pBeq, pInt, pLen, inF, pIn, pTo, pNat]
  have hk9 : mk = 1 ∨ mk = 2 ∨ mk = 3 ∨ mk = 4 ∨ mk = 5 ∨ mk = 6 ∨ mk = 7 ∨ mk = 8 ∨ mk = 9 := by
    have : inF mk 1 9 = true := by cases hq : inF mk 1 9 with
      | true => rfl
      | false => rw [hq] at hk; cases hk
    rw [inF_iff] at this; omega
  rcases hk9 with rfl | rfl | rfl | rfl | rfl | rfl | rfl | rfl | rfl
  · have hM := msgF_eq cn cl cp 1 mf mt ms mn ml my mv me ma md mc _ _ _ _ _ _ _ _ row1
    rw [hc0, cond_true] at hM
    simp only [codeF, Bool.true_or, Bool.false_or, Bool.true_and, Bool.and_true] at hM
    (repeat' (first | refine bif_ok (fun h => ?_) (fun h => ?_) | refine And.intro ?_ ?_ | fail))
    all_goals first
      | exact hl
      | exact h4
      | (refine leafE ?_; rw [hM]; clear hM; grind [pLt, pLe, pGt, pGe, pEq, pNe, pNot, pAndB, pBeq, pInt, pLen, inF, pIn, pTo, pNat])
      | skip
  · have hM := msgF_eq cn cl cp 2 mf mt ms mn ml my mv me ma md mc _ _ _ _ _ _ _ _ row2
    rw [hc0, cond_true] at hM
    simp only [codeF, Bool.true_or, Bool.false_or, Bool.true_and, Bool.and_true] at hM
    (repeat' (first | refine bif_ok (fun h => ?_) (fun h => ?_) | refine And.intro ?_ ?_ | fail))
    all_goals first
      | exact hl
      | exact h4
      | (refine leafE ?_; rw [hM]; clear hM; grind [pLt, pLe, pGt, pGe, pEq, pNe, pNot, pAndB, pBeq, pInt, pLen, inF, pIn, pTo, pNat])
      | skip
  · have hM := msgF_eq cn cl cp 3 mf mt ms mn ml my mv me ma md mc _ _ _ _ _ _ _ _ row3
    rw [hc0, cond_true] at hM
    simp only [codeF, Bool.true_or, Bool.false_or, Bool.true_and, Bool.and_true] at hM
    (repeat' (first | refine bif_ok (fun h => ?_) (fun h => ?_) | refine And.intro ?_ ?_ | fail))
    all_goals first
      | exact hl
      | exact h4
      | (refine leafE ?_; rw [hM]; clear hM; grind [pLt, pLe, pGt, pGe, pEq, pNe, pNot, pAndB, pBeq, pInt, pLen, inF, pIn, pTo, pNat])
      | skip
  · have hM := msgF_eq cn cl cp 4 mf mt ms mn ml my mv me ma md mc _ _ _ _ _ _ _ _ row4
    rw [hc0, cond_true] at hM
    simp only [codeF, Bool.true_or, Bool.false_or, Bool.true_and, Bool.and_true] at hM
    (repeat' (first | refine bif_ok (fun h => ?_) (fun h => ?_) | refine And.intro ?_ ?_ | fail))
    all_goals first
      | exact hl
      | exact h4
      | (refine leafE ?_; rw [hM]; clear hM; grind [pLt, pLe, pGt, pGe, pEq, pNe, pNot, pAndB, pBeq, pInt, pLen, inF, pIn, pTo, pNat])
      | skip
  · have hM := msgF_eq cn cl cp 5 mf mt ms mn ml my mv me ma md mc _ _ _ _ _ _ _ _ row5
    rw [hc0, cond_true] at hM
    simp only [codeF, Bool.true_or, Bool.false_or, Bool.true_and, Bool.and_true] at hM
    (repeat' (first | refine bif_ok (fun h => ?_) (fun h => ?_) | refine And.intro ?_ ?_ | fail))
    all_goals first
      | exact hl
      | exact h4
      | (refine leafE ?_; rw [hM]; clear hM; grind [pLt, pLe, pGt, pGe, pEq, pNe, pNot, pAndB, pBeq, pInt, pLen, inF, pIn, pTo, pNat])
      | skip
  · have hM := msgF_eq cn cl cp 6 mf mt ms mn ml my mv me ma md mc _ _ _ _ _ _ _ _ row6
    rw [hc0, cond_true] at hM
    simp only [codeF, Bool.true_or, Bool.false_or, Bool.true_and, Bool.and_true] at hM
    (repeat' (first | refine bif_ok (fun h => ?_) (fun h => ?_) | refine And.intro ?_ ?_ | fail))
    all_goals first
      | exact hl
      | exact h4
      | (refine leafE ?_; rw [hM]; clear hM; grind [pLt, pLe, pGt, pGe, pEq, pNe, pNot, pAndB, pBeq, pInt, pLen, inF, pIn, pTo, pNat])
      | skip
  · have hM := msgF_eq cn cl cp 7 mf mt ms mn ml my mv me ma md mc _ _ _ _ _ _ _ _ row7
    rw [hc0, cond_true] at hM
    simp only [codeF, Bool.true_or, Bool.false_or, Bool.true_and, Bool.and_true] at hM
    (repeat' (first | refine bif_ok (fun h => ?_) (fun h => ?_) | refine And.intro ?_ ?_ | fail))
    all_goals first
      | exact hl
      | exact h4
      | (refine leafE ?_; rw [hM]; clear hM; grind [pLt, pLe, pGt, pGe, pEq, pNe, pNot, pAndB, pBeq, pInt, pLen, inF, pIn, pTo, pNat])
      | skip
  · have hM := msgF_eq cn cl cp 8 mf mt ms mn ml my mv me ma md mc _ _ _ _ _ _ _ _ row8
    rw [hc0, cond_true] at hM
    simp only [codeF, Bool.true_or, Bool.false_or, Bool.true_and, Bool.and_true] at hM
    (repeat' (first | refine bif_ok (fun h => ?_) (fun h => ?_) | refine And.intro ?_ ?_ | fail))
    all_goals first
      | exact hl
      | exact h4
      | (refine leafE ?_; rw [hM]; clear hM; grind [pLt, pLe, pGt, pGe, pEq, pNe, pNot, pAndB, pBeq, pInt, pLen, inF, pIn, pTo, pNat])
      | skip
  · have hM := msgF_eq cn cl cp 9 mf mt ms mn ml my mv me ma md mc _ _ _ _ _ _ _ _ row9
    rw [hc0, cond_true] at hM
    simp only [codeF, Bool.true_or, Bool.false_or, Bool.true_and, Bool.and_true] at hM
    (repeat' (first | refine bif_ok (fun h => ?_) (fun h => ?_) | refine And.intro ?_ ?_ | fail))
    all_goals first
      | exact hl
      | exact h4
      | (refine leafE ?_; rw [hM]; clear hM; grind [pLt, pLe, pGt, pGe, pEq, pNe, pNot, pAndB, pBeq, pInt, pLen, inF, pIn, pTo, pNat])
      | skip


end Go.Proofs.YtgocemdodabgkaaDoor
