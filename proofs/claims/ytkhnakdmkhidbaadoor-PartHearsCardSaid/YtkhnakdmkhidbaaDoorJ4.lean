/- The document's store that may be: its function meets the contract. No condition. -/
import Derived.Test.YtkhnakdmkhidbaaDoorJ1
import Derived.Test.YtkhnakdmkhidbaaDoorJ3
import Derived.Test.YtkhnakdmkhidbaaDoorJ2

/- Contracts, and what the evaluator says, as plain propositions: SvI. Printed by vc.py. -/
namespace Go.Proofs.YtkhnakdmkhidbaaDoor
open Go.RowKit Go.ChangeShapes Go.WideShapes Go.Deep

def cinsA : Ctr := shCtr ⟨[.one (.own 0), .one (.rd tI), .one (.own 1)], [.row tyItem, .row tyItem]⟩ (fun x => [x.1.2.1 = pInt (pLen x.2.1), pLen x.2.2.1 = 1, pRoom (pPlus (pLen x.2.1) 1) 24]) [0] [.slot 0 true tyItem] (fun x => (pIns x.2.1 (pNat x.1.2.1) (pGet tyItem x.2.2.1 0), ()))
def cinsI : Ctr := shCtr ⟨[.one (.own 0), .one (.rd tI), .one (.own 1)], [.row tyItem, .row tyItem]⟩ (fun x => [pTo x.1.2.1 (pLen x.2.1), pLen x.2.2.1 = 1, pRoom (pPlus (pLen x.2.1) 1) 24]) [0] [.slot 0 true tyItem] (fun x => (pIns x.2.1 (pNat x.1.2.1) (pGet tyItem x.2.2.1 0), ()))
def cend1 : Ctr := shCtr ⟨[(.agg [.rd tI, .rd tI, .rd tI, .rd .bool, .rd tI, .rd tI]), .one (.lit (.pt 0 0))], [.box [.rd tI, .rd tI]]⟩ (fun _ => []) [] [.slot 0 false .bool] (fun x => (isT (x.1.1.1, x.1.1.2.1, ()) x.2.1.1 x.2.1.2.1, ()))
def cend2 : Ctr := shCtr ⟨[(.agg [.rd tI, .rd tI, .rd tI]), .one (.lit (.pt 0 0))], [.box [.rd tI, .rd tI]]⟩ (fun _ => []) [] [.slot 0 false .bool] (fun x => (isT (x.1.1.1, x.1.1.2.1, ()) x.2.1.1 x.2.1.2.1, ()))
def cindexTL : Ctr := shCtr ⟨[.one (.rd (.sl tyLock)), .one (.lit (.fn 94 [(0, 0)]))], [.box [.rd tI, .rd tI]]⟩ (fun x => [pLen x.1.1 < 4611686018427387904]) [] [.slot 0 false tI] (fun x => (idxTL x.1.1 x.2.1.1 x.2.1.2.1, ()))
def cindexTD : Ctr := shCtr ⟨[.one (.rd (.sl tyDoubt)), .one (.lit (.fn 96 [(0, 0)]))], [.box [.rd tI, .rd tI]]⟩ (fun x => [pLen x.1.1 < 4611686018427387904]) [] [.slot 0 false tI] (fun x => (idxTD x.1.1 x.2.1.1 x.2.1.2.1, ()))
def cdelTL : Ctr := shCtr ⟨[.one (.own 0), .one (.lit (.fn 94 [(1, 0)]))], [.row tyLock, .box [.rd tI, .rd tI]]⟩ (fun x => [pLen x.2.1 < 4611686018427387904]) [0] [.slot 0 true tyLock] (fun x => (noTL x.2.1 x.2.2.1.1 x.2.2.1.2.1, ()))
def cdelTD : Ctr := shCtr ⟨[.one (.own 0), .one (.lit (.fn 96 [(1, 0)]))], [.row tyDoubt, .box [.rd tI, .rd tI]]⟩ (fun x => [pLen x.2.1 < 4611686018427387904]) [0] [.slot 0 true tyDoubt] (fun x => (noTD x.2.1 x.2.2.1.1 x.2.2.1.2.1, ()))
def cwithItem : Ctr := shCtr ⟨[.one (.rd (.sl tyItem)), .one (.rd tI), .one (.rd tI)], []⟩ (fun x => [pLen x.1.1 < 1000000]) [] [.slot 0 true tyItem] (fun x => (withF x.1.1 x.1.2.1 x.1.2.2.1, ()))
def cEnd : Ctr := shCtr ⟨[pSto, pTxn, .one (.rd .bool)], []⟩ (fun x => [pLen x.1.1.1 < 4611686018427387904, pLen x.1.1.2.1 < 4611686018427387904, pLen x.1.1.2.2.1 < 4611686018427387904, pLen x.1.1.2.2.2.1 < 4611686018427387904, pRoom (pLen x.1.1.1) 24, pRoom (pLen x.1.1.2.1) 48, pRoom (pLen x.1.1.2.2.1) 24, pRoom (pLen x.1.1.2.2.2.1) 16]) [] [.agg 0 vSto, .slot 1 false tI] (fun x => (endS x.1.1 x.1.2.1 x.1.2.2.1, endE x.1.1 x.1.2.1, ()))
def cEndOf : Ctr := shCtr ⟨[pSto, pTxn, .one (.rd .bool)], []⟩ (fun x => [pLen x.1.1.1 < 4611686018427387904, pLen x.1.1.2.1 < 4611686018427387904, pLen x.1.1.2.2.1 < 4611686018427387904, pLen x.1.1.2.2.2.1 < 4611686018427387904, pRoom (pLen x.1.1.1) 24, pRoom (pLen x.1.1.2.1) 48, pRoom (pLen x.1.1.2.2.1) 24, pRoom (pLen x.1.1.2.2.2.1) 16]) [] [.agg 0 vSto, .slot 1 false tI] (fun x => (endS x.1.1 x.1.2.1 x.1.2.2.1, endE x.1.1 x.1.2.1, ()))

def insA_VC (l : List ItemD) (i : Int) (v : List ItemD) : Prop :=
  pTo i (pLen l) ∧ bif pEq (pInt (pLen v)) (0 : Int) then (l, ()) = (pIns l (pNat i) (pGet tyItem v 0), ()) else bif pEq i (pInt (pLen l)) then pRoom (pPlus (pLen l) (pLen v)) 24 ∧ (pApp l v, ()) = (pIns l (pNat i) (pGet
    tyItem v 0), ()) else False
set_option maxRecDepth 100000 in
theorem insA_meets  (h : ∀ (l : List ItemD) (i : Int) (v : List ItemD), (∀ p ∈ (fun x => [x.1.2.1 = pInt (pLen x.2.1), pLen x.2.2.1 = 1, pRoom (pPlus (pLen x.2.1) 1) 24] : Shape.den ⟨[.one (.own 0), .one (.rd tI), .one (.own 1)], [.row tyItem, .row tyItem]⟩ → List Prop) ⟨((), i, (), ()), (l, v, ())⟩, p) → insA_VC l i v) : Meets Tryd.prog (fun _ => none) 92 cinsA :=
  meets_vc (E := envOf Tryd.prog [] [28, 103, 105, 107]) (envOf_ok (fun p hp => by cases hp) (by kernel_rfl)) ⟨[.one (.own 0), .one (.rd tI), .one (.own 1)], [.row tyItem, .row tyItem]⟩ (fun x => fun ky9 st9 => look [] ky9) Tryd.func92 (by kernel_rfl) (by kernel_rfl) (fun x => [x.1.2.1 = pInt (pLen x.2.1), pLen x.2.2.1 = 1, pRoom (pPlus (pLen x.2.1) 1) 24]) [0] [.slot 0 true tyItem] (fun x => (pIns x.2.1 (pNat x.1.2.1) (pGet tyItem x.2.2.1 0), ())) (fun x => insA_VC x.2.1 x.1.2.1 x.2.2.1) (fun x => by kernel_rfl) (fun x hp => h x.2.1 x.1.2.1 x.2.2.1 hp)

def end1_VC (xs : Int) (xn : Int) (xk : Int) (xw : Bool) (xv : Int) (xq : Int) (a : Int) (b : Int) : Prop :=
  (pAndB (pEq xs a) (pEq xn b), ()) = (isT (xs, xn, ()) a b, ())
set_option maxRecDepth 100000 in
theorem end1_meets  (h : ∀ (xs : Int) (xn : Int) (xk : Int) (xw : Bool) (xv : Int) (xq : Int) (a : Int) (b : Int), end1_VC xs xn xk xw xv xq a b) : Meets Tryd.prog (fun _ => none) 94 cend1 :=
  meets_vc (E := envOf Tryd.prog [] [28, 103, 105, 107]) (envOf_ok (fun p hp => by cases hp) (by kernel_rfl)) ⟨[(.agg [.rd tI, .rd tI, .rd tI, .rd .bool, .rd tI, .rd tI]), .one (.lit (.pt 0 0))], [.box [.rd tI, .rd tI]]⟩ (fun x => fun ky9 st9 => look [] ky9) Tryd.func94 (by kernel_rfl) (by kernel_rfl) (fun _ => []) [] [.slot 0 false .bool] (fun x => (isT (x.1.1.1, x.1.1.2.1, ()) x.2.1.1 x.2.1.2.1, ())) (fun x => end1_VC x.1.1.1 x.1.1.2.1 x.1.1.2.2.1 x.1.1.2.2.2.1 x.1.1.2.2.2.2.1 x.1.1.2.2.2.2.2.1 x.2.1.1 x.2.1.2.1) (fun x => by kernel_rfl) (fun x _ => h x.1.1.1 x.1.1.2.1 x.1.1.2.2.1 x.1.1.2.2.2.1 x.1.1.2.2.2.2.1 x.1.1.2.2.2.2.2.1 x.2.1.1 x.2.1.2.1)

def end2_VC (xs : Int) (xn : Int) (xg : Int) (a : Int) (b : Int) : Prop :=
  (pAndB (pEq xs a) (pEq xn b), ()) = (isT (xs, xn, ()) a b, ())
set_option maxRecDepth 100000 in
theorem end2_meets  (h : ∀ (xs : Int) (xn : Int) (xg : Int) (a : Int) (b : Int), end2_VC xs xn xg a b) : Meets Tryd.prog (fun _ => none) 96 cend2 :=
  meets_vc (E := envOf Tryd.prog [] [28, 103, 105, 107]) (envOf_ok (fun p hp => by cases hp) (by kernel_rfl)) ⟨[(.agg [.rd tI, .rd tI, .rd tI]), .one (.lit (.pt 0 0))], [.box [.rd tI, .rd tI]]⟩ (fun x => fun ky9 st9 => look [] ky9) Tryd.func96 (by kernel_rfl) (by kernel_rfl) (fun _ => []) [] [.slot 0 false .bool] (fun x => (isT (x.1.1.1, x.1.1.2.1, ()) x.2.1.1 x.2.1.2.1, ())) (fun x => end2_VC x.1.1.1 x.1.1.2.1 x.1.1.2.2.1 x.2.1.1 x.2.1.2.1) (fun x => by kernel_rfl) (fun x _ => h x.1.1.1 x.1.1.2.1 x.1.1.2.2.1 x.2.1.1 x.2.1.2.1)

def indexTL_VC (l : (List LockD)) (a : Int) (b : Int) : Prop :=
  indexTLInv l a b ((0 : Int), ()) ∧ ∀ (y : kden Bool.false tI × PUnit), indexTLInv l a b y → bif pLt y.1 (pInt (pLen l)) then pIn y.1 (pLen l) ∧ bif isT ((pGet tyLock l (pNat y.1)).1, (pGet tyLock l (pNat y.1)).2.1, ()) a
    b then (y.1, ()) = (idxTL l a b, ()) else indexTLInv l a b (pAdd IntKind.i64 y.1 (1 : Int), ()) ∧ Nat.le (Nat.succ (indexTLMu l a b (pAdd IntKind.i64 y.1 (1 : Int), ()))) (indexTLMu l a b y) else ((-1 : Int), ()) =
    (idxTL l a b, ())
set_option maxRecDepth 100000 in
theorem indexTL_meets (hend1 : Meets Tryd.prog (fun _ => none) 94 cend1) (h : ∀ (l : (List LockD)) (a : Int) (b : Int), (∀ p ∈ (fun x => [pLen x.1.1 < 4611686018427387904] : Shape.den ⟨[.one (.rd (.sl tyLock)), .one (.lit (.fn 94 [(0, 0)]))], [.box [.rd tI, .rd tI]]⟩ → List Prop) ⟨(l, (), ()), ((a, b, ()), ())⟩, p) → indexTL_VC l a b) : Meets Tryd.prog (fun _ => none) 107 cindexTL :=
  meets_vc (E := envOf Tryd.prog [(94, (false, cend1))] [28, 103, 105, 107]) (envOf_ok (fun p hp => (by simp only [List.mem_cons, List.not_mem_nil, or_false] at hp; rcases hp with rfl; exact hend1)) (by kernel_rfl)) ⟨[.one (.rd (.sl tyLock)), .one (.lit (.fn 94 [(0, 0)]))], [.box [.rd tI, .rd tI]]⟩ (fun x => fun ky9 st9 => look [(2, (⟨[.slot 8 false tI], indexTLInv x.1.1 x.2.1.1 x.2.1.2.1, indexTLMu x.1.1 x.2.1.1 x.2.1.2.1⟩ : Ann))] ky9) Tryd.func107 (by kernel_rfl) (by kernel_rfl) (fun x => [pLen x.1.1 < 4611686018427387904]) [] [.slot 0 false tI] (fun x => (idxTL x.1.1 x.2.1.1 x.2.1.2.1, ())) (fun x => indexTL_VC x.1.1 x.2.1.1 x.2.1.2.1) (fun x => by kernel_rfl) (fun x hp => h x.1.1 x.2.1.1 x.2.1.2.1 hp)

def indexTD_VC (l : (List DoubtD)) (a : Int) (b : Int) : Prop :=
  indexTDInv l a b ((0 : Int), ()) ∧ ∀ (y : kden Bool.false tI × PUnit), indexTDInv l a b y → bif pLt y.1 (pInt (pLen l)) then pIn y.1 (pLen l) ∧ bif isT ((pGet tyItem l (pNat y.1)).1, (pGet tyItem l (pNat y.1)).2.1, ()) a
    b then (y.1, ()) = (idxTD l a b, ()) else indexTDInv l a b (pAdd IntKind.i64 y.1 (1 : Int), ()) ∧ Nat.le (Nat.succ (indexTDMu l a b (pAdd IntKind.i64 y.1 (1 : Int), ()))) (indexTDMu l a b y) else ((-1 : Int), ()) =
    (idxTD l a b, ())
set_option maxRecDepth 100000 in
theorem indexTD_meets (hend2 : Meets Tryd.prog (fun _ => none) 96 cend2) (h : ∀ (l : (List DoubtD)) (a : Int) (b : Int), (∀ p ∈ (fun x => [pLen x.1.1 < 4611686018427387904] : Shape.den ⟨[.one (.rd (.sl tyDoubt)), .one (.lit (.fn 96 [(0, 0)]))], [.box [.rd tI, .rd tI]]⟩ → List Prop) ⟨(l, (), ()), ((a, b, ()), ())⟩, p) → indexTD_VC l a b) : Meets Tryd.prog (fun _ => none) 116 cindexTD :=
  meets_vc (E := envOf Tryd.prog [(96, (false, cend2))] [28, 103, 105, 107]) (envOf_ok (fun p hp => (by simp only [List.mem_cons, List.not_mem_nil, or_false] at hp; rcases hp with rfl; exact hend2)) (by kernel_rfl)) ⟨[.one (.rd (.sl tyDoubt)), .one (.lit (.fn 96 [(0, 0)]))], [.box [.rd tI, .rd tI]]⟩ (fun x => fun ky9 st9 => look [(2, (⟨[.slot 8 false tI], indexTDInv x.1.1 x.2.1.1 x.2.1.2.1, indexTDMu x.1.1 x.2.1.1 x.2.1.2.1⟩ : Ann))] ky9) Tryd.func116 (by kernel_rfl) (by kernel_rfl) (fun x => [pLen x.1.1 < 4611686018427387904]) [] [.slot 0 false tI] (fun x => (idxTD x.1.1 x.2.1.1 x.2.1.2.1, ())) (fun x => indexTD_VC x.1.1 x.2.1.1 x.2.1.2.1) (fun x => by kernel_rfl) (fun x hp => h x.1.1 x.2.1.1 x.2.1.2.1 hp)

def delTL_VC (l : List LockD) (a b : Int) : Prop :=
  Nat.le (Nat.succ (pLen l)) 4611686018427387904 ∧ bif pEq (idxTL l a b) (-1 : Int) then (l, ()) = (noTL l a b, ()) else delTLInv l a b (pAdd IntKind.i64 (idxTL l a b) (1 : Int), idxTL l a b, l, ()) ∧ ∀ (y : kden
    Bool.false tI × kden Bool.false tI × List (Ty.den tyLock) × PUnit), delTLInv l a b y → bif pLt y.1 (pInt (pLen y.2.2.1)) then pIn y.1 (pLen y.2.2.1) ∧ bif pNot (isT ((pGet tyLock y.2.2.1 (pNat y.1)).1, (pGet tyLock
    y.2.2.1 (pNat y.1)).2.1, ()) a b) then pIn y.2.1 (pLen y.2.2.1) ∧ delTLInv l a b (pAdd IntKind.i64 y.1 (1 : Int), pAdd IntKind.i64 y.2.1 (1 : Int), pSet y.2.2.1 (pNat y.2.1) ((pGet tyLock y.2.2.1 (pNat y.1)).1, (pGet
    tyLock y.2.2.1 (pNat y.1)).2.1, (pGet tyLock y.2.2.1 (pNat y.1)).2.2.1, (pGet tyLock y.2.2.1 (pNat y.1)).2.2.2.1, (pGet tyLock y.2.2.1 (pNat y.1)).2.2.2.2.1, (pGet tyLock y.2.2.1 (pNat y.1)).2.2.2.2.2.1, ()), ()) ∧
    Nat.le (Nat.succ (delTLMu l a b (pAdd IntKind.i64 y.1 (1 : Int), pAdd IntKind.i64 y.2.1 (1 : Int), pSet y.2.2.1 (pNat y.2.1) ((pGet tyLock y.2.2.1 (pNat y.1)).1, (pGet tyLock y.2.2.1 (pNat y.1)).2.1, (pGet tyLock y.2.2.1
    (pNat y.1)).2.2.1, (pGet tyLock y.2.2.1 (pNat y.1)).2.2.2.1, (pGet tyLock y.2.2.1 (pNat y.1)).2.2.2.2.1, (pGet tyLock y.2.2.1 (pNat y.1)).2.2.2.2.2.1, ()), ()))) (delTLMu l a b y) else delTLInv l a b (pAdd IntKind.i64
    y.1 (1 : Int), y.2.1, y.2.2.1, ()) ∧ Nat.le (Nat.succ (delTLMu l a b (pAdd IntKind.i64 y.1 (1 : Int), y.2.1, y.2.2.1, ()))) (delTLMu l a b y) else pTo y.2.1 (pLen y.2.2.1) ∧ pBelow (pNat y.2.1) (pLen y.2.2.1) ∧ pTo y.2.1
    (pLen (pClr y.2.2.1 (pNat y.2.1) ((0 : Int), (0 : Int), (0 : Int), Bool.false, (0 : Int), (0 : Int), ()))) ∧ (pSub (pClr y.2.2.1 (pNat y.2.1) ((0 : Int), (0 : Int), (0 : Int), Bool.false, (0 : Int), (0 : Int), ())) 0
    (pNat y.2.1), ()) = (noTL l a b, ())
set_option maxRecDepth 100000 in
theorem delTL_meets (hend1 : Meets Tryd.prog (fun _ => none) 94 cend1) (hindexTL : Meets Tryd.prog (fun _ => none) 107 cindexTL) (h : ∀ (l : List LockD) (a b : Int), (∀ p ∈ (fun x => [pLen x.2.1 < 4611686018427387904] : Shape.den ⟨[.one (.own 0), .one (.lit (.fn 94 [(1, 0)]))], [.row tyLock, .box [.rd tI, .rd tI]]⟩ → List Prop) ⟨((), (), ()), (l, (a, b, ()), ())⟩, p) → delTL_VC l a b) : Meets Tryd.prog (fun _ => none) 93 cdelTL :=
  meets_vc (E := envOf Tryd.prog [(94, (false, cend1)), (107, (false, cindexTL))] [28, 103, 105, 107]) (envOf_ok (fun p hp => (by simp only [List.mem_cons, List.not_mem_nil, or_false] at hp; rcases hp with rfl | rfl; exact hend1; exact hindexTL)) (by kernel_rfl)) ⟨[.one (.own 0), .one (.lit (.fn 94 [(1, 0)]))], [.row tyLock, .box [.rd tI, .rd tI]]⟩ (fun x => fun ky9 st9 => look [(5, (⟨[.slot 6 false tI, .slot 5 false tI, .row 0 tyLock], delTLInv x.2.1 x.2.2.1.1 x.2.2.1.2.1, delTLMu x.2.1 x.2.2.1.1 x.2.2.1.2.1⟩ : Ann))] ky9) Tryd.func93 (by kernel_rfl) (by kernel_rfl) (fun x => [pLen x.2.1 < 4611686018427387904]) [0] [.slot 0 true tyLock] (fun x => (noTL x.2.1 x.2.2.1.1 x.2.2.1.2.1, ())) (fun x => delTL_VC x.2.1 x.2.2.1.1 x.2.2.1.2.1) (fun x => by kernel_rfl) (fun x hp => h x.2.1 x.2.2.1.1 x.2.2.1.2.1 hp)

def delTD_VC (l : List DoubtD) (a b : Int) : Prop :=
  Nat.le (Nat.succ (pLen l)) 4611686018427387904 ∧ bif pEq (idxTD l a b) (-1 : Int) then (l, ()) = (noTD l a b, ()) else delTDInv l a b (pAdd IntKind.i64 (idxTD l a b) (1 : Int), idxTD l a b, l, ()) ∧ ∀ (y : kden
    Bool.false tI × kden Bool.false tI × List (Ty.den tyDoubt) × PUnit), delTDInv l a b y → bif pLt y.1 (pInt (pLen y.2.2.1)) then pIn y.1 (pLen y.2.2.1) ∧ bif pNot (isT ((pGet tyItem y.2.2.1 (pNat y.1)).1, (pGet tyItem
    y.2.2.1 (pNat y.1)).2.1, ()) a b) then pIn y.2.1 (pLen y.2.2.1) ∧ delTDInv l a b (pAdd IntKind.i64 y.1 (1 : Int), pAdd IntKind.i64 y.2.1 (1 : Int), pSet y.2.2.1 (pNat y.2.1) ((pGet tyItem y.2.2.1 (pNat y.1)).1, (pGet
    tyItem y.2.2.1 (pNat y.1)).2.1, (pGet tyItem y.2.2.1 (pNat y.1)).2.2.1, ()), ()) ∧ Nat.le (Nat.succ (delTDMu l a b (pAdd IntKind.i64 y.1 (1 : Int), pAdd IntKind.i64 y.2.1 (1 : Int), pSet y.2.2.1 (pNat y.2.1) ((pGet
    tyItem y.2.2.1 (pNat y.1)).1, (pGet tyItem y.2.2.1 (pNat y.1)).2.1, (pGet tyItem y.2.2.1 (pNat y.1)).2.2.1, ()), ()))) (delTDMu l a b y) else delTDInv l a b (pAdd IntKind.i64 y.1 (1 : Int), y.2.1, y.2.2.1, ()) ∧ Nat.le
    (Nat.succ (delTDMu l a b (pAdd IntKind.i64 y.1 (1 : Int), y.2.1, y.2.2.1, ()))) (delTDMu l a b y) else pTo y.2.1 (pLen y.2.2.1) ∧ pBelow (pNat y.2.1) (pLen y.2.2.1) ∧ pTo y.2.1 (pLen (pClr y.2.2.1 (pNat y.2.1) ((0 :
    Int), (0 : Int), (0 : Int), ()))) ∧ (pSub (pClr y.2.2.1 (pNat y.2.1) ((0 : Int), (0 : Int), (0 : Int), ())) 0 (pNat y.2.1), ()) = (noTD l a b, ())
set_option maxRecDepth 100000 in
theorem delTD_meets (hend2 : Meets Tryd.prog (fun _ => none) 96 cend2) (hindexTD : Meets Tryd.prog (fun _ => none) 116 cindexTD) (h : ∀ (l : List DoubtD) (a b : Int), (∀ p ∈ (fun x => [pLen x.2.1 < 4611686018427387904] : Shape.den ⟨[.one (.own 0), .one (.lit (.fn 96 [(1, 0)]))], [.row tyDoubt, .box [.rd tI, .rd tI]]⟩ → List Prop) ⟨((), (), ()), (l, (a, b, ()), ())⟩, p) → delTD_VC l a b) : Meets Tryd.prog (fun _ => none) 95 cdelTD :=
  meets_vc (E := envOf Tryd.prog [(96, (false, cend2)), (116, (false, cindexTD))] [28, 103, 105, 107]) (envOf_ok (fun p hp => (by simp only [List.mem_cons, List.not_mem_nil, or_false] at hp; rcases hp with rfl | rfl; exact hend2; exact hindexTD)) (by kernel_rfl)) ⟨[.one (.own 0), .one (.lit (.fn 96 [(1, 0)]))], [.row tyDoubt, .box [.rd tI, .rd tI]]⟩ (fun x => fun ky9 st9 => look [(5, (⟨[.slot 6 false tI, .slot 5 false tI, .row 0 tyDoubt], delTDInv x.2.1 x.2.2.1.1 x.2.2.1.2.1, delTDMu x.2.1 x.2.2.1.1 x.2.2.1.2.1⟩ : Ann))] ky9) Tryd.func95 (by kernel_rfl) (by kernel_rfl) (fun x => [pLen x.2.1 < 4611686018427387904]) [0] [.slot 0 true tyDoubt] (fun x => (noTD x.2.1 x.2.2.1.1 x.2.2.1.2.1, ())) (fun x => delTD_VC x.2.1 x.2.2.1.1 x.2.2.1.2.1) (fun x => by kernel_rfl) (fun x hp => h x.2.1 x.2.2.1.1 x.2.2.1.2.1 hp)

def withItem_VC (l : (List ItemD)) (k : Int) (v : Int) : Prop :=
  withIInv l k v ((0 : Int), [], Bool.false, ()) ∧ ∀ (y : kden Bool.false tI × kden Bool.true tyItem × kden Bool.false Ty.bool × PUnit), withIInv l k v y → bif pLt y.1 (pInt (pLen l)) then pIn y.1 (pLen l) ∧ bif pEq (pGet
    tyItem l (pNat y.1)).1 k then pIn y.1 (pLen l) ∧ pRoom (pPlus (pLen y.2.1) (pLen [(k, v, pAdd IntKind.i64 (pGet tyItem l (pNat y.1)).2.2.1 (1 : Int), ())])) 24 ∧ withIInv l k v (pAdd IntKind.i64 y.1 (1 : Int), pApp y.2.1
    [(k, v, pAdd IntKind.i64 (pGet tyItem l (pNat y.1)).2.2.1 (1 : Int), ())], Bool.true, ()) ∧ Nat.le (Nat.succ (withIMu l k v (pAdd IntKind.i64 y.1 (1 : Int), pApp y.2.1 [(k, v, pAdd IntKind.i64 (pGet tyItem l (pNat
    y.1)).2.2.1 (1 : Int), ())], Bool.true, ()))) (withIMu l k v y) else pIn y.1 (pLen l) ∧ bif pGt (pGet tyItem l (pNat y.1)).1 k then bif pNot y.2.2.1 then pRoom (pPlus (pLen y.2.1) (pLen [(k, v, (1 : Int), ())])) 24 ∧ pIn
    y.1 (pLen l) ∧ pRoom (pPlus (pLen (pApp y.2.1 [(k, v, (1 : Int), ())])) (pLen [((pGet tyItem l (pNat y.1)).1, (pGet tyItem l (pNat y.1)).2.1, (pGet tyItem l (pNat y.1)).2.2.1, ())])) 24 ∧ withIInv l k v (pAdd IntKind.i64
    y.1 (1 : Int), pApp (pApp y.2.1 [(k, v, (1 : Int), ())]) [((pGet tyItem l (pNat y.1)).1, (pGet tyItem l (pNat y.1)).2.1, (pGet tyItem l (pNat y.1)).2.2.1, ())], Bool.true, ()) ∧ Nat.le (Nat.succ (withIMu l k v (pAdd
    IntKind.i64 y.1 (1 : Int), pApp (pApp y.2.1 [(k, v, (1 : Int), ())]) [((pGet tyItem l (pNat y.1)).1, (pGet tyItem l (pNat y.1)).2.1, (pGet tyItem l (pNat y.1)).2.2.1, ())], Bool.true, ()))) (withIMu l k v y) else pIn y.1
    (pLen l) ∧ pRoom (pPlus (pLen y.2.1) (pLen [((pGet tyItem l (pNat y.1)).1, (pGet tyItem l (pNat y.1)).2.1, (pGet tyItem l (pNat y.1)).2.2.1, ())])) 24 ∧ withIInv l k v (pAdd IntKind.i64 y.1 (1 : Int), pApp y.2.1 [((pGet
    tyItem l (pNat y.1)).1, (pGet tyItem l (pNat y.1)).2.1, (pGet tyItem l (pNat y.1)).2.2.1, ())], y.2.2.1, ()) ∧ Nat.le (Nat.succ (withIMu l k v (pAdd IntKind.i64 y.1 (1 : Int), pApp y.2.1 [((pGet tyItem l (pNat y.1)).1,
    (pGet tyItem l (pNat y.1)).2.1, (pGet tyItem l (pNat y.1)).2.2.1, ())], y.2.2.1, ()))) (withIMu l k v y) else pIn y.1 (pLen l) ∧ pRoom (pPlus (pLen y.2.1) (pLen [((pGet tyItem l (pNat y.1)).1, (pGet tyItem l (pNat
    y.1)).2.1, (pGet tyItem l (pNat y.1)).2.2.1, ())])) 24 ∧ withIInv l k v (pAdd IntKind.i64 y.1 (1 : Int), pApp y.2.1 [((pGet tyItem l (pNat y.1)).1, (pGet tyItem l (pNat y.1)).2.1, (pGet tyItem l (pNat y.1)).2.2.1, ())],
    y.2.2.1, ()) ∧ Nat.le (Nat.succ (withIMu l k v (pAdd IntKind.i64 y.1 (1 : Int), pApp y.2.1 [((pGet tyItem l (pNat y.1)).1, (pGet tyItem l (pNat y.1)).2.1, (pGet tyItem l (pNat y.1)).2.2.1, ())], y.2.2.1, ()))) (withIMu l
    k v y) else bif pNot y.2.2.1 then pRoom (pPlus (pLen y.2.1) (pLen [(k, v, (1 : Int), ())])) 24 ∧ (pApp y.2.1 [(k, v, (1 : Int), ())], ()) = (withF l k v, ()) else (y.2.1, ()) = (withF l k v, ())
set_option maxRecDepth 100000 in
theorem withItem_meets  (h : ∀ (l : (List ItemD)) (k : Int) (v : Int), (∀ p ∈ (fun x => [pLen x.1.1 < 1000000] : Shape.den ⟨[.one (.rd (.sl tyItem)), .one (.rd tI), .one (.rd tI)], []⟩ → List Prop) ⟨(l, k, v, ()), ()⟩, p) → withItem_VC l k v) : Meets Tryd.prog (fun _ => none) 74 cwithItem :=
  meets_vc (E := envOf Tryd.prog [] [28, 103, 105, 107]) (envOf_ok (fun p hp => by cases hp) (by kernel_rfl)) ⟨[.one (.rd (.sl tyItem)), .one (.rd tI), .one (.rd tI)], []⟩ (fun x => fun ky9 st9 => look [(4, (⟨[.slot 9 false tI, .slot 7 true tyItem, .slot 8 false .bool], withIInv x.1.1 x.1.2.1 x.1.2.2.1, withIMu x.1.1 x.1.2.1 x.1.2.2.1⟩ : Ann))] ky9) Tryd.func74 (by kernel_rfl) (by kernel_rfl) (fun x => [pLen x.1.1 < 1000000]) [] [.slot 0 true tyItem] (fun x => (withF x.1.1 x.1.2.1 x.1.2.2.1, ())) (fun x => withItem_VC x.1.1 x.1.2.1 x.1.2.2.1) (fun x => by kernel_rfl) (fun x hp => h x.1.1 x.1.2.1 x.1.2.2.1 hp)

def End_VC (si : (List ItemD)) (sl : (List LockD)) (sd : (List DoubtD)) (so : (List TxnD)) (ts : Int) (tn : Int) (g : Bool) : Prop :=
  Nat.le (Nat.succ (pLen si)) 4611686018427387904 ∧ Nat.le (Nat.succ (pLen sl)) 4611686018427387904 ∧ Nat.le (Nat.succ (pLen sd)) 4611686018427387904 ∧ Nat.le (Nat.succ (pLen so)) 4611686018427387904 ∧ bif pNe (askE (si,
    sl, sd, so, ()) (ts, tn, ()) (0 : Int)) (0 : Int) then (([], [], [], [], ()), askE (si, sl, sd, so, ()) (ts, tn, ()) (0 : Int), ()) = (endS (si, sl, sd, so, ()) (ts, tn, ()) g, endE (si, sl, sd, so, ()) (ts, tn, ()), ())
    else pRoom (pLen si) 24 ∧ pRoom (pLen sl) 48 ∧ pRoom (pLen sd) 24 ∧ pRoom (pLen so) 16 ∧ endAInv si sl sd so ts tn g ((0 : Int), (si, sl, sd, so, ()), ()) ∧ ∀ (y : kden Bool.false tI × denCells vSto × PUnit), endAInv si
    sl sd so ts tn g y → bif pLt y.1 (pInt (pLen sl)) then pIn y.1 (pLen sl) ∧ bif pNot (pAndB (pEq (pGet tyLock sl (pNat y.1)).1 ts) (pEq (pGet tyLock sl (pNat y.1)).2.1 tn)) then endAInv si sl sd so ts tn g (pAdd
    IntKind.i64 y.1 (1 : Int), (y.2.1.1, y.2.1.2.1, y.2.1.2.2.1, y.2.1.2.2.2.1, ()), ()) ∧ Nat.le (Nat.succ (endAMu si sl sd so ts tn g (pAdd IntKind.i64 y.1 (1 : Int), (y.2.1.1, y.2.1.2.1, y.2.1.2.2.1, y.2.1.2.2.2.1, ()),
    ()))) (endAMu si sl sd so ts tn g y) else bif pNot (pGet tyLock sl (pNat y.1)).2.2.2.1 then endAInv si sl sd so ts tn g (pAdd IntKind.i64 y.1 (1 : Int), (y.2.1.1, y.2.1.2.1, y.2.1.2.2.1, y.2.1.2.2.2.1, ()), ()) ∧ Nat.le
    (Nat.succ (endAMu si sl sd so ts tn g (pAdd IntKind.i64 y.1 (1 : Int), (y.2.1.1, y.2.1.2.1, y.2.1.2.2.1, y.2.1.2.2.2.1, ()), ()))) (endAMu si sl sd so ts tn g y) else bif pNot g then endAInv si sl sd so ts tn g (pAdd
    IntKind.i64 y.1 (1 : Int), (y.2.1.1, y.2.1.2.1, y.2.1.2.2.1, y.2.1.2.2.2.1, ()), ()) ∧ Nat.le (Nat.succ (endAMu si sl sd so ts tn g (pAdd IntKind.i64 y.1 (1 : Int), (y.2.1.1, y.2.1.2.1, y.2.1.2.2.1, y.2.1.2.2.2.1, ()),
    ()))) (endAMu si sl sd so ts tn g y) else Nat.le (Nat.succ (pLen y.2.1.1)) 4611686018427387904 ∧ sortF y.2.1.1 = Bool.true ∧ bif pNot (pGe (idxKeyF y.2.1.1 (pGet tyLock sl (pNat y.1)).2.2.1) (0 : Int)) then pTo (posF
    y.2.1.1 (pGet tyLock sl (pNat y.1)).2.2.1) (pLen y.2.1.1) ∧ pLen [((pGet tyLock sl (pNat y.1)).2.2.1, (0 : Int), (0 : Int), ())] = 1 ∧ pRoom (pPlus (pLen y.2.1.1) 1) 24 ∧ pIn (posF y.2.1.1 (pGet tyLock sl (pNat
    y.1)).2.2.1) (pLen (pIns y.2.1.1 (pNat (posF y.2.1.1 (pGet tyLock sl (pNat y.1)).2.2.1)) (pGet tyItem [((pGet tyLock sl (pNat y.1)).2.2.1, (0 : Int), (0 : Int), ())] 0))) ∧ pIn (posF y.2.1.1 (pGet tyLock sl (pNat
    y.1)).2.2.1) (pLen (pSet (pIns y.2.1.1 (pNat (posF y.2.1.1 (pGet tyLock sl (pNat y.1)).2.2.1)) (pGet tyItem [((pGet tyLock sl (pNat y.1)).2.2.1, (0 : Int), (0 : Int), ())] 0)) (pNat (posF y.2.1.1 (pGet tyLock sl (pNat
    y.1)).2.2.1)) ((pGet tyItem (pIns y.2.1.1 (pNat (posF y.2.1.1 (pGet tyLock sl (pNat y.1)).2.2.1)) (pGet tyItem [((pGet tyLock sl (pNat y.1)).2.2.1, (0 : Int), (0 : Int), ())] 0)) (pNat (posF y.2.1.1 (pGet tyLock sl (pNat
    y.1)).2.2.1))).1, (pGet tyLock sl (pNat y.1)).2.2.2.2.1, (pGet tyItem (pIns y.2.1.1 (pNat (posF y.2.1.1 (pGet tyLock sl (pNat y.1)).2.2.1)) (pGet tyItem [((pGet tyLock sl (pNat y.1)).2.2.1, (0 : Int), (0 : Int), ())] 0))
    (pNat (posF y.2.1.1 (pGet tyLock sl (pNat y.1)).2.2.1))).2.2.1, ()))) ∧ pIn (posF y.2.1.1 (pGet tyLock sl (pNat y.1)).2.2.1) (pLen (pSet (pIns y.2.1.1 (pNat (posF y.2.1.1 (pGet tyLock sl (pNat y.1)).2.2.1)) (pGet tyItem
    [((pGet tyLock sl (pNat y.1)).2.2.1, (0 : Int), (0 : Int), ())] 0)) (pNat (posF y.2.1.1 (pGet tyLock sl (pNat y.1)).2.2.1)) ((pGet tyItem (pIns y.2.1.1 (pNat (posF y.2.1.1 (pGet tyLock sl (pNat y.1)).2.2.1)) (pGet tyItem
    [((pGet tyLock sl (pNat y.1)).2.2.1, (0 : Int), (0 : Int), ())] 0)) (pNat (posF y.2.1.1 (pGet tyLock sl (pNat y.1)).2.2.1))).1, (pGet tyLock sl (pNat y.1)).2.2.2.2.1, (pGet tyItem (pIns y.2.1.1 (pNat (posF y.2.1.1 (pGet
    tyLock sl (pNat y.1)).2.2.1)) (pGet tyItem [((pGet tyLock sl (pNat y.1)).2.2.1, (0 : Int), (0 : Int), ())] 0)) (pNat (posF y.2.1.1 (pGet tyLock sl (pNat y.1)).2.2.1))).2.2.1, ()))) ∧ endAInv si sl sd so ts tn g (pAdd
    IntKind.i64 y.1 (1 : Int), (pSet (pSet (pIns y.2.1.1 (pNat (posF y.2.1.1 (pGet tyLock sl (pNat y.1)).2.2.1)) (pGet tyItem [((pGet tyLock sl (pNat y.1)).2.2.1, (0 : Int), (0 : Int), ())] 0)) (pNat (posF y.2.1.1 (pGet
    tyLock sl (pNat y.1)).2.2.1)) ((pGet tyItem (pIns y.2.1.1 (pNat (posF y.2.1.1 (pGet tyLock sl (pNat y.1)).2.2.1)) (pGet tyItem [((pGet tyLock sl (pNat y.1)).2.2.1, (0 : Int), (0 : Int), ())] 0)) (pNat (posF y.2.1.1 (pGet
    tyLock sl (pNat y.1)).2.2.1))).1, (pGet tyLock sl (pNat y.1)).2.2.2.2.1, (pGet tyItem (pIns y.2.1.1 (pNat (posF y.2.1.1 (pGet tyLock sl (pNat y.1)).2.2.1)) (pGet tyItem [((pGet tyLock sl (pNat y.1)).2.2.1, (0 : Int), (0
    : Int), ())] 0)) (pNat (posF y.2.1.1 (pGet tyLock sl (pNat y.1)).2.2.1))).2.2.1, ())) (pNat (posF y.2.1.1 (pGet tyLock sl (pNat y.1)).2.2.1)) ((pGet tyItem (pSet (pIns y.2.1.1 (pNat (posF y.2.1.1 (pGet tyLock sl (pNat
    y.1)).2.2.1)) (pGet tyItem [((pGet tyLock sl (pNat y.1)).2.2.1, (0 : Int), (0 : Int), ())] 0)) (pNat (posF y.2.1.1 (pGet tyLock sl (pNat y.1)).2.2.1)) ((pGet tyItem (pIns y.2.1.1 (pNat (posF y.2.1.1 (pGet tyLock sl (pNat
    y.1)).2.2.1)) (pGet tyItem [((pGet tyLock sl (pNat y.1)).2.2.1, (0 : Int), (0 : Int), ())] 0)) (pNat (posF y.2.1.1 (pGet tyLock sl (pNat y.1)).2.2.1))).1, (pGet tyLock sl (pNat y.1)).2.2.2.2.1, (pGet tyItem (pIns y.2.1.1
    (pNat (posF y.2.1.1 (pGet tyLock sl (pNat y.1)).2.2.1)) (pGet tyItem [((pGet tyLock sl (pNat y.1)).2.2.1, (0 : Int), (0 : Int), ())] 0)) (pNat (posF y.2.1.1 (pGet tyLock sl (pNat y.1)).2.2.1))).2.2.1, ())) (pNat (posF
    y.2.1.1 (pGet tyLock sl (pNat y.1)).2.2.1))).1, (pGet tyItem (pSet (pIns y.2.1.1 (pNat (posF y.2.1.1 (pGet tyLock sl (pNat y.1)).2.2.1)) (pGet tyItem [((pGet tyLock sl (pNat y.1)).2.2.1, (0 : Int), (0 : Int), ())] 0))
    (pNat (posF y.2.1.1 (pGet tyLock sl (pNat y.1)).2.2.1)) ((pGet tyItem (pIns y.2.1.1 (pNat (posF y.2.1.1 (pGet tyLock sl (pNat y.1)).2.2.1)) (pGet tyItem [((pGet tyLock sl (pNat y.1)).2.2.1, (0 : Int), (0 : Int), ())] 0))
    (pNat (posF y.2.1.1 (pGet tyLock sl (pNat y.1)).2.2.1))).1, (pGet tyLock sl (pNat y.1)).2.2.2.2.1, (pGet tyItem (pIns y.2.1.1 (pNat (posF y.2.1.1 (pGet tyLock sl (pNat y.1)).2.2.1)) (pGet tyItem [((pGet tyLock sl (pNat
    y.1)).2.2.1, (0 : Int), (0 : Int), ())] 0)) (pNat (posF y.2.1.1 (pGet tyLock sl (pNat y.1)).2.2.1))).2.2.1, ())) (pNat (posF y.2.1.1 (pGet tyLock sl (pNat y.1)).2.2.1))).2.1, pAdd IntKind.i64 (pGet tyItem (pSet (pIns
    y.2.1.1 (pNat (posF y.2.1.1 (pGet tyLock sl (pNat y.1)).2.2.1)) (pGet tyItem [((pGet tyLock sl (pNat y.1)).2.2.1, (0 : Int), (0 : Int), ())] 0)) (pNat (posF y.2.1.1 (pGet tyLock sl (pNat y.1)).2.2.1)) ((pGet tyItem (pIns
    y.2.1.1 (pNat (posF y.2.1.1 (pGet tyLock sl (pNat y.1)).2.2.1)) (pGet tyItem [((pGet tyLock sl (pNat y.1)).2.2.1, (0 : Int), (0 : Int), ())] 0)) (pNat (posF y.2.1.1 (pGet tyLock sl (pNat y.1)).2.2.1))).1, (pGet tyLock sl
    (pNat y.1)).2.2.2.2.1, (pGet tyItem (pIns y.2.1.1 (pNat (posF y.2.1.1 (pGet tyLock sl (pNat y.1)).2.2.1)) (pGet tyItem [((pGet tyLock sl (pNat y.1)).2.2.1, (0 : Int), (0 : Int), ())] 0)) (pNat (posF y.2.1.1 (pGet tyLock
    sl (pNat y.1)).2.2.1))).2.2.1, ())) (pNat (posF y.2.1.1 (pGet tyLock sl (pNat y.1)).2.2.1))).2.2.1 (1 : Int), ()), y.2.1.2.1, y.2.1.2.2.1, y.2.1.2.2.2.1, ()), ()) ∧ Nat.le (Nat.succ (endAMu si sl sd so ts tn g (pAdd
    IntKind.i64 y.1 (1 : Int), (pSet (pSet (pIns y.2.1.1 (pNat (posF y.2.1.1 (pGet tyLock sl (pNat y.1)).2.2.1)) (pGet tyItem [((pGet tyLock sl (pNat y.1)).2.2.1, (0 : Int), (0 : Int), ())] 0)) (pNat (posF y.2.1.1 (pGet
    tyLock sl (pNat y.1)).2.2.1)) ((pGet tyItem (pIns y.2.1.1 (pNat (posF y.2.1.1 (pGet tyLock sl (pNat y.1)).2.2.1)) (pGet tyItem [((pGet tyLock sl (pNat y.1)).2.2.1, (0 : Int), (0 : Int), ())] 0)) (pNat (posF y.2.1.1 (pGet
    tyLock sl (pNat y.1)).2.2.1))).1, (pGet tyLock sl (pNat y.1)).2.2.2.2.1, (pGet tyItem (pIns y.2.1.1 (pNat (posF y.2.1.1 (pGet tyLock sl (pNat y.1)).2.2.1)) (pGet tyItem [((pGet tyLock sl (pNat y.1)).2.2.1, (0 : Int), (0
    : Int), ())] 0)) (pNat (posF y.2.1.1 (pGet tyLock sl (pNat y.1)).2.2.1))).2.2.1, ())) (pNat (posF y.2.1.1 (pGet tyLock sl (pNat y.1)).2.2.1)) ((pGet tyItem (pSet (pIns y.2.1.1 (pNat (posF y.2.1.1 (pGet tyLock sl (pNat
    y.1)).2.2.1)) (pGet tyItem [((pGet tyLock sl (pNat y.1)).2.2.1, (0 : Int), (0 : Int), ())] 0)) (pNat (posF y.2.1.1 (pGet tyLock sl (pNat y.1)).2.2.1)) ((pGet tyItem (pIns y.2.1.1 (pNat (posF y.2.1.1 (pGet tyLock sl (pNat
    y.1)).2.2.1)) (pGet tyItem [((pGet tyLock sl (pNat y.1)).2.2.1, (0 : Int), (0 : Int), ())] 0)) (pNat (posF y.2.1.1 (pGet tyLock sl (pNat y.1)).2.2.1))).1, (pGet tyLock sl (pNat y.1)).2.2.2.2.1, (pGet tyItem (pIns y.2.1.1
    (pNat (posF y.2.1.1 (pGet tyLock sl (pNat y.1)).2.2.1)) (pGet tyItem [((pGet tyLock sl (pNat y.1)).2.2.1, (0 : Int), (0 : Int), ())] 0)) (pNat (posF y.2.1.1 (pGet tyLock sl (pNat y.1)).2.2.1))).2.2.1, ())) (pNat (posF
    y.2.1.1 (pGet tyLock sl (pNat y.1)).2.2.1))).1, (pGet tyItem (pSet (pIns y.2.1.1 (pNat (posF y.2.1.1 (pGet tyLock sl (pNat y.1)).2.2.1)) (pGet tyItem [((pGet tyLock sl (pNat y.1)).2.2.1, (0 : Int), (0 : Int), ())] 0))
    (pNat (posF y.2.1.1 (pGet tyLock sl (pNat y.1)).2.2.1)) ((pGet tyItem (pIns y.2.1.1 (pNat (posF y.2.1.1 (pGet tyLock sl (pNat y.1)).2.2.1)) (pGet tyItem [((pGet tyLock sl (pNat y.1)).2.2.1, (0 : Int), (0 : Int), ())] 0))
    (pNat (posF y.2.1.1 (pGet tyLock sl (pNat y.1)).2.2.1))).1, (pGet tyLock sl (pNat y.1)).2.2.2.2.1, (pGet tyItem (pIns y.2.1.1 (pNat (posF y.2.1.1 (pGet tyLock sl (pNat y.1)).2.2.1)) (pGet tyItem [((pGet tyLock sl (pNat
    y.1)).2.2.1, (0 : Int), (0 : Int), ())] 0)) (pNat (posF y.2.1.1 (pGet tyLock sl (pNat y.1)).2.2.1))).2.2.1, ())) (pNat (posF y.2.1.1 (pGet tyLock sl (pNat y.1)).2.2.1))).2.1, pAdd IntKind.i64 (pGet tyItem (pSet (pIns
    y.2.1.1 (pNat (posF y.2.1.1 (pGet tyLock sl (pNat y.1)).2.2.1)) (pGet tyItem [((pGet tyLock sl (pNat y.1)).2.2.1, (0 : Int), (0 : Int), ())] 0)) (pNat (posF y.2.1.1 (pGet tyLock sl (pNat y.1)).2.2.1)) ((pGet tyItem (pIns
    y.2.1.1 (pNat (posF y.2.1.1 (pGet tyLock sl (pNat y.1)).2.2.1)) (pGet tyItem [((pGet tyLock sl (pNat y.1)).2.2.1, (0 : Int), (0 : Int), ())] 0)) (pNat (posF y.2.1.1 (pGet tyLock sl (pNat y.1)).2.2.1))).1, (pGet tyLock sl
    (pNat y.1)).2.2.2.2.1, (pGet tyItem (pIns y.2.1.1 (pNat (posF y.2.1.1 (pGet tyLock sl (pNat y.1)).2.2.1)) (pGet tyItem [((pGet tyLock sl (pNat y.1)).2.2.1, (0 : Int), (0 : Int), ())] 0)) (pNat (posF y.2.1.1 (pGet tyLock
    sl (pNat y.1)).2.2.1))).2.2.1, ())) (pNat (posF y.2.1.1 (pGet tyLock sl (pNat y.1)).2.2.1))).2.2.1 (1 : Int), ()), y.2.1.2.1, y.2.1.2.2.1, y.2.1.2.2.2.1, ()), ()))) (endAMu si sl sd so ts tn g y) else pIn (posF y.2.1.1
    (pGet tyLock sl (pNat y.1)).2.2.1) (pLen y.2.1.1) ∧ pIn (posF y.2.1.1 (pGet tyLock sl (pNat y.1)).2.2.1) (pLen (pSet y.2.1.1 (pNat (posF y.2.1.1 (pGet tyLock sl (pNat y.1)).2.2.1)) ((pGet tyItem y.2.1.1 (pNat (posF
    y.2.1.1 (pGet tyLock sl (pNat y.1)).2.2.1))).1, (pGet tyLock sl (pNat y.1)).2.2.2.2.1, (pGet tyItem y.2.1.1 (pNat (posF y.2.1.1 (pGet tyLock sl (pNat y.1)).2.2.1))).2.2.1, ()))) ∧ pIn (posF y.2.1.1 (pGet tyLock sl (pNat
    y.1)).2.2.1) (pLen (pSet y.2.1.1 (pNat (posF y.2.1.1 (pGet tyLock sl (pNat y.1)).2.2.1)) ((pGet tyItem y.2.1.1 (pNat (posF y.2.1.1 (pGet tyLock sl (pNat y.1)).2.2.1))).1, (pGet tyLock sl (pNat y.1)).2.2.2.2.1, (pGet
    tyItem y.2.1.1 (pNat (posF y.2.1.1 (pGet tyLock sl (pNat y.1)).2.2.1))).2.2.1, ()))) ∧ endAInv si sl sd so ts tn g (pAdd IntKind.i64 y.1 (1 : Int), (pSet (pSet y.2.1.1 (pNat (posF y.2.1.1 (pGet tyLock sl (pNat
    y.1)).2.2.1)) ((pGet tyItem y.2.1.1 (pNat (posF y.2.1.1 (pGet tyLock sl (pNat y.1)).2.2.1))).1, (pGet tyLock sl (pNat y.1)).2.2.2.2.1, (pGet tyItem y.2.1.1 (pNat (posF y.2.1.1 (pGet tyLock sl (pNat y.1)).2.2.1))).2.2.1,
    ())) (pNat (posF y.2.1.1 (pGet tyLock sl (pNat y.1)).2.2.1)) ((pGet tyItem (pSet y.2.1.1 (pNat (posF y.2.1.1 (pGet tyLock sl (pNat y.1)).2.2.1)) ((pGet tyItem y.2.1.1 (pNat (posF y.2.1.1 (pGet tyLock sl (pNat
    y.1)).2.2.1))).1, (pGet tyLock sl (pNat y.1)).2.2.2.2.1, (pGet tyItem y.2.1.1 (pNat (posF y.2.1.1 (pGet tyLock sl (pNat y.1)).2.2.1))).2.2.1, ())) (pNat (posF y.2.1.1 (pGet tyLock sl (pNat y.1)).2.2.1))).1, (pGet tyItem
    (pSet y.2.1.1 (pNat (posF y.2.1.1 (pGet tyLock sl (pNat y.1)).2.2.1)) ((pGet tyItem y.2.1.1 (pNat (posF y.2.1.1 (pGet tyLock sl (pNat y.1)).2.2.1))).1, (pGet tyLock sl (pNat y.1)).2.2.2.2.1, (pGet tyItem y.2.1.1 (pNat
    (posF y.2.1.1 (pGet tyLock sl (pNat y.1)).2.2.1))).2.2.1, ())) (pNat (posF y.2.1.1 (pGet tyLock sl (pNat y.1)).2.2.1))).2.1, pAdd IntKind.i64 (pGet tyItem (pSet y.2.1.1 (pNat (posF y.2.1.1 (pGet tyLock sl (pNat
    y.1)).2.2.1)) ((pGet tyItem y.2.1.1 (pNat (posF y.2.1.1 (pGet tyLock sl (pNat y.1)).2.2.1))).1, (pGet tyLock sl (pNat y.1)).2.2.2.2.1, (pGet tyItem y.2.1.1 (pNat (posF y.2.1.1 (pGet tyLock sl (pNat y.1)).2.2.1))).2.2.1,
    ())) (pNat (posF y.2.1.1 (pGet tyLock sl (pNat y.1)).2.2.1))).2.2.1 (1 : Int), ()), y.2.1.2.1, y.2.1.2.2.1, y.2.1.2.2.2.1, ()), ()) ∧ Nat.le (Nat.succ (endAMu si sl sd so ts tn g (pAdd IntKind.i64 y.1 (1 : Int), (pSet
    (pSet y.2.1.1 (pNat (posF y.2.1.1 (pGet tyLock sl (pNat y.1)).2.2.1)) ((pGet tyItem y.2.1.1 (pNat (posF y.2.1.1 (pGet tyLock sl (pNat y.1)).2.2.1))).1, (pGet tyLock sl (pNat y.1)).2.2.2.2.1, (pGet tyItem y.2.1.1 (pNat
    (posF y.2.1.1 (pGet tyLock sl (pNat y.1)).2.2.1))).2.2.1, ())) (pNat (posF y.2.1.1 (pGet tyLock sl (pNat y.1)).2.2.1)) ((pGet tyItem (pSet y.2.1.1 (pNat (posF y.2.1.1 (pGet tyLock sl (pNat y.1)).2.2.1)) ((pGet tyItem
    y.2.1.1 (pNat (posF y.2.1.1 (pGet tyLock sl (pNat y.1)).2.2.1))).1, (pGet tyLock sl (pNat y.1)).2.2.2.2.1, (pGet tyItem y.2.1.1 (pNat (posF y.2.1.1 (pGet tyLock sl (pNat y.1)).2.2.1))).2.2.1, ())) (pNat (posF y.2.1.1
    (pGet tyLock sl (pNat y.1)).2.2.1))).1, (pGet tyItem (pSet y.2.1.1 (pNat (posF y.2.1.1 (pGet tyLock sl (pNat y.1)).2.2.1)) ((pGet tyItem y.2.1.1 (pNat (posF y.2.1.1 (pGet tyLock sl (pNat y.1)).2.2.1))).1, (pGet tyLock sl
    (pNat y.1)).2.2.2.2.1, (pGet tyItem y.2.1.1 (pNat (posF y.2.1.1 (pGet tyLock sl (pNat y.1)).2.2.1))).2.2.1, ())) (pNat (posF y.2.1.1 (pGet tyLock sl (pNat y.1)).2.2.1))).2.1, pAdd IntKind.i64 (pGet tyItem (pSet y.2.1.1
    (pNat (posF y.2.1.1 (pGet tyLock sl (pNat y.1)).2.2.1)) ((pGet tyItem y.2.1.1 (pNat (posF y.2.1.1 (pGet tyLock sl (pNat y.1)).2.2.1))).1, (pGet tyLock sl (pNat y.1)).2.2.2.2.1, (pGet tyItem y.2.1.1 (pNat (posF y.2.1.1
    (pGet tyLock sl (pNat y.1)).2.2.1))).2.2.1, ())) (pNat (posF y.2.1.1 (pGet tyLock sl (pNat y.1)).2.2.1))).2.2.1 (1 : Int), ()), y.2.1.2.1, y.2.1.2.2.1, y.2.1.2.2.2.1, ()), ()))) (endAMu si sl sd so ts tn g y) else Nat.le
    (Nat.succ (pLen y.2.1.2.1)) 4611686018427387904 ∧ Nat.le (Nat.succ (pLen y.2.1.2.2.1)) 4611686018427387904 ∧ Nat.le (Nat.succ (pLen y.2.1.2.2.2.1)) 4611686018427387904 ∧ bif pNot (pGe (idxTxnF y.2.1.2.2.2.1 (ts, tn, ()))
    (0 : Int)) then pRoom (pPlus (pLen y.2.1.2.2.2.1) (pLen [(ts, tn, ())])) 16 ∧ ((y.2.1.1, noTL y.2.1.2.1 ts tn, noTD y.2.1.2.2.1 ts tn, pApp y.2.1.2.2.2.1 [(ts, tn, ())], ()), (0 : Int), ()) = (endS (si, sl, sd, so, ())
    (ts, tn, ()) g, endE (si, sl, sd, so, ()) (ts, tn, ()), ()) else ((y.2.1.1, noTL y.2.1.2.1 ts tn, noTD y.2.1.2.2.1 ts tn, y.2.1.2.2.2.1, ()), (0 : Int), ()) = (endS (si, sl, sd, so, ()) (ts, tn, ()) g, endE (si, sl, sd,
    so, ()) (ts, tn, ()), ())
set_option maxRecDepth 100000 in
theorem End_meets (hcall : Meets Tryd.prog (fun _ => none) 84 ccall) (hown : Meets Tryd.prog (fun _ => none) 87 cown) (hat : Meets Tryd.prog (fun _ => none) 91 cat) (hinsI : Meets Tryd.prog (fun _ => none) 92 cinsI) (hdelTL : Meets Tryd.prog (fun _ => none) 93 cdelTL) (hdelTD : Meets Tryd.prog (fun _ => none) 95 cdelTD) (hContains : Meets Tryd.prog (fun _ => none) 88 cContains) (h : ∀ (si : (List ItemD)) (sl : (List LockD)) (sd : (List DoubtD)) (so : (List TxnD)) (ts : Int) (tn : Int) (g : Bool), (∀ p ∈ (fun x => [pLen x.1.1.1 < 4611686018427387904, pLen x.1.1.2.1 < 4611686018427387904, pLen x.1.1.2.2.1 < 4611686018427387904, pLen x.1.1.2.2.2.1 < 4611686018427387904, pRoom (pLen x.1.1.1) 24, pRoom (pLen x.1.1.2.1) 48, pRoom (pLen x.1.1.2.2.1) 24, pRoom (pLen x.1.1.2.2.2.1) 16] : Shape.den ⟨[pSto, pTxn, .one (.rd .bool)], []⟩ → List Prop) ⟨((si, sl, sd, so, ()), (ts, tn, ()), g, ()), ()⟩, p) → End_VC si sl sd so ts tn g) : Meets Tryd.prog (fun _ => none) 60 cEnd :=
  meets_vc (E := envOf Tryd.prog [(84, (false, ccall)), (87, (false, cown)), (91, (false, cat)), (92, (true, cinsI)), (93, (true, cdelTL)), (95, (true, cdelTD)), (88, (false, cContains))] [28, 103, 105, 107]) (envOf_ok (fun p hp => (by simp only [List.mem_cons, List.not_mem_nil, or_false] at hp; rcases hp with rfl | rfl | rfl | rfl | rfl | rfl | rfl; exact hcall; exact hown; exact hat; exact hinsI; exact hdelTL; exact hdelTD; exact hContains)) (by kernel_rfl)) ⟨[pSto, pTxn, .one (.rd .bool)], []⟩ (fun x => fun ky9 st9 => look [(6, (⟨[.slot 26 false tI, .box 96 vSto], endAInv x.1.1.1 x.1.1.2.1 x.1.1.2.2.1 x.1.1.2.2.2.1 x.1.2.1.1 x.1.2.1.2.1 x.1.2.2.1, endAMu x.1.1.1 x.1.1.2.1 x.1.1.2.2.1 x.1.1.2.2.2.1 x.1.2.1.1 x.1.2.1.2.1 x.1.2.2.1⟩ : Ann))] ky9) Tryd.func60 (by kernel_rfl) (by kernel_rfl) (fun x => [pLen x.1.1.1 < 4611686018427387904, pLen x.1.1.2.1 < 4611686018427387904, pLen x.1.1.2.2.1 < 4611686018427387904, pLen x.1.1.2.2.2.1 < 4611686018427387904, pRoom (pLen x.1.1.1) 24, pRoom (pLen x.1.1.2.1) 48, pRoom (pLen x.1.1.2.2.1) 24, pRoom (pLen x.1.1.2.2.2.1) 16]) [] [.agg 0 vSto, .slot 1 false tI] (fun x => (endS x.1.1 x.1.2.1 x.1.2.2.1, endE x.1.1 x.1.2.1, ())) (fun x => End_VC x.1.1.1 x.1.1.2.1 x.1.1.2.2.1 x.1.1.2.2.2.1 x.1.2.1.1 x.1.2.1.2.1 x.1.2.2.1) (fun x => by kernel_rfl) (fun x hp => h x.1.1.1 x.1.1.2.1 x.1.1.2.2.1 x.1.1.2.2.2.1 x.1.2.1.1 x.1.2.1.2.1 x.1.2.2.1 hp)

def EndOf_VC (si : (List ItemD)) (sl : (List LockD)) (sd : (List DoubtD)) (so : (List TxnD)) (ts : Int) (tn : Int) (g : Bool) : Prop :=
  Nat.le (Nat.succ (pLen si)) 4611686018427387904 ∧ Nat.le (Nat.succ (pLen sl)) 4611686018427387904 ∧ Nat.le (Nat.succ (pLen sd)) 4611686018427387904 ∧ Nat.le (Nat.succ (pLen so)) 4611686018427387904 ∧ bif pNe (askE (si,
    sl, sd, so, ()) (ts, tn, ()) (0 : Int)) (0 : Int) then (([], [], [], [], ()), askE (si, sl, sd, so, ()) (ts, tn, ()) (0 : Int), ()) = (endS (si, sl, sd, so, ()) (ts, tn, ()) g, endE (si, sl, sd, so, ()) (ts, tn, ()), ())
    else pRoom (pLen si) 24 ∧ pRoom (pLen sl) 48 ∧ pRoom (pLen sd) 24 ∧ pRoom (pLen so) 16 ∧ Nat.le (Nat.succ (pLen si)) 4611686018427387904 ∧ Nat.le (Nat.succ (pLen sl)) 4611686018427387904 ∧ Nat.le (Nat.succ (pLen sd))
    4611686018427387904 ∧ Nat.le (Nat.succ (pLen so)) 4611686018427387904 ∧ bif pNot (pGe (idxTxnF so (ts, tn, ())) (0 : Int)) then pRoom (pPlus (pLen so) (pLen [(ts, tn, ())])) 16 ∧ endBInv si sl sd so ts tn g ((0 : Int),
    (si, [], [], pApp so [(ts, tn, ())], ()), ()) ∧ ∀ (y : kden Bool.false tI × denCells vSto × PUnit), endBInv si sl sd so ts tn g y → bif pLt y.1 (pInt (pLen sl)) then pIn y.1 (pLen sl) ∧ bif pNot (pAndB (pEq (pGet tyLock
    sl (pNat y.1)).1 ts) (pEq (pGet tyLock sl (pNat y.1)).2.1 tn)) then pIn y.1 (pLen sl) ∧ pRoom (pPlus (pLen y.2.1.2.1) (pLen [((pGet tyLock sl (pNat y.1)).1, (pGet tyLock sl (pNat y.1)).2.1, (pGet tyLock sl (pNat
    y.1)).2.2.1, (pGet tyLock sl (pNat y.1)).2.2.2.1, (pGet tyLock sl (pNat y.1)).2.2.2.2.1, (pGet tyLock sl (pNat y.1)).2.2.2.2.2.1, ())])) 48 ∧ endBInv si sl sd so ts tn g (pAdd IntKind.i64 y.1 (1 : Int), (y.2.1.1, pApp
    y.2.1.2.1 [((pGet tyLock sl (pNat y.1)).1, (pGet tyLock sl (pNat y.1)).2.1, (pGet tyLock sl (pNat y.1)).2.2.1, (pGet tyLock sl (pNat y.1)).2.2.2.1, (pGet tyLock sl (pNat y.1)).2.2.2.2.1, (pGet tyLock sl (pNat
    y.1)).2.2.2.2.2.1, ())], y.2.1.2.2.1, y.2.1.2.2.2.1, ()), ()) ∧ Nat.le (Nat.succ (endBMu si sl sd so ts tn g (pAdd IntKind.i64 y.1 (1 : Int), (y.2.1.1, pApp y.2.1.2.1 [((pGet tyLock sl (pNat y.1)).1, (pGet tyLock sl
    (pNat y.1)).2.1, (pGet tyLock sl (pNat y.1)).2.2.1, (pGet tyLock sl (pNat y.1)).2.2.2.1, (pGet tyLock sl (pNat y.1)).2.2.2.2.1, (pGet tyLock sl (pNat y.1)).2.2.2.2.2.1, ())], y.2.1.2.2.1, y.2.1.2.2.2.1, ()), ())))
    (endBMu si sl sd so ts tn g y) else pIn y.1 (pLen sl) ∧ bif (pGet tyLock sl (pNat y.1)).2.2.2.1 then bif g then pIn y.1 (pLen sl) ∧ pIn y.1 (pLen sl) ∧ Nat.le (Nat.succ (pLen y.2.1.1)) 1000000 ∧ endBInv si sl sd so ts tn
    g (pAdd IntKind.i64 y.1 (1 : Int), (withF y.2.1.1 (pGet tyLock sl (pNat y.1)).2.2.1 (pGet tyLock sl (pNat y.1)).2.2.2.2.1, y.2.1.2.1, y.2.1.2.2.1, y.2.1.2.2.2.1, ()), ()) ∧ Nat.le (Nat.succ (endBMu si sl sd so ts tn g
    (pAdd IntKind.i64 y.1 (1 : Int), (withF y.2.1.1 (pGet tyLock sl (pNat y.1)).2.2.1 (pGet tyLock sl (pNat y.1)).2.2.2.2.1, y.2.1.2.1, y.2.1.2.2.1, y.2.1.2.2.2.1, ()), ()))) (endBMu si sl sd so ts tn g y) else endBInv si sl
    sd so ts tn g (pAdd IntKind.i64 y.1 (1 : Int), (y.2.1.1, y.2.1.2.1, y.2.1.2.2.1, y.2.1.2.2.2.1, ()), ()) ∧ Nat.le (Nat.succ (endBMu si sl sd so ts tn g (pAdd IntKind.i64 y.1 (1 : Int), (y.2.1.1, y.2.1.2.1, y.2.1.2.2.1,
    y.2.1.2.2.2.1, ()), ()))) (endBMu si sl sd so ts tn g y) else endBInv si sl sd so ts tn g (pAdd IntKind.i64 y.1 (1 : Int), (y.2.1.1, y.2.1.2.1, y.2.1.2.2.1, y.2.1.2.2.2.1, ()), ()) ∧ Nat.le (Nat.succ (endBMu si sl sd so
    ts tn g (pAdd IntKind.i64 y.1 (1 : Int), (y.2.1.1, y.2.1.2.1, y.2.1.2.2.1, y.2.1.2.2.2.1, ()), ()))) (endBMu si sl sd so ts tn g y) else endCInv si sl sd so ts tn g ((0 : Int), (y.2.1.1, y.2.1.2.1, y.2.1.2.2.1,
    y.2.1.2.2.2.1, ()), ()) ∧ ∀ (y : kden Bool.false tI × denCells vSto × PUnit), endCInv si sl sd so ts tn g y → bif pLt y.1 (pInt (pLen sd)) then pIn y.1 (pLen sd) ∧ bif pNot (pAndB (pEq (pGet tyItem sd (pNat y.1)).1 ts)
    (pEq (pGet tyItem sd (pNat y.1)).2.1 tn)) then pIn y.1 (pLen sd) ∧ pRoom (pPlus (pLen y.2.1.2.2.1) (pLen [((pGet tyItem sd (pNat y.1)).1, (pGet tyItem sd (pNat y.1)).2.1, (pGet tyItem sd (pNat y.1)).2.2.1, ())])) 24 ∧
    endCInv si sl sd so ts tn g (pAdd IntKind.i64 y.1 (1 : Int), (y.2.1.1, y.2.1.2.1, pApp y.2.1.2.2.1 [((pGet tyItem sd (pNat y.1)).1, (pGet tyItem sd (pNat y.1)).2.1, (pGet tyItem sd (pNat y.1)).2.2.1, ())], y.2.1.2.2.2.1,
    ()), ()) ∧ Nat.le (Nat.succ (endCMu si sl sd so ts tn g (pAdd IntKind.i64 y.1 (1 : Int), (y.2.1.1, y.2.1.2.1, pApp y.2.1.2.2.1 [((pGet tyItem sd (pNat y.1)).1, (pGet tyItem sd (pNat y.1)).2.1, (pGet tyItem sd (pNat
    y.1)).2.2.1, ())], y.2.1.2.2.2.1, ()), ()))) (endCMu si sl sd so ts tn g y) else endCInv si sl sd so ts tn g (pAdd IntKind.i64 y.1 (1 : Int), (y.2.1.1, y.2.1.2.1, y.2.1.2.2.1, y.2.1.2.2.2.1, ()), ()) ∧ Nat.le (Nat.succ
    (endCMu si sl sd so ts tn g (pAdd IntKind.i64 y.1 (1 : Int), (y.2.1.1, y.2.1.2.1, y.2.1.2.2.1, y.2.1.2.2.2.1, ()), ()))) (endCMu si sl sd so ts tn g y) else ((y.2.1.1, y.2.1.2.1, y.2.1.2.2.1, y.2.1.2.2.2.1, ()), (0 :
    Int), ()) = (endS (si, sl, sd, so, ()) (ts, tn, ()) g, endE (si, sl, sd, so, ()) (ts, tn, ()), ()) else endBInv si sl sd so ts tn g ((0 : Int), (si, [], [], so, ()), ()) ∧ ∀ (y : kden Bool.false tI × denCells vSto ×
    PUnit), endBInv si sl sd so ts tn g y → bif pLt y.1 (pInt (pLen sl)) then pIn y.1 (pLen sl) ∧ bif pNot (pAndB (pEq (pGet tyLock sl (pNat y.1)).1 ts) (pEq (pGet tyLock sl (pNat y.1)).2.1 tn)) then pIn y.1 (pLen sl) ∧
    pRoom (pPlus (pLen y.2.1.2.1) (pLen [((pGet tyLock sl (pNat y.1)).1, (pGet tyLock sl (pNat y.1)).2.1, (pGet tyLock sl (pNat y.1)).2.2.1, (pGet tyLock sl (pNat y.1)).2.2.2.1, (pGet tyLock sl (pNat y.1)).2.2.2.2.1, (pGet
    tyLock sl (pNat y.1)).2.2.2.2.2.1, ())])) 48 ∧ endBInv si sl sd so ts tn g (pAdd IntKind.i64 y.1 (1 : Int), (y.2.1.1, pApp y.2.1.2.1 [((pGet tyLock sl (pNat y.1)).1, (pGet tyLock sl (pNat y.1)).2.1, (pGet tyLock sl (pNat
    y.1)).2.2.1, (pGet tyLock sl (pNat y.1)).2.2.2.1, (pGet tyLock sl (pNat y.1)).2.2.2.2.1, (pGet tyLock sl (pNat y.1)).2.2.2.2.2.1, ())], y.2.1.2.2.1, y.2.1.2.2.2.1, ()), ()) ∧ Nat.le (Nat.succ (endBMu si sl sd so ts tn g
    (pAdd IntKind.i64 y.1 (1 : Int), (y.2.1.1, pApp y.2.1.2.1 [((pGet tyLock sl (pNat y.1)).1, (pGet tyLock sl (pNat y.1)).2.1, (pGet tyLock sl (pNat y.1)).2.2.1, (pGet tyLock sl (pNat y.1)).2.2.2.1, (pGet tyLock sl (pNat
    y.1)).2.2.2.2.1, (pGet tyLock sl (pNat y.1)).2.2.2.2.2.1, ())], y.2.1.2.2.1, y.2.1.2.2.2.1, ()), ()))) (endBMu si sl sd so ts tn g y) else pIn y.1 (pLen sl) ∧ bif (pGet tyLock sl (pNat y.1)).2.2.2.1 then bif g then pIn
    y.1 (pLen sl) ∧ pIn y.1 (pLen sl) ∧ Nat.le (Nat.succ (pLen y.2.1.1)) 1000000 ∧ endBInv si sl sd so ts tn g (pAdd IntKind.i64 y.1 (1 : Int), (withF y.2.1.1 (pGet tyLock sl (pNat y.1)).2.2.1 (pGet tyLock sl (pNat
    y.1)).2.2.2.2.1, y.2.1.2.1, y.2.1.2.2.1, y.2.1.2.2.2.1, ()), ()) ∧ Nat.le (Nat.succ (endBMu si sl sd so ts tn g (pAdd IntKind.i64 y.1 (1 : Int), (withF y.2.1.1 (pGet tyLock sl (pNat y.1)).2.2.1 (pGet tyLock sl (pNat
    y.1)).2.2.2.2.1, y.2.1.2.1, y.2.1.2.2.1, y.2.1.2.2.2.1, ()), ()))) (endBMu si sl sd so ts tn g y) else endBInv si sl sd so ts tn g (pAdd IntKind.i64 y.1 (1 : Int), (y.2.1.1, y.2.1.2.1, y.2.1.2.2.1, y.2.1.2.2.2.1, ()),
    ()) ∧ Nat.le (Nat.succ (endBMu si sl sd so ts tn g (pAdd IntKind.i64 y.1 (1 : Int), (y.2.1.1, y.2.1.2.1, y.2.1.2.2.1, y.2.1.2.2.2.1, ()), ()))) (endBMu si sl sd so ts tn g y) else endBInv si sl sd so ts tn g (pAdd
    IntKind.i64 y.1 (1 : Int), (y.2.1.1, y.2.1.2.1, y.2.1.2.2.1, y.2.1.2.2.2.1, ()), ()) ∧ Nat.le (Nat.succ (endBMu si sl sd so ts tn g (pAdd IntKind.i64 y.1 (1 : Int), (y.2.1.1, y.2.1.2.1, y.2.1.2.2.1, y.2.1.2.2.2.1, ()),
    ()))) (endBMu si sl sd so ts tn g y) else endCInv si sl sd so ts tn g ((0 : Int), (y.2.1.1, y.2.1.2.1, y.2.1.2.2.1, y.2.1.2.2.2.1, ()), ()) ∧ ∀ (y : kden Bool.false tI × denCells vSto × PUnit), endCInv si sl sd so ts tn
    g y → bif pLt y.1 (pInt (pLen sd)) then pIn y.1 (pLen sd) ∧ bif pNot (pAndB (pEq (pGet tyItem sd (pNat y.1)).1 ts) (pEq (pGet tyItem sd (pNat y.1)).2.1 tn)) then pIn y.1 (pLen sd) ∧ pRoom (pPlus (pLen y.2.1.2.2.1) (pLen
    [((pGet tyItem sd (pNat y.1)).1, (pGet tyItem sd (pNat y.1)).2.1, (pGet tyItem sd (pNat y.1)).2.2.1, ())])) 24 ∧ endCInv si sl sd so ts tn g (pAdd IntKind.i64 y.1 (1 : Int), (y.2.1.1, y.2.1.2.1, pApp y.2.1.2.2.1 [((pGet
    tyItem sd (pNat y.1)).1, (pGet tyItem sd (pNat y.1)).2.1, (pGet tyItem sd (pNat y.1)).2.2.1, ())], y.2.1.2.2.2.1, ()), ()) ∧ Nat.le (Nat.succ (endCMu si sl sd so ts tn g (pAdd IntKind.i64 y.1 (1 : Int), (y.2.1.1,
    y.2.1.2.1, pApp y.2.1.2.2.1 [((pGet tyItem sd (pNat y.1)).1, (pGet tyItem sd (pNat y.1)).2.1, (pGet tyItem sd (pNat y.1)).2.2.1, ())], y.2.1.2.2.2.1, ()), ()))) (endCMu si sl sd so ts tn g y) else endCInv si sl sd so ts
    tn g (pAdd IntKind.i64 y.1 (1 : Int), (y.2.1.1, y.2.1.2.1, y.2.1.2.2.1, y.2.1.2.2.2.1, ()), ()) ∧ Nat.le (Nat.succ (endCMu si sl sd so ts tn g (pAdd IntKind.i64 y.1 (1 : Int), (y.2.1.1, y.2.1.2.1, y.2.1.2.2.1,
    y.2.1.2.2.2.1, ()), ()))) (endCMu si sl sd so ts tn g y) else ((y.2.1.1, y.2.1.2.1, y.2.1.2.2.1, y.2.1.2.2.2.1, ()), (0 : Int), ()) = (endS (si, sl, sd, so, ()) (ts, tn, ()) g, endE (si, sl, sd, so, ()) (ts, tn, ()), ())
set_option maxRecDepth 100000 in
theorem EndOf_meets (haskFault : Meets Tryd.prog (fun _ => none) 68 caskFault) (hStoreCopy : Meets Tryd.prog (fun _ => none) 26 cStoreCopy) (hisOver : Meets Tryd.prog (fun _ => none) 72 cisOver) (hwithItem : Meets Tryd.prog (fun _ => none) 74 cwithItem) (h : ∀ (si : (List ItemD)) (sl : (List LockD)) (sd : (List DoubtD)) (so : (List TxnD)) (ts : Int) (tn : Int) (g : Bool), (∀ p ∈ (fun x => [pLen x.1.1.1 < 4611686018427387904, pLen x.1.1.2.1 < 4611686018427387904, pLen x.1.1.2.2.1 < 4611686018427387904, pLen x.1.1.2.2.2.1 < 4611686018427387904, pRoom (pLen x.1.1.1) 24, pRoom (pLen x.1.1.2.1) 48, pRoom (pLen x.1.1.2.2.1) 24, pRoom (pLen x.1.1.2.2.2.1) 16] : Shape.den ⟨[pSto, pTxn, .one (.rd .bool)], []⟩ → List Prop) ⟨((si, sl, sd, so, ()), (ts, tn, ()), g, ()), ()⟩, p) → EndOf_VC si sl sd so ts tn g) : Meets Tryd.prog (fun _ => none) 32 cEndOf :=
  meets_vc (E := envOf Tryd.prog [(68, (false, caskFault)), (26, (false, cStoreCopy)), (72, (false, cisOver)), (74, (false, cwithItem))] [28, 103, 105, 107]) (envOf_ok (fun p hp => (by simp only [List.mem_cons, List.not_mem_nil, or_false] at hp; rcases hp with rfl | rfl | rfl | rfl; exact haskFault; exact hStoreCopy; exact hisOver; exact hwithItem)) (by kernel_rfl)) ⟨[pSto, pTxn, .one (.rd .bool)], []⟩ (fun x => fun ky9 st9 => look [(9, (⟨[.slot 11 false tI, .box 152 vSto], endBInv x.1.1.1 x.1.1.2.1 x.1.1.2.2.1 x.1.1.2.2.2.1 x.1.2.1.1 x.1.2.1.2.1 x.1.2.2.1, endBMu x.1.1.1 x.1.1.2.1 x.1.1.2.2.1 x.1.1.2.2.2.1 x.1.2.1.1 x.1.2.1.2.1 x.1.2.2.1⟩ : Ann)), (16, (⟨[.slot 12 false tI, .box 152 vSto], endCInv x.1.1.1 x.1.1.2.1 x.1.1.2.2.1 x.1.1.2.2.2.1 x.1.2.1.1 x.1.2.1.2.1 x.1.2.2.1, endCMu x.1.1.1 x.1.1.2.1 x.1.1.2.2.1 x.1.1.2.2.2.1 x.1.2.1.1 x.1.2.1.2.1 x.1.2.2.1⟩ : Ann))] ky9) Tryd.func32 (by kernel_rfl) (by kernel_rfl) (fun x => [pLen x.1.1.1 < 4611686018427387904, pLen x.1.1.2.1 < 4611686018427387904, pLen x.1.1.2.2.1 < 4611686018427387904, pLen x.1.1.2.2.2.1 < 4611686018427387904, pRoom (pLen x.1.1.1) 24, pRoom (pLen x.1.1.2.1) 48, pRoom (pLen x.1.1.2.2.1) 24, pRoom (pLen x.1.1.2.2.2.1) 16]) [] [.agg 0 vSto, .slot 1 false tI] (fun x => (endS x.1.1 x.1.2.1 x.1.2.2.1, endE x.1.1 x.1.2.1, ())) (fun x => EndOf_VC x.1.1.1 x.1.1.2.1 x.1.1.2.2.1 x.1.1.2.2.2.1 x.1.2.1.1 x.1.2.1.2.1 x.1.2.2.1) (fun x => by kernel_rfl) (fun x hp => h x.1.1.1 x.1.1.2.1 x.1.1.2.2.1 x.1.1.2.2.2.1 x.1.2.1.1 x.1.2.1.2.1 x.1.2.2.1 hp)

end Go.Proofs.YtkhnakdmkhidbaaDoor

/- Functions of the store meet their contracts. No condition. -/
namespace Go.Proofs.YtkhnakdmkhidbaaDoor
open Go.RowKit

theorem txn_ok : Meets Tryd.prog (fun _ => none) 103 ctxn := txn_meets fun a b => by
  unfold txn_VC
  simp only [pGe, pLt, pLe, Bool.cond_eq_ite, decide_eq_true_eq, Prod.mk.injEq, eq_self, and_true, txnF, inF]
  repeat' split
  all_goals (rw [Bool.eq_iff_iff]; simp only [Bool.and_eq_true, decide_eq_true_eq, Bool.false_eq_true]; constructor <;> intro h <;> first | omega | exact h.elim)

theorem In_ok : Meets Tryd.prog (fun _ => none) 39 cIn := In_meets fun a b c => by
  unfold In_VC
  simp only [pGe, pLe, Bool.cond_eq_ite, decide_eq_true_eq, Prod.mk.injEq, eq_self, and_true, inF]
  repeat' split
  all_goals (rw [Bool.eq_iff_iff]; simp only [Bool.and_eq_true, decide_eq_true_eq, Bool.false_eq_true]; constructor <;> intro h <;> first | omega | exact h.elim)

theorem plainTxn_ok : Meets Tryd.prog (fun _ => none) 97 cplainTxn := plainTxn_meets In_ok fun a b => by
  unfold plainTxn_VC
  simp only [txnF]
  cases inF a 0 3 <;> simp

theorem items_ok : Meets Tryd.prog (fun _ => none) 81 citems := items_meets fun l hp => by
  have hl : l.length < 4611686018427387904 := hp _ List.mem_cons_self
  unfold items_VC
  refine ⟨UpInv.start, fun y hy => ?_⟩
  rcases UpInv.round hl hy with ⟨k, rfl, hk, hb, _, hF, hT⟩ | ⟨rfl, hT⟩
  · simp only [pLt_coe, pLen, hk, decide_true, cond_true, pIn_coe, pNat_coe, true_and]
    simp only [pGe, pLt, pGt, Bool.cond_eq_ite, decide_eq_true_eq, Prod.mk.injEq, eq_self, and_true]
    have hF' : ¬ itemOk l k = true → false = itemsF l := fun h => (hF (by simpa using h)).symm
    simp only [itemOk, inF, pLt, pLe, Bool.and_eq_true, Bool.or_eq_true, decide_eq_true_eq] at hT hF'
    by_cases h0 : k = 0
    · subst h0
      repeat' split
      all_goals first | exact hF' (by omega) | exact hT (by omega) | (exfalso; omega)
    · rw [pSub1 hb (by omega), pNat_coe, pIn_coe]
      have hk1 : k - 1 < l.length := by omega
      simp only [pLen, hk1, true_and]
      repeat' split
      all_goals first | exact hF' (by omega) | exact hT (by omega) | (exfalso; omega)
  · simp only [pLt_coe, pLen, Nat.lt_irrefl, decide_false, cond_false]
    exact congrArg (·, ()) hT.symm

theorem room_app {n b : Nat} (h : pRoom n b) : pRoom (pPlus (pLen ([] : List Unit)) n) b := by
  unfold pPlus pLen; simpa using h
theorem cloneItem_ok : Meets Tryd.prog (fun _ => none) 61 ccloneItem := cloneItem_meets fun l hp =>
  ⟨fun h => by rw [List.eq_nil_of_length_eq_zero h], room_app (hp _ List.mem_cons_self), rfl⟩
theorem cloneLock_ok : Meets Tryd.prog (fun _ => none) 62 ccloneLock := cloneLock_meets fun l hp =>
  ⟨fun h => by rw [List.eq_nil_of_length_eq_zero h], room_app (hp _ List.mem_cons_self), rfl⟩
theorem cloneDoubt_ok : Meets Tryd.prog (fun _ => none) 63 ccloneDoubt := cloneDoubt_meets fun l hp =>
  ⟨fun h => by rw [List.eq_nil_of_length_eq_zero h], room_app (hp _ List.mem_cons_self), rfl⟩
theorem cloneTxn_ok : Meets Tryd.prog (fun _ => none) 64 ccloneTxn := cloneTxn_meets fun l hp =>
  ⟨fun h => by rw [List.eq_nil_of_length_eq_zero h], room_app (hp _ List.mem_cons_self), rfl⟩
theorem own_ok : Meets Tryd.prog (fun _ => none) 87 cown := own_meets cloneItem_ok cloneLock_ok cloneDoubt_ok cloneTxn_ok fun is ls ds os hp =>
  ⟨hp _ (by simp), hp _ (by simp), hp _ (by simp), hp _ (by simp), rfl⟩

theorem sameTxns_ok : Meets Tryd.prog (fun _ => none) 44 csameTxns := sameTxns_meets fun l m hp => by
  have hl : l.length < 4611686018427387904 := hp _ List.mem_cons_self
  unfold sameTxns_VC
  by_cases hn : l.length = m.length
  · rw [bif_false (by unfold pNe pInt pLen; simp [hn])]
    refine ⟨⟨hn, UpInv.start⟩, fun y ⟨_, hy⟩ => ?_⟩
    rcases UpInv.round hl hy with ⟨k, rfl, hk, hb, _, hF, hT⟩ | ⟨rfl, hT⟩
    · have hk2 : k < m.length := by omega
      simp only [pLt_coe, pLen, hk, hk2, decide_true, cond_true, pIn_coe, pNat_coe, true_and]
      have e : pAndB (pEq (pGet tyTxn l k).1 (pGet tyTxn m k).1) (pEq (pGet tyTxn l k).2.1 (pGet tyTxn m k).2.1) = eqTxnAt l m k := rfl
      rw [e]
      cases hq : eqTxnAt l m k with
      | true => exact ⟨⟨hn, (hT hq).1⟩, (hT hq).2⟩
      | false =>
        show (false, ()) = (sameTxnsF l m, ())
        unfold sameTxnsF
        rw [hF hq]; simp
    · simp only [pLt_coe, pLen, Nat.lt_irrefl, decide_false, cond_false]
      unfold sameTxnsF
      rw [hT]; simp [hn]
  · rw [bif_true (by unfold pNe pInt pLen; simp; omega)]
    unfold sameTxnsF
    simp [hn]

theorem Index_ok : Meets Tryd.prog (fun _ => none) 109 cIndex := Index_meets fun l a b hp => by
  have hl : l.length < 4611686018427387904 := hp _ List.mem_cons_self
  refine ⟨UpInv.start, fun y hy => ?_⟩
  rcases FindInv.round hl hy with ⟨k, rfl, hk, hb, hT, hF⟩ | ⟨rfl, hT⟩
  · simp only [pLt_coe, pLen, hk, decide_true, cond_true, pIn_coe, pNat_coe, true_and]
    have e : pAndB (pEq a (pGet tyTxn l k).1) (pEq b (pGet tyTxn l k).2.1) = eqTxn (a, b, ()) (pGet tyTxn l k) := rfl
    rw [e]
    cases hq : eqTxn (a, b, ()) (pGet tyTxn l k) with
    | true => exact congrArg (·, ()) (hT hq).symm
    | false => exact hF hq
  · simp only [pLt_coe, pLen, Nat.lt_irrefl, decide_false, cond_false]
    exact congrArg (·, ()) hT.symm

theorem Contains_ok : Meets Tryd.prog (fun _ => none) 88 cContains := Contains_meets Index_ok fun l a b hp => ⟨hp _ List.mem_cons_self, rfl⟩
theorem doubted1_ok : Meets Tryd.prog (fun _ => none) 120 cdoubted1 := doubted1_meets fun s n a c d => rfl
theorem doubts1_ok : Meets Tryd.prog (fun _ => none) 105 cdoubts1 := doubts1_meets fun s n k wr v q c d a => rfl

theorem indexFuncDoubt_ok : Meets Tryd.prog (fun _ => none) 116 cindexFuncDoubt := indexFuncDoubt_meets doubted1_ok fun l c d hp => by
  have hl : l.length < 4611686018427387904 := hp _ List.mem_cons_self
  refine ⟨UpInv.start, fun y hy => ?_⟩
  rcases FindInv.round hl hy with ⟨k, rfl, hk, hb, hT, hF⟩ | ⟨rfl, hT⟩
  · simp only [pLt_coe, pLen, hk, decide_true, cond_true, pIn_coe, pNat_coe, true_and]
    have e : doubtIsF ((pGet tyItem l k).1, (pGet tyItem l k).2.1, (pGet tyItem l k).2.2.1, ()) (c, d, ()) = doubtIsF (pGet tyDoubt l k) (c, d, ()) := rfl
    rw [e]
    cases hq : doubtIsF (pGet tyDoubt l k) (c, d, ()) with
    | true => exact congrArg (·, ()) (hT hq).symm
    | false => exact hF hq
  · simp only [pLt_coe, pLen, Nat.lt_irrefl, decide_false, cond_false]
    exact congrArg (·, ()) hT.symm
theorem indexFuncLock_ok : Meets Tryd.prog (fun _ => none) 107 cindexFuncLock := indexFuncLock_meets doubts1_ok fun l c d a hp => by
  have hl : l.length < 4611686018427387904 := hp _ List.mem_cons_self
  refine ⟨UpInv.start, fun y hy => ?_⟩
  rcases FindInv.round hl hy with ⟨k, rfl, hk, hb, hT, hF⟩ | ⟨rfl, hT⟩
  · simp only [pLt_coe, pLen, hk, decide_true, cond_true, pIn_coe, pNat_coe, true_and]
    have e : lockIsF ((pGet tyLock l k).1, (pGet tyLock l k).2.1, (pGet tyLock l k).2.2.1, (pGet tyLock l k).2.2.2.1, (pGet tyLock l k).2.2.2.2.1, (pGet tyLock l k).2.2.2.2.2.1, ()) (c, d, ()) = lockIsF (pGet tyLock l k) (c, d, ()) := rfl
    rw [e]
    cases hq : lockIsF (pGet tyLock l k) (c, d, ()) with
    | true => exact congrArg (·, ()) (hT hq).symm
    | false => exact hF hq
  · simp only [pLt_coe, pLen, Nat.lt_irrefl, decide_false, cond_false]
    exact congrArg (·, ()) hT.symm
theorem containsFuncDoubt_ok : Meets Tryd.prog (fun _ => none) 119 ccontainsFuncDoubt := containsFuncDoubt_meets indexFuncDoubt_ok fun l c d hp => ⟨hp _ List.mem_cons_self, rfl⟩
theorem containsFuncLock_ok : Meets Tryd.prog (fun _ => none) 104 ccontainsFuncLock := containsFuncLock_meets indexFuncLock_ok fun l c d a hp => ⟨hp _ List.mem_cons_self, rfl⟩
theorem doubted_ok : Meets Tryd.prog (fun _ => none) 106 cdoubted := doubted_meets containsFuncDoubt_ok fun is ls ds os a b hp => ⟨hp (pLen ds < 4611686018427387904) (by simp), rfl⟩

end Go.Proofs.YtkhnakdmkhidbaaDoor

/- More functions of the store meet their contracts. No condition. -/
namespace Go.Proofs.YtkhnakdmkhidbaaDoor
open Go.RowKit

theorem lens_ne {n m : Nat} (h : ¬ n = m) : pNe (pInt n) (pInt m) = true := by unfold pNe pInt; simp; omega
theorem lens_eq {n m : Nat} (h : n = m) : pNe (pInt n) (pInt m) = false := by unfold pNe pInt; simp [h]

set_option maxHeartbeats 1000000 in
theorem sameStore_ok : Meets Tryd.prog (fun _ => none) 12 csameStore := sameStore_meets sameTxns_ok fun is ls ds os is2 ls2 ds2 os2 hp => by
  have h1 : is.length < 4611686018427387904 := hp (pLen is < 4611686018427387904) (by simp)
  have h2 : ls.length < 4611686018427387904 := hp (pLen ls < 4611686018427387904) (by simp)
  have h3 : ds.length < 4611686018427387904 := hp (pLen ds < 4611686018427387904) (by simp)
  have h4 : os.length < 4611686018427387904 := hp (pLen os < 4611686018427387904) (by simp)
  unfold sameStore_VC pLen
  by_cases e1 : is.length = is2.length
  rotate_left
  · rw [bif_true (lens_ne e1)]; simp [sameStoF, e1]
  rw [bif_false (lens_eq e1)]
  by_cases e2 : ls.length = ls2.length
  rotate_left
  · rw [bif_true (lens_ne e2)]; simp [sameStoF, e2]
  rw [bif_false (lens_eq e2)]
  by_cases e3 : ds.length = ds2.length
  rotate_left
  · rw [bif_true (lens_ne e3)]; simp [sameStoF, e3]
  rw [bif_false (lens_eq e3)]
  refine ⟨h4, ?_⟩
  cases e4 : sameTxnsF os os2 with
  | false =>
    rw [bif_true (by rfl)]; simp [sameStoF, e4]
  | true =>
    rw [bif_false (by rfl)]
    have hl : sameLens is ls ds os is2 ls2 ds2 os2 = true := by simp [sameLens, e1, e2, e3, e4]
    refine ⟨⟨hl, UpInv.start⟩, fun y ⟨_, hy⟩ => ?_⟩
    rcases UpInv.round h1 hy with ⟨k, rfl, hk, hb, _, hF, hT⟩ | ⟨rfl, hA⟩
    · have hk2 : k < is2.length := by omega
      simp only [pLt_coe, pLen, hk, hk2, decide_true, cond_true, pIn_coe, pNat_coe, true_and]
      cases hq : eqItemAt is is2 k with
      | true =>
        rw [bif_false (show pNot _ = false by unfold eqItemAt at hq; simp only [pNot, pAndB]; rw [hq]; rfl)]
        exact ⟨⟨hl, (hT hq).1⟩, (hT hq).2⟩
      | false =>
        rw [bif_true (show pNot _ = true by unfold eqItemAt at hq; simp only [pNot, pAndB]; rw [hq]; rfl)]
        have := hF hq
        simp [sameStoF, this]
    · rw [bif_false (by simp [pLt_coe, pLen])]
      refine ⟨⟨by simp [hl, hA], UpInv.start⟩, fun y ⟨_, hy⟩ => ?_⟩
      rcases UpInv.round h2 hy with ⟨k, rfl, hk, hb, _, hF, hT⟩ | ⟨rfl, hB⟩
      · have hk2 : k < ls2.length := by omega
        simp only [pLt_coe, pLen, hk, hk2, decide_true, cond_true, pIn_coe, pNat_coe, true_and]
        cases hq : eqLockAt ls ls2 k with
        | true =>
          rw [bif_false (show pNot _ = false by unfold eqLockAt at hq; simp only [pNot, pAndB]; rw [hq]; rfl)]
          exact ⟨⟨by simp [hl, hA], (hT hq).1⟩, (hT hq).2⟩
        | false =>
          rw [bif_true (show pNot _ = true by unfold eqLockAt at hq; simp only [pNot, pAndB]; rw [hq]; rfl)]
          have := hF hq
          simp [sameStoF, this]
      · rw [bif_false (by simp [pLt_coe, pLen])]
        refine ⟨⟨by simp [hl, hA, hB], UpInv.start⟩, fun y ⟨_, hy⟩ => ?_⟩
        rcases UpInv.round h3 hy with ⟨k, rfl, hk, hb, _, hF, hT⟩ | ⟨rfl, hC⟩
        · have hk2 : k < ds2.length := by omega
          simp only [pLt_coe, pLen, hk, hk2, decide_true, cond_true, pIn_coe, pNat_coe, true_and]
          cases hq : eqItemAt ds ds2 k with
          | true =>
            rw [bif_false (show pNot _ = false by unfold eqItemAt at hq; simp only [pNot, pAndB]; rw [hq]; rfl)]
            exact ⟨⟨by simp [hl, hA, hB], (hT hq).1⟩, (hT hq).2⟩
          | false =>
            rw [bif_true (show pNot _ = true by unfold eqItemAt at hq; simp only [pNot, pAndB]; rw [hq]; rfl)]
            have := hF hq
            simp [sameStoF, this]
        · rw [bif_false (by simp [pLt_coe, pLen])]
          rw [e1] at hA; rw [e2] at hB; rw [e3] at hC
          simp [sameStoF, e1, e2, e3, e4, hA, hB, hC]

end Go.Proofs.YtkhnakdmkhidbaaDoor

/- Functions of the store meet their contracts: what may be. No condition. -/
namespace Go.Proofs.YtkhnakdmkhidbaaDoor
open Go.RowKit

/- laws of the words -/
theorem idxOf_lt {p : Nat → Bool} {n k j : Nat} (hj : j < k) (hn : k < n) (h : p j = true) : idxOf p n ≠ (k : Int) := by
  intro e
  have hg : pGe (idxOf p n) 0 = true := by rw [e]; simp [pGe]
  unfold idxOf at e
  cases hq : (List.range n).find? p with
  | none => rw [hq] at e; simp at e
  | some i =>
    rw [hq] at e
    have hi : i = k := by have e' : (i : Int) = (k : Int) := e; omega
    rw [List.find?_range_eq_some] at hq
    have := hq.2.2 j (by omega)
    rw [h] at this; simp at this
theorem doubt_first {ds : List DoubtD} {k : Nat} (hk : k < ds.length) : pNe (idxDoubtF ds ((pGet tyDoubt ds k).1, (pGet tyDoubt ds k).2.1, ())) (k : Int) = !allUpto (fun j => !sameD ds j k) k := by
  cases hq : allUpto (fun j => !sameD ds j k) k with
  | true =>
    have ha := allUpto_iff.1 hq
    have : idxDoubtF ds ((pGet tyDoubt ds k).1, (pGet tyDoubt ds k).2.1, ()) = (k : Int) := idxOf_hit hk (fun j hj => by have := ha j hj; simp only [Bool.not_eq_true'] at this; exact this) (by simp [doubtIsF, pEq])
    rw [this]; simp [pNe]
  | false =>
    have : ∃ j, j < k ∧ sameD ds j k = true := by
      rcases Classical.em (∃ j, j < k ∧ sameD ds j k = true) with h | h
      · exact h
      · have : allUpto (fun j => !sameD ds j k) k = true := allUpto_iff.2 fun j hj => by
          cases hs : sameD ds j k with
          | true => exact absurd ⟨j, hj, hs⟩ h
          | false => rfl
        rw [this] at hq; cases hq
    obtain ⟨j, hj, hs⟩ := this
    have : idxDoubtF ds ((pGet tyDoubt ds k).1, (pGet tyDoubt ds k).2.1, ()) ≠ (k : Int) := idxOf_lt hj hk (by simpa [sameD, pAndB, doubtIsF] using hs)
    simp [pNe, this]
theorem over_sub {os : List TxnD} {k : Nat} (hk : k < os.length) : pGe (idxTxnF (pSub os 0 k) ((pGet tyTxn os k).1, (pGet tyTxn os k).2.1, ())) 0 = !allUpto (fun j => !sameT os j k) k := by
  unfold idxTxnF
  rw [idxOf_ge, Bool.eq_iff_iff, anyUpto_iff, pSub0_len (by omega)]
  constructor
  · rintro ⟨j, hj, h⟩
    rw [pGet_sub0 hj] at h
    cases hq : allUpto (fun j => !sameT os j k) k with
    | false => rfl
    | true =>
      have := allUpto_iff.1 hq j hj
      simp only [eqTxn, sameT, pAndB, pEq, Bool.not_eq_true', Bool.and_eq_true, beq_iff_eq, Bool.and_eq_false_iff, beq_eq_false_iff_ne] at h this
      grind
  · intro h
    rcases Classical.em (∃ j, j < k ∧ sameT os j k = true) with ⟨j, hj, hs⟩ | hn
    · refine ⟨j, hj, ?_⟩
      rw [pGet_sub0 hj]
      simp only [eqTxn, sameT, pAndB, pEq, Bool.and_eq_true, beq_iff_eq] at hs ⊢
      exact ⟨hs.1.symm, hs.2.symm⟩
    · have : allUpto (fun j => !sameT os j k) k = true := allUpto_iff.2 fun j hj => by
        cases hs : sameT os j k with
        | true => exact absurd ⟨j, hj, hs⟩ hn
        | false => rfl
      rw [this] at h; cases h
theorem anyUpto_succ {p : Nat → Bool} {k : Nat} : anyUpto p (k + 1) = (anyUpto p k || p k) := by
  simp [anyUpto, List.range_succ]
theorem HandInv.round {p : Nat → Bool} {n : Nat} {y : Int × Bool × Unit} (hn : n < 4611686018427387904) (h : HandInv p n y) :
    (∃ k : Nat, y = ((k : Int), anyUpto p k, ()) ∧ k < n ∧ ∀ b : Bool, b = (anyUpto p k || p k) → HandInv p n (pAdd .i64 (k : Int) 1, b, ()) ∧ Nat.le (Nat.succ (HandMu n (pAdd .i64 (k : Int) 1, b, ()))) (HandMu n y)) ∨
    y = ((n : Int), anyUpto p n, ()) := by
  obtain ⟨k, hk, hle, ha⟩ := h
  obtain ⟨y1, y2, u⟩ := y
  cases u
  simp only at hk ha
  subst hk ha
  by_cases hkn : k < n
  · refine .inl ⟨k, rfl, hkn, fun b hb => ?_⟩
    rw [pAdd1 (by omega)]
    refine ⟨⟨k + 1, rfl, hkn, by rw [hb, anyUpto_succ]⟩, ?_⟩
    unfold HandMu; simp only [Int.toNat_natCast]; exact Nat.le_of_eq (by omega)
  · have : k = n := by omega
    subst this
    exact .inr rfl

theorem doubtsF_eq (is : List ItemD) (ls : List LockD) (ds : List DoubtD) (os : List TxnD) : doubtsF (is, ls, ds, os, ()) = (allUpto (doubtOkAt ls ds os) ds.length && allUpto (overOkAt os) os.length) := rfl
theorem locksF_eq (is : List ItemD) (ls : List LockD) (ds : List DoubtD) (os : List TxnD) : locksF (is, ls, ds, os, ()) = (allUpto (lockOkAt ls ds) ls.length && pLe (pInt ls.length) 24) := rfl
theorem stoF_eq (is : List ItemD) (ls : List LockD) (ds : List DoubtD) (os : List TxnD) : stoF (is, ls, ds, os, ()) = (itemsF is && doubtsF (is, ls, ds, os, ()) && locksF (is, ls, ds, os, ())) := rfl
theorem doubtOkAt_eq (ls : List LockD) (ds : List DoubtD) (os : List TxnD) (i : Nat) : doubtOkAt ls ds os i = (txnF ((pGet tyDoubt ds i).1, (pGet tyDoubt ds i).2.1, ()) && inF (pGet tyDoubt ds i).2.2.1 0 1048576 && pNot (pGe (idxTxnF os ((pGet tyDoubt ds i).1, (pGet tyDoubt ds i).2.1, ())) 0) &&
    pGe (idxLockF ls ((pGet tyDoubt ds i).1, (pGet tyDoubt ds i).2.1, ())) 0 && allUpto (fun k => !sameD ds k i) i) := rfl
theorem overOkAt_eq (os : List TxnD) (i : Nat) : overOkAt os i = (txnF ((pGet tyTxn os i).1, (pGet tyTxn os i).2.1, ()) && allUpto (fun k => !sameT os k i) i) := rfl
theorem lockOkAt_eq (ls : List LockD) (ds : List DoubtD) (i : Nat) : lockOkAt ls ds i = (pGe (idxDoubtF ds ((pGet tyLock ls i).1, (pGet tyLock ls i).2.1, ())) 0 && inF (pGet tyLock ls i).2.2.1 0 7 && inF (pGet tyLock ls i).2.2.2.2.1 0 1073741824 && inF (pGet tyLock ls i).2.2.2.2.2.1 0 1048576 &&
    ((pGet tyLock ls i).2.2.2.1 || (pEq (pGet tyLock ls i).2.2.2.2.1 0 && pEq (pGet tyLock ls i).2.2.2.2.2.1 0)) && allUpto (fun k => !clash ls k i) i) := rfl
theorem itemOk_eq (l : List ItemD) (i : Nat) : itemOk l i = (inF (pGet tyItem l i).1 0 7 && inF (pGet tyItem l i).2.1 0 1073741824 && inF (pGet tyItem l i).2.2.1 1 1048576 && (decide (i = 0) || pLt (pGet tyItem l (i - 1)).1 (pGet tyItem l i).1)) := rfl

theorem doubtOf_ok : Meets Tryd.prog (fun _ => none) 73 cdoubtOf := doubtOf_meets fun is ls ds os a b hp => by
  have hl : ds.length < 4611686018427387904 := hp (pLen ds < 4611686018427387904) (by simp)
  refine ⟨UpInv.start, fun y hy => ?_⟩
  rcases FindInv.round hl hy with ⟨k, rfl, hk, hb, hT, hF⟩ | ⟨rfl, hT⟩
  · rw [bif_true (by simp [pLt_coe, pLen, hk]), pNat_coe]
    refine ⟨pIn_coe.2 hk, bif_ok (fun h => ?_) fun h => hF h⟩
    exact congrArg (·, ()) (hT h).symm
  · rw [bif_false (by simp [pLt_coe, pLen])]
    exact congrArg (·, ()) hT.symm
theorem isOver_ok : Meets Tryd.prog (fun _ => none) 72 cisOver := isOver_meets fun is ls ds os a b hp => by
  have hl : os.length < 4611686018427387904 := hp (pLen os < 4611686018427387904) (by simp)
  have e : ∀ k, pAndB (pEq (pGet tyTxn os k).1 a) (pEq (pGet tyTxn os k).2.1 b) = eqTxn (a, b, ()) (pGet tyTxn os k) := fun k => by
    rw [Bool.eq_iff_iff]; simp only [pAndB, pEq, eqTxn, Bool.and_eq_true, beq_iff_eq]; constructor <;> intro h <;> exact ⟨h.1.symm, h.2.symm⟩
  refine ⟨UpInv.start, fun y hy => ?_⟩
  rcases FindInv.round hl hy with ⟨k, rfl, hk, hb, hT, hF⟩ | ⟨rfl, hT⟩
  · rw [bif_true (by simp [pLt_coe, pLen, hk]), pNat_coe, e]
    refine ⟨pIn_coe.2 hk, bif_ok (fun h => ?_) fun h => hF h⟩
    refine congrArg (·, ()) ?_
    have := hT h
    unfold idxTxnF
    rw [this]; simp [pGe]
  · rw [bif_false (by simp [pLt_coe, pLen])]
    refine congrArg (·, ()) ?_
    unfold idxTxnF
    rw [hT]; rfl

theorem doubts_ok : Meets Tryd.prog (fun _ => none) 82 cdoubts := doubts_meets txn_ok Contains_ok containsFuncLock_ok fun is ls ds os hp => by
  have hls : ls.length < 4611686018427387904 := hp (pLen ls < 4611686018427387904) (by simp)
  have hds : ds.length < 4611686018427387904 := hp (pLen ds < 4611686018427387904) (by simp)
  have hl : os.length < 4611686018427387904 := hp (pLen os < 4611686018427387904) (by simp)
  clear hp
  unfold doubts_VC
  rw [doubtsF_eq]
  refine ⟨UpInv.start, fun y hy => ?_⟩
  rcases UpInv.round hds hy with ⟨k, rfl, hk, hb, -, hF, hT⟩ | ⟨rfl, hT⟩
  · rw [bif_true (by simp [pLt_coe, pLen, hk]), pNat_coe]
    rw [doubtOkAt_eq] at hT hF
    clear hy
    dsimp only
    (repeat' (first | refine bif_ok (fun h => ?_) (fun h => ?_) | refine And.intro ?_ ?_ | fail))
    all_goals first
      | exact hl
      | exact hls
      | omega
      | (unfold pLen; omega)
      | exact UpInv.start
      | (refine leafF fun q => ?_; clear hT; grind [pLt, pLe, pGt, pGe, pEq, pNe, pNot, pAndB, pBeq, pInt, pLen, inF, pIn, pTo, pNat])
      | skip
    intro z hz
    rcases UpInv.round (p := fun j => !sameD ds j k) (n := k) hb hz with ⟨i, rfl, hi, hib, -, hiF, hiT⟩ | ⟨rfl, hiT⟩
    · rw [pLen, pSub0_len (by omega), bif_true (show pLt (i : Int) (pInt k) = true from by simp [pLt_coe, hi])]
      refine ⟨pIn_coe.2 hi, ?_⟩
      rw [pNat_coe, pGet_sub0 hi]
      refine bif_ok (fun h => ?_) fun h => hiT (by simp only [Bool.not_eq_true']; exact h)
      have hs : allUpto (fun j => !sameD ds j k) k = false := hiF (by simp only [Bool.not_eq_false']; exact h)
      clear hz hiF hiT hT
      refine leafF fun q => ?_
      grind [pLt, pLe, pGt, pGe, pEq, pNe, pNot, pAndB, pBeq, pInt, pLen, inF, pIn, pTo, pNat]
    · rw [pLen, pSub0_len (by omega), bif_false (show pLt (k : Int) (pInt k) = false from by simp [pLt_coe])]
      refine hT ?_
      clear hz hT hF
      grind [pLt, pLe, pGt, pGe, pEq, pNe, pNot, pAndB, pBeq, pInt, pLen, inF, pIn, pTo, pNat]
  · rw [bif_false (by simp [pLt_coe, pLen]), hT]
    clear hy
    refine ⟨UpInv.start, fun y hy => ?_⟩
    rcases UpInv.round hl hy with ⟨k, rfl, hk, hb, -, hF, hT⟩ | ⟨rfl, hT⟩
    · rw [bif_true (by simp [pLt_coe, pLen, hk]), pNat_coe, over_sub hk]
      rw [overOkAt_eq] at hT hF
      clear hy
      dsimp only
      have hsl : (pSub os 0 k).length < 4611686018427387904 := by rw [pSub0_len (by omega)]; omega
      (repeat' (first | refine bif_ok (fun h => ?_) (fun h => ?_) | refine And.intro ?_ ?_ | fail))
      all_goals first
        | exact hsl
        | omega
        | (unfold pLen; omega)
        | (refine leafF fun q => ?_; clear hT; grind [pLt, pLe, pGt, pGe, pEq, pNe, pNot, pAndB, pBeq, pInt, pLen, inF, pIn, pTo, pNat])
        | (refine (hT ?_).1; clear hT hF; grind [pLt, pLe, pGt, pGe, pEq, pNe, pNot, pAndB, pBeq, pInt, pLen, inF, pIn, pTo, pNat])
        | (refine (hT ?_).2; clear hT hF; grind [pLt, pLe, pGt, pGe, pEq, pNe, pNot, pAndB, pBeq, pInt, pLen, inF, pIn, pTo, pNat])
    · rw [bif_false (by simp [pLt_coe, pLen]), hT]
      rfl

theorem clash_eq (l : List LockD) (k i : Nat) : clash l k i = (pEq (pGet tyLock l k).2.2.1 (pGet tyLock l i).2.2.1 && (pAndB (pEq (pGet tyLock l k).1 (pGet tyLock l i).1) (pEq (pGet tyLock l k).2.1 (pGet tyLock l i).2.1) || (pGet tyLock l k).2.2.2.1 || (pGet tyLock l i).2.2.2.1)) := rfl
theorem add_small (v a : Int) : 0 ≤ v → v ≤ 1073741824 → 0 ≤ a → a ≤ 1048576 → pAdd .i64 v a = v + a := fun _ _ _ _ => pAdd_in (by omega)
theorem locks_ok : Meets Tryd.prog (fun _ => none) 83 clocks := locks_meets doubted_ok fun is ls ds os hp => by
  have his : is.length < 4611686018427387904 := hp (pLen is < 4611686018427387904) (by simp)
  have hls : ls.length < 4611686018427387904 := hp (pLen ls < 4611686018427387904) (by simp)
  have hds : ds.length < 4611686018427387904 := hp (pLen ds < 4611686018427387904) (by simp)
  have hl : os.length < 4611686018427387904 := hp (pLen os < 4611686018427387904) (by simp)
  clear hp
  unfold locks_VC
  rw [locksF_eq]
  refine ⟨UpInv.start, fun y hy => ?_⟩
  rcases UpInv.round hls hy with ⟨k, rfl, hk, hb, -, hF, hT⟩ | ⟨rfl, hT⟩
  · rw [bif_true (by simp [pLt_coe, pLen, hk]), pNat_coe]
    rw [lockOkAt_eq] at hT hF
    have inner : ∀ (X : Prop), (allUpto (fun j => !clash ls j k) k = true → X) → ∀ z, locksBInv is ls ds os (k : Int) z → bif pLt z.1 (pInt (pLen (pSub ls 0 k))) then pIn z.1 (pLen (pSub ls 0 k)) ∧
        bif pEq (pGet tyLock (pSub ls 0 k) (pNat z.1)).2.2.1 (pGet tyLock ls k).2.2.1 then
          bif pAndB (pEq (pGet tyLock (pSub ls 0 k) (pNat z.1)).1 (pGet tyLock ls k).1) (pEq (pGet tyLock (pSub ls 0 k) (pNat z.1)).2.1 (pGet tyLock ls k).2.1) then (false, ()) = (allUpto (lockOkAt ls ds) ls.length && pLe (pInt ls.length) 24, ())
          else bif (pGet tyLock (pSub ls 0 k) (pNat z.1)).2.2.2.1 then (false, ()) = (allUpto (lockOkAt ls ds) ls.length && pLe (pInt ls.length) 24, ())
          else bif (pGet tyLock ls k).2.2.2.1 then (false, ()) = (allUpto (lockOkAt ls ds) ls.length && pLe (pInt ls.length) 24, ())
          else locksBInv is ls ds os (k : Int) (pAdd .i64 z.1 1, ()) ∧ Nat.le (Nat.succ (locksBMu is ls ds os (k : Int) (pAdd .i64 z.1 1, ()))) (locksBMu is ls ds os (k : Int) z)
        else locksBInv is ls ds os (k : Int) (pAdd .i64 z.1 1, ()) ∧ Nat.le (Nat.succ (locksBMu is ls ds os (k : Int) (pAdd .i64 z.1 1, ()))) (locksBMu is ls ds os (k : Int) z)
      else X := by
      intro X hX z hz
      rcases UpInv.round (p := fun j => !clash ls j k) (n := k) hb hz with ⟨i, rfl, hi, hib, -, hiF, hiT⟩ | ⟨rfl, hiT⟩
      · rw [pLen, pSub0_len (by omega), bif_true (show pLt (i : Int) (pInt k) = true from by simp [pLt_coe, hi])]
        refine ⟨pIn_coe.2 hi, ?_⟩
        rw [pNat_coe, pGet_sub0 hi]
        clear hz hX hT
        simp only [clash_eq] at hiF hiT
        refine bif_ok (fun h1 => bif_ok (fun h2 => leafF fun q => ?_) fun h2 => bif_ok (fun h3 => leafF fun q => ?_) fun h3 => bif_ok (fun h4 => leafF fun q => ?_) fun h4 => hiT ?_) fun h1 => hiT ?_
        · have hs := hiF (by rw [h1, h2]; rfl); clear hiF hiT; simp only [clash_eq] at hF; grind [pLt, pLe, pGt, pGe, pEq, pNe, pNot, pAndB, pBeq, pInt, pLen, inF, pIn, pTo, pNat]
        · have hs := hiF (by rw [h1, h2, h3]; rfl); clear hiF hiT; simp only [clash_eq] at hF; grind [pLt, pLe, pGt, pGe, pEq, pNe, pNot, pAndB, pBeq, pInt, pLen, inF, pIn, pTo, pNat]
        · have hs := hiF (by rw [h1, h2, h3, h4]; rfl); clear hiF hiT; simp only [clash_eq] at hF; grind [pLt, pLe, pGt, pGe, pEq, pNe, pNot, pAndB, pBeq, pInt, pLen, inF, pIn, pTo, pNat]
        · rw [h1, h2, h3, h4]; rfl
        · rw [h1]; rfl
      · rw [pLen, pSub0_len (by omega), bif_false (show pLt (k : Int) (pInt k) = false from by simp [pLt_coe])]
        exact hX hiT
    have eA := add_small (pGet tyLock ls k).2.2.2.2.1 (pGet tyLock ls k).2.2.2.2.2.1
    clear hy
    dsimp only
    (repeat' (first | refine bif_ok (fun h => ?_) (fun h => ?_) | refine And.intro ?_ ?_ | fail))
    all_goals first
      | exact hl
      | exact hls
      | exact his
      | exact hds
      | omega
      | (unfold pLen; omega)
      | exact UpInv.start
      | (refine leafF fun q => ?_; clear hT inner; grind [pLt, pLe, pGt, pGe, pEq, pNe, pNot, pAndB, pBeq, pInt, pLen, inF, pIn, pTo, pNat])
      | (refine inner _ fun ha => hT ?_; clear hT hF inner; grind [pLt, pLe, pGt, pGe, pEq, pNe, pNot, pAndB, pBeq, pInt, pLen, inF, pIn, pTo, pNat])
  · rw [bif_false (by simp [pLt_coe, pLen]), hT]
    rfl

theorem Check_ok : Meets Tryd.prog (fun _ => none) 47 cCheck := Check_meets items_ok doubts_ok locks_ok fun is ls ds os hp => by
  have his : is.length < 4611686018427387904 := hp (pLen is < 4611686018427387904) (by simp)
  have hls : ls.length < 4611686018427387904 := hp (pLen ls < 4611686018427387904) (by simp)
  have hds : ds.length < 4611686018427387904 := hp (pLen ds < 4611686018427387904) (by simp)
  have hl : os.length < 4611686018427387904 := hp (pLen os < 4611686018427387904) (by simp)
  clear hp
  unfold Check_VC
  rw [stoF_eq]
  (repeat' (first | refine bif_ok (fun h => ?_) (fun h => ?_) | refine And.intro ?_ ?_ | fail))
  all_goals first
    | exact hl
    | exact hls
    | exact his
    | exact hds
    | (refine leafE ?_; grind [pLt, pLe, pGt, pGe, pEq, pNe, pNot, pAndB, pBeq, pInt, pLen, inF, pIn, pTo, pNat])

end Go.Proofs.YtkhnakdmkhidbaaDoor

/- The document's store that may be: its function meets the contract. No condition. -/
namespace Go.Proofs.YtkhnakdmkhidbaaDoor
open Go.RowKit

theorem StoreMay_ok : Meets Tryd.prog (fun _ => none) 66 cStoreMay := StoreMay_meets In_ok doubtOf_ok plainTxn_ok isOver_ok fun is ls ds os hp => by
  have his : is.length < 4611686018427387904 := hp (pLen is < 4611686018427387904) (by simp)
  have hls : ls.length < 4611686018427387904 := hp (pLen ls < 4611686018427387904) (by simp)
  have hds : ds.length < 4611686018427387904 := hp (pLen ds < 4611686018427387904) (by simp)
  have hl : os.length < 4611686018427387904 := hp (pLen os < 4611686018427387904) (by simp)
  clear hp
  have hS : stoF (is, ls, ds, os, ()) = (allUpto (itemOk is) is.length && (allUpto (doubtOkAt ls ds os) ds.length && allUpto (overOkAt os) os.length) && (allUpto (lockOkAt ls ds) ls.length && pLe (pInt ls.length) 24)) := rfl
  unfold StoreMay_VC
  refine bif_ok (fun h => leafF fun q => ?_) fun h24 => ?_
  · rw [hS] at q; grind [pLt, pLe, pGt, pGe, pEq, pNe, pNot, pAndB, pBeq, pInt, pLen, inF, pIn, pTo, pNat]
  refine ⟨UpInv.start, fun y hy => ?_⟩
  rcases UpInv.round his hy with ⟨k, rfl, hk, hb, -, hF, hT⟩ | ⟨rfl, hA⟩
  · rw [bif_true (by simp [pLt_coe, pLen, hk]), pNat_coe]
    have e1 : 0 < k → pSubI .i64 (k : Int) 1 = ((k - 1 : Nat) : Int) := pSub1 hb
    rw [itemOk_eq] at hT hF
    clear hy
    dsimp only
    rcases Nat.eq_zero_or_pos k with h0 | h0
    rotate_left
    · rw [e1 h0, pNat_coe]
      clear e1
      (repeat' (first | refine bif_ok (fun h => ?_) (fun h => ?_) | refine And.intro ?_ ?_ | fail))
      all_goals first
        | omega
        | (unfold pLen; omega)
        | (refine leafF fun q => ?_; rw [hS] at q; clear hT; grind [pLt, pLe, pGt, pGe, pEq, pNe, pNot, pAndB, pBeq, pInt, pLen, inF, pIn, pTo, pNat])
        | (refine (hT ?_).1; clear hT hF; grind [pLt, pLe, pGt, pGe, pEq, pNe, pNot, pAndB, pBeq, pInt, pLen, inF, pIn, pTo, pNat])
        | (refine (hT ?_).2; clear hT hF; grind [pLt, pLe, pGt, pGe, pEq, pNe, pNot, pAndB, pBeq, pInt, pLen, inF, pIn, pTo, pNat])
    · rw [bif_false (show pGt (k : Int) 0 = false by subst h0; rfl)]
      clear e1
      (repeat' (first | refine bif_ok (fun h => ?_) (fun h => ?_) | refine And.intro ?_ ?_ | fail))
      all_goals first
        | omega
        | (unfold pLen; omega)
        | (refine leafF fun q => ?_; rw [hS] at q; clear hT; grind [pLt, pLe, pGt, pGe, pEq, pNe, pNot, pAndB, pBeq, pInt, pLen, inF, pIn, pTo, pNat])
        | (refine (hT ?_).1; clear hT hF; grind [pLt, pLe, pGt, pGe, pEq, pNe, pNot, pAndB, pBeq, pInt, pLen, inF, pIn, pTo, pNat])
        | (refine (hT ?_).2; clear hT hF; grind [pLt, pLe, pGt, pGe, pEq, pNe, pNot, pAndB, pBeq, pInt, pLen, inF, pIn, pTo, pNat])
  rw [bif_false (by simp [pLt_coe, pLen])]
  clear hy
  refine ⟨UpInv.start, fun y hy => ?_⟩
  rcases UpInv.round hls hy with ⟨k, rfl, hk, hb, -, hF, hT⟩ | ⟨rfl, hB⟩
  · rw [bif_true (by simp [pLt_coe, pLen, hk]), pNat_coe]
    rw [lockOkAt_eq] at hT hF
    have inner : ∀ (X : Prop), (allUpto (fun j => !clash ls j k) k = true → X) → ∀ z, mayCInv is ls ds os (k : Int) z → bif pLt z.1 (k : Int) then pIn z.1 (pLen ls) ∧
        bif pEq (pGet tyLock ls k).2.2.1 (pGet tyLock ls (pNat z.1)).2.2.1 then
          bif pAndB (pEq (pGet tyLock ls k).1 (pGet tyLock ls (pNat z.1)).1) (pEq (pGet tyLock ls k).2.1 (pGet tyLock ls (pNat z.1)).2.1) then (false, ()) = (stoF (is, ls, ds, os, ()), ())
          else bif (pGet tyLock ls k).2.2.2.1 then (false, ()) = (stoF (is, ls, ds, os, ()), ())
          else bif (pGet tyLock ls (pNat z.1)).2.2.2.1 then (false, ()) = (stoF (is, ls, ds, os, ()), ())
          else mayCInv is ls ds os (k : Int) (pAdd .i64 z.1 1, ()) ∧ Nat.le (Nat.succ (mayCMu is ls ds os (k : Int) (pAdd .i64 z.1 1, ()))) (mayCMu is ls ds os (k : Int) z)
        else mayCInv is ls ds os (k : Int) (pAdd .i64 z.1 1, ()) ∧ Nat.le (Nat.succ (mayCMu is ls ds os (k : Int) (pAdd .i64 z.1 1, ()))) (mayCMu is ls ds os (k : Int) z)
      else X := by
      intro X hX z hz
      rcases UpInv.round (p := fun j => !clash ls j k) (n := k) hb hz with ⟨i, rfl, hi, hib, -, hiF, hiT⟩ | ⟨rfl, hiT⟩
      · rw [bif_true (show pLt (i : Int) (k : Int) = true from by simp [pLt, hi])]
        refine ⟨pIn_coe.2 (by unfold pLen; omega), ?_⟩
        rw [pNat_coe]
        clear hz hX hT
        simp only [clash_eq] at hiF hiT
        refine bif_ok (fun h1 => bif_ok (fun h2 => leafF fun q => ?_) fun h2 => bif_ok (fun h3 => leafF fun q => ?_) fun h3 => bif_ok (fun h4 => leafF fun q => ?_) fun h4 => hiT ?_) fun h1 => hiT ?_
        · have hs := hiF (by clear hF hiT hS; grind [pLt, pLe, pGt, pGe, pEq, pNe, pNot, pAndB, pBeq, pInt, pLen, inF, pIn, pTo, pNat]); clear hiF hiT; simp only [clash_eq] at hF; rw [hS] at q; grind [pLt, pLe, pGt, pGe, pEq, pNe, pNot, pAndB, pBeq, pInt, pLen, inF, pIn, pTo, pNat]
        · have hs := hiF (by clear hF hiT hS; grind [pLt, pLe, pGt, pGe, pEq, pNe, pNot, pAndB, pBeq, pInt, pLen, inF, pIn, pTo, pNat]); clear hiF hiT; simp only [clash_eq] at hF; rw [hS] at q; grind [pLt, pLe, pGt, pGe, pEq, pNe, pNot, pAndB, pBeq, pInt, pLen, inF, pIn, pTo, pNat]
        · have hs := hiF (by clear hF hiT hS; grind [pLt, pLe, pGt, pGe, pEq, pNe, pNot, pAndB, pBeq, pInt, pLen, inF, pIn, pTo, pNat]); clear hiF hiT; simp only [clash_eq] at hF; rw [hS] at q; grind [pLt, pLe, pGt, pGe, pEq, pNe, pNot, pAndB, pBeq, pInt, pLen, inF, pIn, pTo, pNat]
        · clear hiF hiT hF hS; grind [pLt, pLe, pGt, pGe, pEq, pNe, pNot, pAndB, pBeq, pInt, pLen, inF, pIn, pTo, pNat]
        · clear hiF hiT hF hS; grind [pLt, pLe, pGt, pGe, pEq, pNe, pNot, pAndB, pBeq, pInt, pLen, inF, pIn, pTo, pNat]
      · rw [bif_false (show pLt (k : Int) (k : Int) = false from by simp [pLt])]
        exact hX hiT
    clear hy
    dsimp only
    (repeat' (first | refine bif_ok (fun h => ?_) (fun h => ?_) | refine And.intro ?_ ?_ | fail))
    all_goals first
      | exact hl
      | exact hls
      | exact his
      | exact hds
      | omega
      | (unfold pLen; omega)
      | exact UpInv.start
      | (refine leafF fun q => ?_; rw [hS] at q; clear hT inner; grind [pLt, pLe, pGt, pGe, pEq, pNe, pNot, pAndB, pBeq, pInt, pLen, inF, pIn, pTo, pNat])
      | (refine inner _ fun ha => hT ?_; clear hT hF inner hS; grind [pLt, pLe, pGt, pGe, pEq, pNe, pNot, pAndB, pBeq, pInt, pLen, inF, pIn, pTo, pNat])
  rw [bif_false (by simp [pLt_coe, pLen])]
  clear hy
  refine ⟨UpInv.start, fun y hy => ?_⟩
  rcases UpInv.round hds hy with ⟨k, rfl, hk, hb, -, hF, hT⟩ | ⟨rfl, hD⟩
  · rw [bif_true (by simp [pLt_coe, pLen, hk]), pNat_coe]
    rw [doubtOkAt_eq] at hT hF
    clear hy
    refine ⟨pIn_coe.2 hk, ⟨0, rfl, Nat.zero_le _, rfl⟩, fun z hz => ?_⟩
    rcases HandInv.round (p := handAt ls ds k) (n := ls.length) hls hz with ⟨i, rfl, hi, hN⟩ | rfl
    · rw [bif_true (by simp [pLt_coe, pLen, hi])]
      refine bif_ok (fun h => ?_) fun h => ⟨pIn_coe.2 hi, ?_⟩
      · exact hN true (by have h' : anyUpto (handAt ls ds k) i = true := h; rw [h']; rfl)
      · refine hN _ ?_
        have h' : anyUpto (handAt ls ds k) i = false := h
        rw [h', pNat_coe]; rfl
    · rw [bif_false (by simp [pLt_coe, pLen])]
      have eh : anyUpto (handAt ls ds k) ls.length = pGe (idxLockF ls ((pGet tyDoubt ds k).1, (pGet tyDoubt ds k).2.1, ())) 0 := idxOf_ge.symm
      dsimp only
      rw [eh, show pNe (idxDoubtF ds ((pGet tyItem ds k).1, (pGet tyItem ds k).2.1, ())) (k : Int) = !allUpto (fun j => !sameD ds j k) k from doubt_first hk]
      clear hz eh
      (repeat' (first | refine bif_ok (fun h => ?_) (fun h => ?_) | refine And.intro ?_ ?_ | fail))
      all_goals first
        | exact hl
        | exact hls
        | exact his
        | exact hds
        | (refine leafF fun q => ?_; rw [hS] at q; clear hT; grind [pLt, pLe, pGt, pGe, pEq, pNe, pNot, pAndB, pBeq, pInt, pLen, inF, pIn, pTo, pNat])
        | (refine (hT ?_).1; clear hT hF hS; grind [pLt, pLe, pGt, pGe, pEq, pNe, pNot, pAndB, pBeq, pInt, pLen, inF, pIn, pTo, pNat])
        | (refine (hT ?_).2; clear hT hF hS; grind [pLt, pLe, pGt, pGe, pEq, pNe, pNot, pAndB, pBeq, pInt, pLen, inF, pIn, pTo, pNat])
  rw [bif_false (by simp [pLt_coe, pLen])]
  clear hy
  refine ⟨UpInv.start, fun y hy => ?_⟩
  rcases UpInv.round hl hy with ⟨k, rfl, hk, hb, -, hF, hT⟩ | ⟨rfl, hO⟩
  · rw [bif_true (by simp [pLt_coe, pLen, hk]), pNat_coe]
    rw [overOkAt_eq] at hT hF
    clear hy
    refine ⟨UpInv.start, fun z hz => ?_⟩
    rcases UpInv.round (p := fun j => !sameT os j k) (n := k) hb hz with ⟨i, rfl, hi, hib, -, hiF, hiT⟩ | ⟨rfl, hiT⟩
    · rw [bif_true (show pLt (i : Int) (k : Int) = true from by simp [pLt, hi])]
      refine ⟨pIn_coe.2 (by unfold pLen; omega), pIn_coe.2 hk, ?_⟩
      rw [pNat_coe]
      refine bif_ok (fun h => ?_) fun h => hiT (by simp only [Bool.not_eq_true']; exact h)
      have hs : allUpto (fun j => !sameT os j k) k = false := hiF (by simp only [Bool.not_eq_false']; exact h)
      clear hz hiF hiT hT
      refine leafF fun q => ?_
      rw [hS] at q
      grind [pLt, pLe, pGt, pGe, pEq, pNe, pNot, pAndB, pBeq, pInt, pLen, inF, pIn, pTo, pNat]
    · rw [bif_false (show pLt (k : Int) (k : Int) = false from by simp [pLt])]
      clear hz
      refine ⟨pIn_coe.2 hk, bif_ok (fun h => leafF fun q => ?_) fun h => hT ?_⟩
      · rw [hS] at q; clear hT; grind [pLt, pLe, pGt, pGe, pEq, pNe, pNot, pAndB, pBeq, pInt, pLen, inF, pIn, pTo, pNat]
      · clear hT hF hS; grind [pLt, pLe, pGt, pGe, pEq, pNe, pNot, pAndB, pBeq, pInt, pLen, inF, pIn, pTo, pNat]
  rw [bif_false (by simp [pLt_coe, pLen])]
  refine leafT fun q => ?_
  rw [hS, hA, hB, hD, hO] at q
  clear hS hy
  grind [pLt, pLe, pGt, pGe, pEq, pNe, pNot, pAndB, pBeq, pInt, pLen, inF, pIn, pTo, pNat]

end Go.Proofs.YtkhnakdmkhidbaaDoor
