/- Functions of the store meet their contracts. No condition. -/
import Derived.Test.YtkhnakdmkhidbaaDoorJ1
import Derived.Test.YtkhnakdmkhidbaaDoorJ3
import Derived.Test.YtkhnakdmkhidbaaDoorJ2

/- Contracts, and what the evaluator says, as plain propositions: SvI. Printed by vc.py. -/
namespace Go.Proofs.YtkhnakdmkhidbaaDoor
open Go.RowKit Go.ChangeShapes Go.WideShapes Go.Deep

def cinsA : Ctr := shCtr ⟨[.one (.own 0), .one (.rd tI), .one (.own 1)], [.row tyItem, .row tyItem]⟩ (fun x => [x.1.2.1 = pInt (pLen x.2.1), pLen x.2.2.1 = 1, pRoom (pPlus (pLen x.2.1) 1) 24]) [0] [.slot 0 true tyItem] (fun x => (pIns x.2.1 (pNat x.1.2.1) (pGet tyItem x.2.2.1 0), ()))
def cinsI : Ctr := shCtr ⟨[.one (.own 0), .one (.rd tI), .one (.own 1)], [.row tyItem, .row tyItem]⟩ (fun x => [pTo x.1.2.1 (pLen x.2.1), pLen x.2.2.1 = 1, pRoom (pPlus (pLen x.2.1) 1) 24]) [0] [.slot 0 true tyItem] (fun x => (pIns x.2.1 (pNat x.1.2.1) (pGet tyItem x.2.2.1 0), ()))
def cend1 : Ctr := shCtr ⟨[(.agg [.rd tI, .rd tI, .rd tI, .rd .bool, .rd tI, .rd tI]), .one (.lit (.pt 0 0))], [.box [.rd tI, .rd tI]]⟩ (fun _ => []) [] [.slot 0 false .bool] (fun x => (isT (x.1.1.1, x.1.1.2.1, ()) x.2.1.1 x.2.1.2.1, ()))
def cend2 : Ctr := shCtr ⟨[(.agg [.rd tI, .rd tI, .rd tI]), .one (.lit (.pt 0 0))], [.box [.rd tI, .rd tI]]⟩ (fun _ => []) [] [.slot 0 false .bool] (fun x => (isT (x.1.1.1, x.1.1.2.1, ()) x.2.1.1 x.2.1.2.1, ()))
def cindexTL : Ctr := shCtr ⟨[.one (.rd (.sl tyLock)), .one (.lit (.fn 94 [(0, 0)]))], [.box [.rd tI, .rd tI]]⟩ (fun x => [pLen x.1.1 < 4611686018427387904]) [] [.slot 0 false tI] (fun x => (idxTL x.1.1 x.2.1.1 x.2.1.2.1, ()))
def cindexTD : Ctr := shCtr ⟨[.one (.rd (.sl tyDoubt)), .one (.lit (.fn 96 [(0, 0)]))], [.box [.rd tI, .rd tI]]⟩ (fun x => [pLen x.1.1 < 4611686018427387904]) [] [.slot 0 false tI] (fun x => (idxTD x.1.1 x.2.1.1 x.2.1.2.1, ()))
def cdelTL : Ctr := shCtr ⟨[.one (.own 0), .one (.lit (.fn 94 [(1, 0)]))], [.row tyLock, .box [.rd tI, .rd tI]]⟩ (fun x => [pLen x.2.1 < 4611686018427387904]) [0] [.slot 0 true tyLock] (fun x => (noTL x.2.1 x.2.2.1.1 x.2.2.1.2.1, ()))
def cdelTD : Ctr := shCtr ⟨[.one (.own 0), .one (.lit (.fn 96 [(1, 0)]))], [.row tyDoubt, .box [.rd tI, .rd tI]]⟩ (fun x => [pLen x.2.1 < 4611686018427387904]) [0] [.slot 0 true tyDoubt] (fun x => (noTD x.2.1 x.2.2.1.1 x.2.2.1.2.1, ()))
def cwithItem : Ctr := shCtr ⟨[.one (.rd (.sl tyItem)), .one (.rd tI), .one (.rd tI)], []⟩ (fun x => [pLen x.1.1 < 1000000]) [] [.slot 0 true tyItem] (fun x => (withF x.1.1 x.1.2.1 x.1.2.2.1, ()))
def cEnd : Ctr := shCtr ⟨[pSto, pTxn, .one (.rd .bool)], []⟩ (fun x => [pLen x.1.1.1 < 4611686018427387904, pLen x.1.1.2.1 < 4611686018427387904, pLen x.1.1.2.2.1 < 4611686018427387904, pLen x.1.1.2.2.2.1 < 4611686018427387904, pRoom (pLen x.1.1.1) 24, pRoom (pLen x.1.1.2.1) 48, pRoom (pLen x.1.1.2.2.1) 24, pRoom (pLen x.1.1.2.2.2.1) 16]) [] [.agg 0 vSto, .slot 1 false tI] (fun x => (endS x.1.1 x.1.2.1 x.1.2.2.1, endE x.1.1 x.1.2.1, ()))
def cEndOf : Ctr := shCtr ⟨[pSto, pTxn, .one (.rd .bool)], []⟩ (fun x => [pLen x.1.1.1 < 4611686018427387904, pLen x.1.1.2.1 < 4611686018427387904, pLen x.1.1.2.2.1 < 4611686018427387904, pLen x.1.1.2.2.2.1 < 4611686018427387904, pRoom (pLen x.1.1.1) 24, pRoom (pLen x.1.1.2.1) 48, pRoom (pLen x.1.1.2.2.1) 24, pRoom (pLen x.1.1.2.2.2.1) 16]) [] [.agg 0 vSto, .slot 1 false tI] (fun x => (endS x.1.1 x.1.2.1 x.1.2.2.1, endE x.1.1 x.1.2.1, ()))

def insA_VC (l : List ItemD) (i : Int) (v : List ItemD) : Prop :=
  pTo i (pLen l) ∧ bif pEq (pInt (pLen v)) (0 : Int) then (l, ()) = (pIns l (pNat i) (pGet tyItem v 0), ()) else bif pEq i (pInt (pLen l)) then pRoom (pPlus (pLen l) (pLen v)) 24 ∧ (pApp l v, ()) = (pIns l (pNat i) (pGet
    tyItem v 0), ()) else False
set_option maxRecDepth 100000 in
theorem insA_meets  (h : ∀ (l : List ItemD) (i : Int) (v : List ItemD), (∀ p ∈ (fun x => [x.1.2.1 = pInt (pLen x.2.1), pLen x.2.2.1 = 1, pRoom (pPlus (pLen x.2.1) 1) 24] : Shape.den ⟨[.one (.own 0), .one (.rd tI), .one (.own 1)], [.row tyItem, .row tyItem]⟩ → List Prop) ⟨((), i, (), ()), (l, v, ())⟩, p) → insA_VC l i v) : Meets Tryd.prog (fun _ => none) 92 cinsA :=
  meets_vc (E := envOf Tryd.prog [] [28, 103, 105, 107]) (envOf_ok (fun p hp => by cases hp) (by kernel_rfl)) ⟨[.one (.own 0), .one (.rd tI), .one (.own 1)], [.row tyItem, .row tyItem]⟩ (fun x => fun ky9 st9 => look [] ky9) Tryd.func92 (by kernel_rfl) (by kernel_rfl) (fun x => [x.1.2.1 = pInt (pLen x.2.1), pLen x.2.2.1 = 1, pRoom (pPlus (pLen x.2.1) 1) 24]) [0] [.slot 0 true tyItem] (fun x => (pIns x.2.1 (pNat x.1.2.1) (pGet tyItem x.2.2.1 0), ())) (fun x => insA_VC x.2.1 x.1.2.1 x.2.2.1) (fun x => by kernel_rfl) (fun x hp => h x.2.1 x.1.2.1 x.2.2.1 hp)

def end1_VC (xs : Int) (xn : Int) (xk : Int) (xw : Bool) (xv : Int) (xq : Int) (a : Int) (b : Int) : Prop :=
  (pAndB (pEq xs a) (pEq xn b), ()) = (isT (xs, xn, ()) a b, ())
set_option maxRecDepth 100000 in
theorem end1_meets  (h : ∀ (xs : Int) (xn : Int) (xk : Int) (xw : Bool) (xv : Int) (xq : Int) (a : Int) (b : Int), end1_VC xs xn xk xw xv xq a b) : Meets Tryd.prog (fun _ => none) 94 cend1 :=
  meets_vc (E := envOf Tryd.prog [] [28, 103, 105, 107]) (envOf_ok (fun p hp => by cases hp) (by kernel_rfl)) ⟨[(.agg [.rd tI, .rd tI, .rd tI, .rd .bool, .rd tI, .rd tI]), .one (.lit (.pt 0 0))], [.box [.rd tI, .rd tI]]⟩ (fun x => fun ky9 st9 => look [] ky9) Tryd.func94 (by kernel_rfl) (by kernel_rfl) (fun _ => []) [] [.slot 0 false .bool] (fun x => (isT (x.1.1.1, x.1.1.2.1, ()) x.2.1.1 x.2.1.2.1, ())) (fun x => end1_VC x.1.1.1 x.1.1.2.1 x.1.1.2.2.1 x.1.1.2.2.2.1 x.1.1.2.2.2.2.1 x.1.1.2.2.2.2.2.1 x.2.1.1 x.2.1.2.1) (fun x => by kernel_rfl) (fun x _ => h x.1.1.1 x.1.1.2.1 x.1.1.2.2.1 x.1.1.2.2.2.1 x.1.1.2.2.2.2.1 x.1.1.2.2.2.2.2.1 x.2.1.1 x.2.1.2.1)

def end2_VC (xs : Int) (xn : Int) (xg : Int) (a : Int) (b : Int) : Prop :=
  (pAndB (pEq xs a) (pEq xn b), ()) = (isT (xs, xn, ()) a b, ())
set_option maxRecDepth 100000 in
theorem end2_meets  (h : ∀ (xs : Int) (xn : Int) (xg : Int) (a : Int) (b : Int), end2_VC xs xn xg a b) : Meets Tryd.prog (fun _ => none) 96 cend2 :=
  meets_vc (E := envOf Tryd.prog [] [28, 103, 105, 107]) (envOf_ok (fun p hp => by cases hp) (by kernel_rfl)) ⟨[(.agg [.rd tI, .rd tI, .rd tI]), .one (.lit (.pt 0 0))], [.box [.rd tI, .rd tI]]⟩ (fun x => fun ky9 st9 => look [] ky9) Tryd.func96 (by kernel_rfl) (by kernel_rfl) (fun _ => []) [] [.slot 0 false .bool] (fun x => (isT (x.1.1.1, x.1.1.2.1, ()) x.2.1.1 x.2.1.2.1, ())) (fun x => end2_VC x.1.1.1 x.1.1.2.1 x.1.1.2.2.1 x.2.1.1 x.2.1.2.1) (fun x => by kernel_rfl) (fun x _ => h x.1.1.1 x.1.1.2.1 x.1.1.2.2.1 x.2.1.1 x.2.1.2.1)

def indexTL_VC (l : (List LockD)) (a : Int) (b : Int) : Prop :=
  indexTLInv l a b ((0 : Int), ()) ∧ ∀ (y : kden Bool.false tI × PUnit), indexTLInv l a b y → bif pLt y.1 (pInt (pLen l)) then pIn y.1 (pLen l) ∧ bif isT ((pGet tyLock l (pNat y.1)).1, (pGet tyLock l (pNat y.1)).2.1, ()) a
    b then (y.1, ()) = (idxTL l a b, ()) else indexTLInv l a b (pAdd IntKind.i64 y.1 (1 : Int), ()) ∧ Nat.le (Nat.succ (indexTLMu l a b (pAdd IntKind.i64 y.1 (1 : Int), ()))) (indexTLMu l a b y) else ((-1 : Int), ()) =
    (idxTL l a b, ())
set_option maxRecDepth 100000 in
theorem indexTL_meets (hend1 : Meets Tryd.prog (fun _ => none) 94 cend1) (h : ∀ (l : (List LockD)) (a : Int) (b : Int), (∀ p ∈ (fun x => [pLen x.1.1 < 4611686018427387904] : Shape.den ⟨[.one (.rd (.sl tyLock)), .one (.lit (.fn 94 [(0, 0)]))], [.box [.rd tI, .rd tI]]⟩ → List Prop) ⟨(l, (), ()), ((a, b, ()), ())⟩, p) → indexTL_VC l a b) : Meets Tryd.prog (fun _ => none) 107 cindexTL :=
  meets_vc (E := envOf Tryd.prog [(94, (false, cend1))] [28, 103, 105, 107]) (envOf_ok (fun p hp => (by simp only [List.mem_cons, List.not_mem_nil, or_false] at hp; rcases hp with rfl; exact hend1)) (by kernel_rfl)) ⟨[.one (.rd (.sl tyLock)), .one (.lit (.fn 94 [(0, 0)]))], [.box [.rd tI, .rd tI]]⟩ (fun x => fun ky9 st9 => look [(2, (⟨[.slot 8 false tI], indexTLInv x.1.1 x.2.1.1 x.2.1.2.1, indexTLMu x.1.1 x.2.1.1 x.2.1.2.1⟩ : Ann))] ky9) Tryd.func107 (by kernel_rfl) (by kernel_rfl) (fun x => [pLen x.1.1 < 4611686018427387904]) [] [.slot 0 false tI] (fun x => (idxTL x.1.1 x.2.1.1 x.2.1.2.1, ())) (fun x => indexTL_VC x.1.1 x.2.1.1 x.2.1.2.1) (fun x => by kernel_rfl) (fun x hp => h x.1.1 x.2.1.1 x.2.1.2.1 hp)

def indexTD_VC (l : (List DoubtD)) (a : Int) (b : Int) : Prop :=
  indexTDInv l a b ((0 : Int), ()) ∧ ∀ (y : kden Bool.false tI × PUnit), indexTDInv l a b y → bif pLt y.1 (pInt (pLen l)) then pIn y.1 (pLen l) ∧ bif isT ((pGet tyItem l (pNat y.1)).1, (pGet tyItem l (pNat y.1)).2.1, ()) a
    b then (y.1, ()) = (idxTD l a b, ()) else indexTDInv l a b (pAdd IntKind.i64 y.1 (1 : Int), ()) ∧ Nat.le (Nat.succ (indexTDMu l a b (pAdd IntKind.i64 y.1 (1 : Int), ()))) (indexTDMu l a b y) else ((-1 : Int), ()) =
    (idxTD l a b, ())
set_option maxRecDepth 100000 in
theorem indexTD_meets (hend2 : Meets Tryd.prog (fun _ => none) 96 cend2) (h : ∀ (l : (List DoubtD)) (a : Int) (b : Int), (∀ p ∈ (fun x => [pLen x.1.1 < 4611686018427387904] : Shape.den ⟨[.one (.rd (.sl tyDoubt)), .one (.lit (.fn 96 [(0, 0)]))], [.box [.rd tI, .rd tI]]⟩ → List Prop) ⟨(l, (), ()), ((a, b, ()), ())⟩, p) → indexTD_VC l a b) : Meets Tryd.prog (fun _ => none) 116 cindexTD :=
  meets_vc (E := envOf Tryd.prog [(96, (false, cend2))] [28, 103, 105, 107]) (envOf_ok (fun p hp => (by simp only [List.mem_cons, List.not_mem_nil, or_false] at hp; rcases hp with rfl; exact hend2)) (by kernel_rfl)) ⟨[.one (.rd (.sl tyDoubt)), .one (.lit (.fn 96 [(0, 0)]))], [.box [.rd tI, .rd tI]]⟩ (fun x => fun ky9 st9 => look [(2, (⟨[.slot 8 false tI], indexTDInv x.1.1 x.2.1.1 x.2.1.2.1, indexTDMu x.1.1 x.2.1.1 x.2.1.2.1⟩ : Ann))] ky9) Tryd.func116 (by kernel_rfl) (by kernel_rfl) (fun x => [pLen x.1.1 < 4611686018427387904]) [] [.slot 0 false tI] (fun x => (idxTD x.1.1 x.2.1.1 x.2.1.2.1, ())) (fun x => indexTD_VC x.1.1 x.2.1.1 x.2.1.2.1) (fun x => by kernel_rfl) (fun x hp => h x.1.1 x.2.1.1 x.2.1.2.1 hp)

def delTL_VC (l : List LockD) (a b : Int) : Prop :=
  Nat.le (Nat.succ (pLen l)) 4611686018427387904 ∧ bif pEq (idxTL l a b) (-1 : Int) then (l, ()) = (noTL l a b, ()) else delTLInv l a b (pAdd IntKind.i64 (idxTL l a b) (1 : Int), idxTL l a b, l, ()) ∧ ∀ (y : kden
    Bool.false tI × kden Bool.false tI × List (Ty.den tyLock) × PUnit), delTLInv l a b y → bif pLt y.1 (pInt (pLen y.2.2.1)) then pIn y.1 (pLen y.2.2.1) ∧ bif pNot (isT ((pGet tyLock y.2.2.1 (pNat y.1)).1, (pGet tyLock
    y.2.2.1 (pNat y.1)).2.1, ()) a b) then pIn y.2.1 (pLen y.2.2.1) ∧ delTLInv l a b (pAdd IntKind.i64 y.1 (1 : Int), pAdd IntKind.i64 y.2.1 (1 : Int), pSet y.2.2.1 (pNat y.2.1) ((pGet tyLock y.2.2.1 (pNat y.1)).1, (pGet
    tyLock y.2.2.1 (pNat y.1)).2.1, (pGet tyLock y.2.2.1 (pNat y.1)).2.2.1, (pGet tyLock y.2.2.1 (pNat y.1)).2.2.2.1, (pGet tyLock y.2.2.1 (pNat y.1)).2.2.2.2.1, (pGet tyLock y.2.2.1 (pNat y.1)).2.2.2.2.2.1, ()), ()) ∧
    Nat.le (Nat.succ (delTLMu l a b (pAdd IntKind.i64 y.1 (1 : Int), pAdd IntKind.i64 y.2.1 (1 : Int), pSet y.2.2.1 (pNat y.2.1) ((pGet tyLock y.2.2.1 (pNat y.1)).1, (pGet tyLock y.2.2.1 (pNat y.1)).2.1, (pGet tyLock y.2.2.1
    (pNat y.1)).2.2.1, (pGet tyLock y.2.2.1 (pNat y.1)).2.2.2.1, (pGet tyLock y.2.2.1 (pNat y.1)).2.2.2.2.1, (pGet tyLock y.2.2.1 (pNat y.1)).2.2.2.2.2.1, ()), ()))) (delTLMu l a b y) else delTLInv l a b (pAdd IntKind.i64
    y.1 (1 : Int), y.2.1, y.2.2.1, ()) ∧ Nat.le (Nat.succ (delTLMu l a b (pAdd IntKind.i64 y.1 (1 : Int), y.2.1, y.2.2.1, ()))) (delTLMu l a b y) else pTo y.2.1 (pLen y.2.2.1) ∧ pBelow (pNat y.2.1) (pLen y.2.2.1) ∧ pTo y.2.1
    (pLen (pClr y.2.2.1 (pNat y.2.1) ((0 : Int), (0 : Int), (0 : Int), Bool.false, (0 : Int), (0 : Int), ()))) ∧ (pSub (pClr y.2.2.1 (pNat y.2.1) ((0 : Int), (0 : Int), (0 : Int), Bool.false, (0 : Int), (0 : Int), ())) 0
    (pNat y.2.1), ()) = (noTL l a b, ())
set_option maxRecDepth 100000 in
theorem delTL_meets (hend1 : Meets Tryd.prog (fun _ => none) 94 cend1) (hindexTL : Meets Tryd.prog (fun _ => none) 107 cindexTL) (h : ∀ (l : List LockD) (a b : Int), (∀ p ∈ (fun x => [pLen x.2.1 < 4611686018427387904] : Shape.den ⟨[.one (.own 0), .one (.lit (.fn 94 [(1, 0)]))], [.row tyLock, .box [.rd tI, .rd tI]]⟩ → List Prop) ⟨((), (), ()), (l, (a, b, ()), ())⟩, p) → delTL_VC l a b) : Meets Tryd.prog (fun _ => none) 93 cdelTL :=
  meets_vc (E := envOf Tryd.prog [(94, (false, cend1)), (107, (false, cindexTL))] [28, 103, 105, 107]) (envOf_ok (fun p hp => (by simp only [List.mem_cons, List.not_mem_nil, or_false] at hp; rcases hp with rfl | rfl; exact hend1; exact hindexTL)) (by kernel_rfl)) ⟨[.one (.own 0), .one (.lit (.fn 94 [(1, 0)]))], [.row tyLock, .box [.rd tI, .rd tI]]⟩ (fun x => fun ky9 st9 => look [(5, (⟨[.slot 6 false tI, .slot 5 false tI, .row 0 tyLock], delTLInv x.2.1 x.2.2.1.1 x.2.2.1.2.1, delTLMu x.2.1 x.2.2.1.1 x.2.2.1.2.1⟩ : Ann))] ky9) Tryd.func93 (by kernel_rfl) (by kernel_rfl) (fun x => [pLen x.2.1 < 4611686018427387904]) [0] [.slot 0 true tyLock] (fun x => (noTL x.2.1 x.2.2.1.1 x.2.2.1.2.1, ())) (fun x => delTL_VC x.2.1 x.2.2.1.1 x.2.2.1.2.1) (fun x => by kernel_rfl) (fun x hp => h x.2.1 x.2.2.1.1 x.2.2.1.2.1 hp)

def delTD_VC (l : List DoubtD) (a b : Int) : Prop :=
  Nat.le (Nat.succ (pLen l)) 4611686018427387904 ∧ bif pEq (idxTD l a b) (-1 : Int) then (l, ()) = (noTD l a b, ()) else delTDInv l a b (pAdd IntKind.i64 (idxTD l a b) (1 : Int), idxTD l a b, l, ()) ∧ ∀ (y : kden
    Bool.false tI × kden Bool.false tI × List (Ty.den tyDoubt) × PUnit), delTDInv l a b y → bif pLt y.1 (pInt (pLen y.2.2.1)) then pIn y.1 (pLen y.2.2.1) ∧ bif pNot (isT ((pGet tyItem y.2.2.1 (pNat y.1)).1, (pGet tyItem
    y.2.2.1 (pNat y.1)).2.1, ()) a b) then pIn y.2.1 (pLen y.2.2.1) ∧ delTDInv l a b (pAdd IntKind.i64 y.1 (1 : Int), pAdd IntKind.i64 y.2.1 (1 : Int), pSet y.2.2.1 (pNat y.2.1) ((pGet tyItem y.2.2.1 (pNat y.1)).1, (pGet
    tyItem y.2.2.1 (pNat y.1)).2.1, (pGet tyItem y.2.2.1 (pNat y.1)).2.2.1, ()), ()) ∧ Nat.le (Nat.succ (delTDMu l a b (pAdd IntKind.i64 y.1 (1 : Int), pAdd IntKind.i64 y.2.1 (1 : Int), pSet y.2.2.1 (pNat y.2.1) ((pGet
    tyItem y.2.2.1 (pNat y.1)).1, (pGet tyItem y.2.2.1 (pNat y.1)).2.1, (pGet tyItem y.2.2.1 (pNat y.1)).2.2.1, ()), ()))) (delTDMu l a b y) else delTDInv l a b (pAdd IntKind.i64 y.1 (1 : Int), y.2.1, y.2.2.1, ()) ∧ Nat.le
    (Nat.succ (delTDMu l a b (pAdd IntKind.i64 y.1 (1 : Int), y.2.1, y.2.2.1, ()))) (delTDMu l a b y) else pTo y.2.1 (pLen y.2.2.1) ∧ pBelow (pNat y.2.1) (pLen y.2.2.1) ∧ pTo y.2.1 (pLen (pClr y.2.2.1 (pNat y.2.1) ((0 :
    Int), (0 : Int), (0 : Int), ()))) ∧ (pSub (pClr y.2.2.1 (pNat y.2.1) ((0 : Int), (0 : Int), (0 : Int), ())) 0 (pNat y.2.1), ()) = (noTD l a b, ())
set_option maxRecDepth 100000 in
theorem delTD_meets (hend2 : Meets Tryd.prog (fun _ => none) 96 cend2) (hindexTD : Meets Tryd.prog (fun _ => none) 116 cindexTD) (h : ∀ (l : List DoubtD) (a b : Int), (∀ p ∈ (fun x => [pLen x.2.1 < 4611686018427387904] : Shape.den ⟨[.one (.own 0), .one (.lit (.fn 96 [(1, 0)]))], [.row tyDoubt, .box [.rd tI, .rd tI]]⟩ → List Prop) ⟨((), (), ()), (l, (a, b, ()), ())⟩, p) → delTD_VC l a b) : Meets Tryd.prog (fun _ => none) 95 cdelTD :=
  meets_vc (E := envOf Tryd.prog [(96, (false, cend2)), (116, (false, cindexTD))] [28, 103, 105, 107]) (envOf_ok (fun p hp => (by simp only [List.mem_cons, List.not_mem_nil, or_false] at hp; rcases hp with rfl | rfl; exact hend2; exact hindexTD)) (by kernel_rfl)) ⟨[.one (.own 0), .one (.lit (.fn 96 [(1, 0)]))], [.row tyDoubt, .box [.rd tI, .rd tI]]⟩ (fun x => fun ky9 st9 => look [(5, (⟨[.slot 6 false tI, .slot 5 false tI, .row 0 tyDoubt], delTDInv x.2.1 x.2.2.1.1 x.2.2.1.2.1, delTDMu x.2.1 x.2.2.1.1 x.2.2.1.2.1⟩ : Ann))] ky9) Tryd.func95 (by kernel_rfl) (by kernel_rfl) (fun x => [pLen x.2.1 < 4611686018427387904]) [0] [.slot 0 true tyDoubt] (fun x => (noTD x.2.1 x.2.2.1.1 x.2.2.1.2.1, ())) (fun x => delTD_VC x.2.1 x.2.2.1.1 x.2.2.1.2.1) (fun x => by kernel_rfl) (fun x hp => h x.2.1 x.2.2.1.1 x.2.2.1.2.1 hp)

def withItem_VC (l : (List ItemD)) (k : Int) (v : Int) : Prop :=
  withIInv l k v ((0 : Int), [], Bool.false, ()) ∧ ∀ (y : kden Bool.false tI × kden Bool.true tyItem × kden Bool.false Ty.bool × PUnit), withIInv l k v y → bif pLt y.1 (pInt (pLen l)) then pIn y.1 (pLen l) ∧ bif pEq (pGet
    tyItem l (pNat y.1)).1 k then pIn y.1 (pLen l) ∧ pRoom (pPlus (pLen y.2.1) (pLen [(k, v, pAdd IntKind.i64 (pGet tyItem l (pNat y.1)).2.2.1 (1 : Int), ())])) 24 ∧ withIInv l k v (pAdd IntKind.i64 y.1 (1 : Int), pApp y.2.1
    [(k, v, pAdd IntKind.i64 (pGet tyItem l (pNat y.1)).2.2.1 (1 : Int), ())], Bool.true, ()) ∧ Nat.le (Nat.succ (withIMu l k v (pAdd IntKind.i64 y.1 (1 : Int), pApp y.2.1 [(k, v, pAdd IntKind.i64 (pGet tyItem l (pNat
    y.1)).2.2.1 (1 : Int), ())], Bool.true, ()))) (withIMu l k v y) else pIn y.1 (pLen l) ∧ bif pGt (pGet tyItem l (pNat y.1)).1 k then bif pNot y.2.2.1 then pRoom (pPlus (pLen y.2.1) (pLen [(k, v, (1 : Int), ())])) 24 ∧ pIn
    y.1 (pLen l) ∧ pRoom (pPlus (pLen (pApp y.2.1 [(k, v, (1 : Int), ())])) (pLen [((pGet tyItem l (pNat y.1)).1, (pGet tyItem l (pNat y.1)).2.1, (pGet tyItem l (pNat y.1)).2.2.1, ())])) 24 ∧ withIInv l k v (pAdd IntKind.i64
    y.1 (1 : Int), pApp (pApp y.2.1 [(k, v, (1 : Int), ())]) [((pGet tyItem l (pNat y.1)).1, (pGet tyItem l (pNat y.1)).2.1, (pGet tyItem l (pNat y.1)).2.2.1, ())], Bool.true, ()) ∧ Nat.le (Nat.succ (withIMu l k v (pAdd
    IntKind.i64 y.1 (1 : Int), pApp (pApp y.2.1 [(k, v, (1 : Int), ())]) [((pGet tyItem l (pNat y.1)).1, (pGet tyItem l (pNat y.1)).2.1, (pGet tyItem l (pNat y.1)).2.2.1, ())], Bool.true, ()))) (withIMu l k v y) else pIn y.1
    (pLen l) ∧ pRoom (pPlus (pLen y.2.1) (pLen [((pGet tyItem l (pNat y.1)).1, (pGet tyItem l (pNat y.1)).2.1, (pGet tyItem l (pNat y.1)).2.2.1, ())])) 24 ∧ withIInv l k v (pAdd IntKind.i64 y.1 (1 : Int), pApp y.2.1 [((pGet
    tyItem l (pNat y.1)).1, (pGet tyItem l (pNat y.1)).2.1, (pGet tyItem l (pNat y.1)).2.2.1, ())], y.2.2.1, ()) ∧ Nat.le (Nat.succ (withIMu l k v (pAdd IntKind.i64 y.1 (1 : Int), pApp y.2.1 [((pGet tyItem l (pNat y.1)).1,
    (pGet tyItem l (pNat y.1)).2.1, (pGet tyItem l (pNat y.1)).2.2.1, ())], y.2.2.1, ()))) (withIMu l k v y) else pIn y.1 (pLen l) ∧ pRoom (pPlus (pLen y.2.1) (pLen [((pGet tyItem l (pNat y.1)).1, (pGet tyItem l (pNat
    y.1)).2.1, (pGet tyItem l (pNat y.1)).2.2.1, ())])) 24 ∧ withIInv l k v (pAdd IntKind.i64 y.1 (1 : Int), pApp y.2.1 [((pGet tyItem l (pNat y.1)).1, (pGet tyItem l (pNat y.1)).2.1, (pGet tyItem l (pNat y.1)).2.2.1, ())],
    y.2.2.1, ()) ∧ Nat.le (Nat.succ (withIMu l k v (pAdd IntKind.i64 y.1 (1 : Int), pApp y.2.1 [((pGet tyItem l (pNat y.1)).1, (pGet tyItem l (pNat y.1)).2.1, (pGet tyItem l (pNat y.1)).2.2.1, ())], y.2.2.1, ()))) (withIMu l
    k v y) else bif pNot y.2.2.1 then pRoom (pPlus (pLen y.2.1) (pLen [(k, v, (1 : Int), ())])) 24 ∧ (pApp y.2.1 [(k, v, (1 : Int), ())], ()) = (withF l k v, ()) else (y.2.1, ()) = (withF l k v, ())
set_option maxRecDepth 100000 in
theorem withItem_meets  (h : ∀ (l : (List ItemD)) (k : Int) (v : Int), (∀ p ∈ (fun x => [pLen x.1.1 < 1000000] : Shape.den ⟨[.one (.rd (.sl tyItem)), .one (.rd tI), .one (.rd tI)], []⟩ → List Prop) ⟨(l, k, v, ()), ()⟩, p) → withItem_VC l k v) : Meets Tryd.prog (fun _ => none) 74 cwithItem :=
  meets_vc (E := envOf Tryd.prog [] [28, 103, 105, 107]) (envOf_ok (fun p hp => by cases hp) (by kernel_rfl)) ⟨[.one (.rd (.sl tyItem)), .one (.rd tI), .one (.rd tI)], []⟩ (fun x => fun ky9 st9 => look [(4, (⟨[.slot 9 false tI, .slot 7 true tyItem, .slot 8 false .bool], withIInv x.1.1 x.1.2.1 x.1.2.2.1, withIMu x.1.1 x.1.2.1 x.1.2.2.1⟩ : Ann))] ky9) Tryd.func74 (by kernel_rfl) (by kernel_rfl) (fun x => [pLen x.1.1 < 1000000]) [] [.slot 0 true tyItem] (fun x => (withF x.1.1 x.1.2.1 x.1.2.2.1, ())) (fun x => withItem_VC x.1.1 x.1.2.1 x.1.2.2.1) (fun x => by kernel_rfl) (fun x hp => h x.1.1 x.1.2.1 x.1.2.2.1 hp)

def End_VC (si : (List ItemD)) (sl : (List LockD)) (sd : (List DoubtD)) (so : (List TxnD)) (ts : Int) (tn : Int) (g : Bool) : Prop :=
  Nat.le (Nat.succ (pLen si)) 4611686018427387904 ∧ Nat.le (Nat.succ (pLen sl)) 4611686018427387904 ∧ Nat.le (Nat.succ (pLen sd)) 4611686018427387904 ∧ Nat.le (Nat.succ (pLen so)) 4611686018427387904 ∧ bif pNe (askE (si,
    sl, sd, so, ()) (ts, tn, ()) (0 : Int)) (0 : Int) then (([], [], [], [], ()), askE (si, sl, sd, so, ()) (ts, tn, ()) (0 : Int), ()) = (endS (si, sl, sd, so, ()) (ts, tn, ()) g, endE (si, sl, sd, so, ()) (ts, tn, ()), ())
    else pRoom (pLen si) 24 ∧ pRoom (pLen sl) 48 ∧ pRoom (pLen sd) 24 ∧ pRoom (pLen so) 16 ∧ endAInv si sl sd so ts tn g ((0 : Int), (si, sl, sd, so, ()), ()) ∧ ∀ (y : kden Bool.false tI × denCells vSto × PUnit), endAInv si
    sl sd so ts tn g y → bif pLt y.1 (pInt (pLen sl)) then pIn y.1 (pLen sl) ∧ bif pNot (pAndB (pEq (pGet tyLock sl (pNat y.1)).1 ts) (pEq (pGet tyLock sl (pNat y.1)).2.1 tn)) then endAInv si sl sd so ts tn g (pAdd
    IntKind.i64 y.1 (1 : Int), (y.2.1.1, y.2.1.2.1, y.2.1.2.2.1, y.2.1.2.2.2.1, ()), ()) ∧ Nat.le (Nat.succ (endAMu si sl sd so ts tn g (pAdd IntKind.i64 y.1 (1 : Int), (y.2.1.1, y.2.1.2.1, y.2.1.2.2.1, y.2.1.2.2.2.1, ()),
    ()))) (endAMu si sl sd so ts tn g y) else bif pNot (pGet tyLock sl (pNat y.1)).2.2.2.1 then endAInv si sl sd so ts tn g (pAdd IntKind.i64 y.1 (1 : Int), (y.2.1.1, y.2.1.2.1, y.2.1.2.2.1, y.2.1.2.2.2.1, ()), ()) ∧ Nat.le
    (Nat.succ (endAMu si sl sd so ts tn g (pAdd IntKind.i64 y.1 (1 : Int), (y.2.1.1, y.2.1.2.1, y.2.1.2.2.1, y.2.1.2.2.2.1, ()), ()))) (endAMu si sl sd so ts tn g y) else bif pNot g then endAInv si sl sd so ts tn g (pAdd
    IntKind.i64 y.1 (1 : Int), (y.2.1.1, y.2.1.2.1, y.2.1.2.2.1, y.2.1.2.2.2.1, ()), ()) ∧ Nat.le (Nat.succ (endAMu si sl sd so ts tn g (pAdd IntKind.i64 y.1 (1 : Int), (y.2.1.1, y.2.1.2.1, y.2.1.2.2.1, y.2.1.2.2.2.1, ()),
    ()))) (endAMu si sl sd so ts tn g y) else Nat.le (Nat.succ (pLen y.2.1.1)) 4611686018427387904 ∧ sortF y.2.1.1 = Bool.true ∧ bif pNot (pGe (idxKeyF y.2.1.1 (pGet tyLock sl (pNat y.1)).2.2.1) (0 : Int)) then pTo (posF
    y.2.1.1 (pGet tyLock sl (pNat y.1)).2.2.1) (pLen y.2.1.1) ∧ pLen [((pGet tyLock sl (pNat y.1)).2.2.1, (0 : Int), (0 : Int), ())] = 1 ∧ pRoom (pPlus (pLen y.2.1.1) 1) 24 ∧ pIn (posF y.2.1.1 (pGet tyLock sl (pNat
    y.1)).2.2.1) (pLen (pIns y.2.1.1 (pNat (posF y.2.1.1 (pGet tyLock sl (pNat y.1)).2.2.1)) (pGet tyItem [((pGet tyLock sl (pNat y.1)).2.2.1, (0 : Int), (0 : Int), ())] 0))) ∧ pIn (posF y.2.1.1 (pGet tyLock sl (pNat
    y.1)).2.2.1) (pLen (pSet (pIns y.2.1.1 (pNat (posF y.2.1.1 (pGet tyLock sl (pNat y.1)).2.2.1)) (pGet tyItem [((pGet tyLock sl (pNat y.1)).2.2.1, (0 : Int), (0 : Int), ())] 0)) (pNat (posF y.2.1.1 (pGet tyLock sl (pNat
    y.1)).2.2.1)) ((pGet tyItem (pIns y.2.1.1 (pNat (posF y.2.1.1 (pGet tyLock sl (pNat y.1)).2.2.1)) (pGet tyItem [((pGet tyLock sl (pNat y.1)).2.2.1, (0 : Int), (0 : Int), ())] 0)) (pNat (posF y.2.1.1 (pGet tyLock sl (pNat
    y.1)).2.2.1))).1, (pGet tyLock sl (pNat y.1)).2.2.2.2.1, (pGet tyItem (pIns y.2.1.1 (pNat (posF y.2.1.1 (pGet tyLock sl (pNat y.1)).2.2.1)) (pGet tyItem [((pGet tyLock sl (pNat y.1)).2.2.1, (0 : Int), (0 : Int), ())] 0))
    (pNat (posF y.2.1.1 (pGet tyLock sl (pNat y.1)).2.2.1))).2.2.1, ()))) ∧ pIn (posF y.2.1.1 (pGet tyLock sl (pNat y.1)).2.2.1) (pLen (pSet (pIns y.2.1.1 (pNat (posF y.2.1.1 (pGet tyLock sl (pNat y.1)).2.2.1)) (pGet tyItem
    [((pGet tyLock sl (pNat y.1)).2.2.1, (0 : Int), (0 : Int), ())] 0)) (pNat (posF y.2.1.1 (pGet tyLock sl (pNat y.1)).2.2.1)) ((pGet tyItem (pIns y.2.1.1 (pNat (posF y.2.1.1 (pGet tyLock sl (pNat y.1)).2.2.1)) (pGet tyItem
    [((pGet tyLock sl (pNat y.1)).2.2.1, (0 : Int), (0 : Int), ())] 0)) (pNat (posF y.2.1.1 (pGet tyLock sl (pNat y.1)).2.2.1))).1, (pGet tyLock sl (pNat y.1)).2.2.2.2.1, (pGet tyItem (pIns y.2.1.1 (pNat (posF y.2.1.1 (pGet
    tyLock sl (pNat y.1)).2.2.1)) (pGet tyItem [((pGet tyLock sl (pNat y.1)).2.2.1, (0 : Int), (0 : Int), ())] 0)) (pNat (posF y.2.1.1 (pGet tyLock sl (pNat y.1)).2.2.1))).2.2.1, ()))) ∧ endAInv si sl sd so ts tn g (pAdd
    IntKind.i64 y.1 (1 : Int), (pSet (pSet (pIns y.2.1.1 (pNat (posF y.2.1.1 (pGet tyLock sl (pNat y.1)).2.2.1)) (pGet tyItem [((pGet tyLock sl (pNat y.1)).2.2.1, (0 : Int), (0 : Int), ())] 0)) (pNat (posF y.2.1.1 (pGet
    tyLock sl (pNat y.1)).2.2.1)) ((pGet tyItem (pIns y.2.1.1 (pNat (posF y.2.1.1 (pGet tyLock sl (pNat y.1)).2.2.1)) (pGet tyItem [((pGet tyLock sl (pNat y.1)).2.2.1, (0 : Int), (0 : Int), ())] 0)) (pNat (posF y.2.1.1 (pGet
    tyLock sl (pNat y.1)).2.2.1))).1, (pGet tyLock sl (pNat y.1)).2.2.2.2.1, (pGet tyItem (pIns y.2.1.1 (pNat (posF y.2.1.1 (pGet tyLock sl (pNat y.1)).2.2.1)) (pGet tyItem [((pGet tyLock sl (pNat y.1)).2.2.1, (0 : Int), (0
    : Int), ())] 0)) (pNat (posF y.2.1.1 (pGet tyLock sl (pNat y.1)).2.2.1))).2.2.1, ())) (pNat (posF y.2.1.1 (pGet tyLock sl (pNat y.1)).2.2.1)) ((pGet tyItem (pSet (pIns y.2.1.1 (pNat (posF y.2.1.1 (pGet tyLock sl (pNat
    y.1)).2.2.1)) (pGet tyItem [((pGet tyLock sl (pNat y.1)).2.2.1, (0 : Int), (0 : Int), ())] 0)) (pNat (posF y.2.1.1 (pGet tyLock sl (pNat y.1)).2.2.1)) ((pGet tyItem (pIns y.2.1.1 (pNat (posF y.2.1.1 (pGet tyLock sl (pNat
    y.1)).2.2.1)) (pGet tyItem [((pGet tyLock sl (pNat y.1)).2.2.1, (0 : Int), (0 : Int), ())] 0)) (pNat (posF y.2.1.1 (pGet tyLock sl (pNat y.1)).2.2.1))).1, (pGet tyLock sl (pNat y.1)).2.2.2.2.1, (pGet tyItem (pIns y.2.1.1
    (pNat (posF y.2.1.1 (pGet tyLock sl (pNat y.1)).2.2.1)) (pGet tyItem [((pGet tyLock sl (pNat y.1)).2.2.1, (0 : Int), (0 : Int), ())] 0)) (pNat (posF y.2.1.1 (pGet tyLock sl (pNat y.1)).2.2.1))).2.2.1, ())) (pNat (posF
    y.2.1.1 (pGet tyLock sl (pNat y.1)).2.2.1))).1, (pGet tyItem (pSet (pIns y.2.1.1 (pNat (posF y.2.1.1 (pGet tyLock sl (pNat y.1)).2.2.1)) (pGet tyItem [((pGet tyLock sl (pNat y.1)).2.2.1, (0 : Int), (0 : Int), ())] 0))
    (pNat (posF y.2.1.1 (pGet tyLock sl (pNat y.1)).2.2.1)) ((pGet tyItem (pIns y.2.1.1 (pNat (posF y.2.1.1 (pGet tyLock sl (pNat y.1)).2.2.1)) (pGet tyItem [((pGet tyLock sl (pNat y.1)).2.2.1, (0 : Int), (0 : Int), ())] 0))
    (pNat (posF y.2.1.1 (pGet tyLock sl (pNat y.1)).2.2.1))).1, (pGet tyLock sl (pNat y.1)).2.2.2.2.1, (pGet tyItem (pIns y.2.1.1 (pNat (posF y.2.1.1 (pGet tyLock sl (pNat y.1)).2.2.1)) (pGet tyItem [((pGet tyLock sl (pNat
    y.1)).2.2.1, (0 : Int), (0 : Int), ())] 0)) (pNat (posF y.2.1.1 (pGet tyLock sl (pNat y.1)).2.2.1))).2.2.1, ())) (pNat (posF y.2.1.1 (pGet tyLock sl (pNat y.1)).2.2.1))).2.1, pAdd IntKind.i64 (pGet tyItem (pSet (pIns
    y.2.1.1 (pNat (posF y.2.1.1 (pGet tyLock sl (pNat y.1)).2.2.1)) (pGet tyItem [((pGet tyLock sl (pNat y.1)).2.2.1, (0 : Int), (0 : Int), ())] 0)) (pNat (posF y.2.1.1 (pGet tyLock sl (pNat y.1)).2.2.1)) ((pGet tyItem (pIns
    y.2.1.1 (pNat (posF y.2.1.1 (pGet tyLock sl (pNat y.1)).2.2.1)) (pGet tyItem [((pGet tyLock sl (pNat y.1)).2.2.1, (0 : Int), (0 : Int), ())] 0)) (pNat (posF y.2.1.1 (pGet tyLock sl (pNat y.1)).2.2.1))).1, (pGet tyLock sl
    (pNat y.1)).2.2.2.2.1, (pGet tyItem (pIns y.2.1.1 (pNat (posF y.2.1.1 (pGet tyLock sl (pNat y.1)).2.2.1)) (pGet tyItem [((pGet tyLock sl (pNat y.1)).2.2.1, (0 : Int), (0 : Int), ())] 0)) (pNat (posF y.2.1.1 (pGet tyLock
    sl (pNat y.1)).2.2.1))).2.2.1, ())) (pNat (posF y.2.1.1 (pGet tyLock sl (pNat y.1)).2.2.1))).2.2.1 (1 : Int), ()), y.2.1.2.1, y.2.1.2.2.1, y.2.1.2.2.2.1, ()), ()) ∧ Nat.le (Nat.succ (endAMu si sl sd so ts tn g (pAdd
    IntKind.i64 y.1 (1 : Int), (pSet (pSet (pIns y.2.1.1 (pNat (posF y.2.1.1 (pGet tyLock sl (pNat y.1)).2.2.1)) (pGet tyItem [((pGet tyLock sl (pNat y.1)).2.2.1, (0 : Int), (0 : Int), ())] 0)) (pNat (posF y.2.1.1 (pGet
    tyLock sl (pNat y.1)).2.2.1)) ((pGet tyItem (pIns y.2.1.1 (pNat (posF y.2.1.1 (pGet tyLock sl (pNat y.1)).2.2.1)) (pGet tyItem [((pGet tyLock sl (pNat y.1)).2.2.1, (0 : Int), (0 : Int), ())] 0)) (pNat (posF y.2.1.1 (pGet
    tyLock sl (pNat y.1)).2.2.1))).1, (pGet tyLock sl (pNat y.1)).2.2.2.2.1, (pGet tyItem (pIns y.2.1.1 (pNat (posF y.2.1.1 (pGet tyLock sl (pNat y.1)).2.2.1)) (pGet tyItem [((pGet tyLock sl (pNat y.1)).2.2.1, (0 : Int), (0
    : Int), ())] 0)) (pNat (posF y.2.1.1 (pGet tyLock sl (pNat y.1)).2.2.1))).2.2.1, ())) (pNat (posF y.2.1.1 (pGet tyLock sl (pNat y.1)).2.2.1)) ((pGet tyItem (pSet (pIns y.2.1.1 (pNat (posF y.2.1.1 (pGet tyLock sl (pNat
    y.1)).2.2.1)) (pGet tyItem [((pGet tyLock sl (pNat y.1)).2.2.1, (0 : Int), (0 : Int), ())] 0)) (pNat (posF y.2.1.1 (pGet tyLock sl (pNat y.1)).2.2.1)) ((pGet tyItem (pIns y.2.1.1 (pNat (posF y.2.1.1 (pGet tyLock sl (pNat
    y.1)).2.2.1)) (pGet tyItem [((pGet tyLock sl (pNat y.1)).2.2.1, (0 : Int), (0 : Int), ())] 0)) (pNat (posF y.2.1.1 (pGet tyLock sl (pNat y.1)).2.2.1))).1, (pGet tyLock sl (pNat y.1)).2.2.2.2.1, (pGet tyItem (pIns y.2.1.1
    (pNat (posF y.2.1.1 (pGet tyLock sl (pNat y.1)).2.2.1)) (pGet tyItem [((pGet tyLock sl (pNat y.1)).2.2.1, (0 : Int), (0 : Int), ())] 0)) (pNat (posF y.2.1.1 (pGet tyLock sl (pNat y.1)).2.2.1))).2.2.1, ())) (pNat (posF
    y.2.1.1 (pGet tyLock sl (pNat y.1)).2.2.1))).1, (pGet tyItem (pSet (pIns y.2.1.1 (pNat (posF y.2.1.1 (pGet tyLock sl (pNat y.1)).2.2.1)) (pGet tyItem [((pGet tyLock sl (pNat y.1)).2.2.1, (0 : Int), (0 : Int), ())] 0))
    (pNat (posF y.2.1.1 (pGet tyLock sl (pNat y.1)).2.2.1)) ((pGet tyItem (pIns y.2.1.1 (pNat (posF y.2.1.1 (pGet tyLock sl (pNat y.1)).2.2.1)) (pGet tyItem [((pGet tyLock sl (pNat y.1)).2.2.1, (0 : Int), (0 : Int), ())] 0))
    (pNat (posF y.2.1.1 (pGet tyLock sl (pNat y.1)).2.2.1))).1, (pGet tyLock sl (pNat y.1)).2.2.2.2.1, (pGet tyItem (pIns y.2.1.1 (pNat (posF y.2.1.1 (pGet tyLock sl (pNat y.1)).2.2.1)) (pGet tyItem [((pGet tyLock sl (pNat
    y.1)).2.2.1, (0 : Int), (0 : Int), ())] 0)) (pNat (posF y.2.1.1 (pGet tyLock sl (pNat y.1)).2.2.1))).2.2.1, ())) (pNat (posF y.2.1.1 (pGet tyLock sl (pNat y.1)).2.2.1))).2.1, pAdd IntKind.i64 (pGet tyItem (pSet (pIns
    y.2.1.1 (pNat (posF y.2.1.1 (pGet tyLock sl (pNat y.1)).2.2.1)) (pGet tyItem [((pGet tyLock sl (pNat y.1)).2.2.1, (0 : Int), (0 : Int), ())] 0)) (pNat (posF y.2.1.1 (pGet tyLock sl (pNat y.1)).2.2.1)) ((pGet tyItem (pIns
    y.2.1.1 (pNat (posF y.2.1.1 (pGet tyLock sl (pNat y.1)).2.2.1)) (pGet tyItem [((pGet tyLock sl (pNat y.1)).2.2.1, (0 : Int), (0 : Int), ())] 0)) (pNat (posF y.2.1.1 (pGet tyLock sl (pNat y.1)).2.2.1))).1, (pGet tyLock sl
    (pNat y.1)).2.2.2.2.1, (pGet tyItem (pIns y.2.1.1 (pNat (posF y.2.1.1 (pGet tyLock sl (pNat y.1)).2.2.1)) (pGet tyItem [((pGet tyLock sl (pNat y.1)).2.2.1, (0 : Int), (0 : Int), ())] 0)) (pNat (posF y.2.1.1 (pGet tyLock
    sl (pNat y.1)).2.2.1))).2.2.1, ())) (pNat (posF y.2.1.1 (pGet tyLock sl (pNat y.1)).2.2.1))).2.2.1 (1 : Int), ()), y.2.1.2.1, y.2.1.2.2.1, y.2.1.2.2.2.1, ()), ()))) (endAMu si sl sd so ts tn g y) else pIn (posF y.2.1.1
    (pGet tyLock sl (pNat y.1)).2.2.1) (pLen y.2.1.1) ∧ pIn (posF y.2.1.1 (pGet tyLock sl (pNat y.1)).2.2.1) (pLen (pSet y.2.1.1 (pNat (posF y.2.1.1 (pGet tyLock sl (pNat y.1)).2.2.1)) ((pGet tyItem y.2.1.1 (pNat (posF
    y.2.1.1 (pGet tyLock sl (pNat y.1)).2.2.1))).1, (pGet tyLock sl (pNat y.1)).2.2.2.2.1, (pGet tyItem y.2.1.1 (pNat (posF y.2.1.1 (pGet tyLock sl (pNat y.1)).2.2.1))).2.2.1, ()))) ∧ pIn (posF y.2.1.1 (pGet tyLock sl (pNat
    y.1)).2.2.1) (pLen (pSet y.2.1.1 (pNat (posF y.2.1.1 (pGet tyLock sl (pNat y.1)).2.2.1)) ((pGet tyItem y.2.1.1 (pNat (posF y.2.1.1 (pGet tyLock sl (pNat y.1)).2.2.1))).1, (pGet tyLock sl (pNat y.1)).2.2.2.2.1, (pGet
    tyItem y.2.1.1 (pNat (posF y.2.1.1 (pGet tyLock sl (pNat y.1)).2.2.1))).2.2.1, ()))) ∧ endAInv si sl sd so ts tn g (pAdd IntKind.i64 y.1 (1 : Int), (pSet (pSet y.2.1.1 (pNat (posF y.2.1.1 (pGet tyLock sl (pNat
    y.1)).2.2.1)) ((pGet tyItem y.2.1.1 (pNat (posF y.2.1.1 (pGet tyLock sl (pNat y.1)).2.2.1))).1, (pGet tyLock sl (pNat y.1)).2.2.2.2.1, (pGet tyItem y.2.1.1 (pNat (posF y.2.1.1 (pGet tyLock sl (pNat y.1)).2.2.1))).2.2.1,
    ())) (pNat (posF y.2.1.1 (pGet tyLock sl (pNat y.1)).2.2.1)) ((pGet tyItem (pSet y.2.1.1 (pNat (posF y.2.1.1 (pGet tyLock sl (pNat y.1)).2.2.1)) ((pGet tyItem y.2.1.1 (pNat (posF y.2.1.1 (pGet tyLock sl (pNat
    y.1)).2.2.1))).1, (pGet tyLock sl (pNat y.1)).2.2.2.2.1, (pGet tyItem y.2.1.1 (pNat (posF y.2.1.1 (pGet tyLock sl (pNat y.1)).2.2.1))).2.2.1, ())) (pNat (posF y.2.1.1 (pGet tyLock sl (pNat y.1)).2.2.1))).1, (pGet tyItem
    (pSet y.2.1.1 (pNat (posF y.2.1.1 (pGet tyLock sl (pNat y.1)).2.2.1)) ((pGet tyItem y.2.1.1 (pNat (posF y.2.1.1 (pGet tyLock sl (pNat y.1)).2.2.1))).1, (pGet tyLock sl (pNat y.1)).2.2.2.2.1, (pGet tyItem y.2.1.1 (pNat
    (posF y.2.1.1 (pGet tyLock sl (pNat y.1)).2.2.1))).2.2.1, ())) (pNat (posF y.2.1.1 (pGet tyLock sl (pNat y.1)).2.2.1))).2.1, pAdd IntKind.i64 (pGet tyItem (pSet y.2.1.1 (pNat (posF y.2.1.1 (pGet tyLock sl (pNat
    y.1)).2.2.1)) ((pGet tyItem y.2.1.1 (pNat (posF y.2.1.1 (pGet tyLock sl (pNat y.1)).2.2.1))).1, (pGet tyLock sl (pNat y.1)).2.2.2.2.1, (pGet tyItem y.2.1.1 (pNat (posF y.2.1.1 (pGet tyLock sl (pNat y.1)).2.2.1))).2.2.1,
    ())) (pNat (posF y.2.1.1 (pGet tyLock sl (pNat y.1)).2.2.1))).2.2.1 (1 : Int), ()), y.2.1.2.1, y.2.1.2.2.1, y.2.1.2.2.2.1, ()), ()) ∧ Nat.le (Nat.succ (endAMu si sl sd so ts tn g (pAdd IntKind.i64 y.1 (1 : Int), (pSet
    (pSet y.2.1.1 (pNat (posF y.2.1.1 (pGet tyLock sl (pNat y.1)).2.2.1)) ((pGet tyItem y.2.1.1 (pNat (posF y.2.1.1 (pGet tyLock sl (pNat y.1)).2.2.1))).1, (pGet tyLock sl (pNat y.1)).2.2.2.2.1, (pGet tyItem y.2.1.1 (pNat
    (posF y.2.1.1 (pGet tyLock sl (pNat y.1)).2.2.1))).2.2.1, ())) (pNat (posF y.2.1.1 (pGet tyLock sl (pNat y.1)).2.2.1)) ((pGet tyItem (pSet y.2.1.1 (pNat (posF y.2.1.1 (pGet tyLock sl (pNat y.1)).2.2.1)) ((pGet tyItem
    y.2.1.1 (pNat (posF y.2.1.1 (pGet tyLock sl (pNat y.1)).2.2.1))).1, (pGet tyLock sl (pNat y.1)).2.2.2.2.1, (pGet tyItem y.2.1.1 (pNat (posF y.2.1.1 (pGet tyLock sl (pNat y.1)).2.2.1))).2.2.1, ())) (pNat (posF y.2.1.1
    (pGet tyLock sl (pNat y.1)).2.2.1))).1, (pGet tyItem (pSet y.2.1.1 (pNat (posF y.2.1.1 (pGet tyLock sl (pNat y.1)).2.2.1)) ((pGet tyItem y.2.1.1 (pNat (posF y.2.1.1 (pGet tyLock sl (pNat y.1)).2.2.1))).1, (pGet tyLock sl
    (pNat y.1)).2.2.2.2.1, (pGet tyItem y.2.1.1 (pNat (posF y.2.1.1 (pGet tyLock sl (pNat y.1)).2.2.1))).2.2.1, ())) (pNat (posF y.2.1.1 (pGet tyLock sl (pNat y.1)).2.2.1))).2.1, pAdd IntKind.i64 (pGet tyItem (pSet y.2.1.1
    (pNat (posF y.2.1.1 (pGet tyLock sl (pNat y.1)).2.2.1)) ((pGet tyItem y.2.1.1 (pNat (posF y.2.1.1 (pGet tyLock sl (pNat y.1)).2.2.1))).1, (pGet tyLock sl (pNat y.1)).2.2.2.2.1, (pGet tyItem y.2.1.1 (pNat (posF y.2.1.1
    (pGet tyLock sl (pNat y.1)).2.2.1))).2.2.1, ())) (pNat (posF y.2.1.1 (pGet tyLock sl (pNat y.1)).2.2.1))).2.2.1 (1 : Int), ()), y.2.1.2.1, y.2.1.2.2.1, y.2.1.2.2.2.1, ()), ()))) (endAMu si sl sd so ts tn g y) else Nat.le
    (Nat.succ (pLen y.2.1.2.1)) 4611686018427387904 ∧ Nat.le (Nat.succ (pLen y.2.1.2.2.1)) 4611686018427387904 ∧ Nat.le (Nat.succ (pLen y.2.1.2.2.2.1)) 4611686018427387904 ∧ bif pNot (pGe (idxTxnF y.2.1.2.2.2.1 (ts, tn, ()))
    (0 : Int)) then pRoom (pPlus (pLen y.2.1.2.2.2.1) (pLen [(ts, tn, ())])) 16 ∧ ((y.2.1.1, noTL y.2.1.2.1 ts tn, noTD y.2.1.2.2.1 ts tn, pApp y.2.1.2.2.2.1 [(ts, tn, ())], ()), (0 : Int), ()) = (endS (si, sl, sd, so, ())
    (ts, tn, ()) g, endE (si, sl, sd, so, ()) (ts, tn, ()), ()) else ((y.2.1.1, noTL y.2.1.2.1 ts tn, noTD y.2.1.2.2.1 ts tn, y.2.1.2.2.2.1, ()), (0 : Int), ()) = (endS (si, sl, sd, so, ()) (ts, tn, ()) g, endE (si, sl, sd,
    so, ()) (ts, tn, ()), ())
set_option maxRecDepth 100000 in
theorem End_meets (hcall : Meets Tryd.prog (fun _ => none) 84 ccall) (hown : Meets Tryd.prog (fun _ => none) 87 cown) (hat : Meets Tryd.prog (fun _ => none) 91 cat) (hinsI : Meets Tryd.prog (fun _ => none) 92 cinsI) (hdelTL : Meets Tryd.prog (fun _ => none) 93 cdelTL) (hdelTD : Meets Tryd.prog (fun _ => none) 95 cdelTD) (hContains : Meets Tryd.prog (fun _ => none) 88 cContains) (h : ∀ (si : (List ItemD)) (sl : (List LockD)) (sd : (List DoubtD)) (so : (List TxnD)) (ts : Int) (tn : Int) (g : Bool), (∀ p ∈ (fun x => [pLen x.1.1.1 < 4611686018427387904, pLen x.1.1.2.1 < 4611686018427387904, pLen x.1.1.2.2.1 < 4611686018427387904, pLen x.1.1.2.2.2.1 < 4611686018427387904, pRoom (pLen x.1.1.1) 24, pRoom (pLen x.1.1.2.1) 48, pRoom (pLen x.1.1.2.2.1) 24, pRoom (pLen x.1.1.2.2.2.1) 16] : Shape.den ⟨[pSto, pTxn, .one (.rd .bool)], []⟩ → List Prop) ⟨((si, sl, sd, so, ()), (ts, tn, ()), g, ()), ()⟩, p) → End_VC si sl sd so ts tn g) : Meets Tryd.prog (fun _ => none) 60 cEnd :=
  meets_vc (E := envOf Tryd.prog [(84, (false, ccall)), (87, (false, cown)), (91, (false, cat)), (92, (true, cinsI)), (93, (true, cdelTL)), (95, (true, cdelTD)), (88, (false, cContains))] [28, 103, 105, 107]) (envOf_ok (fun p hp => (by simp only [List.mem_cons, List.not_mem_nil, or_false] at hp; rcases hp with rfl | rfl | rfl | rfl | rfl | rfl | rfl; exact hcall; exact hown; exact hat; exact hinsI; exact hdelTL; exact hdelTD; exact hContains)) (by kernel_rfl)) ⟨[pSto, pTxn, .one (.rd .bool)], []⟩ (fun x => fun ky9 st9 => look [(6, (⟨[.slot 26 false tI, .box 96 vSto], endAInv x.1.1.1 x.1.1.2.1 x.1.1.2.2.1 x.1.1.2.2.2.1 x.1.2.1.1 x.1.2.1.2.1 x.1.2.2.1, endAMu x.1.1.1 x.1.1.2.1 x.1.1.2.2.1 x.1.1.2.2.2.1 x.1.2.1.1 x.1.2.1.2.1 x.1.2.2.1⟩ : Ann))] ky9) Tryd.func60 (by kernel_rfl) (by kernel_rfl) (fun x => [pLen x.1.1.1 < 4611686018427387904, pLen x.1.1.2.1 < 4611686018427387904, pLen x.1.1.2.2.1 < 4611686018427387904, pLen x.1.1.2.2.2.1 < 4611686018427387904, pRoom (pLen x.1.1.1) 24, pRoom (pLen x.1.1.2.1) 48, pRoom (pLen x.1.1.2.2.1) 24, pRoom (pLen x.1.1.2.2.2.1) 16]) [] [.agg 0 vSto, .slot 1 false tI] (fun x => (endS x.1.1 x.1.2.1 x.1.2.2.1, endE x.1.1 x.1.2.1, ())) (fun x => End_VC x.1.1.1 x.1.1.2.1 x.1.1.2.2.1 x.1.1.2.2.2.1 x.1.2.1.1 x.1.2.1.2.1 x.1.2.2.1) (fun x => by kernel_rfl) (fun x hp => h x.1.1.1 x.1.1.2.1 x.1.1.2.2.1 x.1.1.2.2.2.1 x.1.2.1.1 x.1.2.1.2.1 x.1.2.2.1 hp)

def EndOf_VC (si : (List ItemD)) (sl : (List LockD)) (sd : (List DoubtD)) (so : (List TxnD)) (ts : Int) (tn : Int) (g : Bool) : Prop :=
  Nat.le (Nat.succ (pLen si)) 4611686018427387904 ∧ Nat.le (Nat.succ (pLen sl)) 4611686018427387904 ∧ Nat.le (Nat.succ (pLen sd)) 4611686018427387904 ∧ Nat.le (Nat.succ (pLen so)) 4611686018427387904 ∧ bif pNe (askE (si,
    sl, sd, so, ()) (ts, tn, ()) (0 : Int)) (0 : Int) then (([], [], [], [], ()), askE (si, sl, sd, so, ()) (ts, tn, ()) (0 : Int), ()) = (endS (si, sl, sd, so, ()) (ts, tn, ()) g, endE (si, sl, sd, so, ()) (ts, tn, ()), ())
    else pRoom (pLen si) 24 ∧ pRoom (pLen sl) 48 ∧ pRoom (pLen sd) 24 ∧ pRoom (pLen so) 16 ∧ Nat.le (Nat.succ (pLen si)) 4611686018427387904 ∧ Nat.le (Nat.succ (pLen sl)) 4611686018427387904 ∧ Nat.le (Nat.succ (pLen sd))
    4611686018427387904 ∧ Nat.le (Nat.succ (pLen so)) 4611686018427387904 ∧ bif pNot (pGe (idxTxnF so (ts, tn, ())) (0 : Int)) then pRoom (pPlus (pLen so) (pLen [(ts, tn, ())])) 16 ∧ endBInv si sl sd so ts tn g ((0 : Int),
    (si, [], [], pApp so [(ts, tn, ())], ()), ()) ∧ ∀ (y : kden Bool.false tI × denCells vSto × PUnit), endBInv si sl sd so ts tn g y → bif pLt y.1 (pInt (pLen sl)) then pIn y.1 (pLen sl) ∧ bif pNot (pAndB (pEq (pGet tyLock
    sl (pNat y.1)).1 ts) (pEq (pGet tyLock sl (pNat y.1)).2.1 tn)) then pIn y.1 (pLen sl) ∧ pRoom (pPlus (pLen y.2.1.2.1) (pLen [((pGet tyLock sl (pNat y.1)).1, (pGet tyLock sl (pNat y.1)).2.1, (pGet tyLock sl (pNat
    y.1)).2.2.1, (pGet tyLock sl (pNat y.1)).2.2.2.1, (pGet tyLock sl (pNat y.1)).2.2.2.2.1, (pGet tyLock sl (pNat y.1)).2.2.2.2.2.1, ())])) 48 ∧ endBInv si sl sd so ts tn g (pAdd IntKind.i64 y.1 (1 : Int), (y.2.1.1, pApp
    y.2.1.2.1 [((pGet tyLock sl (pNat y.1)).1, (pGet tyLock sl (pNat y.1)).2.1, (pGet tyLock sl (pNat y.1)).2.2.1, (pGet tyLock sl (pNat y.1)).2.2.2.1, (pGet tyLock sl (pNat y.1)).2.2.2.2.1, (pGet tyLock sl (pNat
    y.1)).2.2.2.2.2.1, ())], y.2.1.2.2.1, y.2.1.2.2.2.1, ()), ()) ∧ Nat.le (Nat.succ (endBMu si sl sd so ts tn g (pAdd IntKind.i64 y.1 (1 : Int), (y.2.1.1, pApp y.2.1.2.1 [((pGet tyLock sl (pNat y.1)).1, (pGet tyLock sl
    (pNat y.1)).2.1, (pGet tyLock sl (pNat y.1)).2.2.1, (pGet tyLock sl (pNat y.1)).2.2.2.1, (pGet tyLock sl (pNat y.1)).2.2.2.2.1, (pGet tyLock sl (pNat y.1)).2.2.2.2.2.1, ())], y.2.1.2.2.1, y.2.1.2.2.2.1, ()), ())))
    (endBMu si sl sd so ts tn g y) else pIn y.1 (pLen sl) ∧ bif (pGet tyLock sl (pNat y.1)).2.2.2.1 then bif g then pIn y.1 (pLen sl) ∧ pIn y.1 (pLen sl) ∧ Nat.le (Nat.succ (pLen y.2.1.1)) 1000000 ∧ endBInv si sl sd so ts tn
    g (pAdd IntKind.i64 y.1 (1 : Int), (withF y.2.1.1 (pGet tyLock sl (pNat y.1)).2.2.1 (pGet tyLock sl (pNat y.1)).2.2.2.2.1, y.2.1.2.1, y.2.1.2.2.1, y.2.1.2.2.2.1, ()), ()) ∧ Nat.le (Nat.succ (endBMu si sl sd so ts tn g
    (pAdd IntKind.i64 y.1 (1 : Int), (withF y.2.1.1 (pGet tyLock sl (pNat y.1)).2.2.1 (pGet tyLock sl (pNat y.1)).2.2.2.2.1, y.2.1.2.1, y.2.1.2.2.1, y.2.1.2.2.2.1, ()), ()))) (endBMu si sl sd so ts tn g y) else endBInv si sl
    sd so ts tn g (pAdd IntKind.i64 y.1 (1 : Int), (y.2.1.1, y.2.1.2.1, y.2.1.2.2.1, y.2.1.2.2.2.1, ()), ()) ∧ Nat.le (Nat.succ (endBMu si sl sd so ts tn g (pAdd IntKind.i64 y.1 (1 : Int), (y.2.1.1, y.2.1.2.1, y.2.1.2.2.1,
    y.2.1.2.2.2.1, ()), ()))) (endBMu si sl sd so ts tn g y) else endBInv si sl sd so ts tn g (pAdd IntKind.i64 y.1 (1 : Int), (y.2.1.1, y.2.1.2.1, y.2.1.2.2.1, y.2.1.2.2.2.1, ()), ()) ∧ Nat.le (Nat.succ (endBMu si sl sd so
    ts tn g (pAdd IntKind.i64 y.1 (1 : Int), (y.2.1.1, y.2.1.2.1, y.2.1.2.2.1, y.2.1.2.2.2.1, ()), ()))) (endBMu si sl sd so ts tn g y) else endCInv si sl sd so ts tn g ((0 : Int), (y.2.1.1, y.2.1.2.1, y.2.1.2.2.1,
    y.2.1.2.2.2.1, ()), ()) ∧ ∀ (y : kden Bool.false tI × denCells vSto × PUnit), endCInv si sl sd so ts tn g y → bif pLt y.1 (pInt (pLen sd)) then pIn y.1 (pLen sd) ∧ bif pNot (pAndB (pEq (pGet tyItem sd (pNat y.1)).1 ts)
    (pEq (pGet tyItem sd (pNat y.1)).2.1 tn)) then pIn y.1 (pLen sd) ∧ pRoom (pPlus (pLen y.2.1.2.2.1) (pLen [((pGet tyItem sd (pNat y.1)).1, (pGet tyItem sd (pNat y.1)).2.1, (pGet tyItem sd (pNat y.1)).2.2.1, ())])) 24 ∧
    endCInv si sl sd so ts tn g (pAdd IntKind.i64 y.1 (1 : Int), (y.2.1.1, y.2.1.2.1, pApp y.2.1.2.2.1 [((pGet tyItem sd (pNat y.1)).1, (pGet tyItem sd (pNat y.1)).2.1, (pGet tyItem sd (pNat y.1)).2.2.1, ())], y.2.1.2.2.2.1,
    ()), ()) ∧ Nat.le (Nat.succ (endCMu si sl sd so ts tn g (pAdd IntKind.i64 y.1 (1 : Int), (y.2.1.1, y.2.1.2.1, pApp y.2.1.2.2.1 [((pGet tyItem sd (pNat y.1)).1, (pGet tyItem sd (pNat y.1)).2.1, (pGet tyItem sd (pNat
    y.1)).2.2.1, ())], y.2.1.2.2.2.1, ()), ()))) (endCMu si sl sd so ts tn g y) else endCInv si sl sd so ts tn g (pAdd IntKind.i64 y.1 (1 : Int), (y.2.1.1, y.2.1.2.1, y.2.1.2.2.1, y.2.1.2.2.2.1, ()), ()) ∧ Nat.le (Nat.succ
    (endCMu si sl sd so ts tn g (pAdd IntKind.i64 y.1 (1 : Int), (y.2.1.1, y.2.1.2.1, y.2.1.2.2.1, y.2.1.2.2.2.1, ()), ()))) (endCMu si sl sd so ts tn g y) else ((y.2.1.1, y.2.1.2.1, y.2.1.2.2.1, y.2.1.2.2.2.1, ()), (0 :
    Int), ()) = (endS (si, sl, sd, so, ()) (ts, tn, ()) g, endE (si, sl, sd, so, ()) (ts, tn, ()), ()) else endBInv si sl sd so ts tn g ((0 : Int), (si, [], [], so, ()), ()) ∧ ∀ (y : kden Bool.false tI × denCells vSto ×
    PUnit), endBInv si sl sd so ts tn g y → bif pLt y.1 (pInt (pLen sl)) then pIn y.1 (pLen sl) ∧ bif pNot (pAndB (pEq (pGet tyLock sl (pNat y.1)).1 ts) (pEq (pGet tyLock sl (pNat y.1)).2.1 tn)) then pIn y.1 (pLen sl) ∧
    pRoom (pPlus (pLen y.2.1.2.1) (pLen [((pGet tyLock sl (pNat y.1)).1, (pGet tyLock sl (pNat y.1)).2.1, (pGet tyLock sl (pNat y.1)).2.2.1, (pGet tyLock sl (pNat y.1)).2.2.2.1, (pGet tyLock sl (pNat y.1)).2.2.2.2.1, (pGet
    tyLock sl (pNat y.1)).2.2.2.2.2.1, ())])) 48 ∧ endBInv si sl sd so ts tn g (pAdd IntKind.i64 y.1 (1 : Int), (y.2.1.1, pApp y.2.1.2.1 [((pGet tyLock sl (pNat y.1)).1, (pGet tyLock sl (pNat y.1)).2.1, (pGet tyLock sl (pNat
    y.1)).2.2.1, (pGet tyLock sl (pNat y.1)).2.2.2.1, (pGet tyLock sl (pNat y.1)).2.2.2.2.1, (pGet tyLock sl (pNat y.1)).2.2.2.2.2.1, ())], y.2.1.2.2.1, y.2.1.2.2.2.1, ()), ()) ∧ Nat.le (Nat.succ (endBMu si sl sd so ts tn g
    (pAdd IntKind.i64 y.1 (1 : Int), (y.2.1.1, pApp y.2.1.2.1 [((pGet tyLock sl (pNat y.1)).1, (pGet tyLock sl (pNat y.1)).2.1, (pGet tyLock sl (pNat y.1)).2.2.1, (pGet tyLock sl (pNat y.1)).2.2.2.1, (pGet tyLock sl (pNat
    y.1)).2.2.2.2.1, (pGet tyLock sl (pNat y.1)).2.2.2.2.2.1, ())], y.2.1.2.2.1, y.2.1.2.2.2.1, ()), ()))) (endBMu si sl sd so ts tn g y) else pIn y.1 (pLen sl) ∧ bif (pGet tyLock sl (pNat y.1)).2.2.2.1 then bif g then pIn
    y.1 (pLen sl) ∧ pIn y.1 (pLen sl) ∧ Nat.le (Nat.succ (pLen y.2.1.1)) 1000000 ∧ endBInv si sl sd so ts tn g (pAdd IntKind.i64 y.1 (1 : Int), (withF y.2.1.1 (pGet tyLock sl (pNat y.1)).2.2.1 (pGet tyLock sl (pNat
    y.1)).2.2.2.2.1, y.2.1.2.1, y.2.1.2.2.1, y.2.1.2.2.2.1, ()), ()) ∧ Nat.le (Nat.succ (endBMu si sl sd so ts tn g (pAdd IntKind.i64 y.1 (1 : Int), (withF y.2.1.1 (pGet tyLock sl (pNat y.1)).2.2.1 (pGet tyLock sl (pNat
    y.1)).2.2.2.2.1, y.2.1.2.1, y.2.1.2.2.1, y.2.1.2.2.2.1, ()), ()))) (endBMu si sl sd so ts tn g y) else endBInv si sl sd so ts tn g (pAdd IntKind.i64 y.1 (1 : Int), (y.2.1.1, y.2.1.2.1, y.2.1.2.2.1, y.2.1.2.2.2.1, ()),
    ()) ∧ Nat.le (Nat.succ (endBMu si sl sd so ts tn g (pAdd IntKind.i64 y.1 (1 : Int), (y.2.1.1, y.2.1.2.1, y.2.1.2.2.1, y.2.1.2.2.2.1, ()), ()))) (endBMu si sl sd so ts tn g y) else endBInv si sl sd so ts tn g (pAdd
    IntKind.i64 y.1 (1 : Int), (y.2.1.1, y.2.1.2.1, y.2.1.2.2.1, y.2.1.2.2.2.1, ()), ()) ∧ Nat.le (Nat.succ (endBMu si sl sd so ts tn g (pAdd IntKind.i64 y.1 (1 : Int), (y.2.1.1, y.2.1.2.1, y.2.1.2.2.1, y.2.1.2.2.2.1, ()),
    ()))) (endBMu si sl sd so ts tn g y) else endCInv si sl sd so ts tn g ((0 : Int), (y.2.1.1, y.2.1.2.1, y.2.1.2.2.1, y.2.1.2.2.2.1, ()), ()) ∧ ∀ (y : kden Bool.false tI × denCells vSto × PUnit), endCInv si sl sd so ts tn
    g y → bif pLt y.1 (pInt (pLen sd)) then pIn y.1 (pLen sd) ∧ bif pNot (pAndB (pEq (pGet tyItem sd (pNat y.1)).1 ts) (pEq (pGet tyItem sd (pNat y.1)).2.1 tn)) then pIn y.1 (pLen sd) ∧ pRoom (pPlus (pLen y.2.1.2.2.1) (pLen
    [((pGet tyItem sd (pNat y.1)).1, (pGet tyItem sd (pNat y.1)).2.1, (pGet tyItem sd (pNat y.1)).2.2.1, ())])) 24 ∧ endCInv si sl sd so ts tn g (pAdd IntKind.i64 y.1 (1 : Int), (y.2.1.1, y.2.1.2.1, pApp y.2.1.2.2.1 [((pGet
    tyItem sd (pNat y.1)).1, (pGet tyItem sd (pNat y.1)).2.1, (pGet tyItem sd (pNat y.1)).2.2.1, ())], y.2.1.2.2.2.1, ()), ()) ∧ Nat.le (Nat.succ (endCMu si sl sd so ts tn g (pAdd IntKind.i64 y.1 (1 : Int), (y.2.1.1,
    y.2.1.2.1, pApp y.2.1.2.2.1 [((pGet tyItem sd (pNat y.1)).1, (pGet tyItem sd (pNat y.1)).2.1, (pGet tyItem sd (pNat y.1)).2.2.1, ())], y.2.1.2.2.2.1, ()), ()))) (endCMu si sl sd so ts tn g y) else endCInv si sl sd so ts
    tn g (pAdd IntKind.i64 y.1 (1 : Int), (y.2.1.1, y.2.1.2.1, y.2.1.2.2.1, y.2.1.2.2.2.1, ()), ()) ∧ Nat.le (Nat.succ (endCMu si sl sd so ts tn g (pAdd IntKind.i64 y.1 (1 : Int), (y.2.1.1, y.2.1.2.1, y.2.1.2.2.1,
    y.2.1.2.2.2.1, ()), ()))) (endCMu si sl sd so ts tn g y) else ((y.2.1.1, y.2.1.2.1, y.2.1.2.2.1, y.2.1.2.2.2.1, ()), (0 : Int), ()) = (endS (si, sl, sd, so, ()) (ts, tn, ()) g, endE (si, sl, sd, so, ()) (ts, tn, ()), ())
set_option maxRecDepth 100000 in
theorem EndOf_meets (haskFault : Meets Tryd.prog (fun _ => none) 68 caskFault) (hStoreCopy : Meets Tryd.prog (fun _ => none) 26 cStoreCopy) (hisOver : Meets Tryd.prog (fun _ => none) 72 cisOver) (hwithItem : Meets Tryd.prog (fun _ => none) 74 cwithItem) (h : ∀ (si : (List ItemD)) (sl : (List LockD)) (sd : (List DoubtD)) (so : (List TxnD)) (ts : Int) (tn : Int) (g : Bool), (∀ p ∈ (fun x => [pLen x.1.1.1 < 4611686018427387904, pLen x.1.1.2.1 < 4611686018427387904, pLen x.1.1.2.2.1 < 4611686018427387904, pLen x.1.1.2.2.2.1 < 4611686018427387904, pRoom (pLen x.1.1.1) 24, pRoom (pLen x.1.1.2.1) 48, pRoom (pLen x.1.1.2.2.1) 24, pRoom (pLen x.1.1.2.2.2.1) 16] : Shape.den ⟨[pSto, pTxn, .one (.rd .bool)], []⟩ → List Prop) ⟨((si, sl, sd, so, ()), (ts, tn, ()), g, ()), ()⟩, p) → EndOf_VC si sl sd so ts tn g) : Meets Tryd.prog (fun _ => none) 32 cEndOf :=
  meets_vc (E := envOf Tryd.prog [(68, (false, caskFault)), (26, (false, cStoreCopy)), (72, (false, cisOver)), (74, (false, cwithItem))] [28, 103, 105, 107]) (envOf_ok (fun p hp => (by simp only [List.mem_cons, List.not_mem_nil, or_false] at hp; rcases hp with rfl | rfl | rfl | rfl; exact haskFault; exact hStoreCopy; exact hisOver; exact hwithItem)) (by kernel_rfl)) ⟨[pSto, pTxn, .one (.rd .bool)], []⟩ (fun x => fun ky9 st9 => look [(9, (⟨[.slot 11 false tI, .box 152 vSto], endBInv x.1.1.1 x.1.1.2.1 x.1.1.2.2.1 x.1.1.2.2.2.1 x.1.2.1.1 x.1.2.1.2.1 x.1.2.2.1, endBMu x.1.1.1 x.1.1.2.1 x.1.1.2.2.1 x.1.1.2.2.2.1 x.1.2.1.1 x.1.2.1.2.1 x.1.2.2.1⟩ : Ann)), (16, (⟨[.slot 12 false tI, .box 152 vSto], endCInv x.1.1.1 x.1.1.2.1 x.1.1.2.2.1 x.1.1.2.2.2.1 x.1.2.1.1 x.1.2.1.2.1 x.1.2.2.1, endCMu x.1.1.1 x.1.1.2.1 x.1.1.2.2.1 x.1.1.2.2.2.1 x.1.2.1.1 x.1.2.1.2.1 x.1.2.2.1⟩ : Ann))] ky9) Tryd.func32 (by kernel_rfl) (by kernel_rfl) (fun x => [pLen x.1.1.1 < 4611686018427387904, pLen x.1.1.2.1 < 4611686018427387904, pLen x.1.1.2.2.1 < 4611686018427387904, pLen x.1.1.2.2.2.1 < 4611686018427387904, pRoom (pLen x.1.1.1) 24, pRoom (pLen x.1.1.2.1) 48, pRoom (pLen x.1.1.2.2.1) 24, pRoom (pLen x.1.1.2.2.2.1) 16]) [] [.agg 0 vSto, .slot 1 false tI] (fun x => (endS x.1.1 x.1.2.1 x.1.2.2.1, endE x.1.1 x.1.2.1, ())) (fun x => EndOf_VC x.1.1.1 x.1.1.2.1 x.1.1.2.2.1 x.1.1.2.2.2.1 x.1.2.1.1 x.1.2.1.2.1 x.1.2.2.1) (fun x => by kernel_rfl) (fun x hp => h x.1.1.1 x.1.1.2.1 x.1.1.2.2.1 x.1.1.2.2.2.1 x.1.2.1.1 x.1.2.1.2.1 x.1.2.2.1 hp)


end Go.Proofs.YtkhnakdmkhidbaaDoor

/- Functions of the store meet their contracts. No condition. -/
namespace Go.Proofs.YtkhnakdmkhidbaaDoor
open Go.RowKit

theorem txn_ok : Meets Tryd.prog (fun _ => none) 103 ctxn := txn_meets fun a b => by
  unfold txn_VC
  simp only [pGe, pLt, pLe, Bool.cond_eq_ite, decide_eq_true_eq, Prod.mk.injEq, eq_self, and_true, txnF, inF]
  repeat' split
  all_goals (rw [Bool.eq_iff_iff]; simp only [Bool.and_eq_true, decide_eq_true_eq, Bool.false_eq_true]; constructor <;> intro h <;> first | omega | exact h.elim)

theorem In_ok : Meets Tryd.prog (fun _ => none) 39 cIn := In_meets fun a b c => by
  unfold In_VC
  simp only [pGe, pLe, Bool.cond_eq_ite, decide_eq_true_eq, Prod.mk.injEq, eq_self, and_true, inF]
  repeat' split
  all_goals (rw [Bool.eq_iff_iff]; simp only [Bool.and_eq_true, decide_eq_true_eq, Bool.false_eq_true]; constructor <;> intro h <;> first | omega | exact h.elim)

theorem plainTxn_ok : Meets Tryd.prog (fun _ => none) 97 cplainTxn := plainTxn_meets In_ok fun a b => by
  unfold plainTxn_VC
  simp only [txnF]
  cases inF a 0 3 <;> simp

theorem items_ok : Meets Tryd.prog (fun _ => none) 81 citems := items_meets fun l hp => by
  have hl : l.length < 4611686018427387904 := hp _ List.mem_cons_self
  unfold items_VC
  refine ⟨UpInv.start, fun y hy => ?_⟩
  rcases UpInv.round hl hy with ⟨k, rfl, hk, hb, _, hF, hT⟩ | ⟨rfl, hT⟩
  · simp only [pLt_coe, pLen, hk, decide_true, cond_true, pIn_coe, pNat_coe, true_and]
    simp only [pGe, pLt, pGt, Bool.cond_eq_ite, decide_eq_true_eq, Prod.mk.injEq, eq_self, and_true]
    have hF' : ¬ itemOk l k = true → false = itemsF l := fun h => (hF (by simpa using h)).symm
    simp only [itemOk, inF, pLt, pLe, Bool.and_eq_true, Bool.or_eq_true, decide_eq_true_eq] at hT hF'
    by_cases h0 : k = 0
    · subst h0
      repeat' split
      all_goals first | exact hF' (by omega) | exact hT (by omega) | (exfalso; omega)
    · rw [pSub1 hb (by omega), pNat_coe, pIn_coe]
      have hk1 : k - 1 < l.length := by omega
      simp only [pLen, hk1, true_and]
      repeat' split
      all_goals first | exact hF' (by omega) | exact hT (by omega) | (exfalso; omega)
  · simp only [pLt_coe, pLen, Nat.lt_irrefl, decide_false, cond_false]
    exact congrArg (·, ()) hT.symm

theorem room_app {n b : Nat} (h : pRoom n b) : pRoom (pPlus (pLen ([] : List Unit)) n) b := by
  unfold pPlus pLen; simpa using h
theorem cloneItem_ok : Meets Tryd.prog (fun _ => none) 61 ccloneItem := cloneItem_meets fun l hp =>
  ⟨fun h => by rw [List.eq_nil_of_length_eq_zero h], room_app (hp _ List.mem_cons_self), rfl⟩
theorem cloneLock_ok : Meets Tryd.prog (fun _ => none) 62 ccloneLock := cloneLock_meets fun l hp =>
  ⟨fun h => by rw [List.eq_nil_of_length_eq_zero h], room_app (hp _ List.mem_cons_self), rfl⟩
theorem cloneDoubt_ok : Meets Tryd.prog (fun _ => none) 63 ccloneDoubt := cloneDoubt_meets fun l hp =>
  ⟨fun h => by rw [List.eq_nil_of_length_eq_zero h], room_app (hp _ List.mem_cons_self), rfl⟩
theorem cloneTxn_ok : Meets Tryd.prog (fun _ => none) 64 ccloneTxn := cloneTxn_meets fun l hp =>
  ⟨fun h => by rw [List.eq_nil_of_length_eq_zero h], room_app (hp _ List.mem_cons_self), rfl⟩
theorem own_ok : Meets Tryd.prog (fun _ => none) 87 cown := own_meets cloneItem_ok cloneLock_ok cloneDoubt_ok cloneTxn_ok fun is ls ds os hp =>
  ⟨hp _ (by simp), hp _ (by simp), hp _ (by simp), hp _ (by simp), rfl⟩

theorem sameTxns_ok : Meets Tryd.prog (fun _ => none) 44 csameTxns := sameTxns_meets fun l m hp => by
  have hl : l.length < 4611686018427387904 := hp _ List.mem_cons_self
  unfold sameTxns_VC
  by_cases hn : l.length = m.length
  · rw [bif_false (by unfold pNe pInt pLen; simp [hn])]
    refine ⟨⟨hn, UpInv.start⟩, fun y ⟨_, hy⟩ => ?_⟩
    rcases UpInv.round hl hy with ⟨k, rfl, hk, hb, _, hF, hT⟩ | ⟨rfl, hT⟩
    · have hk2 : k < m.length := by omega
      simp only [pLt_coe, pLen, hk, hk2, decide_true, cond_true, pIn_coe, pNat_coe, true_and]
      have e : pAndB (pEq (pGet tyTxn l k).1 (pGet tyTxn m k).1) (pEq (pGet tyTxn l k).2.1 (pGet tyTxn m k).2.1) = eqTxnAt l m k := rfl
      rw [e]
      cases hq : eqTxnAt l m k with
      | true => exact ⟨⟨hn, (hT hq).1⟩, (hT hq).2⟩
      | false =>
        show (false, ()) = (sameTxnsF l m, ())
        unfold sameTxnsF
        rw [hF hq]; simp
    · simp only [pLt_coe, pLen, Nat.lt_irrefl, decide_false, cond_false]
      unfold sameTxnsF
      rw [hT]; simp [hn]
  · rw [bif_true (by unfold pNe pInt pLen; simp; omega)]
    unfold sameTxnsF
    simp [hn]

theorem Index_ok : Meets Tryd.prog (fun _ => none) 109 cIndex := Index_meets fun l a b hp => by
  have hl : l.length < 4611686018427387904 := hp _ List.mem_cons_self
  refine ⟨UpInv.start, fun y hy => ?_⟩
  rcases FindInv.round hl hy with ⟨k, rfl, hk, hb, hT, hF⟩ | ⟨rfl, hT⟩
  · simp only [pLt_coe, pLen, hk, decide_true, cond_true, pIn_coe, pNat_coe, true_and]
    have e : pAndB (pEq a (pGet tyTxn l k).1) (pEq b (pGet tyTxn l k).2.1) = eqTxn (a, b, ()) (pGet tyTxn l k) := rfl
    rw [e]
    cases hq : eqTxn (a, b, ()) (pGet tyTxn l k) with
    | true => exact congrArg (·, ()) (hT hq).symm
    | false => exact hF hq
  · simp only [pLt_coe, pLen, Nat.lt_irrefl, decide_false, cond_false]
    exact congrArg (·, ()) hT.symm

theorem Contains_ok : Meets Tryd.prog (fun _ => none) 88 cContains := Contains_meets Index_ok fun l a b hp => ⟨hp _ List.mem_cons_self, rfl⟩
theorem doubted1_ok : Meets Tryd.prog (fun _ => none) 120 cdoubted1 := doubted1_meets fun s n a c d => rfl
theorem doubts1_ok : Meets Tryd.prog (fun _ => none) 105 cdoubts1 := doubts1_meets fun s n k wr v q c d a => rfl

theorem indexFuncDoubt_ok : Meets Tryd.prog (fun _ => none) 116 cindexFuncDoubt := indexFuncDoubt_meets doubted1_ok fun l c d hp => by
  have hl : l.length < 4611686018427387904 := hp _ List.mem_cons_self
  refine ⟨UpInv.start, fun y hy => ?_⟩
  rcases FindInv.round hl hy with ⟨k, rfl, hk, hb, hT, hF⟩ | ⟨rfl, hT⟩
  · simp only [pLt_coe, pLen, hk, decide_true, cond_true, pIn_coe, pNat_coe, true_and]
    have e : doubtIsF ((pGet tyItem l k).1, (pGet tyItem l k).2.1, (pGet tyItem l k).2.2.1, ()) (c, d, ()) = doubtIsF (pGet tyDoubt l k) (c, d, ()) := rfl
    rw [e]
    cases hq : doubtIsF (pGet tyDoubt l k) (c, d, ()) with
    | true => exact congrArg (·, ()) (hT hq).symm
    | false => exact hF hq
  · simp only [pLt_coe, pLen, Nat.lt_irrefl, decide_false, cond_false]
    exact congrArg (·, ()) hT.symm
theorem indexFuncLock_ok : Meets Tryd.prog (fun _ => none) 107 cindexFuncLock := indexFuncLock_meets doubts1_ok fun l c d a hp => by
  have hl : l.length < 4611686018427387904 := hp _ List.mem_cons_self
  refine ⟨UpInv.start, fun y hy => ?_⟩
  rcases FindInv.round hl hy with ⟨k, rfl, hk, hb, hT, hF⟩ | ⟨rfl, hT⟩
  · simp only [pLt_coe, pLen, hk, decide_true, cond_true, pIn_coe, pNat_coe, true_and]
    have e : lockIsF ((pGet tyLock l k).1, (pGet tyLock l k).2.1, (pGet tyLock l k).2.2.1, (pGet tyLock l k).2.2.2.1, (pGet tyLock l k).2.2.2.2.1, (pGet tyLock l k).2.2.2.2.2.1, ()) (c, d, ()) = lockIsF (pGet tyLock l k) (c, d, ()) := rfl
    rw [e]
    cases hq : lockIsF (pGet tyLock l k) (c, d, ()) with
    | true => exact congrArg (·, ()) (hT hq).symm
    | false => exact hF hq
  · simp only [pLt_coe, pLen, Nat.lt_irrefl, decide_false, cond_false]
    exact congrArg (·, ()) hT.symm
theorem containsFuncDoubt_ok : Meets Tryd.prog (fun _ => none) 119 ccontainsFuncDoubt := containsFuncDoubt_meets indexFuncDoubt_ok fun l c d hp => ⟨hp _ List.mem_cons_self, rfl⟩
theorem containsFuncLock_ok : Meets Tryd.prog (fun _ => none) 104 ccontainsFuncLock := containsFuncLock_meets indexFuncLock_ok fun l c d a hp => ⟨hp _ List.mem_cons_self, rfl⟩
theorem doubted_ok : Meets Tryd.prog (fun _ => none) 106 cdoubted := doubted_meets containsFuncDoubt_ok fun is ls ds os a b hp => ⟨hp (pLen ds < 4611686018427387904) (by simp), rfl⟩


end Go.Proofs.YtkhnakdmkhidbaaDoor
