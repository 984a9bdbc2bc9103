/- Contracts, and what the evaluator says, as plain propositions: PaV. Printed by vc.py. -/
import Derived.Test.YtkhnakdmkhidbaaDoorJ1

/- Contracts, and what the evaluator says, as plain propositions: SvA. Printed by vc.py. -/
namespace Go.Proofs.YtkhnakdmkhidbaaDoor
open Go.RowKit Go.ChangeShapes Go.WideShapes Go.Deep

def ctxn : Ctr := shCtr ⟨[pTxn], []⟩ (fun _ => []) [] [.slot 0 false .bool] (fun x => (txnF x.1.1, ()))
def cIn : Ctr := shCtr ⟨[pI, pI, pI], []⟩ (fun _ => []) [] [.slot 0 false .bool] (fun x => (inF x.1.1 x.1.2.1 x.1.2.2.1, ()))
def cplainTxn : Ctr := shCtr ⟨[pTxn], []⟩ (fun _ => []) [] [.slot 0 false .bool] (fun x => (txnF x.1.1, ()))
def citems : Ctr := shCtr ⟨[.one (.rd (.sl tyItem))], []⟩ (fun x => [pLen x.1.1 < 4611686018427387904]) [] [.slot 0 false .bool] (fun x => (itemsF x.1.1, ()))
def csameTxns : Ctr := shCtr ⟨[.one (.rd (.sl tyTxn)), .one (.rd (.sl tyTxn))], []⟩ (fun x => [pLen x.1.1 < 4611686018427387904]) [] [.slot 0 false .bool] (fun x => (sameTxnsF x.1.1 x.1.2.1, ()))
def ccloneItem : Ctr := shCtr ⟨[.one (.rd (.sl tyItem))], []⟩ (fun x => [pRoom (pLen x.1.1) 24]) [] [.slot 0 true tyItem] (fun x => (x.1.1, ()))
def ccloneLock : Ctr := shCtr ⟨[.one (.rd (.sl tyLock))], []⟩ (fun x => [pRoom (pLen x.1.1) 48]) [] [.slot 0 true tyLock] (fun x => (x.1.1, ()))
def ccloneDoubt : Ctr := shCtr ⟨[.one (.rd (.sl tyDoubt))], []⟩ (fun x => [pRoom (pLen x.1.1) 24]) [] [.slot 0 true tyDoubt] (fun x => (x.1.1, ()))
def ccloneTxn : Ctr := shCtr ⟨[.one (.rd (.sl tyTxn))], []⟩ (fun x => [pRoom (pLen x.1.1) 16]) [] [.slot 0 true tyTxn] (fun x => (x.1.1, ()))
def cown : Ctr := shCtr ⟨[pSto], []⟩ (fun x => [pRoom (pLen x.1.1.1) 24, pRoom (pLen x.1.1.2.1) 48, pRoom (pLen x.1.1.2.2.1) 24, pRoom (pLen x.1.1.2.2.2.1) 16]) [] [.agg 0 vSto] (fun x => ((x.1.1.1, x.1.1.2.1, x.1.1.2.2.1, x.1.1.2.2.2.1, ()), ()))
def csameStore : Ctr := shCtr ⟨[pSto, pSto], []⟩ (fun x => [pLen x.1.1.1 < 4611686018427387904, pLen x.1.1.2.1 < 4611686018427387904, pLen x.1.1.2.2.1 < 4611686018427387904, pLen x.1.1.2.2.2.1 < 4611686018427387904]) [] [.slot 0 false .bool] (fun x => (sameStoF x.1.1 x.1.2.1, ()))
def cIndex : Ctr := shCtr ⟨[.one (.rd (.sl tyTxn)), pTxn], []⟩ (fun x => [pLen x.1.1 < 4611686018427387904]) [] [.slot 0 false tI] (fun x => (idxTxnF x.1.1 x.1.2.1, ()))
def cContains : Ctr := shCtr ⟨[.one (.rd (.sl tyTxn)), pTxn], []⟩ (fun x => [pLen x.1.1 < 4611686018427387904]) [] [.slot 0 false .bool] (fun x => (pGe (idxTxnF x.1.1 x.1.2.1) 0, ()))
def cdoubted1 : Ctr := shCtr ⟨[.agg [.rd tI, .rd tI, .rd tI], .one (.lit (.pt 0 0))], [.box [.rd tI, .rd tI]]⟩ (fun _ => []) [] [.slot 0 false .bool] (fun x => (doubtIsF x.1.1 x.2.1, ()))
def cdoubts1 : Ctr := shCtr ⟨[.agg [.rd tI, .rd tI, .rd tI, .rd .bool, .rd tI, .rd tI], .one (.lit (.pt 0 0))], [.box [.rd tI, .rd tI, .rd tI]]⟩ (fun _ => []) [] [.slot 0 false .bool] (fun x => (lockIsF x.1.1 (x.2.1.1, x.2.1.2.1, ()), ()))
def cindexFuncDoubt : Ctr := shCtr ⟨[.one (.rd (.sl tyDoubt)), .one (.lit (.fn 120 [(0, 0)]))], [.box [.rd tI, .rd tI]]⟩ (fun x => [pLen x.1.1 < 4611686018427387904]) [] [.slot 0 false tI] (fun x => (idxDoubtF x.1.1 x.2.1, ()))
def ccontainsFuncDoubt : Ctr := shCtr ⟨[.one (.rd (.sl tyDoubt)), .one (.lit (.fn 120 [(0, 0)]))], [.box [.rd tI, .rd tI]]⟩ (fun x => [pLen x.1.1 < 4611686018427387904]) [] [.slot 0 false .bool] (fun x => (pGe (idxDoubtF x.1.1 x.2.1) 0, ()))
def cindexFuncLock : Ctr := shCtr ⟨[.one (.rd (.sl tyLock)), .one (.lit (.fn 105 [(0, 0)]))], [.box [.rd tI, .rd tI, .rd tI]]⟩ (fun x => [pLen x.1.1 < 4611686018427387904]) [] [.slot 0 false tI] (fun x => (idxLockF x.1.1 (x.2.1.1, x.2.1.2.1, ()), ()))
def ccontainsFuncLock : Ctr := shCtr ⟨[.one (.rd (.sl tyLock)), .one (.lit (.fn 105 [(0, 0)]))], [.box [.rd tI, .rd tI, .rd tI]]⟩ (fun x => [pLen x.1.1 < 4611686018427387904]) [] [.slot 0 false .bool] (fun x => (pGe (idxLockF x.1.1 (x.2.1.1, x.2.1.2.1, ())) 0, ()))
def cdoubted : Ctr := shCtr ⟨[pSto, pTxn], []⟩ (fun x => [pLen x.1.1.1 < 4611686018427387904, pLen x.1.1.2.1 < 4611686018427387904, pLen x.1.1.2.2.1 < 4611686018427387904, pLen x.1.1.2.2.2.1 < 4611686018427387904]) [] [.slot 0 false .bool] (fun x => (pGe (idxDoubtF x.1.1.2.2.1 x.1.2.1) 0, ()))

def txn_VC (a b : Int) : Prop :=
  bif pGe a (0 : Int) then bif pLt a (4 : Int) then bif pGe b (1 : Int) then (pLe b (1048576 : Int), ()) = (txnF (a, b, ()), ()) else (Bool.false, ()) = (txnF (a, b, ()), ()) else (Bool.false, ()) = (txnF (a, b, ()), ())
    else (Bool.false, ()) = (txnF (a, b, ()), ())
set_option maxRecDepth 100000 in
theorem txn_meets  (h : ∀ (a b : Int), txn_VC a b) : Meets Tryd.prog (fun _ => none) 103 ctxn :=
  meets_vc (E := envOf Tryd.prog [] [28, 103, 105, 107]) (envOf_ok (fun p hp => by cases hp) (by kernel_rfl)) ⟨[pTxn], []⟩ (fun x => fun k s => look [] k) Tryd.func103 (by kernel_rfl) (by kernel_rfl) (fun _ => []) [] [.slot 0 false .bool] (fun x => (txnF x.1.1, ())) (fun x => txn_VC x.1.1.1 x.1.1.2.1) (fun x => by kernel_rfl) (fun x _ => h x.1.1.1 x.1.1.2.1)

def In_VC (a b c : Int) : Prop :=
  bif pGe a b then (pLe a c, ()) = (inF a b c, ()) else (Bool.false, ()) = (inF a b c, ())
set_option maxRecDepth 100000 in
theorem In_meets  (h : ∀ (a b c : Int), In_VC a b c) : Meets Tryd.prog (fun _ => none) 39 cIn :=
  meets_vc (E := envOf Tryd.prog [] [28, 103, 105, 107]) (envOf_ok (fun p hp => by cases hp) (by kernel_rfl)) ⟨[pI, pI, pI], []⟩ (fun x => fun k s => look [] k) Tryd.func39 (by kernel_rfl) (by kernel_rfl) (fun _ => []) [] [.slot 0 false .bool] (fun x => (inF x.1.1 x.1.2.1 x.1.2.2.1, ())) (fun x => In_VC x.1.1 x.1.2.1 x.1.2.2.1) (fun x => by kernel_rfl) (fun x _ => h x.1.1 x.1.2.1 x.1.2.2.1)

def plainTxn_VC (a b : Int) : Prop :=
  bif inF a (0 : Int) (3 : Int) then (inF b (1 : Int) (1048576 : Int), ()) = (txnF (a, b, ()), ()) else (Bool.false, ()) = (txnF (a, b, ()), ())
set_option maxRecDepth 100000 in
theorem plainTxn_meets (hIn : Meets Tryd.prog (fun _ => none) 39 cIn) (h : ∀ (a b : Int), plainTxn_VC a b) : Meets Tryd.prog (fun _ => none) 97 cplainTxn :=
  meets_vc (E := envOf Tryd.prog [(39, (false, cIn))] [28, 103, 105, 107]) (envOf_ok (fun p hp => (by simp only [List.mem_cons, List.not_mem_nil, or_false] at hp; rcases hp with rfl; exact hIn)) (by kernel_rfl)) ⟨[pTxn], []⟩ (fun x => fun k s => look [] k) Tryd.func97 (by kernel_rfl) (by kernel_rfl) (fun _ => []) [] [.slot 0 false .bool] (fun x => (txnF x.1.1, ())) (fun x => plainTxn_VC x.1.1.1 x.1.1.2.1) (fun x => by kernel_rfl) (fun x _ => h x.1.1.1 x.1.1.2.1)

def items_VC (l : List ItemD) : Prop :=
  itemsInv l ((0 : Int), ()) ∧ ∀ (y : kden Bool.false tI × PUnit), itemsInv l y → bif pLt y.1 (pInt (pLen l)) then pIn y.1 (pLen l) ∧ bif pLt (pGet tyItem l (pNat y.1)).1 (0 : Int) then (Bool.false, ()) = (itemsF l, ())
    else bif pGe (pGet tyItem l (pNat y.1)).1 (8 : Int) then (Bool.false, ()) = (itemsF l, ()) else bif pLt (pGet tyItem l (pNat y.1)).2.1 (0 : Int) then (Bool.false, ()) = (itemsF l, ()) else bif pGt (pGet tyItem l (pNat
    y.1)).2.1 (1073741824 : Int) then (Bool.false, ()) = (itemsF l, ()) else bif pLt (pGet tyItem l (pNat y.1)).2.2.1 (1 : Int) then (Bool.false, ()) = (itemsF l, ()) else bif pGt (pGet tyItem l (pNat y.1)).2.2.1 (1048576 :
    Int) then (Bool.false, ()) = (itemsF l, ()) else bif pGt y.1 (0 : Int) then pIn (pSubI IntKind.i64 y.1 (1 : Int)) (pLen l) ∧ bif pGe (pGet tyItem l (pNat (pSubI IntKind.i64 y.1 (1 : Int)))).1 (pGet tyItem l (pNat y.1)).1
    then (Bool.false, ()) = (itemsF l, ()) else itemsInv l (pAdd IntKind.i64 y.1 (1 : Int), ()) ∧ Nat.le (Nat.succ (itemsMu l (pAdd IntKind.i64 y.1 (1 : Int), ()))) (itemsMu l y) else itemsInv l (pAdd IntKind.i64 y.1 (1 :
    Int), ()) ∧ Nat.le (Nat.succ (itemsMu l (pAdd IntKind.i64 y.1 (1 : Int), ()))) (itemsMu l y) else (Bool.true, ()) = (itemsF l, ())
set_option maxRecDepth 100000 in
theorem items_meets  (h : ∀ (l : List ItemD), (∀ p ∈ (fun x => [pLen x.1.1 < 4611686018427387904] : Shape.den ⟨[.one (.rd (.sl tyItem))], []⟩ → List Prop) ⟨(l, ()), ()⟩, p) → items_VC l) : Meets Tryd.prog (fun _ => none) 81 citems :=
  meets_vc (E := envOf Tryd.prog [] [28, 103, 105, 107]) (envOf_ok (fun p hp => by cases hp) (by kernel_rfl)) ⟨[.one (.rd (.sl tyItem))], []⟩ (fun x => fun k s => look [(2, (⟨[.slot 7 false tI], itemsInv x.1.1, itemsMu x.1.1⟩ : Ann))] k) Tryd.func81 (by kernel_rfl) (by kernel_rfl) (fun x => [pLen x.1.1 < 4611686018427387904]) [] [.slot 0 false .bool] (fun x => (itemsF x.1.1, ())) (fun x => items_VC x.1.1) (fun x => by kernel_rfl) (fun x hp => h x.1.1 hp)

def sameTxns_VC (l m : List TxnD) : Prop :=
  bif pNe (pInt (pLen l)) (pInt (pLen m)) then (Bool.false, ()) = (sameTxnsF l m, ()) else sameTxnsInv l m ((0 : Int), ()) ∧ ∀ (y : kden Bool.false tI × PUnit), sameTxnsInv l m y → bif pLt y.1 (pInt (pLen l)) then pIn y.1
    (pLen l) ∧ pIn y.1 (pLen m) ∧ bif pNot (pAndB (pEq (pGet tyTxn l (pNat y.1)).1 (pGet tyTxn m (pNat y.1)).1) (pEq (pGet tyTxn l (pNat y.1)).2.1 (pGet tyTxn m (pNat y.1)).2.1)) then (Bool.false, ()) = (sameTxnsF l m, ())
    else sameTxnsInv l m (pAdd IntKind.i64 y.1 (1 : Int), ()) ∧ Nat.le (Nat.succ (sameTxnsMu l m (pAdd IntKind.i64 y.1 (1 : Int), ()))) (sameTxnsMu l m y) else (Bool.true, ()) = (sameTxnsF l m, ())
set_option maxRecDepth 100000 in
theorem sameTxns_meets  (h : ∀ (l m : List TxnD), (∀ p ∈ (fun x => [pLen x.1.1 < 4611686018427387904] : Shape.den ⟨[.one (.rd (.sl tyTxn)), .one (.rd (.sl tyTxn))], []⟩ → List Prop) ⟨(l, m, ()), ()⟩, p) → sameTxns_VC l m) : Meets Tryd.prog (fun _ => none) 44 csameTxns :=
  meets_vc (E := envOf Tryd.prog [] [28, 103, 105, 107]) (envOf_ok (fun p hp => by cases hp) (by kernel_rfl)) ⟨[.one (.rd (.sl tyTxn)), .one (.rd (.sl tyTxn))], []⟩ (fun x => fun k s => look [(4, (⟨[.slot 5 false tI], sameTxnsInv x.1.1 x.1.2.1, sameTxnsMu x.1.1 x.1.2.1⟩ : Ann))] k) Tryd.func44 (by kernel_rfl) (by kernel_rfl) (fun x => [pLen x.1.1 < 4611686018427387904]) [] [.slot 0 false .bool] (fun x => (sameTxnsF x.1.1 x.1.2.1, ())) (fun x => sameTxns_VC x.1.1 x.1.2.1) (fun x => by kernel_rfl) (fun x hp => h x.1.1 x.1.2.1 hp)

def cloneItem_VC (l : List ItemD) : Prop :=
  (pLen l = 0 → ([], ()) = (l, ())) ∧ pRoom (pPlus (pLen ([] : List Unit)) (pLen l)) 24 ∧ (pApp [] l, ()) = (l, ())
set_option maxRecDepth 100000 in
theorem cloneItem_meets  (h : ∀ (l : List ItemD), (∀ p ∈ (fun x => [pRoom (pLen x.1.1) 24] : Shape.den ⟨[.one (.rd (.sl tyItem))], []⟩ → List Prop) ⟨(l, ()), ()⟩, p) → cloneItem_VC l) : Meets Tryd.prog (fun _ => none) 61 ccloneItem :=
  meets_vc (E := envOf Tryd.prog [] [28, 103, 105, 107]) (envOf_ok (fun p hp => by cases hp) (by kernel_rfl)) ⟨[.one (.rd (.sl tyItem))], []⟩ (fun x => fun k s => look [] k) Tryd.func61 (by kernel_rfl) (by kernel_rfl) (fun x => [pRoom (pLen x.1.1) 24]) [] [.slot 0 true tyItem] (fun x => (x.1.1, ())) (fun x => cloneItem_VC x.1.1) (fun x => by kernel_rfl) (fun x hp => h x.1.1 hp)

def cloneLock_VC (l : List LockD) : Prop :=
  (pLen l = 0 → ([], ()) = (l, ())) ∧ pRoom (pPlus (pLen ([] : List Unit)) (pLen l)) 48 ∧ (pApp [] l, ()) = (l, ())
set_option maxRecDepth 100000 in
theorem cloneLock_meets  (h : ∀ (l : List LockD), (∀ p ∈ (fun x => [pRoom (pLen x.1.1) 48] : Shape.den ⟨[.one (.rd (.sl tyLock))], []⟩ → List Prop) ⟨(l, ()), ()⟩, p) → cloneLock_VC l) : Meets Tryd.prog (fun _ => none) 62 ccloneLock :=
  meets_vc (E := envOf Tryd.prog [] [28, 103, 105, 107]) (envOf_ok (fun p hp => by cases hp) (by kernel_rfl)) ⟨[.one (.rd (.sl tyLock))], []⟩ (fun x => fun k s => look [] k) Tryd.func62 (by kernel_rfl) (by kernel_rfl) (fun x => [pRoom (pLen x.1.1) 48]) [] [.slot 0 true tyLock] (fun x => (x.1.1, ())) (fun x => cloneLock_VC x.1.1) (fun x => by kernel_rfl) (fun x hp => h x.1.1 hp)

def cloneDoubt_VC (l : List DoubtD) : Prop :=
  (pLen l = 0 → ([], ()) = (l, ())) ∧ pRoom (pPlus (pLen ([] : List Unit)) (pLen l)) 24 ∧ (pApp [] l, ()) = (l, ())
set_option maxRecDepth 100000 in
theorem cloneDoubt_meets  (h : ∀ (l : List DoubtD), (∀ p ∈ (fun x => [pRoom (pLen x.1.1) 24] : Shape.den ⟨[.one (.rd (.sl tyDoubt))], []⟩ → List Prop) ⟨(l, ()), ()⟩, p) → cloneDoubt_VC l) : Meets Tryd.prog (fun _ => none) 63 ccloneDoubt :=
  meets_vc (E := envOf Tryd.prog [] [28, 103, 105, 107]) (envOf_ok (fun p hp => by cases hp) (by kernel_rfl)) ⟨[.one (.rd (.sl tyDoubt))], []⟩ (fun x => fun k s => look [] k) Tryd.func63 (by kernel_rfl) (by kernel_rfl) (fun x => [pRoom (pLen x.1.1) 24]) [] [.slot 0 true tyDoubt] (fun x => (x.1.1, ())) (fun x => cloneDoubt_VC x.1.1) (fun x => by kernel_rfl) (fun x hp => h x.1.1 hp)

def cloneTxn_VC (l : List TxnD) : Prop :=
  (pLen l = 0 → ([], ()) = (l, ())) ∧ pRoom (pPlus (pLen ([] : List Unit)) (pLen l)) 16 ∧ (pApp [] l, ()) = (l, ())
set_option maxRecDepth 100000 in
theorem cloneTxn_meets  (h : ∀ (l : List TxnD), (∀ p ∈ (fun x => [pRoom (pLen x.1.1) 16] : Shape.den ⟨[.one (.rd (.sl tyTxn))], []⟩ → List Prop) ⟨(l, ()), ()⟩, p) → cloneTxn_VC l) : Meets Tryd.prog (fun _ => none) 64 ccloneTxn :=
  meets_vc (E := envOf Tryd.prog [] [28, 103, 105, 107]) (envOf_ok (fun p hp => by cases hp) (by kernel_rfl)) ⟨[.one (.rd (.sl tyTxn))], []⟩ (fun x => fun k s => look [] k) Tryd.func64 (by kernel_rfl) (by kernel_rfl) (fun x => [pRoom (pLen x.1.1) 16]) [] [.slot 0 true tyTxn] (fun x => (x.1.1, ())) (fun x => cloneTxn_VC x.1.1) (fun x => by kernel_rfl) (fun x hp => h x.1.1 hp)

def own_VC (is : List ItemD) (ls : List LockD) (ds : List DoubtD) (os : List TxnD) : Prop :=
  pRoom (pLen is) 24 ∧ pRoom (pLen ls) 48 ∧ pRoom (pLen ds) 24 ∧ pRoom (pLen os) 16 ∧ ((is, ls, ds, os, ()), ()) = ((is, ls, ds, os, ()), ())
set_option maxRecDepth 100000 in
theorem own_meets (hcloneItem : Meets Tryd.prog (fun _ => none) 61 ccloneItem) (hcloneLock : Meets Tryd.prog (fun _ => none) 62 ccloneLock) (hcloneDoubt : Meets Tryd.prog (fun _ => none) 63 ccloneDoubt) (hcloneTxn : Meets Tryd.prog (fun _ => none) 64 ccloneTxn) (h : ∀ (is : List ItemD) (ls : List LockD) (ds : List DoubtD) (os : List TxnD), (∀ p ∈ (fun x => [pRoom (pLen x.1.1.1) 24, pRoom (pLen x.1.1.2.1) 48, pRoom (pLen x.1.1.2.2.1) 24, pRoom (pLen x.1.1.2.2.2.1) 16] : Shape.den ⟨[pSto], []⟩ → List Prop) ⟨((is, ls, ds, os, ()), ()), ()⟩, p) → own_VC is ls ds os) : Meets Tryd.prog (fun _ => none) 87 cown :=
  meets_vc (E := envOf Tryd.prog [(61, (false, ccloneItem)), (62, (false, ccloneLock)), (63, (false, ccloneDoubt)), (64, (false, ccloneTxn))] [28, 103, 105, 107]) (envOf_ok (fun p hp => (by simp only [List.mem_cons, List.not_mem_nil, or_false] at hp; rcases hp with rfl | rfl | rfl | rfl; exact hcloneItem; exact hcloneLock; exact hcloneDoubt; exact hcloneTxn)) (by kernel_rfl)) ⟨[pSto], []⟩ (fun x => fun k s => look [] k) Tryd.func87 (by kernel_rfl) (by kernel_rfl) (fun x => [pRoom (pLen x.1.1.1) 24, pRoom (pLen x.1.1.2.1) 48, pRoom (pLen x.1.1.2.2.1) 24, pRoom (pLen x.1.1.2.2.2.1) 16]) [] [.agg 0 vSto] (fun x => ((x.1.1.1, x.1.1.2.1, x.1.1.2.2.1, x.1.1.2.2.2.1, ()), ())) (fun x => own_VC x.1.1.1 x.1.1.2.1 x.1.1.2.2.1 x.1.1.2.2.2.1) (fun x => by kernel_rfl) (fun x hp => h x.1.1.1 x.1.1.2.1 x.1.1.2.2.1 x.1.1.2.2.2.1 hp)

def sameStore_VC (is : List ItemD) (ls : List LockD) (ds : List DoubtD) (os : List TxnD) (is2 : List ItemD) (ls2 : List LockD) (ds2 : List DoubtD) (os2 : List TxnD) : Prop :=
  bif pNe (pInt (pLen is)) (pInt (pLen is2)) then (Bool.false, ()) = (sameStoF (is, ls, ds, os, ()) (is2, ls2, ds2, os2, ()), ()) else bif pNe (pInt (pLen ls)) (pInt (pLen ls2)) then (Bool.false, ()) = (sameStoF (is, ls,
    ds, os, ()) (is2, ls2, ds2, os2, ()), ()) else bif pNe (pInt (pLen ds)) (pInt (pLen ds2)) then (Bool.false, ()) = (sameStoF (is, ls, ds, os, ()) (is2, ls2, ds2, os2, ()), ()) else Nat.le (Nat.succ (pLen os))
    4611686018427387904 ∧ bif pNot (sameTxnsF os os2) then (Bool.false, ()) = (sameStoF (is, ls, ds, os, ()) (is2, ls2, ds2, os2, ()), ()) else sameStoAInv is ls ds os is2 ls2 ds2 os2 ((0 : Int), ()) ∧ ∀ (y : kden Bool.false
    tI × PUnit), sameStoAInv is ls ds os is2 ls2 ds2 os2 y → bif pLt y.1 (pInt (pLen is)) then pIn y.1 (pLen is) ∧ pIn y.1 (pLen is2) ∧ bif pNot (pAndB (pEq (pGet tyItem is (pNat y.1)).1 (pGet tyItem is2 (pNat y.1)).1)
    (pAndB (pEq (pGet tyItem is (pNat y.1)).2.1 (pGet tyItem is2 (pNat y.1)).2.1) (pEq (pGet tyItem is (pNat y.1)).2.2.1 (pGet tyItem is2 (pNat y.1)).2.2.1))) then (Bool.false, ()) = (sameStoF (is, ls, ds, os, ()) (is2, ls2,
    ds2, os2, ()), ()) else sameStoAInv is ls ds os is2 ls2 ds2 os2 (pAdd IntKind.i64 y.1 (1 : Int), ()) ∧ Nat.le (Nat.succ (sameStoAMu is ls ds os is2 ls2 ds2 os2 (pAdd IntKind.i64 y.1 (1 : Int), ()))) (sameStoAMu is ls ds
    os is2 ls2 ds2 os2 y) else sameStoBInv is ls ds os is2 ls2 ds2 os2 ((0 : Int), ()) ∧ ∀ (y : kden Bool.false tI × PUnit), sameStoBInv is ls ds os is2 ls2 ds2 os2 y → bif pLt y.1 (pInt (pLen ls)) then pIn y.1 (pLen ls) ∧
    pIn y.1 (pLen ls2) ∧ bif pNot (pAndB (pEq (pGet tyLock ls (pNat y.1)).1 (pGet tyLock ls2 (pNat y.1)).1) (pAndB (pEq (pGet tyLock ls (pNat y.1)).2.1 (pGet tyLock ls2 (pNat y.1)).2.1) (pAndB (pEq (pGet tyLock ls (pNat
    y.1)).2.2.1 (pGet tyLock ls2 (pNat y.1)).2.2.1) (pAndB (pBeq (pGet tyLock ls (pNat y.1)).2.2.2.1 (pGet tyLock ls2 (pNat y.1)).2.2.2.1) (pAndB (pEq (pGet tyLock ls (pNat y.1)).2.2.2.2.1 (pGet tyLock ls2 (pNat
    y.1)).2.2.2.2.1) (pEq (pGet tyLock ls (pNat y.1)).2.2.2.2.2.1 (pGet tyLock ls2 (pNat y.1)).2.2.2.2.2.1)))))) then (Bool.false, ()) = (sameStoF (is, ls, ds, os, ()) (is2, ls2, ds2, os2, ()), ()) else sameStoBInv is ls ds
    os is2 ls2 ds2 os2 (pAdd IntKind.i64 y.1 (1 : Int), ()) ∧ Nat.le (Nat.succ (sameStoBMu is ls ds os is2 ls2 ds2 os2 (pAdd IntKind.i64 y.1 (1 : Int), ()))) (sameStoBMu is ls ds os is2 ls2 ds2 os2 y) else sameStoCInv is ls
    ds os is2 ls2 ds2 os2 ((0 : Int), ()) ∧ ∀ (y : kden Bool.false tI × PUnit), sameStoCInv is ls ds os is2 ls2 ds2 os2 y → bif pLt y.1 (pInt (pLen ds)) then pIn y.1 (pLen ds) ∧ pIn y.1 (pLen ds2) ∧ bif pNot (pAndB (pEq
    (pGet tyItem ds (pNat y.1)).1 (pGet tyItem ds2 (pNat y.1)).1) (pAndB (pEq (pGet tyItem ds (pNat y.1)).2.1 (pGet tyItem ds2 (pNat y.1)).2.1) (pEq (pGet tyItem ds (pNat y.1)).2.2.1 (pGet tyItem ds2 (pNat y.1)).2.2.1)))
    then (Bool.false, ()) = (sameStoF (is, ls, ds, os, ()) (is2, ls2, ds2, os2, ()), ()) else sameStoCInv is ls ds os is2 ls2 ds2 os2 (pAdd IntKind.i64 y.1 (1 : Int), ()) ∧ Nat.le (Nat.succ (sameStoCMu is ls ds os is2 ls2
    ds2 os2 (pAdd IntKind.i64 y.1 (1 : Int), ()))) (sameStoCMu is ls ds os is2 ls2 ds2 os2 y) else (Bool.true, ()) = (sameStoF (is, ls, ds, os, ()) (is2, ls2, ds2, os2, ()), ())
set_option maxRecDepth 100000 in
theorem sameStore_meets (hsameTxns : Meets Tryd.prog (fun _ => none) 44 csameTxns) (h : ∀ (is : List ItemD) (ls : List LockD) (ds : List DoubtD) (os : List TxnD) (is2 : List ItemD) (ls2 : List LockD) (ds2 : List DoubtD) (os2 : List TxnD), (∀ p ∈ (fun x => [pLen x.1.1.1 < 4611686018427387904, pLen x.1.1.2.1 < 4611686018427387904, pLen x.1.1.2.2.1 < 4611686018427387904, pLen x.1.1.2.2.2.1 < 4611686018427387904] : Shape.den ⟨[pSto, pSto], []⟩ → List Prop) ⟨((is, ls, ds, os, ()), (is2, ls2, ds2, os2, ()), ()), ()⟩, p) → sameStore_VC is ls ds os is2 ls2 ds2 os2) : Meets Tryd.prog (fun _ => none) 12 csameStore :=
  meets_vc (E := envOf Tryd.prog [(44, (false, csameTxns))] [28, 103, 105, 107]) (envOf_ok (fun p hp => (by simp only [List.mem_cons, List.not_mem_nil, or_false] at hp; rcases hp with rfl; exact hsameTxns)) (by kernel_rfl)) ⟨[pSto, pSto], []⟩ (fun x => fun k s => look [(4, (⟨[.slot 5 false tI], sameStoAInv x.1.1.1 x.1.1.2.1 x.1.1.2.2.1 x.1.1.2.2.2.1 x.1.2.1.1 x.1.2.1.2.1 x.1.2.1.2.2.1 x.1.2.1.2.2.2.1, sameStoAMu x.1.1.1 x.1.1.2.1 x.1.1.2.2.1 x.1.1.2.2.2.1 x.1.2.1.1 x.1.2.1.2.1 x.1.2.1.2.2.1 x.1.2.1.2.2.2.1⟩ : Ann)), (9, (⟨[.slot 6 false tI], sameStoBInv x.1.1.1 x.1.1.2.1 x.1.1.2.2.1 x.1.1.2.2.2.1 x.1.2.1.1 x.1.2.1.2.1 x.1.2.1.2.2.1 x.1.2.1.2.2.2.1, sameStoBMu x.1.1.1 x.1.1.2.1 x.1.1.2.2.1 x.1.1.2.2.2.1 x.1.2.1.1 x.1.2.1.2.1 x.1.2.1.2.2.1 x.1.2.1.2.2.2.1⟩ : Ann)), (14, (⟨[.slot 7 false tI], sameStoCInv x.1.1.1 x.1.1.2.1 x.1.1.2.2.1 x.1.1.2.2.2.1 x.1.2.1.1 x.1.2.1.2.1 x.1.2.1.2.2.1 x.1.2.1.2.2.2.1, sameStoCMu x.1.1.1 x.1.1.2.1 x.1.1.2.2.1 x.1.1.2.2.2.1 x.1.2.1.1 x.1.2.1.2.1 x.1.2.1.2.2.1 x.1.2.1.2.2.2.1⟩ : Ann))] k) Tryd.func12 (by kernel_rfl) (by kernel_rfl) (fun x => [pLen x.1.1.1 < 4611686018427387904, pLen x.1.1.2.1 < 4611686018427387904, pLen x.1.1.2.2.1 < 4611686018427387904, pLen x.1.1.2.2.2.1 < 4611686018427387904]) [] [.slot 0 false .bool] (fun x => (sameStoF x.1.1 x.1.2.1, ())) (fun x => sameStore_VC x.1.1.1 x.1.1.2.1 x.1.1.2.2.1 x.1.1.2.2.2.1 x.1.2.1.1 x.1.2.1.2.1 x.1.2.1.2.2.1 x.1.2.1.2.2.2.1) (fun x => by kernel_rfl) (fun x hp => h x.1.1.1 x.1.1.2.1 x.1.1.2.2.1 x.1.1.2.2.2.1 x.1.2.1.1 x.1.2.1.2.1 x.1.2.1.2.2.1 x.1.2.1.2.2.2.1 hp)

def Index_VC (l : List TxnD) (a b : Int) : Prop :=
  indexInv l a b ((0 : Int), ()) ∧ ∀ (y : kden Bool.false tI × PUnit), indexInv l a b y → bif pLt y.1 (pInt (pLen l)) then pIn y.1 (pLen l) ∧ bif pAndB (pEq a (pGet tyTxn l (pNat y.1)).1) (pEq b (pGet tyTxn l (pNat
    y.1)).2.1) then (y.1, ()) = (idxTxnF l (a, b, ()), ()) else indexInv l a b (pAdd IntKind.i64 y.1 (1 : Int), ()) ∧ Nat.le (Nat.succ (indexMu l a b (pAdd IntKind.i64 y.1 (1 : Int), ()))) (indexMu l a b y) else ((-1 : Int),
    ()) = (idxTxnF l (a, b, ()), ())
set_option maxRecDepth 100000 in
theorem Index_meets  (h : ∀ (l : List TxnD) (a b : Int), (∀ p ∈ (fun x => [pLen x.1.1 < 4611686018427387904] : Shape.den ⟨[.one (.rd (.sl tyTxn)), pTxn], []⟩ → List Prop) ⟨(l, (a, b, ()), ()), ()⟩, p) → Index_VC l a b) : Meets Tryd.prog (fun _ => none) 109 cIndex :=
  meets_vc (E := envOf Tryd.prog [] [28, 103, 105, 107]) (envOf_ok (fun p hp => by cases hp) (by kernel_rfl)) ⟨[.one (.rd (.sl tyTxn)), pTxn], []⟩ (fun x => fun k s => look [(2, (⟨[.slot 8 false tI], indexInv x.1.1 x.1.2.1.1 x.1.2.1.2.1, indexMu x.1.1 x.1.2.1.1 x.1.2.1.2.1⟩ : Ann))] k) Tryd.func109 (by kernel_rfl) (by kernel_rfl) (fun x => [pLen x.1.1 < 4611686018427387904]) [] [.slot 0 false tI] (fun x => (idxTxnF x.1.1 x.1.2.1, ())) (fun x => Index_VC x.1.1 x.1.2.1.1 x.1.2.1.2.1) (fun x => by kernel_rfl) (fun x hp => h x.1.1 x.1.2.1.1 x.1.2.1.2.1 hp)

def Contains_VC (l : List TxnD) (a b : Int) : Prop :=
  Nat.le (Nat.succ (pLen l)) 4611686018427387904 ∧ (pGe (idxTxnF l (a, b, ())) (0 : Int), ()) = (pGe (idxTxnF l (a, b, ())) (0 : Int), ())
set_option maxRecDepth 100000 in
theorem Contains_meets (hIndex : Meets Tryd.prog (fun _ => none) 109 cIndex) (h : ∀ (l : List TxnD) (a b : Int), (∀ p ∈ (fun x => [pLen x.1.1 < 4611686018427387904] : Shape.den ⟨[.one (.rd (.sl tyTxn)), pTxn], []⟩ → List Prop) ⟨(l, (a, b, ()), ()), ()⟩, p) → Contains_VC l a b) : Meets Tryd.prog (fun _ => none) 88 cContains :=
  meets_vc (E := envOf Tryd.prog [(109, (false, cIndex))] [28, 103, 105, 107]) (envOf_ok (fun p hp => (by simp only [List.mem_cons, List.not_mem_nil, or_false] at hp; rcases hp with rfl; exact hIndex)) (by kernel_rfl)) ⟨[.one (.rd (.sl tyTxn)), pTxn], []⟩ (fun x => fun k s => look [] k) Tryd.func88 (by kernel_rfl) (by kernel_rfl) (fun x => [pLen x.1.1 < 4611686018427387904]) [] [.slot 0 false .bool] (fun x => (pGe (idxTxnF x.1.1 x.1.2.1) 0, ())) (fun x => Contains_VC x.1.1 x.1.2.1.1 x.1.2.1.2.1) (fun x => by kernel_rfl) (fun x hp => h x.1.1 x.1.2.1.1 x.1.2.1.2.1 hp)

def doubted1_VC (s n a c d : Int) : Prop :=
  (pAndB (pEq s c) (pEq n d), ()) = (doubtIsF (s, n, a, ()) (c, d, ()), ())
set_option maxRecDepth 100000 in
theorem doubted1_meets  (h : ∀ (s n a c d : Int), doubted1_VC s n a c d) : Meets Tryd.prog (fun _ => none) 120 cdoubted1 :=
  meets_vc (E := envOf Tryd.prog [] [28, 103, 105, 107]) (envOf_ok (fun p hp => by cases hp) (by kernel_rfl)) ⟨[.agg [.rd tI, .rd tI, .rd tI], .one (.lit (.pt 0 0))], [.box [.rd tI, .rd tI]]⟩ (fun x => fun k s => look [] k) Tryd.func120 (by kernel_rfl) (by kernel_rfl) (fun _ => []) [] [.slot 0 false .bool] (fun x => (doubtIsF x.1.1 x.2.1, ())) (fun x => doubted1_VC x.1.1.1 x.1.1.2.1 x.1.1.2.2.1 x.2.1.1 x.2.1.2.1) (fun x => by kernel_rfl) (fun x _ => h x.1.1.1 x.1.1.2.1 x.1.1.2.2.1 x.2.1.1 x.2.1.2.1)

def doubts1_VC (s n k : Int) (wr : Bool) (v q c d a : Int) : Prop :=
  (pAndB (pEq s c) (pEq n d), ()) = (lockIsF (s, n, k, wr, v, q, ()) (c, d, ()), ())
set_option maxRecDepth 100000 in
theorem doubts1_meets  (h : ∀ (s n k : Int) (wr : Bool) (v q c d a : Int), doubts1_VC s n k wr v q c d a) : Meets Tryd.prog (fun _ => none) 105 cdoubts1 :=
  meets_vc (E := envOf Tryd.prog [] [28, 103, 105, 107]) (envOf_ok (fun p hp => by cases hp) (by kernel_rfl)) ⟨[.agg [.rd tI, .rd tI, .rd tI, .rd .bool, .rd tI, .rd tI], .one (.lit (.pt 0 0))], [.box [.rd tI, .rd tI, .rd tI]]⟩ (fun x => fun k s => look [] k) Tryd.func105 (by kernel_rfl) (by kernel_rfl) (fun _ => []) [] [.slot 0 false .bool] (fun x => (lockIsF x.1.1 (x.2.1.1, x.2.1.2.1, ()), ())) (fun x => doubts1_VC x.1.1.1 x.1.1.2.1 x.1.1.2.2.1 x.1.1.2.2.2.1 x.1.1.2.2.2.2.1 x.1.1.2.2.2.2.2.1 x.2.1.1 x.2.1.2.1 x.2.1.2.2.1) (fun x => by kernel_rfl) (fun x _ => h x.1.1.1 x.1.1.2.1 x.1.1.2.2.1 x.1.1.2.2.2.1 x.1.1.2.2.2.2.1 x.1.1.2.2.2.2.2.1 x.2.1.1 x.2.1.2.1 x.2.1.2.2.1)

def indexFuncDoubt_VC (l : List DoubtD) (c d : Int) : Prop :=
  indexFuncDoubtInv l c d ((0 : Int), ()) ∧ ∀ (y : kden Bool.false tI × PUnit), indexFuncDoubtInv l c d y → bif pLt y.1 (pInt (pLen l)) then pIn y.1 (pLen l) ∧ bif doubtIsF ((pGet tyItem l (pNat y.1)).1, (pGet tyItem l
    (pNat y.1)).2.1, (pGet tyItem l (pNat y.1)).2.2.1, ()) (c, d, ()) then (y.1, ()) = (idxDoubtF l (c, d, ()), ()) else indexFuncDoubtInv l c d (pAdd IntKind.i64 y.1 (1 : Int), ()) ∧ Nat.le (Nat.succ (indexFuncDoubtMu l c d
    (pAdd IntKind.i64 y.1 (1 : Int), ()))) (indexFuncDoubtMu l c d y) else ((-1 : Int), ()) = (idxDoubtF l (c, d, ()), ())
set_option maxRecDepth 100000 in
theorem indexFuncDoubt_meets (hdoubted1 : Meets Tryd.prog (fun _ => none) 120 cdoubted1) (h : ∀ (l : List DoubtD) (c d : Int), (∀ p ∈ (fun x => [pLen x.1.1 < 4611686018427387904] : Shape.den ⟨[.one (.rd (.sl tyDoubt)), .one (.lit (.fn 120 [(0, 0)]))], [.box [.rd tI, .rd tI]]⟩ → List Prop) ⟨(l, (), ()), ((c, d, ()), ())⟩, p) → indexFuncDoubt_VC l c d) : Meets Tryd.prog (fun _ => none) 116 cindexFuncDoubt :=
  meets_vc (E := envOf Tryd.prog [(120, (false, cdoubted1))] [28, 103, 105, 107]) (envOf_ok (fun p hp => (by simp only [List.mem_cons, List.not_mem_nil, or_false] at hp; rcases hp with rfl; exact hdoubted1)) (by kernel_rfl)) ⟨[.one (.rd (.sl tyDoubt)), .one (.lit (.fn 120 [(0, 0)]))], [.box [.rd tI, .rd tI]]⟩ (fun x => fun k s => look [(2, (⟨[.slot 8 false tI], indexFuncDoubtInv x.1.1 x.2.1.1 x.2.1.2.1, indexFuncDoubtMu x.1.1 x.2.1.1 x.2.1.2.1⟩ : Ann))] k) Tryd.func116 (by kernel_rfl) (by kernel_rfl) (fun x => [pLen x.1.1 < 4611686018427387904]) [] [.slot 0 false tI] (fun x => (idxDoubtF x.1.1 x.2.1, ())) (fun x => indexFuncDoubt_VC x.1.1 x.2.1.1 x.2.1.2.1) (fun x => by kernel_rfl) (fun x hp => h x.1.1 x.2.1.1 x.2.1.2.1 hp)

def containsFuncDoubt_VC (l : List DoubtD) (c d : Int) : Prop :=
  Nat.le (Nat.succ (pLen l)) 4611686018427387904 ∧ (pGe (idxDoubtF l (c, d, ())) (0 : Int), ()) = (pGe (idxDoubtF l (c, d, ())) (0 : Int), ())
set_option maxRecDepth 100000 in
theorem containsFuncDoubt_meets (hindexFuncDoubt : Meets Tryd.prog (fun _ => none) 116 cindexFuncDoubt) (h : ∀ (l : List DoubtD) (c d : Int), (∀ p ∈ (fun x => [pLen x.1.1 < 4611686018427387904] : Shape.den ⟨[.one (.rd (.sl tyDoubt)), .one (.lit (.fn 120 [(0, 0)]))], [.box [.rd tI, .rd tI]]⟩ → List Prop) ⟨(l, (), ()), ((c, d, ()), ())⟩, p) → containsFuncDoubt_VC l c d) : Meets Tryd.prog (fun _ => none) 119 ccontainsFuncDoubt :=
  meets_vc (E := envOf Tryd.prog [(116, (false, cindexFuncDoubt))] [28, 103, 105, 107]) (envOf_ok (fun p hp => (by simp only [List.mem_cons, List.not_mem_nil, or_false] at hp; rcases hp with rfl; exact hindexFuncDoubt)) (by kernel_rfl)) ⟨[.one (.rd (.sl tyDoubt)), .one (.lit (.fn 120 [(0, 0)]))], [.box [.rd tI, .rd tI]]⟩ (fun x => fun k s => look [] k) Tryd.func119 (by kernel_rfl) (by kernel_rfl) (fun x => [pLen x.1.1 < 4611686018427387904]) [] [.slot 0 false .bool] (fun x => (pGe (idxDoubtF x.1.1 x.2.1) 0, ())) (fun x => containsFuncDoubt_VC x.1.1 x.2.1.1 x.2.1.2.1) (fun x => by kernel_rfl) (fun x hp => h x.1.1 x.2.1.1 x.2.1.2.1 hp)

def indexFuncLock_VC (l : List LockD) (c d a : Int) : Prop :=
  indexFuncLockInv l c d a ((0 : Int), ()) ∧ ∀ (y : kden Bool.false tI × PUnit), indexFuncLockInv l c d a y → bif pLt y.1 (pInt (pLen l)) then pIn y.1 (pLen l) ∧ bif lockIsF ((pGet tyLock l (pNat y.1)).1, (pGet tyLock l
    (pNat y.1)).2.1, (pGet tyLock l (pNat y.1)).2.2.1, (pGet tyLock l (pNat y.1)).2.2.2.1, (pGet tyLock l (pNat y.1)).2.2.2.2.1, (pGet tyLock l (pNat y.1)).2.2.2.2.2.1, ()) (c, d, ()) then (y.1, ()) = (idxLockF l (c, d, ()),
    ()) else indexFuncLockInv l c d a (pAdd IntKind.i64 y.1 (1 : Int), ()) ∧ Nat.le (Nat.succ (indexFuncLockMu l c d a (pAdd IntKind.i64 y.1 (1 : Int), ()))) (indexFuncLockMu l c d a y) else ((-1 : Int), ()) = (idxLockF l
    (c, d, ()), ())
set_option maxRecDepth 100000 in
theorem indexFuncLock_meets (hdoubts1 : Meets Tryd.prog (fun _ => none) 105 cdoubts1) (h : ∀ (l : List LockD) (c d a : Int), (∀ p ∈ (fun x => [pLen x.1.1 < 4611686018427387904] : Shape.den ⟨[.one (.rd (.sl tyLock)), .one (.lit (.fn 105 [(0, 0)]))], [.box [.rd tI, .rd tI, .rd tI]]⟩ → List Prop) ⟨(l, (), ()), ((c, d, a, ()), ())⟩, p) → indexFuncLock_VC l c d a) : Meets Tryd.prog (fun _ => none) 107 cindexFuncLock :=
  meets_vc (E := envOf Tryd.prog [(105, (false, cdoubts1))] [28, 103, 105, 107]) (envOf_ok (fun p hp => (by simp only [List.mem_cons, List.not_mem_nil, or_false] at hp; rcases hp with rfl; exact hdoubts1)) (by kernel_rfl)) ⟨[.one (.rd (.sl tyLock)), .one (.lit (.fn 105 [(0, 0)]))], [.box [.rd tI, .rd tI, .rd tI]]⟩ (fun x => fun k s => look [(2, (⟨[.slot 8 false tI], indexFuncLockInv x.1.1 x.2.1.1 x.2.1.2.1 x.2.1.2.2.1, indexFuncLockMu x.1.1 x.2.1.1 x.2.1.2.1 x.2.1.2.2.1⟩ : Ann))] k) Tryd.func107 (by kernel_rfl) (by kernel_rfl) (fun x => [pLen x.1.1 < 4611686018427387904]) [] [.slot 0 false tI] (fun x => (idxLockF x.1.1 (x.2.1.1, x.2.1.2.1, ()), ())) (fun x => indexFuncLock_VC x.1.1 x.2.1.1 x.2.1.2.1 x.2.1.2.2.1) (fun x => by kernel_rfl) (fun x hp => h x.1.1 x.2.1.1 x.2.1.2.1 x.2.1.2.2.1 hp)

def containsFuncLock_VC (l : List LockD) (c d a : Int) : Prop :=
  Nat.le (Nat.succ (pLen l)) 4611686018427387904 ∧ (pGe (idxLockF l (c, d, ())) (0 : Int), ()) = (pGe (idxLockF l (c, d, ())) (0 : Int), ())
set_option maxRecDepth 100000 in
theorem containsFuncLock_meets (hindexFuncLock : Meets Tryd.prog (fun _ => none) 107 cindexFuncLock) (h : ∀ (l : List LockD) (c d a : Int), (∀ p ∈ (fun x => [pLen x.1.1 < 4611686018427387904] : Shape.den ⟨[.one (.rd (.sl tyLock)), .one (.lit (.fn 105 [(0, 0)]))], [.box [.rd tI, .rd tI, .rd tI]]⟩ → List Prop) ⟨(l, (), ()), ((c, d, a, ()), ())⟩, p) → containsFuncLock_VC l c d a) : Meets Tryd.prog (fun _ => none) 104 ccontainsFuncLock :=
  meets_vc (E := envOf Tryd.prog [(107, (false, cindexFuncLock))] [28, 103, 105, 107]) (envOf_ok (fun p hp => (by simp only [List.mem_cons, List.not_mem_nil, or_false] at hp; rcases hp with rfl; exact hindexFuncLock)) (by kernel_rfl)) ⟨[.one (.rd (.sl tyLock)), .one (.lit (.fn 105 [(0, 0)]))], [.box [.rd tI, .rd tI, .rd tI]]⟩ (fun x => fun k s => look [] k) Tryd.func104 (by kernel_rfl) (by kernel_rfl) (fun x => [pLen x.1.1 < 4611686018427387904]) [] [.slot 0 false .bool] (fun x => (pGe (idxLockF x.1.1 (x.2.1.1, x.2.1.2.1, ())) 0, ())) (fun x => containsFuncLock_VC x.1.1 x.2.1.1 x.2.1.2.1 x.2.1.2.2.1) (fun x => by kernel_rfl) (fun x hp => h x.1.1 x.2.1.1 x.2.1.2.1 x.2.1.2.2.1 hp)

def doubted_VC (is : List ItemD) (ls : List LockD) (ds : List DoubtD) (os : List TxnD) (a b : Int) : Prop :=
  Nat.le (Nat.succ (pLen ds)) 4611686018427387904 ∧ (pGe (idxDoubtF ds (a, b, ())) (0 : Int), ()) = (pGe (idxDoubtF ds (a, b, ())) (0 : Int), ())
set_option maxRecDepth 100000 in
theorem doubted_meets (hcontainsFuncDoubt : Meets Tryd.prog (fun _ => none) 119 ccontainsFuncDoubt) (h : ∀ (is : List ItemD) (ls : List LockD) (ds : List DoubtD) (os : List TxnD) (a b : Int), (∀ p ∈ (fun x => [pLen x.1.1.1 < 4611686018427387904, pLen x.1.1.2.1 < 4611686018427387904, pLen x.1.1.2.2.1 < 4611686018427387904, pLen x.1.1.2.2.2.1 < 4611686018427387904] : Shape.den ⟨[pSto, pTxn], []⟩ → List Prop) ⟨((is, ls, ds, os, ()), (a, b, ()), ()), ()⟩, p) → doubted_VC is ls ds os a b) : Meets Tryd.prog (fun _ => none) 106 cdoubted :=
  meets_vc (E := envOf Tryd.prog [(119, (false, ccontainsFuncDoubt))] [28, 103, 105, 107]) (envOf_ok (fun p hp => (by simp only [List.mem_cons, List.not_mem_nil, or_false] at hp; rcases hp with rfl; exact hcontainsFuncDoubt)) (by kernel_rfl)) ⟨[pSto, pTxn], []⟩ (fun x => fun k s => look [] k) Tryd.func106 (by kernel_rfl) (by kernel_rfl) (fun x => [pLen x.1.1.1 < 4611686018427387904, pLen x.1.1.2.1 < 4611686018427387904, pLen x.1.1.2.2.1 < 4611686018427387904, pLen x.1.1.2.2.2.1 < 4611686018427387904]) [] [.slot 0 false .bool] (fun x => (pGe (idxDoubtF x.1.1.2.2.1 x.1.2.1) 0, ())) (fun x => doubted_VC x.1.1.1 x.1.1.2.1 x.1.1.2.2.1 x.1.1.2.2.2.1 x.1.2.1.1 x.1.2.1.2.1) (fun x => by kernel_rfl) (fun x hp => h x.1.1.1 x.1.1.2.1 x.1.1.2.2.1 x.1.1.2.2.2.1 x.1.2.1.1 x.1.2.1.2.1 hp)


end Go.Proofs.YtkhnakdmkhidbaaDoor

/- Contracts, and what the evaluator says, as plain propositions: PaV. Printed by vc.py. -/
namespace Go.Proofs.YtkhnakdmkhidbaaDoor
open Go.RowKit Go.ChangeShapes Go.WideShapes Go.Deep

def cone : Ctr := shCtr ⟨[pLab], []⟩ (fun _ => []) [] [.slot 0 false .bool] (fun x => (labF x.1.1, ()))
def clCheck : Ctr := shCtr ⟨[pCfg], []⟩ (fun x => [pLen x.1.1.2.1 < 4611686018427387904]) [] [.slot 0 false tI] (fun x => (cfgF x.1.1, ()))
def ccFault : Ctr := shCtr ⟨[pCfg], []⟩ (fun x => [pLen x.1.1.2.1 < 4611686018427387904]) [] [.slot 0 false tI] (fun x => (cfgF x.1.1, ()))
def one_VC (al : Int) (ak : Int) : Prop :=
  bif pGe al (0 : Int) then bif pLe al (9 : Int) then bif pGe ak (0 : Int) then (pLe ak (15 : Int), ()) = (labF (al, ak, ()), ()) else (Bool.false, ()) = (labF (al, ak, ()), ()) else (Bool.false, ()) = (labF (al, ak, ()),
    ()) else (Bool.false, ()) = (labF (al, ak, ()), ())
set_option maxRecDepth 100000 in
theorem one_meets  (h : ∀ (al : Int) (ak : Int), one_VC al ak) : Meets Tryd.prog (fun _ => none) 76 cone :=
  meets_vc (E := envOf Tryd.prog [] [28, 103, 105, 107, 65, 31, 57]) (envOf_ok (fun p hp => by cases hp) (by kernel_rfl)) ⟨[pLab], []⟩ (fun x => fun ky9 st9 => look [] ky9) Tryd.func76 (by kernel_rfl) (by kernel_rfl) (fun _ => []) [] [.slot 0 false .bool] (fun x => (labF x.1.1, ())) (fun x => one_VC x.1.1.1 x.1.1.2.1) (fun x => by kernel_rfl) (fun x _ => h x.1.1.1 x.1.1.2.1)

def lCheck_VC (cn : Int) (cl : (List LabD)) (cp : Int) : Prop :=
  bif pLt cn (1 : Int) then ((2 : Int), ()) = (cfgF (cn, cl, cp, ()), ()) else bif pGt cn (4 : Int) then ((2 : Int), ()) = (cfgF (cn, cl, cp, ()), ()) else bif pLt (pInt (pLen cl)) (1 : Int) then ((1 : Int), ()) = (cfgF
    (cn, cl, cp, ()), ()) else bif pGt (pInt (pLen cl)) (6 : Int) then ((1 : Int), ()) = (cfgF (cn, cl, cp, ()), ()) else lCheckAInv cn cl cp ((0 : Int), ()) ∧ ∀ (y : kden Bool.false tI × PUnit), lCheckAInv cn cl cp y → bif
    pLt y.1 (pInt (pLen cl)) then pIn y.1 (pLen cl) ∧ bif pNot (labF ((pGet tyTxn cl (pNat y.1)).1, (pGet tyTxn cl (pNat y.1)).2.1, ())) then ((2 : Int), ()) = (cfgF (cn, cl, cp, ()), ()) else pTo y.1 (pLen cl) ∧ lCheckBInv
    cn cl cp y.1 ((0 : Int), ()) ∧ ∀ (y_1 : kden Bool.false tI × PUnit), lCheckBInv cn cl cp y.1 y_1 → bif pLt y_1.1 (pInt (pLen (pSub cl 0 (pNat y.1)))) then pIn y_1.1 (pLen (pSub cl 0 (pNat y.1))) ∧ bif pAndB (pEq (pGet
    tyTxn (pSub cl 0 (pNat y.1)) (pNat y_1.1)).1 (pGet tyTxn cl (pNat y.1)).1) (pEq (pGet tyTxn (pSub cl 0 (pNat y.1)) (pNat y_1.1)).2.1 (pGet tyTxn cl (pNat y.1)).2.1) then ((7 : Int), ()) = (cfgF (cn, cl, cp, ()), ()) else
    lCheckBInv cn cl cp y.1 (pAdd IntKind.i64 y_1.1 (1 : Int), ()) ∧ Nat.le (Nat.succ (lCheckBMu cn cl cp y.1 (pAdd IntKind.i64 y_1.1 (1 : Int), ()))) (lCheckBMu cn cl cp y.1 y_1) else lCheckAInv cn cl cp (pAdd IntKind.i64
    y.1 (1 : Int), ()) ∧ Nat.le (Nat.succ (lCheckAMu cn cl cp (pAdd IntKind.i64 y.1 (1 : Int), ()))) (lCheckAMu cn cl cp y) else bif pLt cp (1 : Int) then ((2 : Int), ()) = (cfgF (cn, cl, cp, ()), ()) else bif pGt cp
    (1048576 : Int) then ((2 : Int), ()) = (cfgF (cn, cl, cp, ()), ()) else ((0 : Int), ()) = (cfgF (cn, cl, cp, ()), ())
set_option maxRecDepth 100000 in
theorem lCheck_meets (hone : Meets Tryd.prog (fun _ => none) 76 cone) (h : ∀ (cn : Int) (cl : (List LabD)) (cp : Int), (∀ p ∈ (fun x => [pLen x.1.1.2.1 < 4611686018427387904] : Shape.den ⟨[pCfg], []⟩ → List Prop) ⟨((cn, cl, cp, ()), ()), ()⟩, p) → lCheck_VC cn cl cp) : Meets Tryd.prog (fun _ => none) 35 clCheck :=
  meets_vc (E := envOf Tryd.prog [(76, (false, cone))] [28, 103, 105, 107, 65, 31, 57]) (envOf_ok (fun p hp => (by simp only [List.mem_cons, List.not_mem_nil, or_false] at hp; rcases hp with rfl; exact hone)) (by kernel_rfl)) ⟨[pCfg], []⟩ (fun x => fun ky9 st9 => look [(6, (⟨[.slot 28 false tI], lCheckAInv x.1.1.1 x.1.1.2.1 x.1.1.2.2.1, lCheckAMu x.1.1.1 x.1.1.2.1 x.1.1.2.2.1⟩ : Ann)), (11, (⟨[.slot 41 false tI], lCheckBInv x.1.1.1 x.1.1.2.1 x.1.1.2.2.1 (slotI st9 28), lCheckBMu x.1.1.1 x.1.1.2.1 x.1.1.2.2.1 (slotI st9 28)⟩ : Ann))] ky9) Tryd.func35 (by kernel_rfl) (by kernel_rfl) (fun x => [pLen x.1.1.2.1 < 4611686018427387904]) [] [.slot 0 false tI] (fun x => (cfgF x.1.1, ())) (fun x => lCheck_VC x.1.1.1 x.1.1.2.1 x.1.1.2.2.1) (fun x => by kernel_rfl) (fun x hp => h x.1.1.1 x.1.1.2.1 x.1.1.2.2.1 hp)

def cFault_VC (cn : Int) (cl : (List LabD)) (cp : Int) : Prop :=
  bif pNot (inF cn (1 : Int) (4 : Int)) then ((2 : Int), ()) = (cfgF (cn, cl, cp, ()), ()) else bif pNot (inF (pInt (pLen cl)) (1 : Int) (6 : Int)) then ((1 : Int), ()) = (cfgF (cn, cl, cp, ()), ()) else lCheckAInv cn cl
    cp ((0 : Int), ()) ∧ ∀ (y : kden Bool.false tI × PUnit), lCheckAInv cn cl cp y → bif pLt y.1 (pInt (pLen cl)) then pIn y.1 (pLen cl) ∧ bif pNot (inF (pGet tyTxn cl (pNat y.1)).1 (0 : Int) (9 : Int)) then ((2 : Int), ())
    = (cfgF (cn, cl, cp, ()), ()) else pIn y.1 (pLen cl) ∧ bif pNot (inF (pGet tyTxn cl (pNat y.1)).2.1 (0 : Int) (15 : Int)) then ((2 : Int), ()) = (cfgF (cn, cl, cp, ()), ()) else lCheckBInv cn cl cp y.1 ((0 : Int), ()) ∧
    ∀ (y_1 : kden Bool.false tI × PUnit), lCheckBInv cn cl cp y.1 y_1 → bif pLt y_1.1 y.1 then pIn y_1.1 (pLen cl) ∧ pIn y.1 (pLen cl) ∧ bif pAndB (pEq (pGet tyTxn cl (pNat y_1.1)).1 (pGet tyTxn cl (pNat y.1)).1) (pEq (pGet
    tyTxn cl (pNat y_1.1)).2.1 (pGet tyTxn cl (pNat y.1)).2.1) then ((7 : Int), ()) = (cfgF (cn, cl, cp, ()), ()) else lCheckBInv cn cl cp y.1 (pAdd IntKind.i64 y_1.1 (1 : Int), ()) ∧ Nat.le (Nat.succ (lCheckBMu cn cl cp y.1
    (pAdd IntKind.i64 y_1.1 (1 : Int), ()))) (lCheckBMu cn cl cp y.1 y_1) else lCheckAInv cn cl cp (pAdd IntKind.i64 y.1 (1 : Int), ()) ∧ Nat.le (Nat.succ (lCheckAMu cn cl cp (pAdd IntKind.i64 y.1 (1 : Int), ()))) (lCheckAMu
    cn cl cp y) else bif pNot (inF cp (1 : Int) (1048576 : Int)) then ((2 : Int), ()) = (cfgF (cn, cl, cp, ()), ()) else ((0 : Int), ()) = (cfgF (cn, cl, cp, ()), ())
set_option maxRecDepth 100000 in
theorem cFault_meets (hIn : Meets Tryd.prog (fun _ => none) 39 cIn) (h : ∀ (cn : Int) (cl : (List LabD)) (cp : Int), (∀ p ∈ (fun x => [pLen x.1.1.2.1 < 4611686018427387904] : Shape.den ⟨[pCfg], []⟩ → List Prop) ⟨((cn, cl, cp, ()), ()), ()⟩, p) → cFault_VC cn cl cp) : Meets Tryd.prog (fun _ => none) 38 ccFault :=
  meets_vc (E := envOf Tryd.prog [(39, (false, cIn))] [28, 103, 105, 107, 65, 31, 57]) (envOf_ok (fun p hp => (by simp only [List.mem_cons, List.not_mem_nil, or_false] at hp; rcases hp with rfl; exact hIn)) (by kernel_rfl)) ⟨[pCfg], []⟩ (fun x => fun ky9 st9 => look [(6, (⟨[.slot 3 false tI], lCheckAInv x.1.1.1 x.1.1.2.1 x.1.1.2.2.1, lCheckAMu x.1.1.1 x.1.1.2.1 x.1.1.2.2.1⟩ : Ann)), (11, (⟨[.slot 4 false tI], lCheckBInv x.1.1.1 x.1.1.2.1 x.1.1.2.2.1 (slotI st9 3), lCheckBMu x.1.1.1 x.1.1.2.1 x.1.1.2.2.1 (slotI st9 3)⟩ : Ann))] ky9) Tryd.func38 (by kernel_rfl) (by kernel_rfl) (fun x => [pLen x.1.1.2.1 < 4611686018427387904]) [] [.slot 0 false tI] (fun x => (cfgF x.1.1, ())) (fun x => cFault_VC x.1.1.1 x.1.1.2.1 x.1.1.2.2.1) (fun x => by kernel_rfl) (fun x hp => h x.1.1.1 x.1.1.2.1 x.1.1.2.2.1 hp)

end Go.Proofs.YtkhnakdmkhidbaaDoor
