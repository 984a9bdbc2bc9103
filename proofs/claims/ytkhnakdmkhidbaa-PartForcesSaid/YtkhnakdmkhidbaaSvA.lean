/- Contracts, and what the evaluator says, as plain propositions: SvA. Printed by vc.py. -/
import Derived.Test.YtkhnakdmkhidbaaSpA
namespace Go.Proofs.Ytkhnakdmkhidbaa
open Go.RowKit Go.ChangeShapes Go.WideShapes Go.Deep

def ctxn : Ctr := shCtr ⟨[pTxn], []⟩ (fun _ => []) [] [.slot 0 false .bool] (fun x => (txnF x.1.1, ()))
def cIn : Ctr := shCtr ⟨[pI, pI, pI], []⟩ (fun _ => []) [] [.slot 0 false .bool] (fun x => (inF x.1.1 x.1.2.1 x.1.2.2.1, ()))
def cplainTxn : Ctr := shCtr ⟨[pTxn], []⟩ (fun _ => []) [] [.slot 0 false .bool] (fun x => (txnF x.1.1, ()))
def citems : Ctr := shCtr ⟨[.one (.rd (.sl tyItem))], []⟩ (fun x => [pLen x.1.1 < 4611686018427387904]) [] [.slot 0 false .bool] (fun x => (itemsF x.1.1, ()))
def csameTxns : Ctr := shCtr ⟨[.one (.rd (.sl tyTxn)), .one (.rd (.sl tyTxn))], []⟩ (fun x => [pLen x.1.1 < 4611686018427387904]) [] [.slot 0 false .bool] (fun x => (sameTxnsF x.1.1 x.1.2.1, ()))
def ccloneItem : Ctr := shCtr ⟨[.one (.rd (.sl tyItem))], []⟩ (fun x => [pRoom (pLen x.1.1) 24]) [] [.slot 0 true tyItem] (fun x => (x.1.1, ()))
def ccloneLock : Ctr := shCtr ⟨[.one (.rd (.sl tyLock))], []⟩ (fun x => [pRoom (pLen x.1.1) 48]) [] [.slot 0 true tyLock] (fun x => (x.1.1, ()))
def ccloneDoubt : Ctr := shCtr ⟨[.one (.rd (.sl tyDoubt))], []⟩ (fun x => [pRoom (pLen x.1.1) 24]) [] [.slot 0 true tyDoubt] (fun x => (x.1.1, ()))
def ccloneTxn : Ctr := shCtr ⟨[.one (.rd (.sl tyTxn))], []⟩ (fun x => [pRoom (pLen x.1.1) 16]) [] [.slot 0 true tyTxn] (fun x => (x.1.1, ()))
def cown : Ctr := shCtr ⟨[pSto], []⟩ (fun x => [pRoom (pLen x.1.1.1) 24, pRoom (pLen x.1.1.2.1) 48, pRoom (pLen x.1.1.2.2.1) 24, pRoom (pLen x.1.1.2.2.2.1) 16]) [] [.agg 0 vSto] (fun x => ((x.1.1.1, x.1.1.2.1, x.1.1.2.2.1, x.1.1.2.2.2.1, ()), ()))
def csameStore : Ctr := shCtr ⟨[pSto, pSto], []⟩ (fun x => [pLen x.1.1.1 < 4611686018427387904, pLen x.1.1.2.1 < 4611686018427387904, pLen x.1.1.2.2.1 < 4611686018427387904, pLen x.1.1.2.2.2.1 < 4611686018427387904]) [] [.slot 0 false .bool] (fun x => (sameStoF x.1.1 x.1.2.1, ()))
def cIndex : Ctr := shCtr ⟨[.one (.rd (.sl tyTxn)), pTxn], []⟩ (fun x => [pLen x.1.1 < 4611686018427387904]) [] [.slot 0 false tI] (fun x => (idxTxnF x.1.1 x.1.2.1, ()))
def cContains : Ctr := shCtr ⟨[.one (.rd (.sl tyTxn)), pTxn], []⟩ (fun x => [pLen x.1.1 < 4611686018427387904]) [] [.slot 0 false .bool] (fun x => (pGe (idxTxnF x.1.1 x.1.2.1) 0, ()))
def cdoubted1 : Ctr := shCtr ⟨[.agg [.rd tI, .rd tI, .rd tI], .one (.lit (.pt 0 0))], [.box [.rd tI, .rd tI]]⟩ (fun _ => []) [] [.slot 0 false .bool] (fun x => (doubtIsF x.1.1 x.2.1, ()))
def cdoubts1 : Ctr := shCtr ⟨[.agg [.rd tI, .rd tI, .rd tI, .rd .bool, .rd tI, .rd tI], .one (.lit (.pt 0 0))], [.box [.rd tI, .rd tI, .rd tI]]⟩ (fun _ => []) [] [.slot 0 false .bool] (fun x => (lockIsF x.1.1 (x.2.1.1, x.2.1.2.1, ()), ()))
def cindexFuncDoubt : Ctr := shCtr ⟨[.one (.rd (.sl tyDoubt)), .one (.lit (.fn 69 [(0, 0)]))], [.box [.rd tI, .rd tI]]⟩ (fun x => [pLen x.1.1 < 4611686018427387904]) [] [.slot 0 false tI] (fun x => (idxDoubtF x.1.1 x.2.1, ()))
def ccontainsFuncDoubt : Ctr := shCtr ⟨[.one (.rd (.sl tyDoubt)), .one (.lit (.fn 69 [(0, 0)]))], [.box [.rd tI, .rd tI]]⟩ (fun x => [pLen x.1.1 < 4611686018427387904]) [] [.slot 0 false .bool] (fun x => (pGe (idxDoubtF x.1.1 x.2.1) 0, ()))
def cindexFuncLock : Ctr := shCtr ⟨[.one (.rd (.sl tyLock)), .one (.lit (.fn 65 [(0, 0)]))], [.box [.rd tI, .rd tI, .rd tI]]⟩ (fun x => [pLen x.1.1 < 4611686018427387904]) [] [.slot 0 false tI] (fun x => (idxLockF x.1.1 (x.2.1.1, x.2.1.2.1, ()), ()))
def ccontainsFuncLock : Ctr := shCtr ⟨[.one (.rd (.sl tyLock)), .one (.lit (.fn 65 [(0, 0)]))], [.box [.rd tI, .rd tI, .rd tI]]⟩ (fun x => [pLen x.1.1 < 4611686018427387904]) [] [.slot 0 false .bool] (fun x => (pGe (idxLockF x.1.1 (x.2.1.1, x.2.1.2.1, ())) 0, ()))
def cdoubted : Ctr := shCtr ⟨[pSto, pTxn], []⟩ (fun x => [pLen x.1.1.1 < 4611686018427387904, pLen x.1.1.2.1 < 4611686018427387904, pLen x.1.1.2.2.1 < 4611686018427387904, pLen x.1.1.2.2.2.1 < 4611686018427387904]) [] [.slot 0 false .bool] (fun x => (pGe (idxDoubtF x.1.1.2.2.1 x.1.2.1) 0, ()))

def txn_VC (a b : Int) : Prop :=
  bif pGe a (0 : Int) then bif pLt a (4 : Int) then bif pGe b (1 : Int) then (pLe b (1048576 : Int), ()) = (txnF (a, b, ()), ()) else (Bool.false, ()) = (txnF (a, b, ()), ()) else (Bool.false, ()) = (txnF (a, b, ()), ())
    else (Bool.false, ()) = (txnF (a, b, ()), ())
set_option maxRecDepth 100000 in
theorem txn_meets  (h : ∀ (a b : Int), txn_VC a b) : Meets Try.prog (fun _ => none) 36 ctxn :=
  meets_vc (E := envOf Try.prog [] [29, 51, 53, 55]) (envOf_ok (fun p hp => by cases hp) (by kernel_rfl)) ⟨[pTxn], []⟩ (fun x => fun k s => look [] k) Try.func36 (by kernel_rfl) (by kernel_rfl) (fun _ => []) [] [.slot 0 false .bool] (fun x => (txnF x.1.1, ())) (fun x => txn_VC x.1.1.1 x.1.1.2.1) (fun x => by kernel_rfl) (fun x _ => h x.1.1.1 x.1.1.2.1)

def In_VC (a b c : Int) : Prop :=
  bif pGe a b then (pLe a c, ()) = (inF a b c, ()) else (Bool.false, ()) = (inF a b c, ())
set_option maxRecDepth 100000 in
theorem In_meets  (h : ∀ (a b c : Int), In_VC a b c) : Meets Try.prog (fun _ => none) 51 cIn :=
  meets_vc (E := envOf Try.prog [] [29, 51, 53, 55]) (envOf_ok (fun p hp => by cases hp) (by kernel_rfl)) ⟨[pI, pI, pI], []⟩ (fun x => fun k s => look [] k) Try.func51 (by kernel_rfl) (by kernel_rfl) (fun _ => []) [] [.slot 0 false .bool] (fun x => (inF x.1.1 x.1.2.1 x.1.2.2.1, ())) (fun x => In_VC x.1.1 x.1.2.1 x.1.2.2.1) (fun x => by kernel_rfl) (fun x _ => h x.1.1 x.1.2.1 x.1.2.2.1)

def plainTxn_VC (a b : Int) : Prop :=
  bif inF a (0 : Int) (3 : Int) then (inF b (1 : Int) (1048576 : Int), ()) = (txnF (a, b, ()), ()) else (Bool.false, ()) = (txnF (a, b, ()), ())
set_option maxRecDepth 100000 in
theorem plainTxn_meets (hIn : Meets Try.prog (fun _ => none) 51 cIn) (h : ∀ (a b : Int), plainTxn_VC a b) : Meets Try.prog (fun _ => none) 50 cplainTxn :=
  meets_vc (E := envOf Try.prog [(51, (false, cIn))] [29, 51, 53, 55]) (envOf_ok (fun p hp => (by simp only [List.mem_cons, List.not_mem_nil, or_false] at hp; rcases hp with rfl; exact hIn)) (by kernel_rfl)) ⟨[pTxn], []⟩ (fun x => fun k s => look [] k) Try.func50 (by kernel_rfl) (by kernel_rfl) (fun _ => []) [] [.slot 0 false .bool] (fun x => (txnF x.1.1, ())) (fun x => plainTxn_VC x.1.1.1 x.1.1.2.1) (fun x => by kernel_rfl) (fun x _ => h x.1.1.1 x.1.1.2.1)

def items_VC (l : List ItemD) : Prop :=
  itemsInv l ((0 : Int), ()) ∧ ∀ (y : kden Bool.false tI × PUnit), itemsInv l y → bif pLt y.1 (pInt (pLen l)) then pIn y.1 (pLen l) ∧ bif pLt (pGet tyItem l (pNat y.1)).1 (0 : Int) then (Bool.false, ()) = (itemsF l, ())
    else bif pGe (pGet tyItem l (pNat y.1)).1 (8 : Int) then (Bool.false, ()) = (itemsF l, ()) else bif pLt (pGet tyItem l (pNat y.1)).2.1 (0 : Int) then (Bool.false, ()) = (itemsF l, ()) else bif pGt (pGet tyItem l (pNat
    y.1)).2.1 (1073741824 : Int) then (Bool.false, ()) = (itemsF l, ()) else bif pLt (pGet tyItem l (pNat y.1)).2.2.1 (1 : Int) then (Bool.false, ()) = (itemsF l, ()) else bif pGt (pGet tyItem l (pNat y.1)).2.2.1 (1048576 :
    Int) then (Bool.false, ()) = (itemsF l, ()) else bif pGt y.1 (0 : Int) then pIn (pSubI IntKind.i64 y.1 (1 : Int)) (pLen l) ∧ bif pGe (pGet tyItem l (pNat (pSubI IntKind.i64 y.1 (1 : Int)))).1 (pGet tyItem l (pNat y.1)).1
    then (Bool.false, ()) = (itemsF l, ()) else itemsInv l (pAdd IntKind.i64 y.1 (1 : Int), ()) ∧ Nat.le (Nat.succ (itemsMu l (pAdd IntKind.i64 y.1 (1 : Int), ()))) (itemsMu l y) else itemsInv l (pAdd IntKind.i64 y.1 (1 :
    Int), ()) ∧ Nat.le (Nat.succ (itemsMu l (pAdd IntKind.i64 y.1 (1 : Int), ()))) (itemsMu l y) else (Bool.true, ()) = (itemsF l, ())
set_option maxRecDepth 100000 in
theorem items_meets  (h : ∀ (l : List ItemD), (∀ p ∈ (fun x => [pLen x.1.1 < 4611686018427387904] : Shape.den ⟨[.one (.rd (.sl tyItem))], []⟩ → List Prop) ⟨(l, ()), ()⟩, p) → items_VC l) : Meets Try.prog (fun _ => none) 56 citems :=
  meets_vc (E := envOf Try.prog [] [29, 51, 53, 55]) (envOf_ok (fun p hp => by cases hp) (by kernel_rfl)) ⟨[.one (.rd (.sl tyItem))], []⟩ (fun x => fun k s => look [(2, (⟨[.slot 7 false tI], itemsInv x.1.1, itemsMu x.1.1⟩ : Ann))] k) Try.func56 (by kernel_rfl) (by kernel_rfl) (fun x => [pLen x.1.1 < 4611686018427387904]) [] [.slot 0 false .bool] (fun x => (itemsF x.1.1, ())) (fun x => items_VC x.1.1) (fun x => by kernel_rfl) (fun x hp => h x.1.1 hp)

def sameTxns_VC (l m : List TxnD) : Prop :=
  bif pNe (pInt (pLen l)) (pInt (pLen m)) then (Bool.false, ()) = (sameTxnsF l m, ()) else sameTxnsInv l m ((0 : Int), ()) ∧ ∀ (y : kden Bool.false tI × PUnit), sameTxnsInv l m y → bif pLt y.1 (pInt (pLen l)) then pIn y.1
    (pLen l) ∧ pIn y.1 (pLen m) ∧ bif pNot (pAndB (pEq (pGet tyTxn l (pNat y.1)).1 (pGet tyTxn m (pNat y.1)).1) (pEq (pGet tyTxn l (pNat y.1)).2.1 (pGet tyTxn m (pNat y.1)).2.1)) then (Bool.false, ()) = (sameTxnsF l m, ())
    else sameTxnsInv l m (pAdd IntKind.i64 y.1 (1 : Int), ()) ∧ Nat.le (Nat.succ (sameTxnsMu l m (pAdd IntKind.i64 y.1 (1 : Int), ()))) (sameTxnsMu l m y) else (Bool.true, ()) = (sameTxnsF l m, ())
set_option maxRecDepth 100000 in
theorem sameTxns_meets  (h : ∀ (l m : List TxnD), (∀ p ∈ (fun x => [pLen x.1.1 < 4611686018427387904] : Shape.den ⟨[.one (.rd (.sl tyTxn)), .one (.rd (.sl tyTxn))], []⟩ → List Prop) ⟨(l, m, ()), ()⟩, p) → sameTxns_VC l m) : Meets Try.prog (fun _ => none) 25 csameTxns :=
  meets_vc (E := envOf Try.prog [] [29, 51, 53, 55]) (envOf_ok (fun p hp => by cases hp) (by kernel_rfl)) ⟨[.one (.rd (.sl tyTxn)), .one (.rd (.sl tyTxn))], []⟩ (fun x => fun k s => look [(4, (⟨[.slot 5 false tI], sameTxnsInv x.1.1 x.1.2.1, sameTxnsMu x.1.1 x.1.2.1⟩ : Ann))] k) Try.func25 (by kernel_rfl) (by kernel_rfl) (fun x => [pLen x.1.1 < 4611686018427387904]) [] [.slot 0 false .bool] (fun x => (sameTxnsF x.1.1 x.1.2.1, ())) (fun x => sameTxns_VC x.1.1 x.1.2.1) (fun x => by kernel_rfl) (fun x hp => h x.1.1 x.1.2.1 hp)

def cloneItem_VC (l : List ItemD) : Prop :=
  (pLen l = 0 → ([], ()) = (l, ())) ∧ pRoom (pPlus (pLen ([] : List Unit)) (pLen l)) 24 ∧ (pApp [] l, ()) = (l, ())
set_option maxRecDepth 100000 in
theorem cloneItem_meets  (h : ∀ (l : List ItemD), (∀ p ∈ (fun x => [pRoom (pLen x.1.1) 24] : Shape.den ⟨[.one (.rd (.sl tyItem))], []⟩ → List Prop) ⟨(l, ()), ()⟩, p) → cloneItem_VC l) : Meets Try.prog (fun _ => none) 37 ccloneItem :=
  meets_vc (E := envOf Try.prog [] [29, 51, 53, 55]) (envOf_ok (fun p hp => by cases hp) (by kernel_rfl)) ⟨[.one (.rd (.sl tyItem))], []⟩ (fun x => fun k s => look [] k) Try.func37 (by kernel_rfl) (by kernel_rfl) (fun x => [pRoom (pLen x.1.1) 24]) [] [.slot 0 true tyItem] (fun x => (x.1.1, ())) (fun x => cloneItem_VC x.1.1) (fun x => by kernel_rfl) (fun x hp => h x.1.1 hp)

def cloneLock_VC (l : List LockD) : Prop :=
  (pLen l = 0 → ([], ()) = (l, ())) ∧ pRoom (pPlus (pLen ([] : List Unit)) (pLen l)) 48 ∧ (pApp [] l, ()) = (l, ())
set_option maxRecDepth 100000 in
theorem cloneLock_meets  (h : ∀ (l : List LockD), (∀ p ∈ (fun x => [pRoom (pLen x.1.1) 48] : Shape.den ⟨[.one (.rd (.sl tyLock))], []⟩ → List Prop) ⟨(l, ()), ()⟩, p) → cloneLock_VC l) : Meets Try.prog (fun _ => none) 38 ccloneLock :=
  meets_vc (E := envOf Try.prog [] [29, 51, 53, 55]) (envOf_ok (fun p hp => by cases hp) (by kernel_rfl)) ⟨[.one (.rd (.sl tyLock))], []⟩ (fun x => fun k s => look [] k) Try.func38 (by kernel_rfl) (by kernel_rfl) (fun x => [pRoom (pLen x.1.1) 48]) [] [.slot 0 true tyLock] (fun x => (x.1.1, ())) (fun x => cloneLock_VC x.1.1) (fun x => by kernel_rfl) (fun x hp => h x.1.1 hp)

def cloneDoubt_VC (l : List DoubtD) : Prop :=
  (pLen l = 0 → ([], ()) = (l, ())) ∧ pRoom (pPlus (pLen ([] : List Unit)) (pLen l)) 24 ∧ (pApp [] l, ()) = (l, ())
set_option maxRecDepth 100000 in
theorem cloneDoubt_meets  (h : ∀ (l : List DoubtD), (∀ p ∈ (fun x => [pRoom (pLen x.1.1) 24] : Shape.den ⟨[.one (.rd (.sl tyDoubt))], []⟩ → List Prop) ⟨(l, ()), ()⟩, p) → cloneDoubt_VC l) : Meets Try.prog (fun _ => none) 39 ccloneDoubt :=
  meets_vc (E := envOf Try.prog [] [29, 51, 53, 55]) (envOf_ok (fun p hp => by cases hp) (by kernel_rfl)) ⟨[.one (.rd (.sl tyDoubt))], []⟩ (fun x => fun k s => look [] k) Try.func39 (by kernel_rfl) (by kernel_rfl) (fun x => [pRoom (pLen x.1.1) 24]) [] [.slot 0 true tyDoubt] (fun x => (x.1.1, ())) (fun x => cloneDoubt_VC x.1.1) (fun x => by kernel_rfl) (fun x hp => h x.1.1 hp)

def cloneTxn_VC (l : List TxnD) : Prop :=
  (pLen l = 0 → ([], ()) = (l, ())) ∧ pRoom (pPlus (pLen ([] : List Unit)) (pLen l)) 16 ∧ (pApp [] l, ()) = (l, ())
set_option maxRecDepth 100000 in
theorem cloneTxn_meets  (h : ∀ (l : List TxnD), (∀ p ∈ (fun x => [pRoom (pLen x.1.1) 16] : Shape.den ⟨[.one (.rd (.sl tyTxn))], []⟩ → List Prop) ⟨(l, ()), ()⟩, p) → cloneTxn_VC l) : Meets Try.prog (fun _ => none) 40 ccloneTxn :=
  meets_vc (E := envOf Try.prog [] [29, 51, 53, 55]) (envOf_ok (fun p hp => by cases hp) (by kernel_rfl)) ⟨[.one (.rd (.sl tyTxn))], []⟩ (fun x => fun k s => look [] k) Try.func40 (by kernel_rfl) (by kernel_rfl) (fun x => [pRoom (pLen x.1.1) 16]) [] [.slot 0 true tyTxn] (fun x => (x.1.1, ())) (fun x => cloneTxn_VC x.1.1) (fun x => by kernel_rfl) (fun x hp => h x.1.1 hp)

def own_VC (is : List ItemD) (ls : List LockD) (ds : List DoubtD) (os : List TxnD) : Prop :=
  pRoom (pLen is) 24 ∧ pRoom (pLen ls) 48 ∧ pRoom (pLen ds) 24 ∧ pRoom (pLen os) 16 ∧ ((is, ls, ds, os, ()), ()) = ((is, ls, ds, os, ()), ())
set_option maxRecDepth 100000 in
theorem own_meets (hcloneItem : Meets Try.prog (fun _ => none) 37 ccloneItem) (hcloneLock : Meets Try.prog (fun _ => none) 38 ccloneLock) (hcloneDoubt : Meets Try.prog (fun _ => none) 39 ccloneDoubt) (hcloneTxn : Meets Try.prog (fun _ => none) 40 ccloneTxn) (h : ∀ (is : List ItemD) (ls : List LockD) (ds : List DoubtD) (os : List TxnD), (∀ p ∈ (fun x => [pRoom (pLen x.1.1.1) 24, pRoom (pLen x.1.1.2.1) 48, pRoom (pLen x.1.1.2.2.1) 24, pRoom (pLen x.1.1.2.2.2.1) 16] : Shape.den ⟨[pSto], []⟩ → List Prop) ⟨((is, ls, ds, os, ()), ()), ()⟩, p) → own_VC is ls ds os) : Meets Try.prog (fun _ => none) 14 cown :=
  meets_vc (E := envOf Try.prog [(37, (false, ccloneItem)), (38, (false, ccloneLock)), (39, (false, ccloneDoubt)), (40, (false, ccloneTxn))] [29, 51, 53, 55]) (envOf_ok (fun p hp => (by simp only [List.mem_cons, List.not_mem_nil, or_false] at hp; rcases hp with rfl | rfl | rfl | rfl; exact hcloneItem; exact hcloneLock; exact hcloneDoubt; exact hcloneTxn)) (by kernel_rfl)) ⟨[pSto], []⟩ (fun x => fun k s => look [] k) Try.func14 (by kernel_rfl) (by kernel_rfl) (fun x => [pRoom (pLen x.1.1.1) 24, pRoom (pLen x.1.1.2.1) 48, pRoom (pLen x.1.1.2.2.1) 24, pRoom (pLen x.1.1.2.2.2.1) 16]) [] [.agg 0 vSto] (fun x => ((x.1.1.1, x.1.1.2.1, x.1.1.2.2.1, x.1.1.2.2.2.1, ()), ())) (fun x => own_VC x.1.1.1 x.1.1.2.1 x.1.1.2.2.1 x.1.1.2.2.2.1) (fun x => by kernel_rfl) (fun x hp => h x.1.1.1 x.1.1.2.1 x.1.1.2.2.1 x.1.1.2.2.2.1 hp)

def sameStore_VC (is : List ItemD) (ls : List LockD) (ds : List DoubtD) (os : List TxnD) (is2 : List ItemD) (ls2 : List LockD) (ds2 : List DoubtD) (os2 : List TxnD) : Prop :=
  bif pNe (pInt (pLen is)) (pInt (pLen is2)) then (Bool.false, ()) = (sameStoF (is, ls, ds, os, ()) (is2, ls2, ds2, os2, ()), ()) else bif pNe (pInt (pLen ls)) (pInt (pLen ls2)) then (Bool.false, ()) = (sameStoF (is, ls,
    ds, os, ()) (is2, ls2, ds2, os2, ()), ()) else bif pNe (pInt (pLen ds)) (pInt (pLen ds2)) then (Bool.false, ()) = (sameStoF (is, ls, ds, os, ()) (is2, ls2, ds2, os2, ()), ()) else Nat.le (Nat.succ (pLen os))
    4611686018427387904 ∧ bif pNot (sameTxnsF os os2) then (Bool.false, ()) = (sameStoF (is, ls, ds, os, ()) (is2, ls2, ds2, os2, ()), ()) else sameStoAInv is ls ds os is2 ls2 ds2 os2 ((0 : Int), ()) ∧ ∀ (y : kden Bool.false
    tI × PUnit), sameStoAInv is ls ds os is2 ls2 ds2 os2 y → bif pLt y.1 (pInt (pLen is)) then pIn y.1 (pLen is) ∧ pIn y.1 (pLen is2) ∧ bif pNot (pAndB (pEq (pGet tyItem is (pNat y.1)).1 (pGet tyItem is2 (pNat y.1)).1)
    (pAndB (pEq (pGet tyItem is (pNat y.1)).2.1 (pGet tyItem is2 (pNat y.1)).2.1) (pEq (pGet tyItem is (pNat y.1)).2.2.1 (pGet tyItem is2 (pNat y.1)).2.2.1))) then (Bool.false, ()) = (sameStoF (is, ls, ds, os, ()) (is2, ls2,
    ds2, os2, ()), ()) else sameStoAInv is ls ds os is2 ls2 ds2 os2 (pAdd IntKind.i64 y.1 (1 : Int), ()) ∧ Nat.le (Nat.succ (sameStoAMu is ls ds os is2 ls2 ds2 os2 (pAdd IntKind.i64 y.1 (1 : Int), ()))) (sameStoAMu is ls ds
    os is2 ls2 ds2 os2 y) else sameStoBInv is ls ds os is2 ls2 ds2 os2 ((0 : Int), ()) ∧ ∀ (y : kden Bool.false tI × PUnit), sameStoBInv is ls ds os is2 ls2 ds2 os2 y → bif pLt y.1 (pInt (pLen ls)) then pIn y.1 (pLen ls) ∧
    pIn y.1 (pLen ls2) ∧ bif pNot (pAndB (pEq (pGet tyLock ls (pNat y.1)).1 (pGet tyLock ls2 (pNat y.1)).1) (pAndB (pEq (pGet tyLock ls (pNat y.1)).2.1 (pGet tyLock ls2 (pNat y.1)).2.1) (pAndB (pEq (pGet tyLock ls (pNat
    y.1)).2.2.1 (pGet tyLock ls2 (pNat y.1)).2.2.1) (pAndB (pBeq (pGet tyLock ls (pNat y.1)).2.2.2.1 (pGet tyLock ls2 (pNat y.1)).2.2.2.1) (pAndB (pEq (pGet tyLock ls (pNat y.1)).2.2.2.2.1 (pGet tyLock ls2 (pNat
    y.1)).2.2.2.2.1) (pEq (pGet tyLock ls (pNat y.1)).2.2.2.2.2.1 (pGet tyLock ls2 (pNat y.1)).2.2.2.2.2.1)))))) then (Bool.false, ()) = (sameStoF (is, ls, ds, os, ()) (is2, ls2, ds2, os2, ()), ()) else sameStoBInv is ls ds
    os is2 ls2 ds2 os2 (pAdd IntKind.i64 y.1 (1 : Int), ()) ∧ Nat.le (Nat.succ (sameStoBMu is ls ds os is2 ls2 ds2 os2 (pAdd IntKind.i64 y.1 (1 : Int), ()))) (sameStoBMu is ls ds os is2 ls2 ds2 os2 y) else sameStoCInv is ls
    ds os is2 ls2 ds2 os2 ((0 : Int), ()) ∧ ∀ (y : kden Bool.false tI × PUnit), sameStoCInv is ls ds os is2 ls2 ds2 os2 y → bif pLt y.1 (pInt (pLen ds)) then pIn y.1 (pLen ds) ∧ pIn y.1 (pLen ds2) ∧ bif pNot (pAndB (pEq
    (pGet tyItem ds (pNat y.1)).1 (pGet tyItem ds2 (pNat y.1)).1) (pAndB (pEq (pGet tyItem ds (pNat y.1)).2.1 (pGet tyItem ds2 (pNat y.1)).2.1) (pEq (pGet tyItem ds (pNat y.1)).2.2.1 (pGet tyItem ds2 (pNat y.1)).2.2.1)))
    then (Bool.false, ()) = (sameStoF (is, ls, ds, os, ()) (is2, ls2, ds2, os2, ()), ()) else sameStoCInv is ls ds os is2 ls2 ds2 os2 (pAdd IntKind.i64 y.1 (1 : Int), ()) ∧ Nat.le (Nat.succ (sameStoCMu is ls ds os is2 ls2
    ds2 os2 (pAdd IntKind.i64 y.1 (1 : Int), ()))) (sameStoCMu is ls ds os is2 ls2 ds2 os2 y) else (Bool.true, ()) = (sameStoF (is, ls, ds, os, ()) (is2, ls2, ds2, os2, ()), ())
set_option maxRecDepth 100000 in
theorem sameStore_meets (hsameTxns : Meets Try.prog (fun _ => none) 25 csameTxns) (h : ∀ (is : List ItemD) (ls : List LockD) (ds : List DoubtD) (os : List TxnD) (is2 : List ItemD) (ls2 : List LockD) (ds2 : List DoubtD) (os2 : List TxnD), (∀ p ∈ (fun x => [pLen x.1.1.1 < 4611686018427387904, pLen x.1.1.2.1 < 4611686018427387904, pLen x.1.1.2.2.1 < 4611686018427387904, pLen x.1.1.2.2.2.1 < 4611686018427387904] : Shape.den ⟨[pSto, pSto], []⟩ → List Prop) ⟨((is, ls, ds, os, ()), (is2, ls2, ds2, os2, ()), ()), ()⟩, p) → sameStore_VC is ls ds os is2 ls2 ds2 os2) : Meets Try.prog (fun _ => none) 8 csameStore :=
  meets_vc (E := envOf Try.prog [(25, (false, csameTxns))] [29, 51, 53, 55]) (envOf_ok (fun p hp => (by simp only [List.mem_cons, List.not_mem_nil, or_false] at hp; rcases hp with rfl; exact hsameTxns)) (by kernel_rfl)) ⟨[pSto, pSto], []⟩ (fun x => fun k s => look [(4, (⟨[.slot 5 false tI], sameStoAInv x.1.1.1 x.1.1.2.1 x.1.1.2.2.1 x.1.1.2.2.2.1 x.1.2.1.1 x.1.2.1.2.1 x.1.2.1.2.2.1 x.1.2.1.2.2.2.1, sameStoAMu x.1.1.1 x.1.1.2.1 x.1.1.2.2.1 x.1.1.2.2.2.1 x.1.2.1.1 x.1.2.1.2.1 x.1.2.1.2.2.1 x.1.2.1.2.2.2.1⟩ : Ann)), (9, (⟨[.slot 6 false tI], sameStoBInv x.1.1.1 x.1.1.2.1 x.1.1.2.2.1 x.1.1.2.2.2.1 x.1.2.1.1 x.1.2.1.2.1 x.1.2.1.2.2.1 x.1.2.1.2.2.2.1, sameStoBMu x.1.1.1 x.1.1.2.1 x.1.1.2.2.1 x.1.1.2.2.2.1 x.1.2.1.1 x.1.2.1.2.1 x.1.2.1.2.2.1 x.1.2.1.2.2.2.1⟩ : Ann)), (14, (⟨[.slot 7 false tI], sameStoCInv x.1.1.1 x.1.1.2.1 x.1.1.2.2.1 x.1.1.2.2.2.1 x.1.2.1.1 x.1.2.1.2.1 x.1.2.1.2.2.1 x.1.2.1.2.2.2.1, sameStoCMu x.1.1.1 x.1.1.2.1 x.1.1.2.2.1 x.1.1.2.2.2.1 x.1.2.1.1 x.1.2.1.2.1 x.1.2.1.2.2.1 x.1.2.1.2.2.2.1⟩ : Ann))] k) Try.func8 (by kernel_rfl) (by kernel_rfl) (fun x => [pLen x.1.1.1 < 4611686018427387904, pLen x.1.1.2.1 < 4611686018427387904, pLen x.1.1.2.2.1 < 4611686018427387904, pLen x.1.1.2.2.2.1 < 4611686018427387904]) [] [.slot 0 false .bool] (fun x => (sameStoF x.1.1 x.1.2.1, ())) (fun x => sameStore_VC x.1.1.1 x.1.1.2.1 x.1.1.2.2.1 x.1.1.2.2.2.1 x.1.2.1.1 x.1.2.1.2.1 x.1.2.1.2.2.1 x.1.2.1.2.2.2.1) (fun x => by kernel_rfl) (fun x hp => h x.1.1.1 x.1.1.2.1 x.1.1.2.2.1 x.1.1.2.2.2.1 x.1.2.1.1 x.1.2.1.2.1 x.1.2.1.2.2.1 x.1.2.1.2.2.2.1 hp)

def Index_VC (l : List TxnD) (a b : Int) : Prop :=
  indexInv l a b ((0 : Int), ()) ∧ ∀ (y : kden Bool.false tI × PUnit), indexInv l a b y → bif pLt y.1 (pInt (pLen l)) then pIn y.1 (pLen l) ∧ bif pAndB (pEq a (pGet tyTxn l (pNat y.1)).1) (pEq b (pGet tyTxn l (pNat
    y.1)).2.1) then (y.1, ()) = (idxTxnF l (a, b, ()), ()) else indexInv l a b (pAdd IntKind.i64 y.1 (1 : Int), ()) ∧ Nat.le (Nat.succ (indexMu l a b (pAdd IntKind.i64 y.1 (1 : Int), ()))) (indexMu l a b y) else ((-1 : Int),
    ()) = (idxTxnF l (a, b, ()), ())
set_option maxRecDepth 100000 in
theorem Index_meets  (h : ∀ (l : List TxnD) (a b : Int), (∀ p ∈ (fun x => [pLen x.1.1 < 4611686018427387904] : Shape.den ⟨[.one (.rd (.sl tyTxn)), pTxn], []⟩ → List Prop) ⟨(l, (a, b, ()), ()), ()⟩, p) → Index_VC l a b) : Meets Try.prog (fun _ => none) 48 cIndex :=
  meets_vc (E := envOf Try.prog [] [29, 51, 53, 55]) (envOf_ok (fun p hp => by cases hp) (by kernel_rfl)) ⟨[.one (.rd (.sl tyTxn)), pTxn], []⟩ (fun x => fun k s => look [(2, (⟨[.slot 8 false tI], indexInv x.1.1 x.1.2.1.1 x.1.2.1.2.1, indexMu x.1.1 x.1.2.1.1 x.1.2.1.2.1⟩ : Ann))] k) Try.func48 (by kernel_rfl) (by kernel_rfl) (fun x => [pLen x.1.1 < 4611686018427387904]) [] [.slot 0 false tI] (fun x => (idxTxnF x.1.1 x.1.2.1, ())) (fun x => Index_VC x.1.1 x.1.2.1.1 x.1.2.1.2.1) (fun x => by kernel_rfl) (fun x hp => h x.1.1 x.1.2.1.1 x.1.2.1.2.1 hp)

def Contains_VC (l : List TxnD) (a b : Int) : Prop :=
  Nat.le (Nat.succ (pLen l)) 4611686018427387904 ∧ (pGe (idxTxnF l (a, b, ())) (0 : Int), ()) = (pGe (idxTxnF l (a, b, ())) (0 : Int), ())
set_option maxRecDepth 100000 in
theorem Contains_meets (hIndex : Meets Try.prog (fun _ => none) 48 cIndex) (h : ∀ (l : List TxnD) (a b : Int), (∀ p ∈ (fun x => [pLen x.1.1 < 4611686018427387904] : Shape.den ⟨[.one (.rd (.sl tyTxn)), pTxn], []⟩ → List Prop) ⟨(l, (a, b, ()), ()), ()⟩, p) → Contains_VC l a b) : Meets Try.prog (fun _ => none) 21 cContains :=
  meets_vc (E := envOf Try.prog [(48, (false, cIndex))] [29, 51, 53, 55]) (envOf_ok (fun p hp => (by simp only [List.mem_cons, List.not_mem_nil, or_false] at hp; rcases hp with rfl; exact hIndex)) (by kernel_rfl)) ⟨[.one (.rd (.sl tyTxn)), pTxn], []⟩ (fun x => fun k s => look [] k) Try.func21 (by kernel_rfl) (by kernel_rfl) (fun x => [pLen x.1.1 < 4611686018427387904]) [] [.slot 0 false .bool] (fun x => (pGe (idxTxnF x.1.1 x.1.2.1) 0, ())) (fun x => Contains_VC x.1.1 x.1.2.1.1 x.1.2.1.2.1) (fun x => by kernel_rfl) (fun x hp => h x.1.1 x.1.2.1.1 x.1.2.1.2.1 hp)

def doubted1_VC (s n a c d : Int) : Prop :=
  (pAndB (pEq s c) (pEq n d), ()) = (doubtIsF (s, n, a, ()) (c, d, ()), ())
set_option maxRecDepth 100000 in
theorem doubted1_meets  (h : ∀ (s n a c d : Int), doubted1_VC s n a c d) : Meets Try.prog (fun _ => none) 69 cdoubted1 :=
  meets_vc (E := envOf Try.prog [] [29, 51, 53, 55]) (envOf_ok (fun p hp => by cases hp) (by kernel_rfl)) ⟨[.agg [.rd tI, .rd tI, .rd tI], .one (.lit (.pt 0 0))], [.box [.rd tI, .rd tI]]⟩ (fun x => fun k s => look [] k) Try.func69 (by kernel_rfl) (by kernel_rfl) (fun _ => []) [] [.slot 0 false .bool] (fun x => (doubtIsF x.1.1 x.2.1, ())) (fun x => doubted1_VC x.1.1.1 x.1.1.2.1 x.1.1.2.2.1 x.2.1.1 x.2.1.2.1) (fun x => by kernel_rfl) (fun x _ => h x.1.1.1 x.1.1.2.1 x.1.1.2.2.1 x.2.1.1 x.2.1.2.1)

def doubts1_VC (s n k : Int) (wr : Bool) (v q c d a : Int) : Prop :=
  (pAndB (pEq s c) (pEq n d), ()) = (lockIsF (s, n, k, wr, v, q, ()) (c, d, ()), ())
set_option maxRecDepth 100000 in
theorem doubts1_meets  (h : ∀ (s n k : Int) (wr : Bool) (v q c d a : Int), doubts1_VC s n k wr v q c d a) : Meets Try.prog (fun _ => none) 65 cdoubts1 :=
  meets_vc (E := envOf Try.prog [] [29, 51, 53, 55]) (envOf_ok (fun p hp => by cases hp) (by kernel_rfl)) ⟨[.agg [.rd tI, .rd tI, .rd tI, .rd .bool, .rd tI, .rd tI], .one (.lit (.pt 0 0))], [.box [.rd tI, .rd tI, .rd tI]]⟩ (fun x => fun k s => look [] k) Try.func65 (by kernel_rfl) (by kernel_rfl) (fun _ => []) [] [.slot 0 false .bool] (fun x => (lockIsF x.1.1 (x.2.1.1, x.2.1.2.1, ()), ())) (fun x => doubts1_VC x.1.1.1 x.1.1.2.1 x.1.1.2.2.1 x.1.1.2.2.2.1 x.1.1.2.2.2.2.1 x.1.1.2.2.2.2.2.1 x.2.1.1 x.2.1.2.1 x.2.1.2.2.1) (fun x => by kernel_rfl) (fun x _ => h x.1.1.1 x.1.1.2.1 x.1.1.2.2.1 x.1.1.2.2.2.1 x.1.1.2.2.2.2.1 x.1.1.2.2.2.2.2.1 x.2.1.1 x.2.1.2.1 x.2.1.2.2.1)

def indexFuncDoubt_VC (l : List DoubtD) (c d : Int) : Prop :=
  indexFuncDoubtInv l c d ((0 : Int), ()) ∧ ∀ (y : kden Bool.false tI × PUnit), indexFuncDoubtInv l c d y → bif pLt y.1 (pInt (pLen l)) then pIn y.1 (pLen l) ∧ bif doubtIsF ((pGet tyItem l (pNat y.1)).1, (pGet tyItem l
    (pNat y.1)).2.1, (pGet tyItem l (pNat y.1)).2.2.1, ()) (c, d, ()) then (y.1, ()) = (idxDoubtF l (c, d, ()), ()) else indexFuncDoubtInv l c d (pAdd IntKind.i64 y.1 (1 : Int), ()) ∧ Nat.le (Nat.succ (indexFuncDoubtMu l c d
    (pAdd IntKind.i64 y.1 (1 : Int), ()))) (indexFuncDoubtMu l c d y) else ((-1 : Int), ()) = (idxDoubtF l (c, d, ()), ())
set_option maxRecDepth 100000 in
theorem indexFuncDoubt_meets (hdoubted1 : Meets Try.prog (fun _ => none) 69 cdoubted1) (h : ∀ (l : List DoubtD) (c d : Int), (∀ p ∈ (fun x => [pLen x.1.1 < 4611686018427387904] : Shape.den ⟨[.one (.rd (.sl tyDoubt)), .one (.lit (.fn 69 [(0, 0)]))], [.box [.rd tI, .rd tI]]⟩ → List Prop) ⟨(l, (), ()), ((c, d, ()), ())⟩, p) → indexFuncDoubt_VC l c d) : Meets Try.prog (fun _ => none) 47 cindexFuncDoubt :=
  meets_vc (E := envOf Try.prog [(69, (false, cdoubted1))] [29, 51, 53, 55]) (envOf_ok (fun p hp => (by simp only [List.mem_cons, List.not_mem_nil, or_false] at hp; rcases hp with rfl; exact hdoubted1)) (by kernel_rfl)) ⟨[.one (.rd (.sl tyDoubt)), .one (.lit (.fn 69 [(0, 0)]))], [.box [.rd tI, .rd tI]]⟩ (fun x => fun k s => look [(2, (⟨[.slot 8 false tI], indexFuncDoubtInv x.1.1 x.2.1.1 x.2.1.2.1, indexFuncDoubtMu x.1.1 x.2.1.1 x.2.1.2.1⟩ : Ann))] k) Try.func47 (by kernel_rfl) (by kernel_rfl) (fun x => [pLen x.1.1 < 4611686018427387904]) [] [.slot 0 false tI] (fun x => (idxDoubtF x.1.1 x.2.1, ())) (fun x => indexFuncDoubt_VC x.1.1 x.2.1.1 x.2.1.2.1) (fun x => by kernel_rfl) (fun x hp => h x.1.1 x.2.1.1 x.2.1.2.1 hp)

def containsFuncDoubt_VC (l : List DoubtD) (c d : Int) : Prop :=
  Nat.le (Nat.succ (pLen l)) 4611686018427387904 ∧ (pGe (idxDoubtF l (c, d, ())) (0 : Int), ()) = (pGe (idxDoubtF l (c, d, ())) (0 : Int), ())
set_option maxRecDepth 100000 in
theorem containsFuncDoubt_meets (hindexFuncDoubt : Meets Try.prog (fun _ => none) 47 cindexFuncDoubt) (h : ∀ (l : List DoubtD) (c d : Int), (∀ p ∈ (fun x => [pLen x.1.1 < 4611686018427387904] : Shape.den ⟨[.one (.rd (.sl tyDoubt)), .one (.lit (.fn 69 [(0, 0)]))], [.box [.rd tI, .rd tI]]⟩ → List Prop) ⟨(l, (), ()), ((c, d, ()), ())⟩, p) → containsFuncDoubt_VC l c d) : Meets Try.prog (fun _ => none) 68 ccontainsFuncDoubt :=
  meets_vc (E := envOf Try.prog [(47, (false, cindexFuncDoubt))] [29, 51, 53, 55]) (envOf_ok (fun p hp => (by simp only [List.mem_cons, List.not_mem_nil, or_false] at hp; rcases hp with rfl; exact hindexFuncDoubt)) (by kernel_rfl)) ⟨[.one (.rd (.sl tyDoubt)), .one (.lit (.fn 69 [(0, 0)]))], [.box [.rd tI, .rd tI]]⟩ (fun x => fun k s => look [] k) Try.func68 (by kernel_rfl) (by kernel_rfl) (fun x => [pLen x.1.1 < 4611686018427387904]) [] [.slot 0 false .bool] (fun x => (pGe (idxDoubtF x.1.1 x.2.1) 0, ())) (fun x => containsFuncDoubt_VC x.1.1 x.2.1.1 x.2.1.2.1) (fun x => by kernel_rfl) (fun x hp => h x.1.1 x.2.1.1 x.2.1.2.1 hp)

def indexFuncLock_VC (l : List LockD) (c d a : Int) : Prop :=
  indexFuncLockInv l c d a ((0 : Int), ()) ∧ ∀ (y : kden Bool.false tI × PUnit), indexFuncLockInv l c d a y → bif pLt y.1 (pInt (pLen l)) then pIn y.1 (pLen l) ∧ bif lockIsF ((pGet tyLock l (pNat y.1)).1, (pGet tyLock l
    (pNat y.1)).2.1, (pGet tyLock l (pNat y.1)).2.2.1, (pGet tyLock l (pNat y.1)).2.2.2.1, (pGet tyLock l (pNat y.1)).2.2.2.2.1, (pGet tyLock l (pNat y.1)).2.2.2.2.2.1, ()) (c, d, ()) then (y.1, ()) = (idxLockF l (c, d, ()),
    ()) else indexFuncLockInv l c d a (pAdd IntKind.i64 y.1 (1 : Int), ()) ∧ Nat.le (Nat.succ (indexFuncLockMu l c d a (pAdd IntKind.i64 y.1 (1 : Int), ()))) (indexFuncLockMu l c d a y) else ((-1 : Int), ()) = (idxLockF l
    (c, d, ()), ())
set_option maxRecDepth 100000 in
theorem indexFuncLock_meets (hdoubts1 : Meets Try.prog (fun _ => none) 65 cdoubts1) (h : ∀ (l : List LockD) (c d a : Int), (∀ p ∈ (fun x => [pLen x.1.1 < 4611686018427387904] : Shape.den ⟨[.one (.rd (.sl tyLock)), .one (.lit (.fn 65 [(0, 0)]))], [.box [.rd tI, .rd tI, .rd tI]]⟩ → List Prop) ⟨(l, (), ()), ((c, d, a, ()), ())⟩, p) → indexFuncLock_VC l c d a) : Meets Try.prog (fun _ => none) 46 cindexFuncLock :=
  meets_vc (E := envOf Try.prog [(65, (false, cdoubts1))] [29, 51, 53, 55]) (envOf_ok (fun p hp => (by simp only [List.mem_cons, List.not_mem_nil, or_false] at hp; rcases hp with rfl; exact hdoubts1)) (by kernel_rfl)) ⟨[.one (.rd (.sl tyLock)), .one (.lit (.fn 65 [(0, 0)]))], [.box [.rd tI, .rd tI, .rd tI]]⟩ (fun x => fun k s => look [(2, (⟨[.slot 8 false tI], indexFuncLockInv x.1.1 x.2.1.1 x.2.1.2.1 x.2.1.2.2.1, indexFuncLockMu x.1.1 x.2.1.1 x.2.1.2.1 x.2.1.2.2.1⟩ : Ann))] k) Try.func46 (by kernel_rfl) (by kernel_rfl) (fun x => [pLen x.1.1 < 4611686018427387904]) [] [.slot 0 false tI] (fun x => (idxLockF x.1.1 (x.2.1.1, x.2.1.2.1, ()), ())) (fun x => indexFuncLock_VC x.1.1 x.2.1.1 x.2.1.2.1 x.2.1.2.2.1) (fun x => by kernel_rfl) (fun x hp => h x.1.1 x.2.1.1 x.2.1.2.1 x.2.1.2.2.1 hp)

def containsFuncLock_VC (l : List LockD) (c d a : Int) : Prop :=
  Nat.le (Nat.succ (pLen l)) 4611686018427387904 ∧ (pGe (idxLockF l (c, d, ())) (0 : Int), ()) = (pGe (idxLockF l (c, d, ())) (0 : Int), ())
set_option maxRecDepth 100000 in
theorem containsFuncLock_meets (hindexFuncLock : Meets Try.prog (fun _ => none) 46 cindexFuncLock) (h : ∀ (l : List LockD) (c d a : Int), (∀ p ∈ (fun x => [pLen x.1.1 < 4611686018427387904] : Shape.den ⟨[.one (.rd (.sl tyLock)), .one (.lit (.fn 65 [(0, 0)]))], [.box [.rd tI, .rd tI, .rd tI]]⟩ → List Prop) ⟨(l, (), ()), ((c, d, a, ()), ())⟩, p) → containsFuncLock_VC l c d a) : Meets Try.prog (fun _ => none) 64 ccontainsFuncLock :=
  meets_vc (E := envOf Try.prog [(46, (false, cindexFuncLock))] [29, 51, 53, 55]) (envOf_ok (fun p hp => (by simp only [List.mem_cons, List.not_mem_nil, or_false] at hp; rcases hp with rfl; exact hindexFuncLock)) (by kernel_rfl)) ⟨[.one (.rd (.sl tyLock)), .one (.lit (.fn 65 [(0, 0)]))], [.box [.rd tI, .rd tI, .rd tI]]⟩ (fun x => fun k s => look [] k) Try.func64 (by kernel_rfl) (by kernel_rfl) (fun x => [pLen x.1.1 < 4611686018427387904]) [] [.slot 0 false .bool] (fun x => (pGe (idxLockF x.1.1 (x.2.1.1, x.2.1.2.1, ())) 0, ())) (fun x => containsFuncLock_VC x.1.1 x.2.1.1 x.2.1.2.1 x.2.1.2.2.1) (fun x => by kernel_rfl) (fun x hp => h x.1.1 x.2.1.1 x.2.1.2.1 x.2.1.2.2.1 hp)

def doubted_VC (is : List ItemD) (ls : List LockD) (ds : List DoubtD) (os : List TxnD) (a b : Int) : Prop :=
  Nat.le (Nat.succ (pLen ds)) 4611686018427387904 ∧ (pGe (idxDoubtF ds (a, b, ())) (0 : Int), ()) = (pGe (idxDoubtF ds (a, b, ())) (0 : Int), ())
set_option maxRecDepth 100000 in
theorem doubted_meets (hcontainsFuncDoubt : Meets Try.prog (fun _ => none) 68 ccontainsFuncDoubt) (h : ∀ (is : List ItemD) (ls : List LockD) (ds : List DoubtD) (os : List TxnD) (a b : Int), (∀ p ∈ (fun x => [pLen x.1.1.1 < 4611686018427387904, pLen x.1.1.2.1 < 4611686018427387904, pLen x.1.1.2.2.1 < 4611686018427387904, pLen x.1.1.2.2.2.1 < 4611686018427387904] : Shape.den ⟨[pSto, pTxn], []⟩ → List Prop) ⟨((is, ls, ds, os, ()), (a, b, ()), ()), ()⟩, p) → doubted_VC is ls ds os a b) : Meets Try.prog (fun _ => none) 66 cdoubted :=
  meets_vc (E := envOf Try.prog [(68, (false, ccontainsFuncDoubt))] [29, 51, 53, 55]) (envOf_ok (fun p hp => (by simp only [List.mem_cons, List.not_mem_nil, or_false] at hp; rcases hp with rfl; exact hcontainsFuncDoubt)) (by kernel_rfl)) ⟨[pSto, pTxn], []⟩ (fun x => fun k s => look [] k) Try.func66 (by kernel_rfl) (by kernel_rfl) (fun x => [pLen x.1.1.1 < 4611686018427387904, pLen x.1.1.2.1 < 4611686018427387904, pLen x.1.1.2.2.1 < 4611686018427387904, pLen x.1.1.2.2.2.1 < 4611686018427387904]) [] [.slot 0 false .bool] (fun x => (pGe (idxDoubtF x.1.1.2.2.1 x.1.2.1) 0, ())) (fun x => doubted_VC x.1.1.1 x.1.1.2.1 x.1.1.2.2.1 x.1.1.2.2.2.1 x.1.2.1.1 x.1.2.1.2.1) (fun x => by kernel_rfl) (fun x hp => h x.1.1.1 x.1.1.2.1 x.1.1.2.2.1 x.1.1.2.2.2.1 x.1.2.1.1 x.1.2.1.2.1 hp)

end Go.Proofs.Ytkhnakdmkhidbaa
