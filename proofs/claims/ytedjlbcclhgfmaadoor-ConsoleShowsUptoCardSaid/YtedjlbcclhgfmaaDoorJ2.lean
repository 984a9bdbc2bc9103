/- Configurations and stores: the checks of both sides, what a transaction prepared to write. No condition. -/
import Derived.Test.YtedjlbcclhgfmaaDoorFH
import Derived.Test.YtedjlbcclhgfmaaDoorJ1

/- Configurations and stores: the checks of both sides, what a transaction prepared to write. No condition. -/
namespace Go.Proofs.YtedjlbcclhgfmaaDoor
open Go.RowKit Go.ChangeShapes Go.WideShapes Go.Deep

abbrev tI : Ty := .int .i64
abbrev tyTxn : Ty := .pair tI (.pair tI .unit)
abbrev tyItem : Ty := .pair tI (.pair tI (.pair tI .unit))
abbrev tyLock : Ty := .pair tI (.pair tI (.pair tI (.pair .bool (.pair tI (.pair tI .unit)))))
abbrev tyDoubt : Ty := .pair tI (.pair tI (.pair tI .unit))
abbrev TxnD := Int × Int × Unit
abbrev ItemD := Int × Int × Int × Unit
abbrev LockD := Int × Int × Int × Bool × Int × Int × Unit
abbrev DoubtD := Int × Int × Int × Unit
abbrev StoD := List ItemD × List LockD × List DoubtD × List TxnD × Unit
abbrev pTxn : Par := .agg [.rd tI, .rd tI]
abbrev pI : Par := .one (.rd tI)
abbrev pSto : Par := .agg [.rd (.sl tyItem), .rd (.sl tyLock), .rd (.sl tyDoubt), .rd (.sl tyTxn)]
abbrev wTxn : TyW := wStruct [wInt, wInt]
abbrev wItem : TyW := wStruct [wInt, wInt, wInt]
abbrev wLock : TyW := wStruct [wTxn, wInt, wBool, wInt, wInt]
abbrev wDoubt : TyW := wStruct [wTxn, wInt]
abbrev wSto : TyW := wStruct [wSl wItem 24, wSl wLock 48, wSl wDoubt 24, wSl wTxn 16]
def inF (x a b : Int) : Bool := pLe a x && pLe x b
def txnF (t : TxnD) : Bool := inF t.1 0 3 && inF t.2.1 1 1048576
def eqTxn (s t : TxnD) : Bool := pEq s.1 t.1 && pEq s.2.1 t.2.1
/-- one item, behind its neighbour -/
def itemOk (l : List ItemD) (i : Nat) : Bool :=
  inF (pGet tyItem l i).1 0 7 && inF (pGet tyItem l i).2.1 0 1073741824 && inF (pGet tyItem l i).2.2.1 1 1048576 && (decide (i = 0) || pLt (pGet tyItem l (i - 1)).1 (pGet tyItem l i).1)
def itemsF (l : List ItemD) : Bool := allUpto (itemOk l) l.length
def itemsInv (l : List ItemD) : denVars [.slot 7 false tI] → Prop := UpInv (itemOk l) l.length
def itemsMu (l : List ItemD) : denVars [.slot 7 false tI] → Nat := UpMu l.length
variable (is : List ItemD) (ls : List LockD) (ds : List DoubtD) (os : List TxnD) (is2 : List ItemD) (ls2 : List LockD) (ds2 : List DoubtD) (os2 : List TxnD)
def idxTxnF (l : List TxnD) (t : TxnD) : Int := idxOf (fun j => eqTxn t (pGet tyTxn l j)) l.length
def doubtIsF (d : DoubtD) (t : TxnD) : Bool := pEq d.1 t.1 && pEq d.2.1 t.2.1
def lockIsF (x : LockD) (t : TxnD) : Bool := pEq x.1 t.1 && pEq x.2.1 t.2.1
def idxLockF (l : List LockD) (t : TxnD) : Int := idxOf (fun j => lockIsF (pGet tyLock l j) t) l.length
def idxDoubtF (l : List DoubtD) (t : TxnD) : Int := idxOf (fun j => doubtIsF (pGet tyDoubt l j) t) l.length
def indexInv (l : List TxnD) (a b : Int) : denVars [.slot 8 false tI] → Prop := FindInv (fun j => eqTxn (a, b, ()) (pGet tyTxn l j)) l.length
def indexMu (l : List TxnD) (_ _ : Int) : denVars [.slot 8 false tI] → Nat := UpMu l.length
def indexFuncDoubtInv (l : List DoubtD) (c d : Int) : denVars [.slot 8 false tI] → Prop := FindInv (fun j => doubtIsF (pGet tyDoubt l j) (c, d, ())) l.length
def indexFuncDoubtMu (l : List DoubtD) (_ _ : Int) : denVars [.slot 8 false tI] → Nat := UpMu l.length
def indexFuncLockInv (l : List LockD) (c d _a : Int) : denVars [.slot 8 false tI] → Prop := FindInv (fun j => lockIsF (pGet tyLock l j) (c, d, ())) l.length
def indexFuncLockMu (l : List LockD) (_ _ _ : Int) : denVars [.slot 8 false tI] → Nat := UpMu l.length
def sameD (l : List DoubtD) (k i : Nat) : Bool := pAndB (pEq (pGet tyDoubt l k).1 (pGet tyDoubt l i).1) (pEq (pGet tyDoubt l k).2.1 (pGet tyDoubt l i).2.1)
def sameT (l : List TxnD) (k i : Nat) : Bool := pAndB (pEq (pGet tyTxn l k).1 (pGet tyTxn l i).1) (pEq (pGet tyTxn l k).2.1 (pGet tyTxn l i).2.1)
def clash (l : List LockD) (k i : Nat) : Bool :=
  pEq (pGet tyLock l k).2.2.1 (pGet tyLock l i).2.2.1 && (pAndB (pEq (pGet tyLock l k).1 (pGet tyLock l i).1) (pEq (pGet tyLock l k).2.1 (pGet tyLock l i).2.1) || (pGet tyLock l k).2.2.2.1 || (pGet tyLock l i).2.2.2.1)
def doubtOkAt (ls : List LockD) (ds : List DoubtD) (os : List TxnD) (i : Nat) : Bool :=
  txnF ((pGet tyDoubt ds i).1, (pGet tyDoubt ds i).2.1, ()) && inF (pGet tyDoubt ds i).2.2.1 0 1048576 && pNot (pGe (idxTxnF os ((pGet tyDoubt ds i).1, (pGet tyDoubt ds i).2.1, ())) 0) &&
    pGe (idxLockF ls ((pGet tyDoubt ds i).1, (pGet tyDoubt ds i).2.1, ())) 0 && allUpto (fun k => !sameD ds k i) i
def overOkAt (os : List TxnD) (i : Nat) : Bool := txnF ((pGet tyTxn os i).1, (pGet tyTxn os i).2.1, ()) && allUpto (fun k => !sameT os k i) i
def lockOkAt (ls : List LockD) (ds : List DoubtD) (i : Nat) : Bool :=
  pGe (idxDoubtF ds ((pGet tyLock ls i).1, (pGet tyLock ls i).2.1, ())) 0 && inF (pGet tyLock ls i).2.2.1 0 7 && inF (pGet tyLock ls i).2.2.2.2.1 0 1073741824 && inF (pGet tyLock ls i).2.2.2.2.2.1 0 1048576 &&
    ((pGet tyLock ls i).2.2.2.1 || (pEq (pGet tyLock ls i).2.2.2.2.1 0 && pEq (pGet tyLock ls i).2.2.2.2.2.1 0)) && allUpto (fun k => !clash ls k i) i
def doubtsF (s : StoD) : Bool := allUpto (doubtOkAt s.2.1 s.2.2.1 s.2.2.2.1) s.2.2.1.length && allUpto (overOkAt s.2.2.2.1) s.2.2.2.1.length
def locksF (s : StoD) : Bool := allUpto (lockOkAt s.2.1 s.2.2.1) s.2.1.length && pLe (pInt s.2.1.length) 24
def stoF (s : StoD) : Bool := itemsF s.1 && doubtsF s && locksF s
abbrev InvI := List ItemD → List LockD → List DoubtD → List TxnD → Int × Unit → Prop
abbrev InvII := List ItemD → List LockD → List DoubtD → List TxnD → Int → Int × Unit → Prop
abbrev MuI := List ItemD → List LockD → List DoubtD → List TxnD → Int × Unit → Nat
abbrev MuII := List ItemD → List LockD → List DoubtD → List TxnD → Int → Int × Unit → Nat
def doubtsAInv : InvI := fun _ ls ds os => UpInv (doubtOkAt ls ds os) ds.length
def doubtsAMu : MuI := fun _ _ ds _ => UpMu ds.length
def doubtsBInv : InvII := fun _ _ ds _ i => UpInv (fun k => !sameD ds k (pNat i)) (pNat i)
def doubtsBMu : MuII := fun _ _ _ _ i => UpMu (pNat i)
def doubtsCInv : InvI := fun _ _ _ os => UpInv (overOkAt os) os.length
def doubtsCMu : MuI := fun _ _ _ os => UpMu os.length
def locksAInv : InvI := fun _ ls ds _ => UpInv (lockOkAt ls ds) ls.length
def locksAMu : MuI := fun _ ls _ _ => UpMu ls.length
def locksBInv : InvII := fun _ ls _ _ i => UpInv (fun k => !clash ls k (pNat i)) (pNat i)
def locksBMu : MuII := fun _ _ _ _ i => UpMu (pNat i)
def doubtOfInv (_ : List ItemD) (_ : List LockD) (ds : List DoubtD) (_ : List TxnD) (a b : Int) : denVars [.slot 5 false tI] → Prop := FindInv (fun j => doubtIsF (pGet tyDoubt ds j) (a, b, ())) ds.length
def doubtOfMu (_ : List ItemD) (_ : List LockD) (ds : List DoubtD) (_ : List TxnD) (_ _ : Int) : denVars [.slot 5 false tI] → Nat := UpMu ds.length
def isOverInv (_ : List ItemD) (_ : List LockD) (_ : List DoubtD) (os : List TxnD) (a b : Int) : denVars [.slot 5 false tI] → Prop := FindInv (fun j => eqTxn (a, b, ()) (pGet tyTxn os j)) os.length
def isOverMu (_ : List ItemD) (_ : List LockD) (_ : List DoubtD) (os : List TxnD) (_ _ : Int) : denVars [.slot 5 false tI] → Nat := UpMu os.length
def mayAInv : InvI := fun is _ _ _ => UpInv (itemOk is) is.length
def mayAMu : MuI := fun is _ _ _ => UpMu is.length
def mayBInv : InvI := locksAInv
def mayBMu : MuI := locksAMu
def mayCInv : InvII := locksBInv
def mayCMu : MuII := locksBMu
def mayDInv : InvI := doubtsAInv
def mayDMu : MuI := doubtsAMu
/-- any so far -/
def HandInv (p : Nat → Bool) (n : Nat) (y : Int × Bool × Unit) : Prop := ∃ k : Nat, y.1 = (k : Int) ∧ k ≤ n ∧ y.2.1 = anyUpto p k
def HandMu (n : Nat) (y : Int × Bool × Unit) : Nat := n - y.1.toNat
def handAt (ls : List LockD) (ds : List DoubtD) (i j : Nat) : Bool := lockIsF (pGet tyLock ls j) ((pGet tyDoubt ds i).1, (pGet tyDoubt ds i).2.1, ())
def mayEInv (_ : List ItemD) (ls : List LockD) (ds : List DoubtD) (_ : List TxnD) (i : Int) : denVars [.slot 12 false tI, .slot 11 false .bool] → Prop := HandInv (handAt ls ds (pNat i)) ls.length
def mayEMu (_ : List ItemD) (ls : List LockD) (_ : List DoubtD) (_ : List TxnD) (_ : Int) : denVars [.slot 12 false tI, .slot 11 false .bool] → Nat := HandMu ls.length
def mayFInv : InvI := doubtsCInv
def mayFMu : MuI := doubtsCMu
def mayGInv : InvII := fun _ _ _ os i => UpInv (fun k => !sameT os k (pNat i)) (pNat i)
def mayGMu : MuII := fun _ _ _ _ i => UpMu (pNat i)
def ctxn : Ctr := shCtr ⟨[pTxn], []⟩ (fun _ => []) [] [.slot 0 false .bool] (fun x => (txnF x.1.1, ()))
def cIn : Ctr := shCtr ⟨[pI, pI, pI], []⟩ (fun _ => []) [] [.slot 0 false .bool] (fun x => (inF x.1.1 x.1.2.1 x.1.2.2.1, ()))
def cplainTxn : Ctr := shCtr ⟨[pTxn], []⟩ (fun _ => []) [] [.slot 0 false .bool] (fun x => (txnF x.1.1, ()))
def citems : Ctr := shCtr ⟨[.one (.rd (.sl tyItem))], []⟩ (fun x => [pLen x.1.1 < 4611686018427387904]) [] [.slot 0 false .bool] (fun x => (itemsF x.1.1, ()))
def cIndex : Ctr := shCtr ⟨[.one (.rd (.sl tyTxn)), pTxn], []⟩ (fun x => [pLen x.1.1 < 4611686018427387904]) [] [.slot 0 false tI] (fun x => (idxTxnF x.1.1 x.1.2.1, ()))
def cContains : Ctr := shCtr ⟨[.one (.rd (.sl tyTxn)), pTxn], []⟩ (fun x => [pLen x.1.1 < 4611686018427387904]) [] [.slot 0 false .bool] (fun x => (pGe (idxTxnF x.1.1 x.1.2.1) 0, ()))
def cdoubted1 : Ctr := shCtr ⟨[.agg [.rd tI, .rd tI, .rd tI], .one (.lit (.pt 0 0))], [.box [.rd tI, .rd tI]]⟩ (fun _ => []) [] [.slot 0 false .bool] (fun x => (doubtIsF x.1.1 x.2.1, ()))
def cdoubts1 : Ctr := shCtr ⟨[.agg [.rd tI, .rd tI, .rd tI, .rd .bool, .rd tI, .rd tI], .one (.lit (.pt 0 0))], [.box [.rd tI, .rd tI, .rd tI]]⟩ (fun _ => []) [] [.slot 0 false .bool] (fun x => (lockIsF x.1.1 (x.2.1.1, x.2.1.2.1, ()), ()))
def cindexFuncDoubt : Ctr := shCtr ⟨[.one (.rd (.sl tyDoubt)), .one (.lit (.fn 107 [(0, 0)]))], [.box [.rd tI, .rd tI]]⟩ (fun x => [pLen x.1.1 < 4611686018427387904]) [] [.slot 0 false tI] (fun x => (idxDoubtF x.1.1 x.2.1, ()))
def ccontainsFuncDoubt : Ctr := shCtr ⟨[.one (.rd (.sl tyDoubt)), .one (.lit (.fn 107 [(0, 0)]))], [.box [.rd tI, .rd tI]]⟩ (fun x => [pLen x.1.1 < 4611686018427387904]) [] [.slot 0 false .bool] (fun x => (pGe (idxDoubtF x.1.1 x.2.1) 0, ()))
def cindexFuncLock : Ctr := shCtr ⟨[.one (.rd (.sl tyLock)), .one (.lit (.fn 87 [(0, 0)]))], [.box [.rd tI, .rd tI, .rd tI]]⟩ (fun x => [pLen x.1.1 < 4611686018427387904]) [] [.slot 0 false tI] (fun x => (idxLockF x.1.1 (x.2.1.1, x.2.1.2.1, ()), ()))
def ccontainsFuncLock : Ctr := shCtr ⟨[.one (.rd (.sl tyLock)), .one (.lit (.fn 87 [(0, 0)]))], [.box [.rd tI, .rd tI, .rd tI]]⟩ (fun x => [pLen x.1.1 < 4611686018427387904]) [] [.slot 0 false .bool] (fun x => (pGe (idxLockF x.1.1 (x.2.1.1, x.2.1.2.1, ())) 0, ()))
def cdoubted : Ctr := shCtr ⟨[pSto, pTxn], []⟩ (fun x => [pLen x.1.1.1 < 4611686018427387904, pLen x.1.1.2.1 < 4611686018427387904, pLen x.1.1.2.2.1 < 4611686018427387904, pLen x.1.1.2.2.2.1 < 4611686018427387904]) [] [.slot 0 false .bool] (fun x => (pGe (idxDoubtF x.1.1.2.2.1 x.1.2.1) 0, ()))
def txn_VC (a b : Int) : Prop :=
  bif pGe a (0 : Int) then bif pLt a (4 : Int) then bif pGe b (1 : Int) then (pLe b (1048576 : Int), ()) = (txnF (a, b, ()), ()) else (Bool.false, ()) = (txnF (a, b, ()), ()) else (Bool.false, ()) = (txnF (a, b, ()), ())
    else (Bool.false, ()) = (txnF (a, b, ()), ())
set_option maxRecDepth 100000 in
theorem txn_meets  (h : ∀ (a b : Int), txn_VC a b) : Meets Tryd.prog (fun _ => none) 84 ctxn :=
  meets_vc (E := envOf Tryd.prog [] [33, 123, 120, 91]) (envOf_ok (fun p hp => by cases hp) (by kernel_rfl)) ⟨[pTxn], []⟩ (fun x => fun k s => look [] k) Tryd.func84 (by kernel_rfl) (by kernel_rfl) (fun _ => []) [] [.slot 0 false .bool] (fun x => (txnF x.1.1, ())) (fun x => txn_VC x.1.1.1 x.1.1.2.1) (fun x => by kernel_rfl) (fun x _ => h x.1.1.1 x.1.1.2.1)
def In_VC (a b c : Int) : Prop :=
  bif pGe a b then (pLe a c, ()) = (inF a b c, ()) else (Bool.false, ()) = (inF a b c, ())
set_option maxRecDepth 100000 in
theorem In_meets  (h : ∀ (a b c : Int), In_VC a b c) : Meets Tryd.prog (fun _ => none) 55 cIn :=
  meets_vc (E := envOf Tryd.prog [] [33, 123, 120, 91]) (envOf_ok (fun p hp => by cases hp) (by kernel_rfl)) ⟨[pI, pI, pI], []⟩ (fun x => fun k s => look [] k) Tryd.func55 (by kernel_rfl) (by kernel_rfl) (fun _ => []) [] [.slot 0 false .bool] (fun x => (inF x.1.1 x.1.2.1 x.1.2.2.1, ())) (fun x => In_VC x.1.1 x.1.2.1 x.1.2.2.1) (fun x => by kernel_rfl) (fun x _ => h x.1.1 x.1.2.1 x.1.2.2.1)
def plainTxn_VC (a b : Int) : Prop :=
  bif inF a (0 : Int) (3 : Int) then (inF b (1 : Int) (1048576 : Int), ()) = (txnF (a, b, ()), ()) else (Bool.false, ()) = (txnF (a, b, ()), ())
set_option maxRecDepth 100000 in
theorem plainTxn_meets (hIn : Meets Tryd.prog (fun _ => none) 55 cIn) (h : ∀ (a b : Int), plainTxn_VC a b) : Meets Tryd.prog (fun _ => none) 36 cplainTxn :=
  meets_vc (E := envOf Tryd.prog [(55, (false, cIn))] [33, 123, 120, 91]) (envOf_ok (fun p hp => (by simp only [List.mem_cons, List.not_mem_nil, or_false] at hp; rcases hp with rfl; exact hIn)) (by kernel_rfl)) ⟨[pTxn], []⟩ (fun x => fun k s => look [] k) Tryd.func36 (by kernel_rfl) (by kernel_rfl) (fun _ => []) [] [.slot 0 false .bool] (fun x => (txnF x.1.1, ())) (fun x => plainTxn_VC x.1.1.1 x.1.1.2.1) (fun x => by kernel_rfl) (fun x _ => h x.1.1.1 x.1.1.2.1)
def items_VC (l : List ItemD) : Prop :=
  itemsInv l ((0 : Int), ()) ∧ ∀ (y : kden Bool.false tI × PUnit), itemsInv l y → bif pLt y.1 (pInt (pLen l)) then pIn y.1 (pLen l) ∧ bif pLt (pGet tyItem l (pNat y.1)).1 (0 : Int) then (Bool.false, ()) = (itemsF l, ())
    else bif pGe (pGet tyItem l (pNat y.1)).1 (8 : Int) then (Bool.false, ()) = (itemsF l, ()) else bif pLt (pGet tyItem l (pNat y.1)).2.1 (0 : Int) then (Bool.false, ()) = (itemsF l, ()) else bif pGt (pGet tyItem l (pNat
    y.1)).2.1 (1073741824 : Int) then (Bool.false, ()) = (itemsF l, ()) else bif pLt (pGet tyItem l (pNat y.1)).2.2.1 (1 : Int) then (Bool.false, ()) = (itemsF l, ()) else bif pGt (pGet tyItem l (pNat y.1)).2.2.1 (1048576 :
    Int) then (Bool.false, ()) = (itemsF l, ()) else bif pGt y.1 (0 : Int) then pIn (pSubI IntKind.i64 y.1 (1 : Int)) (pLen l) ∧ bif pGe (pGet tyItem l (pNat (pSubI IntKind.i64 y.1 (1 : Int)))).1 (pGet tyItem l (pNat y.1)).1
    then (Bool.false, ()) = (itemsF l, ()) else itemsInv l (pAdd IntKind.i64 y.1 (1 : Int), ()) ∧ Nat.le (Nat.succ (itemsMu l (pAdd IntKind.i64 y.1 (1 : Int), ()))) (itemsMu l y) else itemsInv l (pAdd IntKind.i64 y.1 (1 :
    Int), ()) ∧ Nat.le (Nat.succ (itemsMu l (pAdd IntKind.i64 y.1 (1 : Int), ()))) (itemsMu l y) else (Bool.true, ()) = (itemsF l, ())
set_option maxRecDepth 100000 in
theorem items_meets  (h : ∀ (l : List ItemD), (∀ p ∈ (fun x => [pLen x.1.1 < 4611686018427387904] : Shape.den ⟨[.one (.rd (.sl tyItem))], []⟩ → List Prop) ⟨(l, ()), ()⟩, p) → items_VC l) : Meets Tryd.prog (fun _ => none) 61 citems :=
  meets_vc (E := envOf Tryd.prog [] [33, 123, 120, 91]) (envOf_ok (fun p hp => by cases hp) (by kernel_rfl)) ⟨[.one (.rd (.sl tyItem))], []⟩ (fun x => fun k s => look [(2, (⟨[.slot 7 false tI], itemsInv x.1.1, itemsMu x.1.1⟩ : Ann))] k) Tryd.func61 (by kernel_rfl) (by kernel_rfl) (fun x => [pLen x.1.1 < 4611686018427387904]) [] [.slot 0 false .bool] (fun x => (itemsF x.1.1, ())) (fun x => items_VC x.1.1) (fun x => by kernel_rfl) (fun x hp => h x.1.1 hp)
def Index_VC (l : List TxnD) (a b : Int) : Prop :=
  indexInv l a b ((0 : Int), ()) ∧ ∀ (y : kden Bool.false tI × PUnit), indexInv l a b y → bif pLt y.1 (pInt (pLen l)) then pIn y.1 (pLen l) ∧ bif pAndB (pEq a (pGet tyTxn l (pNat y.1)).1) (pEq b (pGet tyTxn l (pNat
    y.1)).2.1) then (y.1, ()) = (idxTxnF l (a, b, ()), ()) else indexInv l a b (pAdd IntKind.i64 y.1 (1 : Int), ()) ∧ Nat.le (Nat.succ (indexMu l a b (pAdd IntKind.i64 y.1 (1 : Int), ()))) (indexMu l a b y) else ((-1 : Int),
    ()) = (idxTxnF l (a, b, ()), ())
set_option maxRecDepth 100000 in
theorem Index_meets  (h : ∀ (l : List TxnD) (a b : Int), (∀ p ∈ (fun x => [pLen x.1.1 < 4611686018427387904] : Shape.den ⟨[.one (.rd (.sl tyTxn)), pTxn], []⟩ → List Prop) ⟨(l, (a, b, ()), ()), ()⟩, p) → Index_VC l a b) : Meets Tryd.prog (fun _ => none) 104 cIndex :=
  meets_vc (E := envOf Tryd.prog [] [33, 123, 120, 91]) (envOf_ok (fun p hp => by cases hp) (by kernel_rfl)) ⟨[.one (.rd (.sl tyTxn)), pTxn], []⟩ (fun x => fun k s => look [(2, (⟨[.slot 8 false tI], indexInv x.1.1 x.1.2.1.1 x.1.2.1.2.1, indexMu x.1.1 x.1.2.1.1 x.1.2.1.2.1⟩ : Ann))] k) Tryd.func104 (by kernel_rfl) (by kernel_rfl) (fun x => [pLen x.1.1 < 4611686018427387904]) [] [.slot 0 false tI] (fun x => (idxTxnF x.1.1 x.1.2.1, ())) (fun x => Index_VC x.1.1 x.1.2.1.1 x.1.2.1.2.1) (fun x => by kernel_rfl) (fun x hp => h x.1.1 x.1.2.1.1 x.1.2.1.2.1 hp)
def Contains_VC (l : List TxnD) (a b : Int) : Prop :=
  Nat.le (Nat.succ (pLen l)) 4611686018427387904 ∧ (pGe (idxTxnF l (a, b, ())) (0 : Int), ()) = (pGe (idxTxnF l (a, b, ())) (0 : Int), ())
set_option maxRecDepth 100000 in
theorem Contains_meets (hIndex : Meets Tryd.prog (fun _ => none) 104 cIndex) (h : ∀ (l : List TxnD) (a b : Int), (∀ p ∈ (fun x => [pLen x.1.1 < 4611686018427387904] : Shape.den ⟨[.one (.rd (.sl tyTxn)), pTxn], []⟩ → List Prop) ⟨(l, (a, b, ()), ()), ()⟩, p) → Contains_VC l a b) : Meets Tryd.prog (fun _ => none) 85 cContains :=
  meets_vc (E := envOf Tryd.prog [(104, (false, cIndex))] [33, 123, 120, 91]) (envOf_ok (fun p hp => (by simp only [List.mem_cons, List.not_mem_nil, or_false] at hp; rcases hp with rfl; exact hIndex)) (by kernel_rfl)) ⟨[.one (.rd (.sl tyTxn)), pTxn], []⟩ (fun x => fun k s => look [] k) Tryd.func85 (by kernel_rfl) (by kernel_rfl) (fun x => [pLen x.1.1 < 4611686018427387904]) [] [.slot 0 false .bool] (fun x => (pGe (idxTxnF x.1.1 x.1.2.1) 0, ())) (fun x => Contains_VC x.1.1 x.1.2.1.1 x.1.2.1.2.1) (fun x => by kernel_rfl) (fun x hp => h x.1.1 x.1.2.1.1 x.1.2.1.2.1 hp)
def doubted1_VC (s n a c d : Int) : Prop :=
  (pAndB (pEq s c) (pEq n d), ()) = (doubtIsF (s, n, a, ()) (c, d, ()), ())
set_option maxRecDepth 100000 in
theorem doubted1_meets  (h : ∀ (s n a c d : Int), doubted1_VC s n a c d) : Meets Tryd.prog (fun _ => none) 107 cdoubted1 :=
  meets_vc (E := envOf Tryd.prog [] [33, 123, 120, 91]) (envOf_ok (fun p hp => by cases hp) (by kernel_rfl)) ⟨[.agg [.rd tI, .rd tI, .rd tI], .one (.lit (.pt 0 0))], [.box [.rd tI, .rd tI]]⟩ (fun x => fun k s => look [] k) Tryd.func107 (by kernel_rfl) (by kernel_rfl) (fun _ => []) [] [.slot 0 false .bool] (fun x => (doubtIsF x.1.1 x.2.1, ())) (fun x => doubted1_VC x.1.1.1 x.1.1.2.1 x.1.1.2.2.1 x.2.1.1 x.2.1.2.1) (fun x => by kernel_rfl) (fun x _ => h x.1.1.1 x.1.1.2.1 x.1.1.2.2.1 x.2.1.1 x.2.1.2.1)
def doubts1_VC (s n k : Int) (wr : Bool) (v q c d a : Int) : Prop :=
  (pAndB (pEq s c) (pEq n d), ()) = (lockIsF (s, n, k, wr, v, q, ()) (c, d, ()), ())
set_option maxRecDepth 100000 in
theorem doubts1_meets  (h : ∀ (s n k : Int) (wr : Bool) (v q c d a : Int), doubts1_VC s n k wr v q c d a) : Meets Tryd.prog (fun _ => none) 87 cdoubts1 :=
  meets_vc (E := envOf Tryd.prog [] [33, 123, 120, 91]) (envOf_ok (fun p hp => by cases hp) (by kernel_rfl)) ⟨[.agg [.rd tI, .rd tI, .rd tI, .rd .bool, .rd tI, .rd tI], .one (.lit (.pt 0 0))], [.box [.rd tI, .rd tI, .rd tI]]⟩ (fun x => fun k s => look [] k) Tryd.func87 (by kernel_rfl) (by kernel_rfl) (fun _ => []) [] [.slot 0 false .bool] (fun x => (lockIsF x.1.1 (x.2.1.1, x.2.1.2.1, ()), ())) (fun x => doubts1_VC x.1.1.1 x.1.1.2.1 x.1.1.2.2.1 x.1.1.2.2.2.1 x.1.1.2.2.2.2.1 x.1.1.2.2.2.2.2.1 x.2.1.1 x.2.1.2.1 x.2.1.2.2.1) (fun x => by kernel_rfl) (fun x _ => h x.1.1.1 x.1.1.2.1 x.1.1.2.2.1 x.1.1.2.2.2.1 x.1.1.2.2.2.2.1 x.1.1.2.2.2.2.2.1 x.2.1.1 x.2.1.2.1 x.2.1.2.2.1)
def indexFuncDoubt_VC (l : List DoubtD) (c d : Int) : Prop :=
  indexFuncDoubtInv l c d ((0 : Int), ()) ∧ ∀ (y : kden Bool.false tI × PUnit), indexFuncDoubtInv l c d y → bif pLt y.1 (pInt (pLen l)) then pIn y.1 (pLen l) ∧ bif doubtIsF ((pGet tyItem l (pNat y.1)).1, (pGet tyItem l
    (pNat y.1)).2.1, (pGet tyItem l (pNat y.1)).2.2.1, ()) (c, d, ()) then (y.1, ()) = (idxDoubtF l (c, d, ()), ()) else indexFuncDoubtInv l c d (pAdd IntKind.i64 y.1 (1 : Int), ()) ∧ Nat.le (Nat.succ (indexFuncDoubtMu l c d
    (pAdd IntKind.i64 y.1 (1 : Int), ()))) (indexFuncDoubtMu l c d y) else ((-1 : Int), ()) = (idxDoubtF l (c, d, ()), ())
set_option maxRecDepth 100000 in
theorem indexFuncDoubt_meets (hdoubted1 : Meets Tryd.prog (fun _ => none) 107 cdoubted1) (h : ∀ (l : List DoubtD) (c d : Int), (∀ p ∈ (fun x => [pLen x.1.1 < 4611686018427387904] : Shape.den ⟨[.one (.rd (.sl tyDoubt)), .one (.lit (.fn 107 [(0, 0)]))], [.box [.rd tI, .rd tI]]⟩ → List Prop) ⟨(l, (), ()), ((c, d, ()), ())⟩, p) → indexFuncDoubt_VC l c d) : Meets Tryd.prog (fun _ => none) 125 cindexFuncDoubt :=
  meets_vc (E := envOf Tryd.prog [(107, (false, cdoubted1))] [33, 123, 120, 91]) (envOf_ok (fun p hp => (by simp only [List.mem_cons, List.not_mem_nil, or_false] at hp; rcases hp with rfl; exact hdoubted1)) (by kernel_rfl)) ⟨[.one (.rd (.sl tyDoubt)), .one (.lit (.fn 107 [(0, 0)]))], [.box [.rd tI, .rd tI]]⟩ (fun x => fun k s => look [(2, (⟨[.slot 8 false tI], indexFuncDoubtInv x.1.1 x.2.1.1 x.2.1.2.1, indexFuncDoubtMu x.1.1 x.2.1.1 x.2.1.2.1⟩ : Ann))] k) Tryd.func125 (by kernel_rfl) (by kernel_rfl) (fun x => [pLen x.1.1 < 4611686018427387904]) [] [.slot 0 false tI] (fun x => (idxDoubtF x.1.1 x.2.1, ())) (fun x => indexFuncDoubt_VC x.1.1 x.2.1.1 x.2.1.2.1) (fun x => by kernel_rfl) (fun x hp => h x.1.1 x.2.1.1 x.2.1.2.1 hp)
def containsFuncDoubt_VC (l : List DoubtD) (c d : Int) : Prop :=
  Nat.le (Nat.succ (pLen l)) 4611686018427387904 ∧ (pGe (idxDoubtF l (c, d, ())) (0 : Int), ()) = (pGe (idxDoubtF l (c, d, ())) (0 : Int), ())
set_option maxRecDepth 100000 in
theorem containsFuncDoubt_meets (hindexFuncDoubt : Meets Tryd.prog (fun _ => none) 125 cindexFuncDoubt) (h : ∀ (l : List DoubtD) (c d : Int), (∀ p ∈ (fun x => [pLen x.1.1 < 4611686018427387904] : Shape.den ⟨[.one (.rd (.sl tyDoubt)), .one (.lit (.fn 107 [(0, 0)]))], [.box [.rd tI, .rd tI]]⟩ → List Prop) ⟨(l, (), ()), ((c, d, ()), ())⟩, p) → containsFuncDoubt_VC l c d) : Meets Tryd.prog (fun _ => none) 106 ccontainsFuncDoubt :=
  meets_vc (E := envOf Tryd.prog [(125, (false, cindexFuncDoubt))] [33, 123, 120, 91]) (envOf_ok (fun p hp => (by simp only [List.mem_cons, List.not_mem_nil, or_false] at hp; rcases hp with rfl; exact hindexFuncDoubt)) (by kernel_rfl)) ⟨[.one (.rd (.sl tyDoubt)), .one (.lit (.fn 107 [(0, 0)]))], [.box [.rd tI, .rd tI]]⟩ (fun x => fun k s => look [] k) Tryd.func106 (by kernel_rfl) (by kernel_rfl) (fun x => [pLen x.1.1 < 4611686018427387904]) [] [.slot 0 false .bool] (fun x => (pGe (idxDoubtF x.1.1 x.2.1) 0, ())) (fun x => containsFuncDoubt_VC x.1.1 x.2.1.1 x.2.1.2.1) (fun x => by kernel_rfl) (fun x hp => h x.1.1 x.2.1.1 x.2.1.2.1 hp)
def indexFuncLock_VC (l : List LockD) (c d a : Int) : Prop :=
  indexFuncLockInv l c d a ((0 : Int), ()) ∧ ∀ (y : kden Bool.false tI × PUnit), indexFuncLockInv l c d a y → bif pLt y.1 (pInt (pLen l)) then pIn y.1 (pLen l) ∧ bif lockIsF ((pGet tyLock l (pNat y.1)).1, (pGet tyLock l
    (pNat y.1)).2.1, (pGet tyLock l (pNat y.1)).2.2.1, (pGet tyLock l (pNat y.1)).2.2.2.1, (pGet tyLock l (pNat y.1)).2.2.2.2.1, (pGet tyLock l (pNat y.1)).2.2.2.2.2.1, ()) (c, d, ()) then (y.1, ()) = (idxLockF l (c, d, ()),
    ()) else indexFuncLockInv l c d a (pAdd IntKind.i64 y.1 (1 : Int), ()) ∧ Nat.le (Nat.succ (indexFuncLockMu l c d a (pAdd IntKind.i64 y.1 (1 : Int), ()))) (indexFuncLockMu l c d a y) else ((-1 : Int), ()) = (idxLockF l
    (c, d, ()), ())
set_option maxRecDepth 100000 in
theorem indexFuncLock_meets (hdoubts1 : Meets Tryd.prog (fun _ => none) 87 cdoubts1) (h : ∀ (l : List LockD) (c d a : Int), (∀ p ∈ (fun x => [pLen x.1.1 < 4611686018427387904] : Shape.den ⟨[.one (.rd (.sl tyLock)), .one (.lit (.fn 87 [(0, 0)]))], [.box [.rd tI, .rd tI, .rd tI]]⟩ → List Prop) ⟨(l, (), ()), ((c, d, a, ()), ())⟩, p) → indexFuncLock_VC l c d a) : Meets Tryd.prog (fun _ => none) 105 cindexFuncLock :=
  meets_vc (E := envOf Tryd.prog [(87, (false, cdoubts1))] [33, 123, 120, 91]) (envOf_ok (fun p hp => (by simp only [List.mem_cons, List.not_mem_nil, or_false] at hp; rcases hp with rfl; exact hdoubts1)) (by kernel_rfl)) ⟨[.one (.rd (.sl tyLock)), .one (.lit (.fn 87 [(0, 0)]))], [.box [.rd tI, .rd tI, .rd tI]]⟩ (fun x => fun k s => look [(2, (⟨[.slot 8 false tI], indexFuncLockInv x.1.1 x.2.1.1 x.2.1.2.1 x.2.1.2.2.1, indexFuncLockMu x.1.1 x.2.1.1 x.2.1.2.1 x.2.1.2.2.1⟩ : Ann))] k) Tryd.func105 (by kernel_rfl) (by kernel_rfl) (fun x => [pLen x.1.1 < 4611686018427387904]) [] [.slot 0 false tI] (fun x => (idxLockF x.1.1 (x.2.1.1, x.2.1.2.1, ()), ())) (fun x => indexFuncLock_VC x.1.1 x.2.1.1 x.2.1.2.1 x.2.1.2.2.1) (fun x => by kernel_rfl) (fun x hp => h x.1.1 x.2.1.1 x.2.1.2.1 x.2.1.2.2.1 hp)
def containsFuncLock_VC (l : List LockD) (c d a : Int) : Prop :=
  Nat.le (Nat.succ (pLen l)) 4611686018427387904 ∧ (pGe (idxLockF l (c, d, ())) (0 : Int), ()) = (pGe (idxLockF l (c, d, ())) (0 : Int), ())
set_option maxRecDepth 100000 in
theorem containsFuncLock_meets (hindexFuncLock : Meets Tryd.prog (fun _ => none) 105 cindexFuncLock) (h : ∀ (l : List LockD) (c d a : Int), (∀ p ∈ (fun x => [pLen x.1.1 < 4611686018427387904] : Shape.den ⟨[.one (.rd (.sl tyLock)), .one (.lit (.fn 87 [(0, 0)]))], [.box [.rd tI, .rd tI, .rd tI]]⟩ → List Prop) ⟨(l, (), ()), ((c, d, a, ()), ())⟩, p) → containsFuncLock_VC l c d a) : Meets Tryd.prog (fun _ => none) 86 ccontainsFuncLock :=
  meets_vc (E := envOf Tryd.prog [(105, (false, cindexFuncLock))] [33, 123, 120, 91]) (envOf_ok (fun p hp => (by simp only [List.mem_cons, List.not_mem_nil, or_false] at hp; rcases hp with rfl; exact hindexFuncLock)) (by kernel_rfl)) ⟨[.one (.rd (.sl tyLock)), .one (.lit (.fn 87 [(0, 0)]))], [.box [.rd tI, .rd tI, .rd tI]]⟩ (fun x => fun k s => look [] k) Tryd.func86 (by kernel_rfl) (by kernel_rfl) (fun x => [pLen x.1.1 < 4611686018427387904]) [] [.slot 0 false .bool] (fun x => (pGe (idxLockF x.1.1 (x.2.1.1, x.2.1.2.1, ())) 0, ())) (fun x => containsFuncLock_VC x.1.1 x.2.1.1 x.2.1.2.1 x.2.1.2.2.1) (fun x => by kernel_rfl) (fun x hp => h x.1.1 x.2.1.1 x.2.1.2.1 x.2.1.2.2.1 hp)
def doubted_VC (is : List ItemD) (ls : List LockD) (ds : List DoubtD) (os : List TxnD) (a b : Int) : Prop :=
  Nat.le (Nat.succ (pLen ds)) 4611686018427387904 ∧ (pGe (idxDoubtF ds (a, b, ())) (0 : Int), ()) = (pGe (idxDoubtF ds (a, b, ())) (0 : Int), ())
set_option maxRecDepth 100000 in
theorem doubted_meets (hcontainsFuncDoubt : Meets Tryd.prog (fun _ => none) 106 ccontainsFuncDoubt) (h : ∀ (is : List ItemD) (ls : List LockD) (ds : List DoubtD) (os : List TxnD) (a b : Int), (∀ p ∈ (fun x => [pLen x.1.1.1 < 4611686018427387904, pLen x.1.1.2.1 < 4611686018427387904, pLen x.1.1.2.2.1 < 4611686018427387904, pLen x.1.1.2.2.2.1 < 4611686018427387904] : Shape.den ⟨[pSto, pTxn], []⟩ → List Prop) ⟨((is, ls, ds, os, ()), (a, b, ()), ()), ()⟩, p) → doubted_VC is ls ds os a b) : Meets Tryd.prog (fun _ => none) 88 cdoubted :=
  meets_vc (E := envOf Tryd.prog [(106, (false, ccontainsFuncDoubt))] [33, 123, 120, 91]) (envOf_ok (fun p hp => (by simp only [List.mem_cons, List.not_mem_nil, or_false] at hp; rcases hp with rfl; exact hcontainsFuncDoubt)) (by kernel_rfl)) ⟨[pSto, pTxn], []⟩ (fun x => fun k s => look [] k) Tryd.func88 (by kernel_rfl) (by kernel_rfl) (fun x => [pLen x.1.1.1 < 4611686018427387904, pLen x.1.1.2.1 < 4611686018427387904, pLen x.1.1.2.2.1 < 4611686018427387904, pLen x.1.1.2.2.2.1 < 4611686018427387904]) [] [.slot 0 false .bool] (fun x => (pGe (idxDoubtF x.1.1.2.2.1 x.1.2.1) 0, ())) (fun x => doubted_VC x.1.1.1 x.1.1.2.1 x.1.1.2.2.1 x.1.1.2.2.2.1 x.1.2.1.1 x.1.2.1.2.1) (fun x => by kernel_rfl) (fun x hp => h x.1.1.1 x.1.1.2.1 x.1.1.2.2.1 x.1.1.2.2.2.1 x.1.2.1.1 x.1.2.1.2.1 hp)
theorem txn_ok : Meets Tryd.prog (fun _ => none) 84 ctxn := txn_meets fun a b => by
  delta txn_VC
  simp only [pGe, pLt, pLe, Bool.cond_eq_ite, decide_eq_true_eq, Prod.mk.injEq, eq_self, and_true, txnF, inF]
  repeat' split
  all_goals (rw [Bool.eq_iff_iff]; simp only [Bool.and_eq_true, decide_eq_true_eq, Bool.false_eq_true]; constructor <;> intro h <;> first | omega | exact h.elim)
theorem In_ok : Meets Tryd.prog (fun _ => none) 55 cIn := In_meets fun a b c => by
  delta In_VC
  simp only [pGe, pLe, Bool.cond_eq_ite, decide_eq_true_eq, Prod.mk.injEq, eq_self, and_true, inF]
  repeat' split
  all_goals (rw [Bool.eq_iff_iff]; simp only [Bool.and_eq_true, decide_eq_true_eq, Bool.false_eq_true]; constructor <;> intro h <;> first | omega | exact h.elim)
theorem plainTxn_ok : Meets Tryd.prog (fun _ => none) 36 cplainTxn := plainTxn_meets In_ok fun a b => by
  delta plainTxn_VC
  simp only [txnF]
  cases inF a 0 3 <;> simp
theorem items_ok : Meets Tryd.prog (fun _ => none) 61 citems := items_meets fun l hp => by
  have hl : l.length < 4611686018427387904 := hp _ List.mem_cons_self
  delta items_VC
  refine ⟨UpInv.start, fun y hy => ?_⟩
  rcases UpInv.round hl hy with ⟨k, rfl, hk, hb, _, hF, hT⟩ | ⟨rfl, hT⟩
  · simp only [pLt_coe, pLen, hk, decide_true, cond_true, pIn_coe, pNat_coe, true_and]
    simp only [pGe, pLt, pGt, Bool.cond_eq_ite, decide_eq_true_eq, Prod.mk.injEq, eq_self, and_true]
    have hF' : ¬ itemOk l k = true → false = itemsF l := fun h => (hF (by simpa using h)).symm
    simp only [itemOk, inF, pLt, pLe, Bool.and_eq_true, Bool.or_eq_true, decide_eq_true_eq] at hT hF'
    by_cases h0 : k = 0
    · subst h0
      repeat' split
      all_goals first | exact hF' (by omega) | exact hT (by omega) | (exfalso; omega)
    · rw [pSub1 hb (by omega), pNat_coe, pIn_coe]
      have hk1 : k - 1 < l.length := by omega
      simp only [pLen, hk1, true_and]
      repeat' split
      all_goals first | exact hF' (by omega) | exact hT (by omega) | (exfalso; omega)
  · simp only [pLt_coe, pLen, Nat.lt_irrefl, decide_false, cond_false]
    exact congrArg (·, ()) hT.symm
theorem Index_ok : Meets Tryd.prog (fun _ => none) 104 cIndex := Index_meets fun l a b hp => by
  have hl : l.length < 4611686018427387904 := hp _ List.mem_cons_self
  refine ⟨UpInv.start, fun y hy => ?_⟩
  rcases FindInv.round hl hy with ⟨k, rfl, hk, hb, hT, hF⟩ | ⟨rfl, hT⟩
  · simp only [pLt_coe, pLen, hk, decide_true, cond_true, pIn_coe, pNat_coe, true_and]
    have e : pAndB (pEq a (pGet tyTxn l k).1) (pEq b (pGet tyTxn l k).2.1) = eqTxn (a, b, ()) (pGet tyTxn l k) := rfl
    rw [e]
    cases hq : eqTxn (a, b, ()) (pGet tyTxn l k) with
    | true => exact congrArg (·, ()) (hT hq).symm
    | false => exact hF hq
  · simp only [pLt_coe, pLen, Nat.lt_irrefl, decide_false, cond_false]
    exact congrArg (·, ()) hT.symm
theorem Contains_ok : Meets Tryd.prog (fun _ => none) 85 cContains := Contains_meets Index_ok fun l a b hp => ⟨hp _ List.mem_cons_self, rfl⟩
theorem doubted1_ok : Meets Tryd.prog (fun _ => none) 107 cdoubted1 := doubted1_meets fun s n a c d => rfl
theorem doubts1_ok : Meets Tryd.prog (fun _ => none) 87 cdoubts1 := doubts1_meets fun s n k wr v q c d a => rfl
theorem indexFuncDoubt_ok : Meets Tryd.prog (fun _ => none) 125 cindexFuncDoubt := indexFuncDoubt_meets doubted1_ok fun l c d hp => by
  have hl : l.length < 4611686018427387904 := hp _ List.mem_cons_self
  refine ⟨UpInv.start, fun y hy => ?_⟩
  rcases FindInv.round hl hy with ⟨k, rfl, hk, hb, hT, hF⟩ | ⟨rfl, hT⟩
  · simp only [pLt_coe, pLen, hk, decide_true, cond_true, pIn_coe, pNat_coe, true_and]
    have e : doubtIsF ((pGet tyItem l k).1, (pGet tyItem l k).2.1, (pGet tyItem l k).2.2.1, ()) (c, d, ()) = doubtIsF (pGet tyDoubt l k) (c, d, ()) := rfl
    rw [e]
    cases hq : doubtIsF (pGet tyDoubt l k) (c, d, ()) with
    | true => exact congrArg (·, ()) (hT hq).symm
    | false => exact hF hq
  · simp only [pLt_coe, pLen, Nat.lt_irrefl, decide_false, cond_false]
    exact congrArg (·, ()) hT.symm
theorem indexFuncLock_ok : Meets Tryd.prog (fun _ => none) 105 cindexFuncLock := indexFuncLock_meets doubts1_ok fun l c d a hp => by
  have hl : l.length < 4611686018427387904 := hp _ List.mem_cons_self
  refine ⟨UpInv.start, fun y hy => ?_⟩
  rcases FindInv.round hl hy with ⟨k, rfl, hk, hb, hT, hF⟩ | ⟨rfl, hT⟩
  · simp only [pLt_coe, pLen, hk, decide_true, cond_true, pIn_coe, pNat_coe, true_and]
    have e : lockIsF ((pGet tyLock l k).1, (pGet tyLock l k).2.1, (pGet tyLock l k).2.2.1, (pGet tyLock l k).2.2.2.1, (pGet tyLock l k).2.2.2.2.1, (pGet tyLock l k).2.2.2.2.2.1, ()) (c, d, ()) = lockIsF (pGet tyLock l k) (c, d, ()) := rfl
    rw [e]
    cases hq : lockIsF (pGet tyLock l k) (c, d, ()) with
    | true => exact congrArg (·, ()) (hT hq).symm
    | false => exact hF hq
  · simp only [pLt_coe, pLen, Nat.lt_irrefl, decide_false, cond_false]
    exact congrArg (·, ()) hT.symm
theorem containsFuncDoubt_ok : Meets Tryd.prog (fun _ => none) 106 ccontainsFuncDoubt := containsFuncDoubt_meets indexFuncDoubt_ok fun l c d hp => ⟨hp _ List.mem_cons_self, rfl⟩
theorem containsFuncLock_ok : Meets Tryd.prog (fun _ => none) 86 ccontainsFuncLock := containsFuncLock_meets indexFuncLock_ok fun l c d a hp => ⟨hp _ List.mem_cons_self, rfl⟩
theorem doubted_ok : Meets Tryd.prog (fun _ => none) 88 cdoubted := doubted_meets containsFuncDoubt_ok fun is ls ds os a b hp => ⟨hp (pLen ds < 4611686018427387904) (by simp), rfl⟩
def cdoubts : Ctr := shCtr ⟨[pSto], []⟩ (fun x => [pLen x.1.1.1 < 4611686018427387904, pLen x.1.1.2.1 < 4611686018427387904, pLen x.1.1.2.2.1 < 4611686018427387904, pLen x.1.1.2.2.2.1 < 4611686018427387904]) [] [.slot 0 false .bool] (fun x => (doubtsF x.1.1, ()))
def clocks : Ctr := shCtr ⟨[pSto], []⟩ (fun x => [pLen x.1.1.1 < 4611686018427387904, pLen x.1.1.2.1 < 4611686018427387904, pLen x.1.1.2.2.1 < 4611686018427387904, pLen x.1.1.2.2.2.1 < 4611686018427387904]) [] [.slot 0 false .bool] (fun x => (locksF x.1.1, ()))
def cCheck : Ctr := shCtr ⟨[pSto], []⟩ (fun x => [pLen x.1.1.1 < 4611686018427387904, pLen x.1.1.2.1 < 4611686018427387904, pLen x.1.1.2.2.1 < 4611686018427387904, pLen x.1.1.2.2.2.1 < 4611686018427387904]) [] [.slot 0 false tI] (fun x => (cond (stoF x.1.1) 0 9, ()))
def cdoubtOf : Ctr := shCtr ⟨[pSto, pTxn], []⟩ (fun x => [pLen x.1.1.1 < 4611686018427387904, pLen x.1.1.2.1 < 4611686018427387904, pLen x.1.1.2.2.1 < 4611686018427387904, pLen x.1.1.2.2.2.1 < 4611686018427387904]) [] [.slot 0 false tI] (fun x => (idxDoubtF x.1.1.2.2.1 x.1.2.1, ()))
def cisOver : Ctr := shCtr ⟨[pSto, pTxn], []⟩ (fun x => [pLen x.1.1.1 < 4611686018427387904, pLen x.1.1.2.1 < 4611686018427387904, pLen x.1.1.2.2.1 < 4611686018427387904, pLen x.1.1.2.2.2.1 < 4611686018427387904]) [] [.slot 0 false .bool] (fun x => (pGe (idxTxnF x.1.1.2.2.2.1 x.1.2.1) 0, ()))
def cStoreMay : Ctr := shCtr ⟨[pSto], []⟩ (fun x => [pLen x.1.1.1 < 4611686018427387904, pLen x.1.1.2.1 < 4611686018427387904, pLen x.1.1.2.2.1 < 4611686018427387904, pLen x.1.1.2.2.2.1 < 4611686018427387904]) [] [.slot 0 false .bool] (fun x => (stoF x.1.1, ()))
def doubts_VC (is : List ItemD) (ls : List LockD) (ds : List DoubtD) (os : List TxnD) : Prop :=
  doubtsAInv is ls ds os ((0 : Int), ()) ∧ ∀ (y : kden Bool.false tI × PUnit), doubtsAInv is ls ds os y → bif pLt y.1 (pInt (pLen ds)) then pIn y.1 (pLen ds) ∧ bif pNot (txnF ((pGet tyItem ds (pNat y.1)).1, (pGet tyItem ds
    (pNat y.1)).2.1, ())) then (Bool.false, ()) = (doubtsF (is, ls, ds, os, ()), ()) else bif pLt (pGet tyItem ds (pNat y.1)).2.2.1 (0 : Int) then (Bool.false, ()) = (doubtsF (is, ls, ds, os, ()), ()) else bif pGt (pGet
    tyItem ds (pNat y.1)).2.2.1 (1048576 : Int) then (Bool.false, ()) = (doubtsF (is, ls, ds, os, ()), ()) else Nat.le (Nat.succ (pLen os)) 4611686018427387904 ∧ bif pGe (idxTxnF os ((pGet tyItem ds (pNat y.1)).1, (pGet
    tyItem ds (pNat y.1)).2.1, ())) (0 : Int) then (Bool.false, ()) = (doubtsF (is, ls, ds, os, ()), ()) else Nat.le (Nat.succ (pLen ls)) 4611686018427387904 ∧ bif pNot (pGe (idxLockF ls ((pGet tyItem ds (pNat y.1)).1, (pGet
    tyItem ds (pNat y.1)).2.1, ())) (0 : Int)) then (Bool.false, ()) = (doubtsF (is, ls, ds, os, ()), ()) else pTo y.1 (pLen ds) ∧ doubtsBInv is ls ds os y.1 ((0 : Int), ()) ∧ ∀ (y_1 : kden Bool.false tI × PUnit), doubtsBInv
    is ls ds os y.1 y_1 → bif pLt y_1.1 (pInt (pLen (pSub ds 0 (pNat y.1)))) then pIn y_1.1 (pLen (pSub ds 0 (pNat y.1))) ∧ bif pAndB (pEq (pGet tyItem (pSub ds 0 (pNat y.1)) (pNat y_1.1)).1 (pGet tyItem ds (pNat y.1)).1)
    (pEq (pGet tyItem (pSub ds 0 (pNat y.1)) (pNat y_1.1)).2.1 (pGet tyItem ds (pNat y.1)).2.1) then (Bool.false, ()) = (doubtsF (is, ls, ds, os, ()), ()) else doubtsBInv is ls ds os y.1 (pAdd IntKind.i64 y_1.1 (1 : Int),
    ()) ∧ Nat.le (Nat.succ (doubtsBMu is ls ds os y.1 (pAdd IntKind.i64 y_1.1 (1 : Int), ()))) (doubtsBMu is ls ds os y.1 y_1) else doubtsAInv is ls ds os (pAdd IntKind.i64 y.1 (1 : Int), ()) ∧ Nat.le (Nat.succ (doubtsAMu is
    ls ds os (pAdd IntKind.i64 y.1 (1 : Int), ()))) (doubtsAMu is ls ds os y) else doubtsCInv is ls ds os ((0 : Int), ()) ∧ ∀ (y : kden Bool.false tI × PUnit), doubtsCInv is ls ds os y → bif pLt y.1 (pInt (pLen os)) then pIn
    y.1 (pLen os) ∧ bif pNot (txnF ((pGet tyTxn os (pNat y.1)).1, (pGet tyTxn os (pNat y.1)).2.1, ())) then (Bool.false, ()) = (doubtsF (is, ls, ds, os, ()), ()) else pTo y.1 (pLen os) ∧ Nat.le (Nat.succ (pLen (pSub os 0
    (pNat y.1)))) 4611686018427387904 ∧ bif pGe (idxTxnF (pSub os 0 (pNat y.1)) ((pGet tyTxn os (pNat y.1)).1, (pGet tyTxn os (pNat y.1)).2.1, ())) (0 : Int) then (Bool.false, ()) = (doubtsF (is, ls, ds, os, ()), ()) else
    doubtsCInv is ls ds os (pAdd IntKind.i64 y.1 (1 : Int), ()) ∧ Nat.le (Nat.succ (doubtsCMu is ls ds os (pAdd IntKind.i64 y.1 (1 : Int), ()))) (doubtsCMu is ls ds os y) else (Bool.true, ()) = (doubtsF (is, ls, ds, os, ()),
    ())
set_option maxRecDepth 100000 in
theorem doubts_meets (htxn : Meets Tryd.prog (fun _ => none) 84 ctxn) (hContains : Meets Tryd.prog (fun _ => none) 85 cContains) (hcontainsFuncLock : Meets Tryd.prog (fun _ => none) 86 ccontainsFuncLock) (h : ∀ (is : List ItemD) (ls : List LockD) (ds : List DoubtD) (os : List TxnD), (∀ p ∈ (fun x => [pLen x.1.1.1 < 4611686018427387904, pLen x.1.1.2.1 < 4611686018427387904, pLen x.1.1.2.2.1 < 4611686018427387904, pLen x.1.1.2.2.2.1 < 4611686018427387904] : Shape.den ⟨[pSto], []⟩ → List Prop) ⟨((is, ls, ds, os, ()), ()), ()⟩, p) → doubts_VC is ls ds os) : Meets Tryd.prog (fun _ => none) 62 cdoubts :=
  meets_vc (E := envOf Tryd.prog [(84, (false, ctxn)), (85, (false, cContains)), (86, (false, ccontainsFuncLock))] [33, 123, 120, 91]) (envOf_ok (fun p hp => (by simp only [List.mem_cons, List.not_mem_nil, or_false] at hp; rcases hp with rfl | rfl | rfl; exact htxn; exact hContains; exact hcontainsFuncLock)) (by kernel_rfl)) ⟨[pSto], []⟩ (fun x => fun ky9 st9 => look [(2, (⟨[.slot 12 false tI], doubtsAInv x.1.1.1 x.1.1.2.1 x.1.1.2.2.1 x.1.1.2.2.2.1, doubtsAMu x.1.1.1 x.1.1.2.1 x.1.1.2.2.1 x.1.1.2.2.2.1⟩ : Ann)), (9, (⟨[.slot 48 false tI], doubtsBInv x.1.1.1 x.1.1.2.1 x.1.1.2.2.1 x.1.1.2.2.2.1 (slotI st9 12), doubtsBMu x.1.1.1 x.1.1.2.1 x.1.1.2.2.1 x.1.1.2.2.2.1 (slotI st9 12)⟩ : Ann)), (16, (⟨[.slot 62 false tI], doubtsCInv x.1.1.1 x.1.1.2.1 x.1.1.2.2.1 x.1.1.2.2.2.1, doubtsCMu x.1.1.1 x.1.1.2.1 x.1.1.2.2.1 x.1.1.2.2.2.1⟩ : Ann))] ky9) Tryd.func62 (by kernel_rfl) (by kernel_rfl) (fun x => [pLen x.1.1.1 < 4611686018427387904, pLen x.1.1.2.1 < 4611686018427387904, pLen x.1.1.2.2.1 < 4611686018427387904, pLen x.1.1.2.2.2.1 < 4611686018427387904]) [] [.slot 0 false .bool] (fun x => (doubtsF x.1.1, ())) (fun x => doubts_VC x.1.1.1 x.1.1.2.1 x.1.1.2.2.1 x.1.1.2.2.2.1) (fun x => by kernel_rfl) (fun x hp => h x.1.1.1 x.1.1.2.1 x.1.1.2.2.1 x.1.1.2.2.2.1 hp)
def locks_VC (is : List ItemD) (ls : List LockD) (ds : List DoubtD) (os : List TxnD) : Prop :=
  locksAInv is ls ds os ((0 : Int), ()) ∧ ∀ (y : kden Bool.false tI × PUnit), locksAInv is ls ds os y → bif pLt y.1 (pInt (pLen ls)) then pIn y.1 (pLen ls) ∧ Nat.le (Nat.succ (pLen is)) 4611686018427387904 ∧ Nat.le
    (Nat.succ (pLen ls)) 4611686018427387904 ∧ Nat.le (Nat.succ (pLen ds)) 4611686018427387904 ∧ Nat.le (Nat.succ (pLen os)) 4611686018427387904 ∧ bif pNot (pGe (idxDoubtF ds ((pGet tyLock ls (pNat y.1)).1, (pGet tyLock ls
    (pNat y.1)).2.1, ())) (0 : Int)) then (Bool.false, ()) = (locksF (is, ls, ds, os, ()), ()) else bif pLt (pGet tyLock ls (pNat y.1)).2.2.1 (0 : Int) then (Bool.false, ()) = (locksF (is, ls, ds, os, ()), ()) else bif pGe
    (pGet tyLock ls (pNat y.1)).2.2.1 (8 : Int) then (Bool.false, ()) = (locksF (is, ls, ds, os, ()), ()) else bif pLt (pGet tyLock ls (pNat y.1)).2.2.2.2.1 (0 : Int) then (Bool.false, ()) = (locksF (is, ls, ds, os, ()), ())
    else bif pGt (pGet tyLock ls (pNat y.1)).2.2.2.2.1 (1073741824 : Int) then (Bool.false, ()) = (locksF (is, ls, ds, os, ()), ()) else bif pLt (pGet tyLock ls (pNat y.1)).2.2.2.2.2.1 (0 : Int) then (Bool.false, ()) =
    (locksF (is, ls, ds, os, ()), ()) else bif pGt (pGet tyLock ls (pNat y.1)).2.2.2.2.2.1 (1048576 : Int) then (Bool.false, ()) = (locksF (is, ls, ds, os, ()), ()) else bif pNot (pGet tyLock ls (pNat y.1)).2.2.2.1 then bif
    pNe (pAdd IntKind.i64 (pGet tyLock ls (pNat y.1)).2.2.2.2.1 (pGet tyLock ls (pNat y.1)).2.2.2.2.2.1) (0 : Int) then (Bool.false, ()) = (locksF (is, ls, ds, os, ()), ()) else pTo y.1 (pLen ls) ∧ locksBInv is ls ds os y.1
    ((0 : Int), ()) ∧ ∀ (y_1 : kden Bool.false tI × PUnit), locksBInv is ls ds os y.1 y_1 → bif pLt y_1.1 (pInt (pLen (pSub ls 0 (pNat y.1)))) then pIn y_1.1 (pLen (pSub ls 0 (pNat y.1))) ∧ bif pEq (pGet tyLock (pSub ls 0
    (pNat y.1)) (pNat y_1.1)).2.2.1 (pGet tyLock ls (pNat y.1)).2.2.1 then bif pAndB (pEq (pGet tyLock (pSub ls 0 (pNat y.1)) (pNat y_1.1)).1 (pGet tyLock ls (pNat y.1)).1) (pEq (pGet tyLock (pSub ls 0 (pNat y.1)) (pNat
    y_1.1)).2.1 (pGet tyLock ls (pNat y.1)).2.1) then (Bool.false, ()) = (locksF (is, ls, ds, os, ()), ()) else bif (pGet tyLock (pSub ls 0 (pNat y.1)) (pNat y_1.1)).2.2.2.1 then (Bool.false, ()) = (locksF (is, ls, ds, os,
    ()), ()) else bif (pGet tyLock ls (pNat y.1)).2.2.2.1 then (Bool.false, ()) = (locksF (is, ls, ds, os, ()), ()) else locksBInv is ls ds os y.1 (pAdd IntKind.i64 y_1.1 (1 : Int), ()) ∧ Nat.le (Nat.succ (locksBMu is ls ds
    os y.1 (pAdd IntKind.i64 y_1.1 (1 : Int), ()))) (locksBMu is ls ds os y.1 y_1) else locksBInv is ls ds os y.1 (pAdd IntKind.i64 y_1.1 (1 : Int), ()) ∧ Nat.le (Nat.succ (locksBMu is ls ds os y.1 (pAdd IntKind.i64 y_1.1 (1
    : Int), ()))) (locksBMu is ls ds os y.1 y_1) else locksAInv is ls ds os (pAdd IntKind.i64 y.1 (1 : Int), ()) ∧ Nat.le (Nat.succ (locksAMu is ls ds os (pAdd IntKind.i64 y.1 (1 : Int), ()))) (locksAMu is ls ds os y) else
    pTo y.1 (pLen ls) ∧ locksBInv is ls ds os y.1 ((0 : Int), ()) ∧ ∀ (y_1 : kden Bool.false tI × PUnit), locksBInv is ls ds os y.1 y_1 → bif pLt y_1.1 (pInt (pLen (pSub ls 0 (pNat y.1)))) then pIn y_1.1 (pLen (pSub ls 0
    (pNat y.1))) ∧ bif pEq (pGet tyLock (pSub ls 0 (pNat y.1)) (pNat y_1.1)).2.2.1 (pGet tyLock ls (pNat y.1)).2.2.1 then bif pAndB (pEq (pGet tyLock (pSub ls 0 (pNat y.1)) (pNat y_1.1)).1 (pGet tyLock ls (pNat y.1)).1) (pEq
    (pGet tyLock (pSub ls 0 (pNat y.1)) (pNat y_1.1)).2.1 (pGet tyLock ls (pNat y.1)).2.1) then (Bool.false, ()) = (locksF (is, ls, ds, os, ()), ()) else bif (pGet tyLock (pSub ls 0 (pNat y.1)) (pNat y_1.1)).2.2.2.1 then
    (Bool.false, ()) = (locksF (is, ls, ds, os, ()), ()) else bif (pGet tyLock ls (pNat y.1)).2.2.2.1 then (Bool.false, ()) = (locksF (is, ls, ds, os, ()), ()) else locksBInv is ls ds os y.1 (pAdd IntKind.i64 y_1.1 (1 :
    Int), ()) ∧ Nat.le (Nat.succ (locksBMu is ls ds os y.1 (pAdd IntKind.i64 y_1.1 (1 : Int), ()))) (locksBMu is ls ds os y.1 y_1) else locksBInv is ls ds os y.1 (pAdd IntKind.i64 y_1.1 (1 : Int), ()) ∧ Nat.le (Nat.succ
    (locksBMu is ls ds os y.1 (pAdd IntKind.i64 y_1.1 (1 : Int), ()))) (locksBMu is ls ds os y.1 y_1) else locksAInv is ls ds os (pAdd IntKind.i64 y.1 (1 : Int), ()) ∧ Nat.le (Nat.succ (locksAMu is ls ds os (pAdd IntKind.i64
    y.1 (1 : Int), ()))) (locksAMu is ls ds os y) else (pLe (pInt (pLen ls)) (24 : Int), ()) = (locksF (is, ls, ds, os, ()), ())
set_option maxRecDepth 100000 in
theorem locks_meets (hdoubted : Meets Tryd.prog (fun _ => none) 88 cdoubted) (h : ∀ (is : List ItemD) (ls : List LockD) (ds : List DoubtD) (os : List TxnD), (∀ p ∈ (fun x => [pLen x.1.1.1 < 4611686018427387904, pLen x.1.1.2.1 < 4611686018427387904, pLen x.1.1.2.2.1 < 4611686018427387904, pLen x.1.1.2.2.2.1 < 4611686018427387904] : Shape.den ⟨[pSto], []⟩ → List Prop) ⟨((is, ls, ds, os, ()), ()), ()⟩, p) → locks_VC is ls ds os) : Meets Tryd.prog (fun _ => none) 63 clocks :=
  meets_vc (E := envOf Tryd.prog [(88, (false, cdoubted))] [33, 123, 120, 91]) (envOf_ok (fun p hp => (by simp only [List.mem_cons, List.not_mem_nil, or_false] at hp; rcases hp with rfl; exact hdoubted)) (by kernel_rfl)) ⟨[pSto], []⟩ (fun x => fun ky9 st9 => look [(2, (⟨[.slot 10 false tI], locksAInv x.1.1.1 x.1.1.2.1 x.1.1.2.2.1 x.1.1.2.2.2.1, locksAMu x.1.1.1 x.1.1.2.1 x.1.1.2.2.1 x.1.1.2.2.2.1⟩ : Ann)), (7, (⟨[.slot 68 false tI], locksBInv x.1.1.1 x.1.1.2.1 x.1.1.2.2.1 x.1.1.2.2.2.1 (slotI st9 10), locksBMu x.1.1.1 x.1.1.2.1 x.1.1.2.2.1 x.1.1.2.2.2.1 (slotI st9 10)⟩ : Ann))] ky9) Tryd.func63 (by kernel_rfl) (by kernel_rfl) (fun x => [pLen x.1.1.1 < 4611686018427387904, pLen x.1.1.2.1 < 4611686018427387904, pLen x.1.1.2.2.1 < 4611686018427387904, pLen x.1.1.2.2.2.1 < 4611686018427387904]) [] [.slot 0 false .bool] (fun x => (locksF x.1.1, ())) (fun x => locks_VC x.1.1.1 x.1.1.2.1 x.1.1.2.2.1 x.1.1.2.2.2.1) (fun x => by kernel_rfl) (fun x hp => h x.1.1.1 x.1.1.2.1 x.1.1.2.2.1 x.1.1.2.2.2.1 hp)
def Check_VC (is : List ItemD) (ls : List LockD) (ds : List DoubtD) (os : List TxnD) : Prop :=
  Nat.le (Nat.succ (pLen is)) 4611686018427387904 ∧ bif pNot (itemsF is) then ((9 : Int), ()) = (bif stoF (is, ls, ds, os, ()) then (0 : Int) else (9 : Int), ()) else Nat.le (Nat.succ (pLen is)) 4611686018427387904 ∧
    Nat.le (Nat.succ (pLen ls)) 4611686018427387904 ∧ Nat.le (Nat.succ (pLen ds)) 4611686018427387904 ∧ Nat.le (Nat.succ (pLen os)) 4611686018427387904 ∧ bif pNot (doubtsF (is, ls, ds, os, ())) then ((9 : Int), ()) = (bif
    stoF (is, ls, ds, os, ()) then (0 : Int) else (9 : Int), ()) else Nat.le (Nat.succ (pLen is)) 4611686018427387904 ∧ Nat.le (Nat.succ (pLen ls)) 4611686018427387904 ∧ Nat.le (Nat.succ (pLen ds)) 4611686018427387904 ∧
    Nat.le (Nat.succ (pLen os)) 4611686018427387904 ∧ bif pNot (locksF (is, ls, ds, os, ())) then ((9 : Int), ()) = (bif stoF (is, ls, ds, os, ()) then (0 : Int) else (9 : Int), ()) else ((0 : Int), ()) = (bif stoF (is, ls,
    ds, os, ()) then (0 : Int) else (9 : Int), ())
set_option maxRecDepth 100000 in
theorem Check_meets (hitems : Meets Tryd.prog (fun _ => none) 61 citems) (hdoubts : Meets Tryd.prog (fun _ => none) 62 cdoubts) (hlocks : Meets Tryd.prog (fun _ => none) 63 clocks) (h : ∀ (is : List ItemD) (ls : List LockD) (ds : List DoubtD) (os : List TxnD), (∀ p ∈ (fun x => [pLen x.1.1.1 < 4611686018427387904, pLen x.1.1.2.1 < 4611686018427387904, pLen x.1.1.2.2.1 < 4611686018427387904, pLen x.1.1.2.2.2.1 < 4611686018427387904] : Shape.den ⟨[pSto], []⟩ → List Prop) ⟨((is, ls, ds, os, ()), ()), ()⟩, p) → Check_VC is ls ds os) : Meets Tryd.prog (fun _ => none) 28 cCheck :=
  meets_vc (E := envOf Tryd.prog [(61, (false, citems)), (62, (false, cdoubts)), (63, (false, clocks))] [33, 123, 120, 91]) (envOf_ok (fun p hp => (by simp only [List.mem_cons, List.not_mem_nil, or_false] at hp; rcases hp with rfl | rfl | rfl; exact hitems; exact hdoubts; exact hlocks)) (by kernel_rfl)) ⟨[pSto], []⟩ (fun x => fun ky9 st9 => look [] ky9) Tryd.func28 (by kernel_rfl) (by kernel_rfl) (fun x => [pLen x.1.1.1 < 4611686018427387904, pLen x.1.1.2.1 < 4611686018427387904, pLen x.1.1.2.2.1 < 4611686018427387904, pLen x.1.1.2.2.2.1 < 4611686018427387904]) [] [.slot 0 false tI] (fun x => (cond (stoF x.1.1) 0 9, ())) (fun x => Check_VC x.1.1.1 x.1.1.2.1 x.1.1.2.2.1 x.1.1.2.2.2.1) (fun x => by kernel_rfl) (fun x hp => h x.1.1.1 x.1.1.2.1 x.1.1.2.2.1 x.1.1.2.2.2.1 hp)
def doubtOf_VC (is : List ItemD) (ls : List LockD) (ds : List DoubtD) (os : List TxnD) (a b : Int) : Prop :=
  doubtOfInv is ls ds os a b ((0 : Int), ()) ∧ ∀ (y : kden Bool.false tI × PUnit), doubtOfInv is ls ds os a b y → bif pLt y.1 (pInt (pLen ds)) then pIn y.1 (pLen ds) ∧ bif pAndB (pEq (pGet tyItem ds (pNat y.1)).1 a) (pEq
    (pGet tyItem ds (pNat y.1)).2.1 b) then (y.1, ()) = (idxDoubtF ds (a, b, ()), ()) else doubtOfInv is ls ds os a b (pAdd IntKind.i64 y.1 (1 : Int), ()) ∧ Nat.le (Nat.succ (doubtOfMu is ls ds os a b (pAdd IntKind.i64 y.1
    (1 : Int), ()))) (doubtOfMu is ls ds os a b y) else ((-1 : Int), ()) = (idxDoubtF ds (a, b, ()), ())
set_option maxRecDepth 100000 in
theorem doubtOf_meets  (h : ∀ (is : List ItemD) (ls : List LockD) (ds : List DoubtD) (os : List TxnD) (a b : Int), (∀ p ∈ (fun x => [pLen x.1.1.1 < 4611686018427387904, pLen x.1.1.2.1 < 4611686018427387904, pLen x.1.1.2.2.1 < 4611686018427387904, pLen x.1.1.2.2.2.1 < 4611686018427387904] : Shape.den ⟨[pSto, pTxn], []⟩ → List Prop) ⟨((is, ls, ds, os, ()), (a, b, ()), ()), ()⟩, p) → doubtOf_VC is ls ds os a b) : Meets Tryd.prog (fun _ => none) 66 cdoubtOf :=
  meets_vc (E := envOf Tryd.prog [] [33, 123, 120, 91]) (envOf_ok (fun p hp => by cases hp) (by kernel_rfl)) ⟨[pSto, pTxn], []⟩ (fun x => fun ky9 st9 => look [(2, (⟨[.slot 5 false tI], doubtOfInv x.1.1.1 x.1.1.2.1 x.1.1.2.2.1 x.1.1.2.2.2.1 x.1.2.1.1 x.1.2.1.2.1, doubtOfMu x.1.1.1 x.1.1.2.1 x.1.1.2.2.1 x.1.1.2.2.2.1 x.1.2.1.1 x.1.2.1.2.1⟩ : Ann))] ky9) Tryd.func66 (by kernel_rfl) (by kernel_rfl) (fun x => [pLen x.1.1.1 < 4611686018427387904, pLen x.1.1.2.1 < 4611686018427387904, pLen x.1.1.2.2.1 < 4611686018427387904, pLen x.1.1.2.2.2.1 < 4611686018427387904]) [] [.slot 0 false tI] (fun x => (idxDoubtF x.1.1.2.2.1 x.1.2.1, ())) (fun x => doubtOf_VC x.1.1.1 x.1.1.2.1 x.1.1.2.2.1 x.1.1.2.2.2.1 x.1.2.1.1 x.1.2.1.2.1) (fun x => by kernel_rfl) (fun x hp => h x.1.1.1 x.1.1.2.1 x.1.1.2.2.1 x.1.1.2.2.2.1 x.1.2.1.1 x.1.2.1.2.1 hp)
def isOver_VC (is : List ItemD) (ls : List LockD) (ds : List DoubtD) (os : List TxnD) (a b : Int) : Prop :=
  isOverInv is ls ds os a b ((0 : Int), ()) ∧ ∀ (y : kden Bool.false tI × PUnit), isOverInv is ls ds os a b y → bif pLt y.1 (pInt (pLen os)) then pIn y.1 (pLen os) ∧ bif pAndB (pEq (pGet tyTxn os (pNat y.1)).1 a) (pEq
    (pGet tyTxn os (pNat y.1)).2.1 b) then (Bool.true, ()) = (pGe (idxTxnF os (a, b, ())) (0 : Int), ()) else isOverInv is ls ds os a b (pAdd IntKind.i64 y.1 (1 : Int), ()) ∧ Nat.le (Nat.succ (isOverMu is ls ds os a b (pAdd
    IntKind.i64 y.1 (1 : Int), ()))) (isOverMu is ls ds os a b y) else (Bool.false, ()) = (pGe (idxTxnF os (a, b, ())) (0 : Int), ())
set_option maxRecDepth 100000 in
theorem isOver_meets  (h : ∀ (is : List ItemD) (ls : List LockD) (ds : List DoubtD) (os : List TxnD) (a b : Int), (∀ p ∈ (fun x => [pLen x.1.1.1 < 4611686018427387904, pLen x.1.1.2.1 < 4611686018427387904, pLen x.1.1.2.2.1 < 4611686018427387904, pLen x.1.1.2.2.2.1 < 4611686018427387904] : Shape.den ⟨[pSto, pTxn], []⟩ → List Prop) ⟨((is, ls, ds, os, ()), (a, b, ()), ()), ()⟩, p) → isOver_VC is ls ds os a b) : Meets Tryd.prog (fun _ => none) 67 cisOver :=
  meets_vc (E := envOf Tryd.prog [] [33, 123, 120, 91]) (envOf_ok (fun p hp => by cases hp) (by kernel_rfl)) ⟨[pSto, pTxn], []⟩ (fun x => fun ky9 st9 => look [(2, (⟨[.slot 5 false tI], isOverInv x.1.1.1 x.1.1.2.1 x.1.1.2.2.1 x.1.1.2.2.2.1 x.1.2.1.1 x.1.2.1.2.1, isOverMu x.1.1.1 x.1.1.2.1 x.1.1.2.2.1 x.1.1.2.2.2.1 x.1.2.1.1 x.1.2.1.2.1⟩ : Ann))] ky9) Tryd.func67 (by kernel_rfl) (by kernel_rfl) (fun x => [pLen x.1.1.1 < 4611686018427387904, pLen x.1.1.2.1 < 4611686018427387904, pLen x.1.1.2.2.1 < 4611686018427387904, pLen x.1.1.2.2.2.1 < 4611686018427387904]) [] [.slot 0 false .bool] (fun x => (pGe (idxTxnF x.1.1.2.2.2.1 x.1.2.1) 0, ())) (fun x => isOver_VC x.1.1.1 x.1.1.2.1 x.1.1.2.2.1 x.1.1.2.2.2.1 x.1.2.1.1 x.1.2.1.2.1) (fun x => by kernel_rfl) (fun x hp => h x.1.1.1 x.1.1.2.1 x.1.1.2.2.1 x.1.1.2.2.2.1 x.1.2.1.1 x.1.2.1.2.1 hp)
def StoreMay_VC (is : List ItemD) (ls : List LockD) (ds : List DoubtD) (os : List TxnD) : Prop :=
  bif pGt (pInt (pLen ls)) (24 : Int) then (Bool.false, ()) = (stoF (is, ls, ds, os, ()), ()) else mayAInv is ls ds os ((0 : Int), ()) ∧ ∀ (y : kden Bool.false tI × PUnit), mayAInv is ls ds os y → bif pLt y.1 (pInt (pLen
    is)) then pIn y.1 (pLen is) ∧ bif pNot (inF (pGet tyItem is (pNat y.1)).1 (0 : Int) (7 : Int)) then (Bool.false, ()) = (stoF (is, ls, ds, os, ()), ()) else bif pNot (inF (pGet tyItem is (pNat y.1)).2.1 (0 : Int)
    (1073741824 : Int)) then (Bool.false, ()) = (stoF (is, ls, ds, os, ()), ()) else bif pNot (inF (pGet tyItem is (pNat y.1)).2.2.1 (1 : Int) (1048576 : Int)) then (Bool.false, ()) = (stoF (is, ls, ds, os, ()), ()) else bif
    pGt y.1 (0 : Int) then pIn (pSubI IntKind.i64 y.1 (1 : Int)) (pLen is) ∧ bif pLe (pGet tyItem is (pNat y.1)).1 (pGet tyItem is (pNat (pSubI IntKind.i64 y.1 (1 : Int)))).1 then (Bool.false, ()) = (stoF (is, ls, ds, os,
    ()), ()) else mayAInv is ls ds os (pAdd IntKind.i64 y.1 (1 : Int), ()) ∧ Nat.le (Nat.succ (mayAMu is ls ds os (pAdd IntKind.i64 y.1 (1 : Int), ()))) (mayAMu is ls ds os y) else mayAInv is ls ds os (pAdd IntKind.i64 y.1
    (1 : Int), ()) ∧ Nat.le (Nat.succ (mayAMu is ls ds os (pAdd IntKind.i64 y.1 (1 : Int), ()))) (mayAMu is ls ds os y) else mayBInv is ls ds os ((0 : Int), ()) ∧ ∀ (y : kden Bool.false tI × PUnit), mayBInv is ls ds os y →
    bif pLt y.1 (pInt (pLen ls)) then pIn y.1 (pLen ls) ∧ Nat.le (Nat.succ (pLen is)) 4611686018427387904 ∧ Nat.le (Nat.succ (pLen ls)) 4611686018427387904 ∧ Nat.le (Nat.succ (pLen ds)) 4611686018427387904 ∧ Nat.le (Nat.succ
    (pLen os)) 4611686018427387904 ∧ bif pLt (idxDoubtF ds ((pGet tyLock ls (pNat y.1)).1, (pGet tyLock ls (pNat y.1)).2.1, ())) (0 : Int) then (Bool.false, ()) = (stoF (is, ls, ds, os, ()), ()) else bif pNot (inF (pGet
    tyLock ls (pNat y.1)).2.2.1 (0 : Int) (7 : Int)) then (Bool.false, ()) = (stoF (is, ls, ds, os, ()), ()) else bif pNot (inF (pGet tyLock ls (pNat y.1)).2.2.2.2.1 (0 : Int) (1073741824 : Int)) then (Bool.false, ()) =
    (stoF (is, ls, ds, os, ()), ()) else bif pNot (inF (pGet tyLock ls (pNat y.1)).2.2.2.2.2.1 (0 : Int) (1048576 : Int)) then (Bool.false, ()) = (stoF (is, ls, ds, os, ()), ()) else bif pNot (pGet tyLock ls (pNat
    y.1)).2.2.2.1 then bif pNe (pGet tyLock ls (pNat y.1)).2.2.2.2.1 (0 : Int) then (Bool.false, ()) = (stoF (is, ls, ds, os, ()), ()) else bif pNe (pGet tyLock ls (pNat y.1)).2.2.2.2.2.1 (0 : Int) then (Bool.false, ()) =
    (stoF (is, ls, ds, os, ()), ()) else mayCInv is ls ds os y.1 ((0 : Int), ()) ∧ ∀ (y_1 : kden Bool.false tI × PUnit), mayCInv is ls ds os y.1 y_1 → bif pLt y_1.1 y.1 then pIn y_1.1 (pLen ls) ∧ bif pEq (pGet tyLock ls
    (pNat y.1)).2.2.1 (pGet tyLock ls (pNat y_1.1)).2.2.1 then bif pAndB (pEq (pGet tyLock ls (pNat y.1)).1 (pGet tyLock ls (pNat y_1.1)).1) (pEq (pGet tyLock ls (pNat y.1)).2.1 (pGet tyLock ls (pNat y_1.1)).2.1) then
    (Bool.false, ()) = (stoF (is, ls, ds, os, ()), ()) else bif (pGet tyLock ls (pNat y.1)).2.2.2.1 then (Bool.false, ()) = (stoF (is, ls, ds, os, ()), ()) else bif (pGet tyLock ls (pNat y_1.1)).2.2.2.1 then (Bool.false, ())
    = (stoF (is, ls, ds, os, ()), ()) else mayCInv is ls ds os y.1 (pAdd IntKind.i64 y_1.1 (1 : Int), ()) ∧ Nat.le (Nat.succ (mayCMu is ls ds os y.1 (pAdd IntKind.i64 y_1.1 (1 : Int), ()))) (mayCMu is ls ds os y.1 y_1) else
    mayCInv is ls ds os y.1 (pAdd IntKind.i64 y_1.1 (1 : Int), ()) ∧ Nat.le (Nat.succ (mayCMu is ls ds os y.1 (pAdd IntKind.i64 y_1.1 (1 : Int), ()))) (mayCMu is ls ds os y.1 y_1) else mayBInv is ls ds os (pAdd IntKind.i64
    y.1 (1 : Int), ()) ∧ Nat.le (Nat.succ (mayBMu is ls ds os (pAdd IntKind.i64 y.1 (1 : Int), ()))) (mayBMu is ls ds os y) else mayCInv is ls ds os y.1 ((0 : Int), ()) ∧ ∀ (y_1 : kden Bool.false tI × PUnit), mayCInv is ls
    ds os y.1 y_1 → bif pLt y_1.1 y.1 then pIn y_1.1 (pLen ls) ∧ bif pEq (pGet tyLock ls (pNat y.1)).2.2.1 (pGet tyLock ls (pNat y_1.1)).2.2.1 then bif pAndB (pEq (pGet tyLock ls (pNat y.1)).1 (pGet tyLock ls (pNat
    y_1.1)).1) (pEq (pGet tyLock ls (pNat y.1)).2.1 (pGet tyLock ls (pNat y_1.1)).2.1) then (Bool.false, ()) = (stoF (is, ls, ds, os, ()), ()) else bif (pGet tyLock ls (pNat y.1)).2.2.2.1 then (Bool.false, ()) = (stoF (is,
    ls, ds, os, ()), ()) else bif (pGet tyLock ls (pNat y_1.1)).2.2.2.1 then (Bool.false, ()) = (stoF (is, ls, ds, os, ()), ()) else mayCInv is ls ds os y.1 (pAdd IntKind.i64 y_1.1 (1 : Int), ()) ∧ Nat.le (Nat.succ (mayCMu
    is ls ds os y.1 (pAdd IntKind.i64 y_1.1 (1 : Int), ()))) (mayCMu is ls ds os y.1 y_1) else mayCInv is ls ds os y.1 (pAdd IntKind.i64 y_1.1 (1 : Int), ()) ∧ Nat.le (Nat.succ (mayCMu is ls ds os y.1 (pAdd IntKind.i64 y_1.1
    (1 : Int), ()))) (mayCMu is ls ds os y.1 y_1) else mayBInv is ls ds os (pAdd IntKind.i64 y.1 (1 : Int), ()) ∧ Nat.le (Nat.succ (mayBMu is ls ds os (pAdd IntKind.i64 y.1 (1 : Int), ()))) (mayBMu is ls ds os y) else
    mayDInv is ls ds os ((0 : Int), ()) ∧ ∀ (y : kden Bool.false tI × PUnit), mayDInv is ls ds os y → bif pLt y.1 (pInt (pLen ds)) then pIn y.1 (pLen ds) ∧ mayEInv is ls ds os y.1 ((0 : Int), Bool.false, ()) ∧ ∀ (y_1 : kden
    Bool.false tI × kden Bool.false Ty.bool × PUnit), mayEInv is ls ds os y.1 y_1 → bif pLt y_1.1 (pInt (pLen ls)) then bif y_1.2.1 then mayEInv is ls ds os y.1 (pAdd IntKind.i64 y_1.1 (1 : Int), Bool.true, ()) ∧ Nat.le
    (Nat.succ (mayEMu is ls ds os y.1 (pAdd IntKind.i64 y_1.1 (1 : Int), Bool.true, ()))) (mayEMu is ls ds os y.1 y_1) else pIn y_1.1 (pLen ls) ∧ mayEInv is ls ds os y.1 (pAdd IntKind.i64 y_1.1 (1 : Int), pAndB (pEq (pGet
    tyLock ls (pNat y_1.1)).1 (pGet tyItem ds (pNat y.1)).1) (pEq (pGet tyLock ls (pNat y_1.1)).2.1 (pGet tyItem ds (pNat y.1)).2.1), ()) ∧ Nat.le (Nat.succ (mayEMu is ls ds os y.1 (pAdd IntKind.i64 y_1.1 (1 : Int), pAndB
    (pEq (pGet tyLock ls (pNat y_1.1)).1 (pGet tyItem ds (pNat y.1)).1) (pEq (pGet tyLock ls (pNat y_1.1)).2.1 (pGet tyItem ds (pNat y.1)).2.1), ()))) (mayEMu is ls ds os y.1 y_1) else bif pNot (txnF ((pGet tyItem ds (pNat
    y.1)).1, (pGet tyItem ds (pNat y.1)).2.1, ())) then (Bool.false, ()) = (stoF (is, ls, ds, os, ()), ()) else bif pNot (inF (pGet tyItem ds (pNat y.1)).2.2.1 (0 : Int) (1048576 : Int)) then (Bool.false, ()) = (stoF (is,
    ls, ds, os, ()), ()) else bif pNot y_1.2.1 then (Bool.false, ()) = (stoF (is, ls, ds, os, ()), ()) else Nat.le (Nat.succ (pLen is)) 4611686018427387904 ∧ Nat.le (Nat.succ (pLen ls)) 4611686018427387904 ∧ Nat.le (Nat.succ
    (pLen ds)) 4611686018427387904 ∧ Nat.le (Nat.succ (pLen os)) 4611686018427387904 ∧ bif pNe (idxDoubtF ds ((pGet tyItem ds (pNat y.1)).1, (pGet tyItem ds (pNat y.1)).2.1, ())) y.1 then (Bool.false, ()) = (stoF (is, ls,
    ds, os, ()), ()) else Nat.le (Nat.succ (pLen is)) 4611686018427387904 ∧ Nat.le (Nat.succ (pLen ls)) 4611686018427387904 ∧ Nat.le (Nat.succ (pLen ds)) 4611686018427387904 ∧ Nat.le (Nat.succ (pLen os)) 4611686018427387904
    ∧ bif pGe (idxTxnF os ((pGet tyItem ds (pNat y.1)).1, (pGet tyItem ds (pNat y.1)).2.1, ())) (0 : Int) then (Bool.false, ()) = (stoF (is, ls, ds, os, ()), ()) else mayDInv is ls ds os (pAdd IntKind.i64 y.1 (1 : Int), ())
    ∧ Nat.le (Nat.succ (mayDMu is ls ds os (pAdd IntKind.i64 y.1 (1 : Int), ()))) (mayDMu is ls ds os y) else mayFInv is ls ds os ((0 : Int), ()) ∧ ∀ (y : kden Bool.false tI × PUnit), mayFInv is ls ds os y → bif pLt y.1
    (pInt (pLen os)) then mayGInv is ls ds os y.1 ((0 : Int), ()) ∧ ∀ (y_1 : kden Bool.false tI × PUnit), mayGInv is ls ds os y.1 y_1 → bif pLt y_1.1 y.1 then pIn y_1.1 (pLen os) ∧ pIn y.1 (pLen os) ∧ bif pAndB (pEq (pGet
    tyTxn os (pNat y_1.1)).1 (pGet tyTxn os (pNat y.1)).1) (pEq (pGet tyTxn os (pNat y_1.1)).2.1 (pGet tyTxn os (pNat y.1)).2.1) then (Bool.false, ()) = (stoF (is, ls, ds, os, ()), ()) else mayGInv is ls ds os y.1 (pAdd
    IntKind.i64 y_1.1 (1 : Int), ()) ∧ Nat.le (Nat.succ (mayGMu is ls ds os y.1 (pAdd IntKind.i64 y_1.1 (1 : Int), ()))) (mayGMu is ls ds os y.1 y_1) else pIn y.1 (pLen os) ∧ bif pNot (txnF ((pGet tyTxn os (pNat y.1)).1,
    (pGet tyTxn os (pNat y.1)).2.1, ())) then (Bool.false, ()) = (stoF (is, ls, ds, os, ()), ()) else mayFInv is ls ds os (pAdd IntKind.i64 y.1 (1 : Int), ()) ∧ Nat.le (Nat.succ (mayFMu is ls ds os (pAdd IntKind.i64 y.1 (1 :
    Int), ()))) (mayFMu is ls ds os y) else (Bool.true, ()) = (stoF (is, ls, ds, os, ()), ())
set_option maxRecDepth 100000 in
theorem StoreMay_meets (hIn : Meets Tryd.prog (fun _ => none) 55 cIn) (hdoubtOf : Meets Tryd.prog (fun _ => none) 66 cdoubtOf) (hplainTxn : Meets Tryd.prog (fun _ => none) 36 cplainTxn) (hisOver : Meets Tryd.prog (fun _ => none) 67 cisOver) (h : ∀ (is : List ItemD) (ls : List LockD) (ds : List DoubtD) (os : List TxnD), (∀ p ∈ (fun x => [pLen x.1.1.1 < 4611686018427387904, pLen x.1.1.2.1 < 4611686018427387904, pLen x.1.1.2.2.1 < 4611686018427387904, pLen x.1.1.2.2.2.1 < 4611686018427387904] : Shape.den ⟨[pSto], []⟩ → List Prop) ⟨((is, ls, ds, os, ()), ()), ()⟩, p) → StoreMay_VC is ls ds os) : Meets Tryd.prog (fun _ => none) 35 cStoreMay :=
  meets_vc (E := envOf Tryd.prog [(55, (false, cIn)), (66, (false, cdoubtOf)), (36, (false, cplainTxn)), (67, (false, cisOver))] [33, 123, 120, 91]) (envOf_ok (fun p hp => (by simp only [List.mem_cons, List.not_mem_nil, or_false] at hp; rcases hp with rfl | rfl | rfl | rfl; exact hIn; exact hdoubtOf; exact hplainTxn; exact hisOver)) (by kernel_rfl)) ⟨[pSto], []⟩ (fun x => fun ky9 st9 => look [(4, (⟨[.slot 3 false tI], mayAInv x.1.1.1 x.1.1.2.1 x.1.1.2.2.1 x.1.1.2.2.2.1, mayAMu x.1.1.1 x.1.1.2.1 x.1.1.2.2.1 x.1.1.2.2.2.1⟩ : Ann)), (10, (⟨[.slot 5 false tI], mayBInv x.1.1.1 x.1.1.2.1 x.1.1.2.2.1 x.1.1.2.2.2.1, mayBMu x.1.1.1 x.1.1.2.1 x.1.1.2.2.1 x.1.1.2.2.2.1⟩ : Ann)), (16, (⟨[.slot 7 false tI], mayCInv x.1.1.1 x.1.1.2.1 x.1.1.2.2.1 x.1.1.2.2.2.1 (slotI st9 5), mayCMu x.1.1.1 x.1.1.2.1 x.1.1.2.2.1 x.1.1.2.2.2.1 (slotI st9 5)⟩ : Ann)), (22, (⟨[.slot 9 false tI], mayDInv x.1.1.1 x.1.1.2.1 x.1.1.2.2.1 x.1.1.2.2.2.1, mayDMu x.1.1.1 x.1.1.2.1 x.1.1.2.2.1 x.1.1.2.2.2.1⟩ : Ann)), (27, (⟨[.slot 12 false tI, .slot 11 false .bool], mayEInv x.1.1.1 x.1.1.2.1 x.1.1.2.2.1 x.1.1.2.2.2.1 (slotI st9 9), mayEMu x.1.1.1 x.1.1.2.1 x.1.1.2.2.1 x.1.1.2.2.2.1 (slotI st9 9)⟩ : Ann)), (33, (⟨[.slot 13 false tI], mayFInv x.1.1.1 x.1.1.2.1 x.1.1.2.2.1 x.1.1.2.2.2.1, mayFMu x.1.1.1 x.1.1.2.1 x.1.1.2.2.1 x.1.1.2.2.2.1⟩ : Ann)), (36, (⟨[.slot 14 false tI], mayGInv x.1.1.1 x.1.1.2.1 x.1.1.2.2.1 x.1.1.2.2.2.1 (slotI st9 13), mayGMu x.1.1.1 x.1.1.2.1 x.1.1.2.2.1 x.1.1.2.2.2.1 (slotI st9 13)⟩ : Ann))] ky9) Tryd.func35 (by kernel_rfl) (by kernel_rfl) (fun x => [pLen x.1.1.1 < 4611686018427387904, pLen x.1.1.2.1 < 4611686018427387904, pLen x.1.1.2.2.1 < 4611686018427387904, pLen x.1.1.2.2.2.1 < 4611686018427387904]) [] [.slot 0 false .bool] (fun x => (stoF x.1.1, ())) (fun x => StoreMay_VC x.1.1.1 x.1.1.2.1 x.1.1.2.2.1 x.1.1.2.2.2.1) (fun x => by kernel_rfl) (fun x hp => h x.1.1.1 x.1.1.2.1 x.1.1.2.2.1 x.1.1.2.2.2.1 hp)
theorem idxOf_lt {p : Nat → Bool} {n k j : Nat} (hj : j < k) (hn : k < n) (h : p j = true) : idxOf p n ≠ (k : Int) := by
  intro e
  have hg : pGe (idxOf p n) 0 = true := by rw [e]; simp [pGe]
  unfold idxOf at e
  cases hq : (List.range n).find? p with
  | none => rw [hq] at e; simp at e
  | some i =>
    rw [hq] at e
    have hi : i = k := by have e' : (i : Int) = (k : Int) := e; omega
    rw [List.find?_range_eq_some] at hq
    have := hq.2.2 j (by omega)
    rw [h] at this; simp at this
theorem doubt_first {ds : List DoubtD} {k : Nat} (hk : k < ds.length) : pNe (idxDoubtF ds ((pGet tyDoubt ds k).1, (pGet tyDoubt ds k).2.1, ())) (k : Int) = !allUpto (fun j => !sameD ds j k) k := by
  cases hq : allUpto (fun j => !sameD ds j k) k with
  | true =>
    have ha := allUpto_iff.1 hq
    have : idxDoubtF ds ((pGet tyDoubt ds k).1, (pGet tyDoubt ds k).2.1, ()) = (k : Int) := idxOf_hit hk (fun j hj => by have := ha j hj; simp only [Bool.not_eq_true'] at this; exact this) (by simp [doubtIsF, pEq])
    rw [this]; simp [pNe]
  | false =>
    have : ∃ j, j < k ∧ sameD ds j k = true := by
      rcases Classical.em (∃ j, j < k ∧ sameD ds j k = true) with h | h
      · exact h
      · have : allUpto (fun j => !sameD ds j k) k = true := allUpto_iff.2 fun j hj => by
          cases hs : sameD ds j k with
          | true => exact absurd ⟨j, hj, hs⟩ h
          | false => rfl
        rw [this] at hq; cases hq
    obtain ⟨j, hj, hs⟩ := this
    have : idxDoubtF ds ((pGet tyDoubt ds k).1, (pGet tyDoubt ds k).2.1, ()) ≠ (k : Int) := idxOf_lt hj hk (by simpa [sameD, pAndB, doubtIsF] using hs)
    simp [pNe, this]
theorem over_sub {os : List TxnD} {k : Nat} (hk : k < os.length) : pGe (idxTxnF (pSub os 0 k) ((pGet tyTxn os k).1, (pGet tyTxn os k).2.1, ())) 0 = !allUpto (fun j => !sameT os j k) k := by
  unfold idxTxnF
  rw [idxOf_ge, Bool.eq_iff_iff, anyUpto_iff, pSub0_len (by omega)]
  constructor
  · rintro ⟨j, hj, h⟩
    rw [pGet_sub0 hj] at h
    cases hq : allUpto (fun j => !sameT os j k) k with
    | false => rfl
    | true =>
      have := allUpto_iff.1 hq j hj
      simp only [eqTxn, sameT, pAndB, pEq, Bool.not_eq_true', Bool.and_eq_true, beq_iff_eq, Bool.and_eq_false_iff, beq_eq_false_iff_ne] at h this
      grind
  · intro h
    rcases Classical.em (∃ j, j < k ∧ sameT os j k = true) with ⟨j, hj, hs⟩ | hn
    · refine ⟨j, hj, ?_⟩
      rw [pGet_sub0 hj]
      simp only [eqTxn, sameT, pAndB, pEq, Bool.and_eq_true, beq_iff_eq] at hs ⊢
      exact ⟨hs.1.symm, hs.2.symm⟩
    · have : allUpto (fun j => !sameT os j k) k = true := allUpto_iff.2 fun j hj => by
        cases hs : sameT os j k with
        | true => exact absurd ⟨j, hj, hs⟩ hn
        | false => rfl
      rw [this] at h; cases h
theorem anyUpto_succ {p : Nat → Bool} {k : Nat} : anyUpto p (k + 1) = (anyUpto p k || p k) := by
  simp [anyUpto, List.range_succ]
theorem HandInv.round {p : Nat → Bool} {n : Nat} {y : Int × Bool × Unit} (hn : n < 4611686018427387904) (h : HandInv p n y) :
    (∃ k : Nat, y = ((k : Int), anyUpto p k, ()) ∧ k < n ∧ ∀ b : Bool, b = (anyUpto p k || p k) → HandInv p n (pAdd .i64 (k : Int) 1, b, ()) ∧ Nat.le (Nat.succ (HandMu n (pAdd .i64 (k : Int) 1, b, ()))) (HandMu n y)) ∨
    y = ((n : Int), anyUpto p n, ()) := by
  obtain ⟨k, hk, hle, ha⟩ := h
  obtain ⟨y1, y2, u⟩ := y
  cases u
  simp only at hk ha
  subst hk ha
  by_cases hkn : k < n
  · refine .inl ⟨k, rfl, hkn, fun b hb => ?_⟩
    rw [pAdd1 (by omega)]
    refine ⟨⟨k + 1, rfl, hkn, by rw [hb, anyUpto_succ]⟩, ?_⟩
    unfold HandMu; simp only [Int.toNat_natCast]; exact Nat.le_of_eq (by omega)
  · have : k = n := by omega
    subst this
    exact .inr rfl
theorem doubtsF_eq (is : List ItemD) (ls : List LockD) (ds : List DoubtD) (os : List TxnD) : doubtsF (is, ls, ds, os, ()) = (allUpto (doubtOkAt ls ds os) ds.length && allUpto (overOkAt os) os.length) := rfl
theorem locksF_eq (is : List ItemD) (ls : List LockD) (ds : List DoubtD) (os : List TxnD) : locksF (is, ls, ds, os, ()) = (allUpto (lockOkAt ls ds) ls.length && pLe (pInt ls.length) 24) := rfl
theorem stoF_eq (is : List ItemD) (ls : List LockD) (ds : List DoubtD) (os : List TxnD) : stoF (is, ls, ds, os, ()) = (itemsF is && doubtsF (is, ls, ds, os, ()) && locksF (is, ls, ds, os, ())) := rfl
theorem doubtOkAt_eq (ls : List LockD) (ds : List DoubtD) (os : List TxnD) (i : Nat) : doubtOkAt ls ds os i = (txnF ((pGet tyDoubt ds i).1, (pGet tyDoubt ds i).2.1, ()) && inF (pGet tyDoubt ds i).2.2.1 0 1048576 && pNot (pGe (idxTxnF os ((pGet tyDoubt ds i).1, (pGet tyDoubt ds i).2.1, ())) 0) &&
    pGe (idxLockF ls ((pGet tyDoubt ds i).1, (pGet tyDoubt ds i).2.1, ())) 0 && allUpto (fun k => !sameD ds k i) i) := rfl
theorem overOkAt_eq (os : List TxnD) (i : Nat) : overOkAt os i = (txnF ((pGet tyTxn os i).1, (pGet tyTxn os i).2.1, ()) && allUpto (fun k => !sameT os k i) i) := rfl
theorem lockOkAt_eq (ls : List LockD) (ds : List DoubtD) (i : Nat) : lockOkAt ls ds i = (pGe (idxDoubtF ds ((pGet tyLock ls i).1, (pGet tyLock ls i).2.1, ())) 0 && inF (pGet tyLock ls i).2.2.1 0 7 && inF (pGet tyLock ls i).2.2.2.2.1 0 1073741824 && inF (pGet tyLock ls i).2.2.2.2.2.1 0 1048576 &&
    ((pGet tyLock ls i).2.2.2.1 || (pEq (pGet tyLock ls i).2.2.2.2.1 0 && pEq (pGet tyLock ls i).2.2.2.2.2.1 0)) && allUpto (fun k => !clash ls k i) i) := rfl
theorem itemOk_eq (l : List ItemD) (i : Nat) : itemOk l i = (inF (pGet tyItem l i).1 0 7 && inF (pGet tyItem l i).2.1 0 1073741824 && inF (pGet tyItem l i).2.2.1 1 1048576 && (decide (i = 0) || pLt (pGet tyItem l (i - 1)).1 (pGet tyItem l i).1)) := rfl
theorem doubtOf_ok : Meets Tryd.prog (fun _ => none) 66 cdoubtOf := doubtOf_meets fun is ls ds os a b hp => by
  have hl : ds.length < 4611686018427387904 := hp (pLen ds < 4611686018427387904) (by simp)
  refine ⟨UpInv.start, fun y hy => ?_⟩
  rcases FindInv.round hl hy with ⟨k, rfl, hk, hb, hT, hF⟩ | ⟨rfl, hT⟩
  · rw [bif_true (by simp [pLt_coe, pLen, hk]), pNat_coe]
    refine ⟨pIn_coe.2 hk, bif_ok (fun h => ?_) fun h => hF h⟩
    exact congrArg (·, ()) (hT h).symm
  · rw [bif_false (by simp [pLt_coe, pLen])]
    exact congrArg (·, ()) hT.symm
theorem isOver_ok : Meets Tryd.prog (fun _ => none) 67 cisOver := isOver_meets fun is ls ds os a b hp => by
  have hl : os.length < 4611686018427387904 := hp (pLen os < 4611686018427387904) (by simp)
  have e : ∀ k, pAndB (pEq (pGet tyTxn os k).1 a) (pEq (pGet tyTxn os k).2.1 b) = eqTxn (a, b, ()) (pGet tyTxn os k) := fun k => by
    rw [Bool.eq_iff_iff]; simp only [pAndB, pEq, eqTxn, Bool.and_eq_true, beq_iff_eq]; constructor <;> intro h <;> exact ⟨h.1.symm, h.2.symm⟩
  refine ⟨UpInv.start, fun y hy => ?_⟩
  rcases FindInv.round hl hy with ⟨k, rfl, hk, hb, hT, hF⟩ | ⟨rfl, hT⟩
  · rw [bif_true (by simp [pLt_coe, pLen, hk]), pNat_coe, e]
    refine ⟨pIn_coe.2 hk, bif_ok (fun h => ?_) fun h => hF h⟩
    refine congrArg (·, ()) ?_
    have := hT h
    unfold idxTxnF
    rw [this]; simp [pGe]
  · rw [bif_false (by simp [pLt_coe, pLen])]
    refine congrArg (·, ()) ?_
    unfold idxTxnF
    rw [hT]; rfl
theorem doubts_ok : Meets Tryd.prog (fun _ => none) 62 cdoubts := doubts_meets txn_ok Contains_ok containsFuncLock_ok fun is ls ds os hp => by
  have hls : ls.length < 4611686018427387904 := hp (pLen ls < 4611686018427387904) (by simp)
  have hds : ds.length < 4611686018427387904 := hp (pLen ds < 4611686018427387904) (by simp)
  have hl : os.length < 4611686018427387904 := hp (pLen os < 4611686018427387904) (by simp)
  clear hp
  delta doubts_VC
  rw [doubtsF_eq]
  refine ⟨UpInv.start, fun y hy => ?_⟩
  rcases UpInv.round hds hy with ⟨k, rfl, hk, hb, -, hF, hT⟩ | ⟨rfl, hT⟩
  · rw [bif_true (by simp [pLt_coe, pLen, hk]), pNat_coe]
    rw [doubtOkAt_eq] at hT hF
    clear hy
    dsimp only
    (repeat' (first | refine bif_ok (fun h => ?_) (fun h => ?_) | refine And.intro ?_ ?_ | fail))
    all_goals first
      | exact hl
      | exact hls
      | omega
      | (unfold pLen; omega)
      | exact UpInv.start
      | (refine leafF fun q => ?_; clear hT; grind [pLt, pLe, pGt, pGe, pEq, pNe, pNot, pAndB, pBeq, pInt, pLen, inF, pIn, pTo, pNat])
      | skip
    intro z hz
    rcases UpInv.round (p := fun j => !sameD ds j k) (n := k) hb hz with ⟨i, rfl, hi, hib, -, hiF, hiT⟩ | ⟨rfl, hiT⟩
    · rw [pLen, pSub0_len (by omega), bif_true (show pLt (i : Int) (pInt k) = true from by simp [pLt_coe, hi])]
      refine ⟨pIn_coe.2 hi, ?_⟩
      rw [pNat_coe, pGet_sub0 hi]
      refine bif_ok (fun h => ?_) fun h => hiT (by simp only [Bool.not_eq_true']; exact h)
      have hs : allUpto (fun j => !sameD ds j k) k = false := hiF (by simp only [Bool.not_eq_false']; exact h)
      clear hz hiF hiT hT
      refine leafF fun q => ?_
      grind [pLt, pLe, pGt, pGe, pEq, pNe, pNot, pAndB, pBeq, pInt, pLen, inF, pIn, pTo, pNat]
    · rw [pLen, pSub0_len (by omega), bif_false (show pLt (k : Int) (pInt k) = false from by simp [pLt_coe])]
      refine hT ?_
      clear hz hT hF
      grind [pLt, pLe, pGt, pGe, pEq, pNe, pNot, pAndB, pBeq, pInt, pLen, inF, pIn, pTo, pNat]
  · rw [bif_false (by simp [pLt_coe, pLen]), hT]
    clear hy
    refine ⟨UpInv.start, fun y hy => ?_⟩
    rcases UpInv.round hl hy with ⟨k, rfl, hk, hb, -, hF, hT⟩ | ⟨rfl, hT⟩
    · rw [bif_true (by simp [pLt_coe, pLen, hk]), pNat_coe, over_sub hk]
      rw [overOkAt_eq] at hT hF
      clear hy
      dsimp only
      have hsl : (pSub os 0 k).length < 4611686018427387904 := by rw [pSub0_len (by omega)]; omega
      (repeat' (first | refine bif_ok (fun h => ?_) (fun h => ?_) | refine And.intro ?_ ?_ | fail))
      all_goals first
        | exact hsl
        | omega
        | (unfold pLen; omega)
        | (refine leafF fun q => ?_; clear hT; grind [pLt, pLe, pGt, pGe, pEq, pNe, pNot, pAndB, pBeq, pInt, pLen, inF, pIn, pTo, pNat])
        | (refine (hT ?_).1; clear hT hF; grind [pLt, pLe, pGt, pGe, pEq, pNe, pNot, pAndB, pBeq, pInt, pLen, inF, pIn, pTo, pNat])
        | (refine (hT ?_).2; clear hT hF; grind [pLt, pLe, pGt, pGe, pEq, pNe, pNot, pAndB, pBeq, pInt, pLen, inF, pIn, pTo, pNat])
    · rw [bif_false (by simp [pLt_coe, pLen]), hT]
      rfl
theorem clash_eq (l : List LockD) (k i : Nat) : clash l k i = (pEq (pGet tyLock l k).2.2.1 (pGet tyLock l i).2.2.1 && (pAndB (pEq (pGet tyLock l k).1 (pGet tyLock l i).1) (pEq (pGet tyLock l k).2.1 (pGet tyLock l i).2.1) || (pGet tyLock l k).2.2.2.1 || (pGet tyLock l i).2.2.2.1)) := rfl
theorem add_small (v a : Int) : 0 ≤ v → v ≤ 1073741824 → 0 ≤ a → a ≤ 1048576 → pAdd .i64 v a = v + a := fun _ _ _ _ => pAdd_in (by omega)
theorem locks_ok : Meets Tryd.prog (fun _ => none) 63 clocks := locks_meets doubted_ok fun is ls ds os hp => by
  have his : is.length < 4611686018427387904 := hp (pLen is < 4611686018427387904) (by simp)
  have hls : ls.length < 4611686018427387904 := hp (pLen ls < 4611686018427387904) (by simp)
  have hds : ds.length < 4611686018427387904 := hp (pLen ds < 4611686018427387904) (by simp)
  have hl : os.length < 4611686018427387904 := hp (pLen os < 4611686018427387904) (by simp)
  clear hp
  delta locks_VC
  rw [locksF_eq]
  refine ⟨UpInv.start, fun y hy => ?_⟩
  rcases UpInv.round hls hy with ⟨k, rfl, hk, hb, -, hF, hT⟩ | ⟨rfl, hT⟩
  · rw [bif_true (by simp [pLt_coe, pLen, hk]), pNat_coe]
    rw [lockOkAt_eq] at hT hF
    have inner : ∀ (X : Prop), (allUpto (fun j => !clash ls j k) k = true → X) → ∀ z, locksBInv is ls ds os (k : Int) z → bif pLt z.1 (pInt (pLen (pSub ls 0 k))) then pIn z.1 (pLen (pSub ls 0 k)) ∧
        bif pEq (pGet tyLock (pSub ls 0 k) (pNat z.1)).2.2.1 (pGet tyLock ls k).2.2.1 then
          bif pAndB (pEq (pGet tyLock (pSub ls 0 k) (pNat z.1)).1 (pGet tyLock ls k).1) (pEq (pGet tyLock (pSub ls 0 k) (pNat z.1)).2.1 (pGet tyLock ls k).2.1) then (false, ()) = (allUpto (lockOkAt ls ds) ls.length && pLe (pInt ls.length) 24, ())
          else bif (pGet tyLock (pSub ls 0 k) (pNat z.1)).2.2.2.1 then (false, ()) = (allUpto (lockOkAt ls ds) ls.length && pLe (pInt ls.length) 24, ())
          else bif (pGet tyLock ls k).2.2.2.1 then (false, ()) = (allUpto (lockOkAt ls ds) ls.length && pLe (pInt ls.length) 24, ())
          else locksBInv is ls ds os (k : Int) (pAdd .i64 z.1 1, ()) ∧ Nat.le (Nat.succ (locksBMu is ls ds os (k : Int) (pAdd .i64 z.1 1, ()))) (locksBMu is ls ds os (k : Int) z)
        else locksBInv is ls ds os (k : Int) (pAdd .i64 z.1 1, ()) ∧ Nat.le (Nat.succ (locksBMu is ls ds os (k : Int) (pAdd .i64 z.1 1, ()))) (locksBMu is ls ds os (k : Int) z)
      else X := by
      intro X hX z hz
      rcases UpInv.round (p := fun j => !clash ls j k) (n := k) hb hz with ⟨i, rfl, hi, hib, -, hiF, hiT⟩ | ⟨rfl, hiT⟩
      · rw [pLen, pSub0_len (by omega), bif_true (show pLt (i : Int) (pInt k) = true from by simp [pLt_coe, hi])]
        refine ⟨pIn_coe.2 hi, ?_⟩
        rw [pNat_coe, pGet_sub0 hi]
        clear hz hX hT
        simp only [clash_eq] at hiF hiT
        refine bif_ok (fun h1 => bif_ok (fun h2 => leafF fun q => ?_) fun h2 => bif_ok (fun h3 => leafF fun q => ?_) fun h3 => bif_ok (fun h4 => leafF fun q => ?_) fun h4 => hiT ?_) fun h1 => hiT ?_
        · have hs := hiF (by rw [h1, h2]; rfl); clear hiF hiT; simp only [clash_eq] at hF; grind [pLt, pLe, pGt, pGe, pEq, pNe, pNot, pAndB, pBeq, pInt, pLen, inF, pIn, pTo, pNat]
        · have hs := hiF (by rw [h1, h2, h3]; rfl); clear hiF hiT; simp only [clash_eq] at hF; grind [pLt, pLe, pGt, pGe, pEq, pNe, pNot, pAndB, pBeq, pInt, pLen, inF, pIn, pTo, pNat]
        · have hs := hiF (by rw [h1, h2, h3, h4]; rfl); clear hiF hiT; simp only [clash_eq] at hF; grind [pLt, pLe, pGt, pGe, pEq, pNe, pNot, pAndB, pBeq, pInt, pLen, inF, pIn, pTo, pNat]
        · rw [h1, h2, h3, h4]; rfl
        · rw [h1]; rfl
      · rw [pLen, pSub0_len (by omega), bif_false (show pLt (k : Int) (pInt k) = false from by simp [pLt_coe])]
        exact hX hiT
    have eA := add_small (pGet tyLock ls k).2.2.2.2.1 (pGet tyLock ls k).2.2.2.2.2.1
    clear hy
    dsimp only
    (repeat' (first | refine bif_ok (fun h => ?_) (fun h => ?_) | refine And.intro ?_ ?_ | fail))
    all_goals first
      | exact hl
      | exact hls
      | exact his
      | exact hds
      | omega
      | (unfold pLen; omega)
      | exact UpInv.start
      | (refine leafF fun q => ?_; clear hT inner; grind [pLt, pLe, pGt, pGe, pEq, pNe, pNot, pAndB, pBeq, pInt, pLen, inF, pIn, pTo, pNat])
      | (refine inner _ fun ha => hT ?_; clear hT hF inner; grind [pLt, pLe, pGt, pGe, pEq, pNe, pNot, pAndB, pBeq, pInt, pLen, inF, pIn, pTo, pNat])
  · rw [bif_false (by simp [pLt_coe, pLen]), hT]
    rfl
theorem Check_ok : Meets Tryd.prog (fun _ => none) 28 cCheck := Check_meets items_ok doubts_ok locks_ok fun is ls ds os hp => by
  have his : is.length < 4611686018427387904 := hp (pLen is < 4611686018427387904) (by simp)
  have hls : ls.length < 4611686018427387904 := hp (pLen ls < 4611686018427387904) (by simp)
  have hds : ds.length < 4611686018427387904 := hp (pLen ds < 4611686018427387904) (by simp)
  have hl : os.length < 4611686018427387904 := hp (pLen os < 4611686018427387904) (by simp)
  clear hp
  delta Check_VC
  rw [stoF_eq]
  (repeat' (first | refine bif_ok (fun h => ?_) (fun h => ?_) | refine And.intro ?_ ?_ | fail))
  all_goals first
    | exact hl
    | exact hls
    | exact his
    | exact hds
    | (refine leafE ?_; grind [pLt, pLe, pGt, pGe, pEq, pNe, pNot, pAndB, pBeq, pInt, pLen, inF, pIn, pTo, pNat])
theorem StoreMay_ok : Meets Tryd.prog (fun _ => none) 35 cStoreMay := StoreMay_meets In_ok doubtOf_ok plainTxn_ok isOver_ok fun is ls ds os hp => by
  have his : is.length < 4611686018427387904 := hp (pLen is < 4611686018427387904) (by simp)
  have hls : ls.length < 4611686018427387904 := hp (pLen ls < 4611686018427387904) (by simp)
  have hds : ds.length < 4611686018427387904 := hp (pLen ds < 4611686018427387904) (by simp)
  have hl : os.length < 4611686018427387904 := hp (pLen os < 4611686018427387904) (by simp)
  clear hp
  have hS : stoF (is, ls, ds, os, ()) = (allUpto (itemOk is) is.length && (allUpto (doubtOkAt ls ds os) ds.length && allUpto (overOkAt os) os.length) && (allUpto (lockOkAt ls ds) ls.length && pLe (pInt ls.length) 24)) := rfl
  delta StoreMay_VC
  refine bif_ok (fun h => leafF fun q => ?_) fun h24 => ?_
  · rw [hS] at q; grind [pLt, pLe, pGt, pGe, pEq, pNe, pNot, pAndB, pBeq, pInt, pLen, inF, pIn, pTo, pNat]
  refine ⟨UpInv.start, fun y hy => ?_⟩
  rcases UpInv.round his hy with ⟨k, rfl, hk, hb, -, hF, hT⟩ | ⟨rfl, hA⟩
  · rw [bif_true (by simp [pLt_coe, pLen, hk]), pNat_coe]
    have e1 : 0 < k → pSubI .i64 (k : Int) 1 = ((k - 1 : Nat) : Int) := pSub1 hb
    rw [itemOk_eq] at hT hF
    clear hy
    dsimp only
    rcases Nat.eq_zero_or_pos k with h0 | h0
    rotate_left
    · rw [e1 h0, pNat_coe]
      clear e1
      (repeat' (first | refine bif_ok (fun h => ?_) (fun h => ?_) | refine And.intro ?_ ?_ | fail))
      all_goals first
        | omega
        | (unfold pLen; omega)
        | (refine leafF fun q => ?_; rw [hS] at q; clear hT; grind [pLt, pLe, pGt, pGe, pEq, pNe, pNot, pAndB, pBeq, pInt, pLen, inF, pIn, pTo, pNat])
        | (refine (hT ?_).1; clear hT hF; grind [pLt, pLe, pGt, pGe, pEq, pNe, pNot, pAndB, pBeq, pInt, pLen, inF, pIn, pTo, pNat])
        | (refine (hT ?_).2; clear hT hF; grind [pLt, pLe, pGt, pGe, pEq, pNe, pNot, pAndB, pBeq, pInt, pLen, inF, pIn, pTo, pNat])
    · rw [bif_false (show pGt (k : Int) 0 = false by subst h0; rfl)]
      clear e1
      (repeat' (first | refine bif_ok (fun h => ?_) (fun h => ?_) | refine And.intro ?_ ?_ | fail))
      all_goals first
        | omega
        | (unfold pLen; omega)
        | (refine leafF fun q => ?_; rw [hS] at q; clear hT; grind [pLt, pLe, pGt, pGe, pEq, pNe, pNot, pAndB, pBeq, pInt, pLen, inF, pIn, pTo, pNat])
        | (refine (hT ?_).1; clear hT hF; grind [pLt, pLe, pGt, pGe, pEq, pNe, pNot, pAndB, pBeq, pInt, pLen, inF, pIn, pTo, pNat])
        | (refine (hT ?_).2; clear hT hF; grind [pLt, pLe, pGt, pGe, pEq, pNe, pNot, pAndB, pBeq, pInt, pLen, inF, pIn, pTo, pNat])
  rw [bif_false (by simp [pLt_coe, pLen])]
  clear hy
  refine ⟨UpInv.start, fun y hy => ?_⟩
  rcases UpInv.round hls hy with ⟨k, rfl, hk, hb, -, hF, hT⟩ | ⟨rfl, hB⟩
  · rw [bif_true (by simp [pLt_coe, pLen, hk]), pNat_coe]
    rw [lockOkAt_eq] at hT hF
    have inner : ∀ (X : Prop), (allUpto (fun j => !clash ls j k) k = true → X) → ∀ z, mayCInv is ls ds os (k : Int) z → bif pLt z.1 (k : Int) then pIn z.1 (pLen ls) ∧
        bif pEq (pGet tyLock ls k).2.2.1 (pGet tyLock ls (pNat z.1)).2.2.1 then
          bif pAndB (pEq (pGet tyLock ls k).1 (pGet tyLock ls (pNat z.1)).1) (pEq (pGet tyLock ls k).2.1 (pGet tyLock ls (pNat z.1)).2.1) then (false, ()) = (stoF (is, ls, ds, os, ()), ())
          else bif (pGet tyLock ls k).2.2.2.1 then (false, ()) = (stoF (is, ls, ds, os, ()), ())
          else bif (pGet tyLock ls (pNat z.1)).2.2.2.1 then (false, ()) = (stoF (is, ls, ds, os, ()), ())
          else mayCInv is ls ds os (k : Int) (pAdd .i64 z.1 1, ()) ∧ Nat.le (Nat.succ (mayCMu is ls ds os (k : Int) (pAdd .i64 z.1 1, ()))) (mayCMu is ls ds os (k : Int) z)
        else mayCInv is ls ds os (k : Int) (pAdd .i64 z.1 1, ()) ∧ Nat.le (Nat.succ (mayCMu is ls ds os (k : Int) (pAdd .i64 z.1 1, ()))) (mayCMu is ls ds os (k : Int) z)
      else X := by
      intro X hX z hz
      rcases UpInv.round (p := fun j => !clash ls j k) (n := k) hb hz with ⟨i, rfl, hi, hib, -, hiF, hiT⟩ | ⟨rfl, hiT⟩
      · rw [bif_true (show pLt (i : Int) (k : Int) = true from by simp [pLt, hi])]
        refine ⟨pIn_coe.2 (by unfold pLen; omega), ?_⟩
        rw [pNat_coe]
        clear hz hX hT
        simp only [clash_eq] at hiF hiT
        refine bif_ok (fun h1 => bif_ok (fun h2 => leafF fun q => ?_) fun h2 => bif_ok (fun h3 => leafF fun q => ?_) fun h3 => bif_ok (fun h4 => leafF fun q => ?_) fun h4 => hiT ?_) fun h1 => hiT ?_
        · have hs := hiF (by clear hF hiT hS; grind [pLt, pLe, pGt, pGe, pEq, pNe, pNot, pAndB, pBeq, pInt, pLen, inF, pIn, pTo, pNat]); clear hiF hiT; simp only [clash_eq] at hF; rw [hS] at q; grind [pLt, pLe, pGt, pGe, pEq, pNe, pNot, pAndB, pBeq, pInt, pLen, inF, pIn, pTo, pNat]
        · have hs := hiF (by clear hF hiT hS; grind [pLt, pLe, pGt, pGe, pEq, pNe, pNot, pAndB, pBeq, pInt, pLen, inF, pIn, pTo, pNat]); clear hiF hiT; simp only [clash_eq] at hF; rw [hS] at q; grind [pLt, pLe, pGt, pGe, pEq, pNe, pNot, pAndB, pBeq, pInt, pLen, inF, pIn, pTo, pNat]
        · have hs := hiF (by clear hF hiT hS; grind [pLt, pLe, pGt, pGe, pEq, pNe, pNot, pAndB, pBeq, pInt, pLen, inF, pIn, pTo, pNat]); clear hiF hiT; simp only [clash_eq] at hF; rw [hS] at q; grind [pLt, pLe, pGt, pGe, pEq, pNe, pNot, pAndB, pBeq, pInt, pLen, inF, pIn, pTo, pNat]
        · clear hiF hiT hF hS; grind [pLt, pLe, pGt, pGe, pEq, pNe, pNot, pAndB, pBeq, pInt, pLen, inF, pIn, pTo, pNat]
        · clear hiF hiT hF hS; grind [pLt, pLe, pGt, pGe, pEq, pNe, pNot, pAndB, pBeq, pInt, pLen, inF, pIn, pTo, pNat]
      · rw [bif_false (show pLt (k : Int) (k : Int) = false from by simp [pLt])]
        exact hX hiT
    clear hy
    dsimp only
    (repeat' (first | refine bif_ok (fun h => ?_) (fun h => ?_) | refine And.intro ?_ ?_ | fail))
    all_goals first
      | exact hl
      | exact hls
      | exact his
      | exact hds
      | omega
      | (unfold pLen; omega)
      | exact UpInv.start
      | (refine leafF fun q => ?_; rw [hS] at q; clear hT inner; grind [pLt, pLe, pGt, pGe, pEq, pNe, pNot, pAndB, pBeq, pInt, pLen, inF, pIn, pTo, pNat])
      | (refine inner _ fun ha => hT ?_; clear hT hF inner hS; grind [pLt, pLe, pGt, pGe, pEq, pNe, pNot, pAndB, pBeq, pInt, pLen, inF, pIn, pTo, pNat])
  rw [bif_false (by simp [pLt_coe, pLen])]
  clear hy
  refine ⟨UpInv.start, fun y hy => ?_⟩
  rcases UpInv.round hds hy with ⟨k, rfl, hk, hb, -, hF, hT⟩ | ⟨rfl, hD⟩
  · rw [bif_true (by simp [pLt_coe, pLen, hk]), pNat_coe]
    rw [doubtOkAt_eq] at hT hF
    clear hy
    refine ⟨pIn_coe.2 hk, ⟨0, rfl, Nat.zero_le _, rfl⟩, fun z hz => ?_⟩
    rcases HandInv.round (p := handAt ls ds k) (n := ls.length) hls hz with ⟨i, rfl, hi, hN⟩ | rfl
    · rw [bif_true (by simp [pLt_coe, pLen, hi])]
      refine bif_ok (fun h => ?_) fun h => ⟨pIn_coe.2 hi, ?_⟩
      · exact hN true (by have h' : anyUpto (handAt ls ds k) i = true := h; rw [h']; rfl)
      · refine hN _ ?_
        have h' : anyUpto (handAt ls ds k) i = false := h
        rw [h', pNat_coe]; rfl
    · rw [bif_false (by simp [pLt_coe, pLen])]
      have eh : anyUpto (handAt ls ds k) ls.length = pGe (idxLockF ls ((pGet tyDoubt ds k).1, (pGet tyDoubt ds k).2.1, ())) 0 := idxOf_ge.symm
      dsimp only
      rw [eh, show pNe (idxDoubtF ds ((pGet tyItem ds k).1, (pGet tyItem ds k).2.1, ())) (k : Int) = !allUpto (fun j => !sameD ds j k) k from doubt_first hk]
      clear hz eh
      (repeat' (first | refine bif_ok (fun h => ?_) (fun h => ?_) | refine And.intro ?_ ?_ | fail))
      all_goals first
        | exact hl
        | exact hls
        | exact his
        | exact hds
        | (refine leafF fun q => ?_; rw [hS] at q; clear hT; grind [pLt, pLe, pGt, pGe, pEq, pNe, pNot, pAndB, pBeq, pInt, pLen, inF, pIn, pTo, pNat])
        | (refine (hT ?_).1; clear hT hF hS; grind [pLt, pLe, pGt, pGe, pEq, pNe, pNot, pAndB, pBeq, pInt, pLen, inF, pIn, pTo, pNat])
        | (refine (hT ?_).2; clear hT hF hS; grind [pLt, pLe, pGt, pGe, pEq, pNe, pNot, pAndB, pBeq, pInt, pLen, inF, pIn, pTo, pNat])
  rw [bif_false (by simp [pLt_coe, pLen])]
  clear hy
  refine ⟨UpInv.start, fun y hy => ?_⟩
  rcases UpInv.round hl hy with ⟨k, rfl, hk, hb, -, hF, hT⟩ | ⟨rfl, hO⟩
  · rw [bif_true (by simp [pLt_coe, pLen, hk]), pNat_coe]
    rw [overOkAt_eq] at hT hF
    clear hy
    refine ⟨UpInv.start, fun z hz => ?_⟩
    rcases UpInv.round (p := fun j => !sameT os j k) (n := k) hb hz with ⟨i, rfl, hi, hib, -, hiF, hiT⟩ | ⟨rfl, hiT⟩
    · rw [bif_true (show pLt (i : Int) (k : Int) = true from by simp [pLt, hi])]
      refine ⟨pIn_coe.2 (by unfold pLen; omega), pIn_coe.2 hk, ?_⟩
      rw [pNat_coe]
      refine bif_ok (fun h => ?_) fun h => hiT (by simp only [Bool.not_eq_true']; exact h)
      have hs : allUpto (fun j => !sameT os j k) k = false := hiF (by simp only [Bool.not_eq_false']; exact h)
      clear hz hiF hiT hT
      refine leafF fun q => ?_
      rw [hS] at q
      grind [pLt, pLe, pGt, pGe, pEq, pNe, pNot, pAndB, pBeq, pInt, pLen, inF, pIn, pTo, pNat]
    · rw [bif_false (show pLt (k : Int) (k : Int) = false from by simp [pLt])]
      clear hz
      refine ⟨pIn_coe.2 hk, bif_ok (fun h => leafF fun q => ?_) fun h => hT ?_⟩
      · rw [hS] at q; clear hT; grind [pLt, pLe, pGt, pGe, pEq, pNe, pNot, pAndB, pBeq, pInt, pLen, inF, pIn, pTo, pNat]
      · clear hT hF hS; grind [pLt, pLe, pGt, pGe, pEq, pNe, pNot, pAndB, pBeq, pInt, pLen, inF, pIn, pTo, pNat]
  rw [bif_false (by simp [pLt_coe, pLen])]
  refine leafT fun q => ?_
  rw [hS, hA, hB, hD, hO] at q
  clear hS hy
  grind [pLt, pLe, pGt, pGe, pEq, pNe, pNot, pAndB, pBeq, pInt, pLen, inF, pIn, pTo, pNat]
theorem mu_step {n k : Nat} (h : k < n) (hb : k < 4611686018427387904) : Nat.le (Nat.succ (n - (pAdd .i64 (k : Int) 1).toNat)) (n - ((k : Nat) : Int).toNat) := by
  rw [pAdd1 hb, Int.toNat_natCast, Int.toNat_natCast]; exact Nat.le_of_eq (by omega)
def cntTo (p : Nat → Bool) (n : Nat) : Nat := ((List.range n).filter p).length
def askE (s : StoD) (t : TxnD) (k : Int) : Int := cond (stoF s) (cond (txnF t && inF k 0 7) 0 2) 9
def ccall : Ctr := shCtr ⟨[pSto, pTxn, .one (.rd tI)], []⟩ (fun x => [pLen x.1.1.1 < 4611686018427387904, pLen x.1.1.2.1 < 4611686018427387904, pLen x.1.1.2.2.1 < 4611686018427387904, pLen x.1.1.2.2.2.1 < 4611686018427387904]) [] [.slot 0 false tI] (fun x => (askE x.1.1 x.1.2.1 x.1.2.2.1, ()))
def caskFault : Ctr := shCtr ⟨[pSto, pTxn, .one (.rd tI)], []⟩ (fun x => [pLen x.1.1.1 < 4611686018427387904, pLen x.1.1.2.1 < 4611686018427387904, pLen x.1.1.2.2.1 < 4611686018427387904, pLen x.1.1.2.2.2.1 < 4611686018427387904]) [] [.slot 0 false tI] (fun x => (askE x.1.1 x.1.2.1 x.1.2.2.1, ()))
def call_VC (si : (List ItemD)) (sl : (List LockD)) (sd : (List DoubtD)) (so : (List TxnD)) (ts : Int) (tn : Int) (k : Int) : Prop :=
  Nat.le (Nat.succ (pLen si)) 4611686018427387904 ∧ Nat.le (Nat.succ (pLen sl)) 4611686018427387904 ∧ Nat.le (Nat.succ (pLen sd)) 4611686018427387904 ∧ Nat.le (Nat.succ (pLen so)) 4611686018427387904 ∧ bif pNe (bif stoF
    (si, sl, sd, so, ()) then (0 : Int) else (9 : Int)) (0 : Int) then (bif stoF (si, sl, sd, so, ()) then (0 : Int) else (9 : Int), ()) = (askE (si, sl, sd, so, ()) (ts, tn, ()) k, ()) else bif pNot (txnF (ts, tn, ())) then
    ((2 : Int), ()) = (askE (si, sl, sd, so, ()) (ts, tn, ()) k, ()) else bif pLt k (0 : Int) then ((2 : Int), ()) = (askE (si, sl, sd, so, ()) (ts, tn, ()) k, ()) else bif pGe k (8 : Int) then ((2 : Int), ()) = (askE (si,
    sl, sd, so, ()) (ts, tn, ()) k, ()) else ((0 : Int), ()) = (askE (si, sl, sd, so, ()) (ts, tn, ()) k, ())
set_option maxRecDepth 100000 in
theorem call_meets (hCheck : Meets Tryd.prog (fun _ => none) 28 cCheck) (htxn : Meets Tryd.prog (fun _ => none) 84 ctxn) (h : ∀ (si : (List ItemD)) (sl : (List LockD)) (sd : (List DoubtD)) (so : (List TxnD)) (ts : Int) (tn : Int) (k : Int), (∀ p ∈ (fun x => [pLen x.1.1.1 < 4611686018427387904, pLen x.1.1.2.1 < 4611686018427387904, pLen x.1.1.2.2.1 < 4611686018427387904, pLen x.1.1.2.2.2.1 < 4611686018427387904] : Shape.den ⟨[pSto, pTxn, .one (.rd tI)], []⟩ → List Prop) ⟨((si, sl, sd, so, ()), (ts, tn, ()), k, ()), ()⟩, p) → call_VC si sl sd so ts tn k) : Meets Tryd.prog (fun _ => none) 64 ccall :=
  meets_vc (E := envOf Tryd.prog [(28, (false, cCheck)), (84, (false, ctxn))] [33, 123, 120, 91]) (envOf_ok (fun p hp => (by simp only [List.mem_cons, List.not_mem_nil, or_false] at hp; rcases hp with rfl | rfl; exact hCheck; exact htxn)) (by kernel_rfl)) ⟨[pSto, pTxn, .one (.rd tI)], []⟩ (fun x => fun kk ss => look [] kk) Tryd.func64 (by kernel_rfl) (by kernel_rfl) (fun x => [pLen x.1.1.1 < 4611686018427387904, pLen x.1.1.2.1 < 4611686018427387904, pLen x.1.1.2.2.1 < 4611686018427387904, pLen x.1.1.2.2.2.1 < 4611686018427387904]) [] [.slot 0 false tI] (fun x => (askE x.1.1 x.1.2.1 x.1.2.2.1, ())) (fun x => call_VC x.1.1.1 x.1.1.2.1 x.1.1.2.2.1 x.1.1.2.2.2.1 x.1.2.1.1 x.1.2.1.2.1 x.1.2.2.1) (fun x => by kernel_rfl) (fun x hp => h x.1.1.1 x.1.1.2.1 x.1.1.2.2.1 x.1.1.2.2.2.1 x.1.2.1.1 x.1.2.1.2.1 x.1.2.2.1 hp)
def askFault_VC (si : (List ItemD)) (sl : (List LockD)) (sd : (List DoubtD)) (so : (List TxnD)) (ts : Int) (tn : Int) (k : Int) : Prop :=
  Nat.le (Nat.succ (pLen si)) 4611686018427387904 ∧ Nat.le (Nat.succ (pLen sl)) 4611686018427387904 ∧ Nat.le (Nat.succ (pLen sd)) 4611686018427387904 ∧ Nat.le (Nat.succ (pLen so)) 4611686018427387904 ∧ bif pNot (stoF (si,
    sl, sd, so, ())) then ((9 : Int), ()) = (askE (si, sl, sd, so, ()) (ts, tn, ()) k, ()) else bif pNot (txnF (ts, tn, ())) then ((2 : Int), ()) = (askE (si, sl, sd, so, ()) (ts, tn, ()) k, ()) else bif pNot (inF k (0 :
    Int) (7 : Int)) then ((2 : Int), ()) = (askE (si, sl, sd, so, ()) (ts, tn, ()) k, ()) else ((0 : Int), ()) = (askE (si, sl, sd, so, ()) (ts, tn, ()) k, ())
set_option maxRecDepth 100000 in
theorem askFault_meets (hStoreMay : Meets Tryd.prog (fun _ => none) 35 cStoreMay) (hplainTxn : Meets Tryd.prog (fun _ => none) 36 cplainTxn) (hIn : Meets Tryd.prog (fun _ => none) 55 cIn) (h : ∀ (si : (List ItemD)) (sl : (List LockD)) (sd : (List DoubtD)) (so : (List TxnD)) (ts : Int) (tn : Int) (k : Int), (∀ p ∈ (fun x => [pLen x.1.1.1 < 4611686018427387904, pLen x.1.1.2.1 < 4611686018427387904, pLen x.1.1.2.2.1 < 4611686018427387904, pLen x.1.1.2.2.2.1 < 4611686018427387904] : Shape.den ⟨[pSto, pTxn, .one (.rd tI)], []⟩ → List Prop) ⟨((si, sl, sd, so, ()), (ts, tn, ()), k, ()), ()⟩, p) → askFault_VC si sl sd so ts tn k) : Meets Tryd.prog (fun _ => none) 89 caskFault :=
  meets_vc (E := envOf Tryd.prog [(35, (false, cStoreMay)), (36, (false, cplainTxn)), (55, (false, cIn))] [33, 123, 120, 91]) (envOf_ok (fun p hp => (by simp only [List.mem_cons, List.not_mem_nil, or_false] at hp; rcases hp with rfl | rfl | rfl; exact hStoreMay; exact hplainTxn; exact hIn)) (by kernel_rfl)) ⟨[pSto, pTxn, .one (.rd tI)], []⟩ (fun x => fun kk ss => look [] kk) Tryd.func89 (by kernel_rfl) (by kernel_rfl) (fun x => [pLen x.1.1.1 < 4611686018427387904, pLen x.1.1.2.1 < 4611686018427387904, pLen x.1.1.2.2.1 < 4611686018427387904, pLen x.1.1.2.2.2.1 < 4611686018427387904]) [] [.slot 0 false tI] (fun x => (askE x.1.1 x.1.2.1 x.1.2.2.1, ())) (fun x => askFault_VC x.1.1.1 x.1.1.2.1 x.1.1.2.2.1 x.1.1.2.2.2.1 x.1.2.1.1 x.1.2.1.2.1 x.1.2.2.1) (fun x => by kernel_rfl) (fun x hp => h x.1.1.1 x.1.1.2.1 x.1.1.2.2.1 x.1.1.2.2.2.1 x.1.2.1.1 x.1.2.1.2.1 x.1.2.2.1 hp)
theorem cntTo_succ {p : Nat → Bool} {k : Nat} : cntTo p (k + 1) = cond (p k) (cntTo p k + 1) (cntTo p k) := by
  unfold cntTo
  rw [List.range_succ, List.filter_append, List.length_append]
  cases h : p k <;> simp [h]
theorem cntTo_le {p : Nat → Bool} {k : Nat} : cntTo p k ≤ k := by
  unfold cntTo
  exact Nat.le_trans (List.length_filter_le _ _) (by simp)
theorem askE_eq (s : StoD) (t : TxnD) (k : Int) : askE s t k = cond (stoF s) (cond (txnF t && inF k 0 7) 0 2) 9 := rfl
theorem scall_ok : Meets Tryd.prog (fun _ => none) 64 ccall := call_meets Check_ok txn_ok fun si sl sd so ts tn k hp => by
  have h1 : si.length < 4611686018427387904 := hp (pLen si < 4611686018427387904) (by simp)
  have h2 : sl.length < 4611686018427387904 := hp (pLen sl < 4611686018427387904) (by simp)
  have h3 : sd.length < 4611686018427387904 := hp (pLen sd < 4611686018427387904) (by simp)
  have h4 : so.length < 4611686018427387904 := hp (pLen so < 4611686018427387904) (by simp)
  clear hp
  delta call_VC
  rw [askE_eq]
  refine ⟨h1, h2, h3, h4, ?_⟩
  clear h1 h2 h3 h4
  (repeat' (first | refine bif_ok (fun h => ?_) (fun h => ?_) | refine And.intro ?_ ?_ | fail))
  all_goals (refine leafE ?_; grind [pLt, pLe, pGt, pGe, pEq, pNe, pNot, pAndB, pBeq, pInt, pLen, inF, pIn, pTo, pNat])
theorem askFault_ok : Meets Tryd.prog (fun _ => none) 89 caskFault := askFault_meets StoreMay_ok plainTxn_ok In_ok fun si sl sd so ts tn k hp => by
  have h1 : si.length < 4611686018427387904 := hp (pLen si < 4611686018427387904) (by simp)
  have h2 : sl.length < 4611686018427387904 := hp (pLen sl < 4611686018427387904) (by simp)
  have h3 : sd.length < 4611686018427387904 := hp (pLen sd < 4611686018427387904) (by simp)
  have h4 : so.length < 4611686018427387904 := hp (pLen so < 4611686018427387904) (by simp)
  clear hp
  delta askFault_VC
  rw [askE_eq]
  refine ⟨h1, h2, h3, h4, ?_⟩
  clear h1 h2 h3 h4
  (repeat' (first | refine bif_ok (fun h => ?_) (fun h => ?_) | refine And.intro ?_ ?_ | fail))
  all_goals (refine leafE ?_; grind [pLt, pLe, pGt, pGe, pEq, pNe, pNot, pAndB, pBeq, pInt, pLen, inF, pIn, pTo, pNat])
def cntW (ls : List LockD) (a b : Int) : Int := ((cntTo (fun j => lockIsF (pGet tyLock ls j) (a, b, ()) && (pGet tyLock ls j).2.2.2.1) ls.length : Nat) : Int)
/-- a row from which some are taken away: so far -/
def DelAt {t : Ty} (p : t.den → Bool) (xs : List t.den) (y : Int × Int × List t.den × Unit) : Prop :=
  ∃ (i j : Nat) (zs : List t.den), y = ((j : Int), (i : Int), zs, ()) ∧ i < j ∧ j ≤ xs.length ∧ zs.length = xs.length ∧ zs.take i = (xs.take j).filter (fun x => !p x) ∧ zs.drop j = xs.drop j
def cntwInv (_ : List ItemD) (l : List LockD) (_ : List DoubtD) (_ : List TxnD) (a b : Int) : Int × Int × Unit → Prop := fun y => ∃ k : Nat,
  y = ((k : Int), ((cntTo (fun j => lockIsF (pGet tyLock l j) (a, b, ()) && (pGet tyLock l j).2.2.2.1) k : Nat) : Int), ()) ∧ k ≤ l.length
def cntwMu (_ : List ItemD) (l : List LockD) (_ : List DoubtD) (_ : List TxnD) (_ _ : Int) : Int × Int × Unit → Nat := fun y => l.length - y.1.toNat
def cWritesOf : Ctr := shCtr ⟨[pSto, pTxn], []⟩ (fun x => [pLen x.1.1.1 < 4611686018427387904, pLen x.1.1.2.1 < 4611686018427387904, pLen x.1.1.2.2.1 < 4611686018427387904, pLen x.1.1.2.2.2.1 < 4611686018427387904]) [] [.slot 0 false tI, .slot 1 false tI] (fun x => (cond (pEq (askE x.1.1 x.1.2.1 0) 0) (cntW x.1.1.2.1 x.1.2.1.1 x.1.2.1.2.1) 0, askE x.1.1 x.1.2.1 0, ()))
def WritesOf_VC (si : (List ItemD)) (sl : (List LockD)) (sd : (List DoubtD)) (so : (List TxnD)) (ts : Int) (tn : Int) : Prop :=
  Nat.le (Nat.succ (pLen si)) 4611686018427387904 ∧ Nat.le (Nat.succ (pLen sl)) 4611686018427387904 ∧ Nat.le (Nat.succ (pLen sd)) 4611686018427387904 ∧ Nat.le (Nat.succ (pLen so)) 4611686018427387904 ∧ bif pNe (askE (si,
    sl, sd, so, ()) (ts, tn, ()) (0 : Int)) (0 : Int) then ((0 : Int), askE (si, sl, sd, so, ()) (ts, tn, ()) (0 : Int), ()) = (bif pEq (askE (si, sl, sd, so, ()) (ts, tn, ()) (0 : Int)) (0 : Int) then cntW sl ts tn else (0
    : Int), askE (si, sl, sd, so, ()) (ts, tn, ()) (0 : Int), ()) else cntwInv si sl sd so ts tn ((0 : Int), (0 : Int), ()) ∧ ∀ (y : kden Bool.false tI × kden Bool.false tI × PUnit), cntwInv si sl sd so ts tn y → bif pLt y.1
    (pInt (pLen sl)) then pIn y.1 (pLen sl) ∧ bif pAndB (pEq (pGet tyLock sl (pNat y.1)).1 ts) (pEq (pGet tyLock sl (pNat y.1)).2.1 tn) then pIn y.1 (pLen sl) ∧ bif (pGet tyLock sl (pNat y.1)).2.2.2.1 then cntwInv si sl sd
    so ts tn (pAdd IntKind.i64 y.1 (1 : Int), pAdd IntKind.i64 y.2.1 (1 : Int), ()) ∧ Nat.le (Nat.succ (cntwMu si sl sd so ts tn (pAdd IntKind.i64 y.1 (1 : Int), pAdd IntKind.i64 y.2.1 (1 : Int), ()))) (cntwMu si sl sd so ts
    tn y) else cntwInv si sl sd so ts tn (pAdd IntKind.i64 y.1 (1 : Int), y.2.1, ()) ∧ Nat.le (Nat.succ (cntwMu si sl sd so ts tn (pAdd IntKind.i64 y.1 (1 : Int), y.2.1, ()))) (cntwMu si sl sd so ts tn y) else cntwInv si sl
    sd so ts tn (pAdd IntKind.i64 y.1 (1 : Int), y.2.1, ()) ∧ Nat.le (Nat.succ (cntwMu si sl sd so ts tn (pAdd IntKind.i64 y.1 (1 : Int), y.2.1, ()))) (cntwMu si sl sd so ts tn y) else (y.2.1, (0 : Int), ()) = (bif pEq (askE
    (si, sl, sd, so, ()) (ts, tn, ()) (0 : Int)) (0 : Int) then cntW sl ts tn else (0 : Int), askE (si, sl, sd, so, ()) (ts, tn, ()) (0 : Int), ())
set_option maxRecDepth 100000 in
theorem WritesOf_meets (haskFault : Meets Tryd.prog (fun _ => none) 89 caskFault) (h : ∀ (si : (List ItemD)) (sl : (List LockD)) (sd : (List DoubtD)) (so : (List TxnD)) (ts : Int) (tn : Int), (∀ p ∈ (fun x => [pLen x.1.1.1 < 4611686018427387904, pLen x.1.1.2.1 < 4611686018427387904, pLen x.1.1.2.2.1 < 4611686018427387904, pLen x.1.1.2.2.2.1 < 4611686018427387904] : Shape.den ⟨[pSto, pTxn], []⟩ → List Prop) ⟨((si, sl, sd, so, ()), (ts, tn, ()), ()), ()⟩, p) → WritesOf_VC si sl sd so ts tn) : Meets Tryd.prog (fun _ => none) 68 cWritesOf :=
  meets_vc (E := envOf Tryd.prog [(89, (false, caskFault))] [33, 123, 120, 91]) (envOf_ok (fun p hp => (by simp only [List.mem_cons, List.not_mem_nil, or_false] at hp; rcases hp with rfl; exact haskFault)) (by kernel_rfl)) ⟨[pSto, pTxn], []⟩ (fun x => fun ky9 st9 => look [(6, (⟨[.slot 8 false tI, .slot 7 false tI], cntwInv x.1.1.1 x.1.1.2.1 x.1.1.2.2.1 x.1.1.2.2.2.1 x.1.2.1.1 x.1.2.1.2.1, cntwMu x.1.1.1 x.1.1.2.1 x.1.1.2.2.1 x.1.1.2.2.2.1 x.1.2.1.1 x.1.2.1.2.1⟩ : Ann))] ky9) Tryd.func68 (by kernel_rfl) (by kernel_rfl) (fun x => [pLen x.1.1.1 < 4611686018427387904, pLen x.1.1.2.1 < 4611686018427387904, pLen x.1.1.2.2.1 < 4611686018427387904, pLen x.1.1.2.2.2.1 < 4611686018427387904]) [] [.slot 0 false tI, .slot 1 false tI] (fun x => (cond (pEq (askE x.1.1 x.1.2.1 0) 0) (cntW x.1.1.2.1 x.1.2.1.1 x.1.2.1.2.1) 0, askE x.1.1 x.1.2.1 0, ())) (fun x => WritesOf_VC x.1.1.1 x.1.1.2.1 x.1.1.2.2.1 x.1.1.2.2.2.1 x.1.2.1.1 x.1.2.1.2.1) (fun x => by kernel_rfl) (fun x hp => h x.1.1.1 x.1.1.2.1 x.1.1.2.2.1 x.1.1.2.2.2.1 x.1.2.1.1 x.1.2.1.2.1 hp)
theorem DelAt.start {t : Ty} {p : t.den → Bool} {xs : List t.den} {i : Nat} (hi : i < xs.length) (hb : i < 4611686018427387904) (hlow : ∀ j, j < i → p (pGet t xs j) = false) (hp : p (pGet t xs i) = true) :
    DelAt p xs (pAdd .i64 (i : Int) 1, (i : Int), xs, ()) := by
  refine ⟨i, i + 1, xs, by rw [pAdd1 hb], by omega, hi, rfl, ?_, rfl⟩
  rw [List.take_succ_eq_append_getElem hi, List.filter_append]
  have h1 : (xs.take i).filter (fun x => !p x) = xs.take i := by
    rw [List.filter_eq_self]
    intro x hx
    obtain ⟨j, hj, rfl⟩ := List.getElem_of_mem hx
    have hj' : j < i := by simp at hj; omega
    have := hlow j hj'
    rw [pGet_lt (by omega)] at this
    simp only [List.getElem_take, this, Bool.not_false]
  rw [h1, List.filter_cons_of_neg (by rw [pGet_lt hi] at hp; simp [hp])]
  simp
theorem DelAt.at {t : Ty} {xs zs : List t.den} {j : Nat} (hj : j < xs.length) (hl : zs.length = xs.length) (hd : zs.drop j = xs.drop j) : pGet t zs j = pGet t xs j := by
  have e : (zs.drop j)[0]? = (xs.drop j)[0]? := by rw [hd]
  rw [List.getElem?_drop, List.getElem?_drop, Nat.add_zero] at e
  unfold pGet
  rw [List.getD_eq_getElem?_getD, List.getD_eq_getElem?_getD, e]
theorem WritesOf_ok : Meets Tryd.prog (fun _ => none) 68 cWritesOf := WritesOf_meets askFault_ok fun si sl sd so ts tn hp => by
  have l1 : si.length < 4611686018427387904 := hp (pLen si < 4611686018427387904) (by simp)
  have l2 : sl.length < 4611686018427387904 := hp (pLen sl < 4611686018427387904) (by simp)
  have l3 : sd.length < 4611686018427387904 := hp (pLen sd < 4611686018427387904) (by simp)
  have l4 : so.length < 4611686018427387904 := hp (pLen so < 4611686018427387904) (by simp)
  clear hp
  delta WritesOf_VC
  refine ⟨l1, l2, l3, l4, bif_ok (fun h => ?_) fun h => ⟨⟨0, rfl, Nat.zero_le _⟩, fun y hy => ?_⟩⟩
  · rw [show pEq (askE (si, sl, sd, so, ()) (ts, tn, ()) 0) 0 = false by simpa [pNe, pEq] using h]; rfl
  obtain ⟨i, rfl, hi⟩ := hy
  by_cases hk : i < sl.length
  · rw [bif_true (by simp [pLt_coe, pLen, hk])]
    dsimp only
    rw [pNat_coe]
    have hc := cntTo_le (p := fun j => lockIsF (pGet tyLock sl j) (ts, tn, ()) && (pGet tyLock sl j).2.2.2.1) (k := i)
    have e : lockIsF (pGet tyLock sl i) (ts, tn, ()) = pAndB (pEq (pGet tyLock sl i).1 ts) (pEq (pGet tyLock sl i).2.1 tn) := rfl
    have nx : ∀ u : Int, u = ((cntTo (fun j => lockIsF (pGet tyLock sl j) (ts, tn, ()) && (pGet tyLock sl j).2.2.2.1) (i + 1) : Nat) : Int) → cntwInv si sl sd so ts tn (pAdd .i64 (i : Int) 1, u, ()) :=
      fun u hu => ⟨i + 1, by rw [pAdd1 (by omega), hu], hk⟩
    refine ⟨pIn_coe.2 hk, bif_ok (fun h1 => ⟨pIn_coe.2 hk, bif_ok (fun h2 => ⟨nx _ ?_, mu_step hk (by omega)⟩) fun h2 => ⟨nx _ ?_, mu_step hk (by omega)⟩⟩) fun h1 => ⟨nx _ ?_, mu_step hk (by omega)⟩⟩
    · rw [cntTo_succ, e, h1, h2, pAdd1 (by omega)]; rfl
    · rw [cntTo_succ, e, h1, h2]; rfl
    · rw [cntTo_succ, e, h1]; rfl
  · obtain rfl : i = sl.length := by omega
    rw [bif_false (by simp [pLt_coe, pLen])]
    have h0 : pEq (askE (si, sl, sd, so, ()) (ts, tn, ()) 0) 0 = true := by simpa [pNe, pEq] using h
    have h1 : askE (si, sl, sd, so, ()) (ts, tn, ()) 0 = 0 := by simpa [pEq] using h0
    rw [h1]; rfl
abbrev tyLab : Ty := .pair tI (.pair tI .unit)
abbrev LabD := Int × Int × Unit
abbrev CfgD := Int × List LabD × Int × Unit
abbrev pLab : Par := .agg [.rd tI, .rd tI]
abbrev pCfg : Par := .agg [.rd tI, .rd (.sl tyLab), .rd tI]
abbrev wLab : TyW := wStruct [wInt, wInt]
abbrev wCfg : TyW := wStruct [wInt, wSl wLab 16, wInt]
abbrev tySto : Ty := .pair (.sl tyItem) (.pair (.sl tyLock) (.pair (.sl tyDoubt) (.pair (.sl tyTxn) .unit)))
abbrev tyNote : Ty := .pair tI (.pair tI (.pair .bool (.pair .bool .unit)))
abbrev NoteD := Int × Int × Bool × Bool × Unit
def labF (a : LabD) : Bool := inF a.1 0 9 && inF a.2.1 0 15
def eqLabAt (l : List LabD) (k i : Nat) : Bool := pAndB (pEq (pGet tyLab l k).1 (pGet tyLab l i).1) (pEq (pGet tyLab l k).2.1 (pGet tyLab l i).2.1)
/-- what is wrong with a label, behind those ahead of it -/
def labE (l : List LabD) (i : Nat) : Int := cond (labF (pGet tyLab l i)) (cond (allUpto (fun k => !eqLabAt l k i) i) 0 7) 2
def cfgF (c : CfgD) : Int :=
  cond (inF c.1 1 4) (cond (inF (pInt c.2.1.length) 1 6) (cond (pEq (firstE (labE c.2.1) c.2.1.length) 0) (cond (inF c.2.2.1 1 1048576) 0 2) (firstE (labE c.2.1) c.2.1.length)) 1) 2
def placeF (c : CfgD) (l : Int) : Bool := pLe 0 l && pLt l (pInt c.2.1.length)
def lCheckAInv (_ : Int) (cl : List LabD) (_ : Int) : denVars [.slot 28 false tI] → Prop := FirstInv (labE cl) cl.length
def lCheckAMu (_ : Int) (cl : List LabD) (_ : Int) : denVars [.slot 28 false tI] → Nat := UpMu cl.length
def lCheckBInv (_ : Int) (cl : List LabD) (_ : Int) (i : Int) : denVars [.slot 41 false tI] → Prop := UpInv (fun k => !eqLabAt cl k (pNat i)) (pNat i)
def lCheckBMu (_ : Int) (_ : List LabD) (_ : Int) (i : Int) : denVars [.slot 41 false tI] → Nat := UpMu (pNat i)
abbrev wNote : TyW := wStruct [wTxn, wBool, wBool]
def cntvInv (si : List ItemD) (sl : List LockD) (sd : List DoubtD) (so : List TxnD) (ts tn : Int) : Int × Int × Unit → Prop := cntwInv si sl sd so ts tn
def cntvMu (_ : List ItemD) (sl : List LockD) (_ : List DoubtD) (_ : List TxnD) (_ _ : Int) : Int × Int × Unit → Nat := fun y => sl.length - y.1.toNat
def cone : Ctr := shCtr ⟨[pLab], []⟩ (fun _ => []) [] [.slot 0 false .bool] (fun x => (labF x.1.1, ()))
def clCheck : Ctr := shCtr ⟨[pCfg], []⟩ (fun x => [pLen x.1.1.2.1 < 4611686018427387904]) [] [.slot 0 false tI] (fun x => (cfgF x.1.1, ()))
def ccFault : Ctr := shCtr ⟨[pCfg], []⟩ (fun x => [pLen x.1.1.2.1 < 4611686018427387904]) [] [.slot 0 false tI] (fun x => (cfgF x.1.1, ()))
def clabelMay : Ctr := shCtr ⟨[pCfg, .one (.rd tI)], []⟩ (fun x => [pLen x.1.1.2.1 < 4611686018427387904]) [] [.slot 0 false .bool] (fun x => (placeF x.1.1 x.1.2.1, ()))
def one_VC (al : Int) (ak : Int) : Prop :=
  bif pGe al (0 : Int) then bif pLe al (9 : Int) then bif pGe ak (0 : Int) then (pLe ak (15 : Int), ()) = (labF (al, ak, ()), ()) else (Bool.false, ()) = (labF (al, ak, ()), ()) else (Bool.false, ()) = (labF (al, ak, ()),
    ()) else (Bool.false, ()) = (labF (al, ak, ()), ())
set_option maxRecDepth 100000 in
theorem one_meets  (h : ∀ (al : Int) (ak : Int), one_VC al ak) : Meets Tryd.prog (fun _ => none) 49 cone :=
  meets_vc (E := envOf Tryd.prog [] [33, 123, 120, 91, 83, 78]) (envOf_ok (fun p hp => by cases hp) (by kernel_rfl)) ⟨[pLab], []⟩ (fun x => fun ky9 st9 => look [] ky9) Tryd.func49 (by kernel_rfl) (by kernel_rfl) (fun _ => []) [] [.slot 0 false .bool] (fun x => (labF x.1.1, ())) (fun x => one_VC x.1.1.1 x.1.1.2.1) (fun x => by kernel_rfl) (fun x _ => h x.1.1.1 x.1.1.2.1)
def lCheck_VC (cn : Int) (cl : (List LabD)) (cp : Int) : Prop :=
  bif pLt cn (1 : Int) then ((2 : Int), ()) = (cfgF (cn, cl, cp, ()), ()) else bif pGt cn (4 : Int) then ((2 : Int), ()) = (cfgF (cn, cl, cp, ()), ()) else bif pLt (pInt (pLen cl)) (1 : Int) then ((1 : Int), ()) = (cfgF
    (cn, cl, cp, ()), ()) else bif pGt (pInt (pLen cl)) (6 : Int) then ((1 : Int), ()) = (cfgF (cn, cl, cp, ()), ()) else lCheckAInv cn cl cp ((0 : Int), ()) ∧ ∀ (y : kden Bool.false tI × PUnit), lCheckAInv cn cl cp y → bif
    pLt y.1 (pInt (pLen cl)) then pIn y.1 (pLen cl) ∧ bif pNot (labF ((pGet tyTxn cl (pNat y.1)).1, (pGet tyTxn cl (pNat y.1)).2.1, ())) then ((2 : Int), ()) = (cfgF (cn, cl, cp, ()), ()) else pTo y.1 (pLen cl) ∧ lCheckBInv
    cn cl cp y.1 ((0 : Int), ()) ∧ ∀ (y_1 : kden Bool.false tI × PUnit), lCheckBInv cn cl cp y.1 y_1 → bif pLt y_1.1 (pInt (pLen (pSub cl 0 (pNat y.1)))) then pIn y_1.1 (pLen (pSub cl 0 (pNat y.1))) ∧ bif pAndB (pEq (pGet
    tyTxn (pSub cl 0 (pNat y.1)) (pNat y_1.1)).1 (pGet tyTxn cl (pNat y.1)).1) (pEq (pGet tyTxn (pSub cl 0 (pNat y.1)) (pNat y_1.1)).2.1 (pGet tyTxn cl (pNat y.1)).2.1) then ((7 : Int), ()) = (cfgF (cn, cl, cp, ()), ()) else
    lCheckBInv cn cl cp y.1 (pAdd IntKind.i64 y_1.1 (1 : Int), ()) ∧ Nat.le (Nat.succ (lCheckBMu cn cl cp y.1 (pAdd IntKind.i64 y_1.1 (1 : Int), ()))) (lCheckBMu cn cl cp y.1 y_1) else lCheckAInv cn cl cp (pAdd IntKind.i64
    y.1 (1 : Int), ()) ∧ Nat.le (Nat.succ (lCheckAMu cn cl cp (pAdd IntKind.i64 y.1 (1 : Int), ()))) (lCheckAMu cn cl cp y) else bif pLt cp (1 : Int) then ((2 : Int), ()) = (cfgF (cn, cl, cp, ()), ()) else bif pGt cp
    (1048576 : Int) then ((2 : Int), ()) = (cfgF (cn, cl, cp, ()), ()) else ((0 : Int), ()) = (cfgF (cn, cl, cp, ()), ())
set_option maxRecDepth 100000 in
theorem lCheck_meets (hone : Meets Tryd.prog (fun _ => none) 49 cone) (h : ∀ (cn : Int) (cl : (List LabD)) (cp : Int), (∀ p ∈ (fun x => [pLen x.1.1.2.1 < 4611686018427387904] : Shape.den ⟨[pCfg], []⟩ → List Prop) ⟨((cn, cl, cp, ()), ()), ()⟩, p) → lCheck_VC cn cl cp) : Meets Tryd.prog (fun _ => none) 16 clCheck :=
  meets_vc (E := envOf Tryd.prog [(49, (false, cone))] [33, 123, 120, 91, 83, 78]) (envOf_ok (fun p hp => (by simp only [List.mem_cons, List.not_mem_nil, or_false] at hp; rcases hp with rfl; exact hone)) (by kernel_rfl)) ⟨[pCfg], []⟩ (fun x => fun ky9 st9 => look [(6, (⟨[.slot 28 false tI], lCheckAInv x.1.1.1 x.1.1.2.1 x.1.1.2.2.1, lCheckAMu x.1.1.1 x.1.1.2.1 x.1.1.2.2.1⟩ : Ann)), (11, (⟨[.slot 41 false tI], lCheckBInv x.1.1.1 x.1.1.2.1 x.1.1.2.2.1 (slotI st9 28), lCheckBMu x.1.1.1 x.1.1.2.1 x.1.1.2.2.1 (slotI st9 28)⟩ : Ann))] ky9) Tryd.func16 (by kernel_rfl) (by kernel_rfl) (fun x => [pLen x.1.1.2.1 < 4611686018427387904]) [] [.slot 0 false tI] (fun x => (cfgF x.1.1, ())) (fun x => lCheck_VC x.1.1.1 x.1.1.2.1 x.1.1.2.2.1) (fun x => by kernel_rfl) (fun x hp => h x.1.1.1 x.1.1.2.1 x.1.1.2.2.1 hp)
def cFault_VC (cn : Int) (cl : (List LabD)) (cp : Int) : Prop :=
  bif pNot (inF cn (1 : Int) (4 : Int)) then ((2 : Int), ()) = (cfgF (cn, cl, cp, ()), ()) else bif pNot (inF (pInt (pLen cl)) (1 : Int) (6 : Int)) then ((1 : Int), ()) = (cfgF (cn, cl, cp, ()), ()) else lCheckAInv cn cl
    cp ((0 : Int), ()) ∧ ∀ (y : kden Bool.false tI × PUnit), lCheckAInv cn cl cp y → bif pLt y.1 (pInt (pLen cl)) then pIn y.1 (pLen cl) ∧ bif pNot (inF (pGet tyTxn cl (pNat y.1)).1 (0 : Int) (9 : Int)) then ((2 : Int), ())
    = (cfgF (cn, cl, cp, ()), ()) else pIn y.1 (pLen cl) ∧ bif pNot (inF (pGet tyTxn cl (pNat y.1)).2.1 (0 : Int) (15 : Int)) then ((2 : Int), ()) = (cfgF (cn, cl, cp, ()), ()) else lCheckBInv cn cl cp y.1 ((0 : Int), ()) ∧
    ∀ (y_1 : kden Bool.false tI × PUnit), lCheckBInv cn cl cp y.1 y_1 → bif pLt y_1.1 y.1 then pIn y_1.1 (pLen cl) ∧ pIn y.1 (pLen cl) ∧ bif pAndB (pEq (pGet tyTxn cl (pNat y_1.1)).1 (pGet tyTxn cl (pNat y.1)).1) (pEq (pGet
    tyTxn cl (pNat y_1.1)).2.1 (pGet tyTxn cl (pNat y.1)).2.1) then ((7 : Int), ()) = (cfgF (cn, cl, cp, ()), ()) else lCheckBInv cn cl cp y.1 (pAdd IntKind.i64 y_1.1 (1 : Int), ()) ∧ Nat.le (Nat.succ (lCheckBMu cn cl cp y.1
    (pAdd IntKind.i64 y_1.1 (1 : Int), ()))) (lCheckBMu cn cl cp y.1 y_1) else lCheckAInv cn cl cp (pAdd IntKind.i64 y.1 (1 : Int), ()) ∧ Nat.le (Nat.succ (lCheckAMu cn cl cp (pAdd IntKind.i64 y.1 (1 : Int), ()))) (lCheckAMu
    cn cl cp y) else bif pNot (inF cp (1 : Int) (1048576 : Int)) then ((2 : Int), ()) = (cfgF (cn, cl, cp, ()), ()) else ((0 : Int), ()) = (cfgF (cn, cl, cp, ()), ())
set_option maxRecDepth 100000 in
theorem cFault_meets (hIn : Meets Tryd.prog (fun _ => none) 55 cIn) (h : ∀ (cn : Int) (cl : (List LabD)) (cp : Int), (∀ p ∈ (fun x => [pLen x.1.1.2.1 < 4611686018427387904] : Shape.den ⟨[pCfg], []⟩ → List Prop) ⟨((cn, cl, cp, ()), ()), ()⟩, p) → cFault_VC cn cl cp) : Meets Tryd.prog (fun _ => none) 25 ccFault :=
  meets_vc (E := envOf Tryd.prog [(55, (false, cIn))] [33, 123, 120, 91, 83, 78]) (envOf_ok (fun p hp => (by simp only [List.mem_cons, List.not_mem_nil, or_false] at hp; rcases hp with rfl; exact hIn)) (by kernel_rfl)) ⟨[pCfg], []⟩ (fun x => fun ky9 st9 => look [(6, (⟨[.slot 3 false tI], lCheckAInv x.1.1.1 x.1.1.2.1 x.1.1.2.2.1, lCheckAMu x.1.1.1 x.1.1.2.1 x.1.1.2.2.1⟩ : Ann)), (11, (⟨[.slot 4 false tI], lCheckBInv x.1.1.1 x.1.1.2.1 x.1.1.2.2.1 (slotI st9 3), lCheckBMu x.1.1.1 x.1.1.2.1 x.1.1.2.2.1 (slotI st9 3)⟩ : Ann))] ky9) Tryd.func25 (by kernel_rfl) (by kernel_rfl) (fun x => [pLen x.1.1.2.1 < 4611686018427387904]) [] [.slot 0 false tI] (fun x => (cfgF x.1.1, ())) (fun x => cFault_VC x.1.1.1 x.1.1.2.1 x.1.1.2.2.1) (fun x => by kernel_rfl) (fun x hp => h x.1.1.1 x.1.1.2.1 x.1.1.2.2.1 hp)
def labelMay_VC (cn : Int) (cl : (List LabD)) (cp : Int) (l : Int) : Prop :=
  (inF l (0 : Int) (pSubI IntKind.i64 (pInt (pLen cl)) (1 : Int)), ()) = (placeF (cn, cl, cp, ()) l, ())
set_option maxRecDepth 100000 in
theorem labelMay_meets (hIn : Meets Tryd.prog (fun _ => none) 55 cIn) (h : ∀ (cn : Int) (cl : (List LabD)) (cp : Int) (l : Int), (∀ p ∈ (fun x => [pLen x.1.1.2.1 < 4611686018427387904] : Shape.den ⟨[pCfg, .one (.rd tI)], []⟩ → List Prop) ⟨((cn, cl, cp, ()), l, ()), ()⟩, p) → labelMay_VC cn cl cp l) : Meets Tryd.prog (fun _ => none) 34 clabelMay :=
  meets_vc (E := envOf Tryd.prog [(55, (false, cIn))] [33, 123, 120, 91, 83, 78]) (envOf_ok (fun p hp => (by simp only [List.mem_cons, List.not_mem_nil, or_false] at hp; rcases hp with rfl; exact hIn)) (by kernel_rfl)) ⟨[pCfg, .one (.rd tI)], []⟩ (fun x => fun ky9 st9 => look [] ky9) Tryd.func34 (by kernel_rfl) (by kernel_rfl) (fun x => [pLen x.1.1.2.1 < 4611686018427387904]) [] [.slot 0 false .bool] (fun x => (placeF x.1.1 x.1.2.1, ())) (fun x => labelMay_VC x.1.1.1 x.1.1.2.1 x.1.1.2.2.1 x.1.2.1) (fun x => by kernel_rfl) (fun x hp => h x.1.1.1 x.1.1.2.1 x.1.1.2.2.1 x.1.2.1 hp)
theorem one_ok : Meets Tryd.prog (fun _ => none) 49 cone := one_meets fun a b => by
  delta one_VC
  simp only [pGe, pLe, Bool.cond_eq_ite, decide_eq_true_eq, Prod.mk.injEq, eq_self, and_true, inF, labF]
  repeat' split
  all_goals (rw [Bool.eq_iff_iff]; simp only [Bool.and_eq_true, decide_eq_true_eq, Bool.false_eq_true]; constructor <;> intro h <;> first | omega | exact h.elim)
theorem cfgF_sites {c : CfgD} (h : inF c.1 1 4 = false) : cfgF c = 2 := by unfold cfgF; rw [h]; rfl
theorem cfgF_len {c : CfgD} (h1 : inF c.1 1 4 = true) (h : inF (pInt c.2.1.length) 1 6 = false) : cfgF c = 1 := by unfold cfgF; rw [h1, h]; rfl
theorem cfgF_first {c : CfgD} {n : Int} (h1 : inF c.1 1 4 = true) (h2 : inF (pInt c.2.1.length) 1 6 = true) (h : firstE (labE c.2.1) c.2.1.length = n) (hn : pEq n 0 = false) : cfgF c = n := by
  unfold cfgF; rw [h1, h2, h, hn]; rfl
theorem cfgF_end {c : CfgD} (h1 : inF c.1 1 4 = true) (h2 : inF (pInt c.2.1.length) 1 6 = true) (h : firstE (labE c.2.1) c.2.1.length = 0) : cfgF c = cond (inF c.2.2.1 1 1048576) 0 2 := by
  unfold cfgF; rw [h1, h2, h]; rfl
theorem inF_iff {x a b : Int} : inF x a b = true ↔ a ≤ x ∧ x ≤ b := by simp [inF, pLe]
theorem inF_not {x a b : Int} : inF x a b = false ↔ ¬ (a ≤ x ∧ x ≤ b) := by rw [← inF_iff]; simp
theorem labE_bad {l : List LabD} {k : Nat} (h : labF (pGet tyLab l k) = false) : labE l k = 2 := by unfold labE; rw [h]; rfl
theorem labE_ok {l : List LabD} {k : Nat} (h : labF (pGet tyLab l k) = true) : labE l k = cond (allUpto (fun i => !eqLabAt l i k) k) 0 7 := by unfold labE; rw [h]; rfl
/-- the loop over the labels, behind the first two tests -/
theorem cfg_round {c : CfgD} (h1 : inF c.1 1 4 = true) (h2 : inF (pInt c.2.1.length) 1 6 = true) {k : Nat} (hk : pEq (labE c.2.1 k) 0 = false → firstE (labE c.2.1) c.2.1.length = labE c.2.1 k)
    (h : labF (pGet tyLab c.2.1 k) = false) : ((2 : Int), ()) = (cfgF c, ()) := by
  rw [cfgF_first h1 h2 (n := 2) (by rw [hk (by rw [labE_bad h]; rfl), labE_bad h]) rfl]
theorem cfg_twice {c : CfgD} (h1 : inF c.1 1 4 = true) (h2 : inF (pInt c.2.1.length) 1 6 = true) {k : Nat} (hk : pEq (labE c.2.1 k) 0 = false → firstE (labE c.2.1) c.2.1.length = labE c.2.1 k)
    (h : labF (pGet tyLab c.2.1 k) = true) (ha : allUpto (fun i => !eqLabAt c.2.1 i k) k = false) : ((7 : Int), ()) = (cfgF c, ()) := by
  have e : labE c.2.1 k = 7 := by rw [labE_ok h, ha]; rfl
  rw [cfgF_first h1 h2 (n := 7) (by rw [hk (by rw [e]; rfl), e]) rfl]
theorem lB_start {cn : Int} {cl : List LabD} {cp : Int} {k : Nat} : lCheckBInv cn cl cp (k : Int) (0, ()) := UpInv.start
theorem lB_round {cn : Int} {cl : List LabD} {cp : Int} {k : Nat} {z : denVars [.slot 41 false tI]} (hk : k < 4611686018427387904) (h : lCheckBInv cn cl cp (k : Int) z) :
    (∃ i : Nat, z = ((i : Int), ()) ∧ i < k ∧ i < 4611686018427387904 ∧ (eqLabAt cl i k = true → allUpto (fun i => !eqLabAt cl i k) k = false) ∧
      (eqLabAt cl i k = false → lCheckBInv cn cl cp (k : Int) (pAdd .i64 (i : Int) 1, ()) ∧ Nat.le (Nat.succ (lCheckBMu cn cl cp (k : Int) (pAdd .i64 (i : Int) 1, ()))) (lCheckBMu cn cl cp (k : Int) ((i : Int), ())))) ∨
    (z = ((k : Int), ()) ∧ allUpto (fun i => !eqLabAt cl i k) k = true) := by
  unfold lCheckBInv lCheckBMu at *
  simp only [pNat_coe] at h ⊢
  rcases UpInv.round hk h with ⟨i, hz, hi, hib, _, hF, hT⟩ | h
  · exact .inl ⟨i, hz, hi, hib, fun h => hF (by simp [h]), fun h => hT (by simp [h])⟩
  · exact .inr h
theorem lCheck_ok : Meets Tryd.prog (fun _ => none) 16 clCheck := lCheck_meets one_ok fun cn cl cp hp => by
  have hl : cl.length < 4611686018427387904 := hp _ List.mem_cons_self
  delta lCheck_VC
  simp only [pLen]
  cases hb1 : pLt cn 1
  case true => exact congrArg (·, ()) (cfgF_sites (by rw [inF_not]; simp only [pLt, decide_eq_true_eq] at hb1; omega)).symm
  cases hb2 : pGt cn 4
  case true => exact congrArg (·, ()) (cfgF_sites (by rw [inF_not]; simp only [pGt, decide_eq_true_eq] at hb2; simp only; omega)).symm
  have h1 : inF cn 1 4 = true := by rw [inF_iff]; simp only [pLt, pGt, decide_eq_false_iff_not] at hb1 hb2; omega
  cases hb3 : pLt (pInt cl.length) 1
  case true => exact congrArg (·, ()) (cfgF_len h1 (by rw [inF_not]; simp only [pLt, decide_eq_true_eq] at hb3; simp only; omega)).symm
  cases hb4 : pGt (pInt cl.length) 6
  case true => exact congrArg (·, ()) (cfgF_len h1 (by rw [inF_not]; simp only [pGt, decide_eq_true_eq] at hb4; simp only; omega)).symm
  have h2 : inF (pInt cl.length) 1 6 = true := by rw [inF_iff]; simp only [pLt, pGt, decide_eq_false_iff_not] at hb3 hb4; omega
  refine ⟨UpInv.start, fun y hy => ?_⟩
  rcases FirstInv.round hl hy with ⟨k, rfl, hk, hb, hF, hT⟩ | ⟨rfl, hT⟩
  · simp only [pLt_coe, pLen, hk, decide_true, cond_true, pIn_coe, pNat_coe, true_and]
    cases hlab : labF (pGet tyLab cl k)
    case false => exact cfg_round (c := (cn, cl, cp, ())) h1 h2 hF hlab
    refine ⟨by rw [pTo_coe]; omega, lB_start, fun z hz => ?_⟩
    rcases lB_round hb hz with ⟨i, rfl, hi, hib, hiF, hiT⟩ | ⟨rfl, hiT⟩
    · rw [pSub0_len (by omega), bif_true (show pLt (i : Int) (pInt k) = true from by simp [pLt_coe, hi])]
      refine ⟨pIn_coe.2 hi, ?_⟩
      rw [pNat_coe, pGet_sub0 hi]
      have e : pAndB (pEq (pGet tyLab cl i).1 (pGet tyLab cl k).1) (pEq (pGet tyLab cl i).2.1 (pGet tyLab cl k).2.1) = eqLabAt cl i k := rfl
      rw [e]
      cases hq : eqLabAt cl i k with
      | true => exact cfg_twice (c := (cn, cl, cp, ())) h1 h2 hF hlab (hiF hq)
      | false => exact hiT hq
    · rw [pSub0_len (by omega), bif_false (show pLt (k : Int) (pInt k) = false from by simp [pLt_coe])]
      exact hT (by rw [labE_ok hlab, hiT]; rfl)
  · simp only [pLt_coe, Nat.lt_irrefl, decide_false, cond_false]
    rw [cfgF_end (c := (cn, cl, cp, ())) h1 h2 hT]
    simp only [pLt, pGt, Bool.cond_eq_ite, decide_eq_true_eq, inF_iff]
    repeat' split
    all_goals first | rfl | (exfalso; omega)
theorem cFault_ok : Meets Tryd.prog (fun _ => none) 25 ccFault := cFault_meets In_ok fun cn cl cp hp => by
  have hl : cl.length < 4611686018427387904 := hp _ List.mem_cons_self
  delta cFault_VC
  cases h1 : inF cn 1 4
  case false => exact congrArg (·, ()) (cfgF_sites h1).symm
  simp only [pLen]
  cases h2 : inF (pInt cl.length) 1 6
  case false => exact congrArg (·, ()) (cfgF_len h1 h2).symm
  refine ⟨UpInv.start, fun y hy => ?_⟩
  rcases FirstInv.round hl hy with ⟨k, rfl, hk, hb, hF, hT⟩ | ⟨rfl, hT⟩
  · simp only [pLt_coe, hk, decide_true, cond_true, pIn_coe, pNat_coe, true_and]
    cases ha : inF (pGet tyLab cl k).1 0 9
    case false => exact cfg_round (c := (cn, cl, cp, ())) h1 h2 hF (by unfold labF; rw [ha]; rfl)
    cases hc : inF (pGet tyLab cl k).2.1 0 15
    case false => exact cfg_round (c := (cn, cl, cp, ())) h1 h2 hF (by unfold labF; rw [ha, hc]; rfl)
    have hlab : labF (pGet tyLab cl k) = true := by unfold labF; rw [ha, hc]; rfl
    refine ⟨lB_start, fun z hz => ?_⟩
    rcases lB_round hb hz with ⟨i, rfl, hi, hib, hiF, hiT⟩ | ⟨rfl, hiT⟩
    · have hi2 : i < cl.length := by omega
      rw [bif_true (show pLt (i : Int) (k : Int) = true from by simp [pLt, hi])]
      refine ⟨pIn_coe.2 hi2, ?_⟩
      rw [pNat_coe]
      have e : pAndB (pEq (pGet tyLab cl i).1 (pGet tyLab cl k).1) (pEq (pGet tyLab cl i).2.1 (pGet tyLab cl k).2.1) = eqLabAt cl i k := rfl
      rw [e]
      cases hq : eqLabAt cl i k with
      | true => exact cfg_twice (c := (cn, cl, cp, ())) h1 h2 hF hlab (hiF hq)
      | false => exact hiT hq
    · rw [show pLt (k : Int) (k : Int) = false from by simp [pLt]]
      exact hT (by rw [labE_ok hlab, hiT]; rfl)
  · simp only [pLt_coe, Nat.lt_irrefl, decide_false, cond_false]
    rw [cfgF_end (c := (cn, cl, cp, ())) h1 h2 hT]
    cases inF cp 1 1048576 <;> rfl
theorem pSub_len1 {n : Nat} (h : n < 4611686018427387904) : pSubI .i64 (pInt n) 1 = (n : Int) - 1 := by unfold pInt; rw [pSubI_in (by omega)]
theorem labelMay_ok : Meets Tryd.prog (fun _ => none) 34 clabelMay := labelMay_meets In_ok fun cn cl cp l hp => by
  have hl : cl.length < 4611686018427387904 := hp _ List.mem_cons_self
  delta labelMay_VC
  rw [pLen, pSub_len1 hl]
  refine congrArg (·, ()) ?_
  rw [Bool.eq_iff_iff]
  simp only [pInt, placeF]
  simp only [inF, pLe, pLt, Bool.and_eq_true, decide_eq_true_eq]
  omega
abbrev Writes_S : Shape := ⟨[pSto, pTxn], []⟩
abbrev Writes_f : Shape.den Writes_S → denVars [.slot 0 false tI, .slot 1 false tI] := fun x => (cond (pEq (askE x.1.1 x.1.2.1 0) 0) (cntW x.1.1.2.1 x.1.2.1.1 x.1.2.1.2.1) 0, askE x.1.1 x.1.2.1 0, ())
abbrev Writes_p : Shape.den Writes_S → List Prop := fun x => [pLen x.1.1.1 < 4611686018427387904, pLen x.1.1.2.1 < 4611686018427387904, pLen x.1.1.2.2.1 < 4611686018427387904, pLen x.1.1.2.2.2.1 < 4611686018427387904]
def cWrites : Ctr := shCtr Writes_S Writes_p [] [.slot 0 false tI, .slot 1 false tI] Writes_f
abbrev eqsPbV : List TypeId := [33, 123, 120, 91, 83, 78]
def Writes_VC (si : (List ItemD)) (sl : (List LockD)) (sd : (List DoubtD)) (so : (List TxnD)) (ts : Int) (tn : Int) : Prop :=
  Nat.le (Nat.succ (pLen si)) 4611686018427387904 ∧ Nat.le (Nat.succ (pLen sl)) 4611686018427387904 ∧ Nat.le (Nat.succ (pLen sd)) 4611686018427387904 ∧ Nat.le (Nat.succ (pLen so)) 4611686018427387904 ∧ bif pNe (askE (si, sl, sd, so, ()) (ts,
 tn, ()) (0 : Int)) (0 : Int) then ((0 : Int), askE (si, sl, sd, so, ()) (ts, tn, ()) (0 : Int), ()) = (bif pEq (askE (si, sl, sd, so, ()) (ts, tn, ()) (0 : Int)) (0 : Int) then cntW sl ts tn else (0 : Int), askE (si, sl, sd, so, ()) (ts,
 tn, ()) (0 : Int), ()) else cntvInv si sl sd so ts tn ((0 : Int), (0 : Int), ()) ∧ ∀ (y : kden Bool.false tI × kden Bool.false tI × PUnit), cntvInv si sl sd so ts tn y → bif pLt y.1 (pInt (pLen sl)) then pIn y.1 (pLen sl) ∧ bif pAndB (pEq
 (pGet tyLock sl (pNat y.1)).1 ts) (pEq (pGet tyLock sl (pNat y.1)).2.1 tn) then bif (pGet tyLock sl (pNat y.1)).2.2.2.1 then cntvInv si sl sd so ts tn (pAdd IntKind.i64 y.1 (1 : Int), pAdd IntKind.i64 y.2.1 (1 : Int), ()) ∧ Nat.le (Nat.succ
 (cntvMu si sl sd so ts tn (pAdd IntKind.i64 y.1 (1 : Int), pAdd IntKind.i64 y.2.1 (1 : Int), ()))) (cntvMu si sl sd so ts tn y) else cntvInv si sl sd so ts tn (pAdd IntKind.i64 y.1 (1 : Int), y.2.1, ()) ∧ Nat.le (Nat.succ (cntvMu si sl sd
 so ts tn (pAdd IntKind.i64 y.1 (1 : Int), y.2.1, ()))) (cntvMu si sl sd so ts tn y) else cntvInv si sl sd so ts tn (pAdd IntKind.i64 y.1 (1 : Int), y.2.1, ()) ∧ Nat.le (Nat.succ (cntvMu si sl sd so ts tn (pAdd IntKind.i64 y.1 (1 : Int),
 y.2.1, ()))) (cntvMu si sl sd so ts tn y) else (y.2.1, (0 : Int), ()) = (bif pEq (askE (si, sl, sd, so, ()) (ts, tn, ()) (0 : Int)) (0 : Int) then cntW sl ts tn else (0 : Int), askE (si, sl, sd, so, ()) (ts, tn, ()) (0 : Int), ())
set_option maxRecDepth 100000 in
theorem Writes_meets (hcall : Mt 64 ccall) (h : ∀ (si : (List ItemD)) (sl : (List LockD)) (sd : (List DoubtD)) (so : (List TxnD)) (ts : Int) (tn : Int), (∀ p ∈ Writes_p ⟨((si, sl, sd, so, ()), (ts, tn, ()), ()), ()⟩, p) → Writes_VC si sl sd so ts tn) : Mt 29 cWrites :=
  meets_vc (E := envOf Tryd.prog [(64, (false, ccall))] eqsPbV) (envOf_ok (fun p hp => (by simp only [List.mem_cons, List.not_mem_nil, or_false] at hp; rcases hp with rfl; exact hcall)) (by kernel_rfl)) Writes_S (fun x => fun ky9 st9 => look [(6, (⟨[.slot 19 false tI, .slot 7 false tI], cntvInv x.1.1.1 x.1.1.2.1 x.1.1.2.2.1 x.1.1.2.2.2.1 x.1.2.1.1 x.1.2.1.2.1, cntvMu x.1.1.1 x.1.1.2.1 x.1.1.2.2.1 x.1.1.2.2.2.1 x.1.2.1.1 x.1.2.1.2.1⟩ : Ann))] ky9) Tryd.func29 (by kernel_rfl) (by kernel_rfl) Writes_p [] [.slot 0 false tI, .slot 1 false tI] Writes_f (fun x => Writes_VC x.1.1.1 x.1.1.2.1 x.1.1.2.2.1 x.1.1.2.2.2.1 x.1.2.1.1 x.1.2.1.2.1) (fun x => by kernel_rfl) (fun x hp => h x.1.1.1 x.1.1.2.1 x.1.1.2.2.1 x.1.1.2.2.2.1 x.1.2.1.1 x.1.2.1.2.1 hp)
theorem Writes_ok : Meets Tryd.prog (fun _ => none) 29 cWrites := Writes_meets scall_ok fun si sl sd so ts tn hp => by
  have l1 : si.length < 4611686018427387904 := hp (pLen si < 4611686018427387904) (by simp)
  have l2 : sl.length < 4611686018427387904 := hp (pLen sl < 4611686018427387904) (by simp)
  have l3 : sd.length < 4611686018427387904 := hp (pLen sd < 4611686018427387904) (by simp)
  have l4 : so.length < 4611686018427387904 := hp (pLen so < 4611686018427387904) (by simp)
  clear hp
  delta Writes_VC
  refine ⟨l1, l2, l3, l4, bif_ok (fun h => ?_) fun h => ⟨⟨0, rfl, Nat.zero_le _⟩, fun y hy => ?_⟩⟩
  · rw [show pEq (askE (si, sl, sd, so, ()) (ts, tn, ()) 0) 0 = false by simpa [pNe, pEq] using h]; rfl
  obtain ⟨i, rfl, hi⟩ := hy
  by_cases hk : i < sl.length
  · rw [bif_true (by simp [pLt_coe, pLen, hk])]
    dsimp only
    rw [pNat_coe]
    have hc := cntTo_le (p := fun j => lockIsF (pGet tyLock sl j) (ts, tn, ()) && (pGet tyLock sl j).2.2.2.1) (k := i)
    have e : lockIsF (pGet tyLock sl i) (ts, tn, ()) = pAndB (pEq (pGet tyLock sl i).1 ts) (pEq (pGet tyLock sl i).2.1 tn) := rfl
    have nx : ∀ u : Int, u = ((cntTo (fun j => lockIsF (pGet tyLock sl j) (ts, tn, ()) && (pGet tyLock sl j).2.2.2.1) (i + 1) : Nat) : Int) → cntvInv si sl sd so ts tn (pAdd .i64 (i : Int) 1, u, ()) :=
      fun u hu => ⟨i + 1, by rw [pAdd1 (by omega), hu], hk⟩
    refine ⟨pIn_coe.2 hk, bif_ok (fun h1 => bif_ok (fun h2 => ⟨nx _ ?_, mu_step hk (by omega)⟩) fun h2 => ⟨nx _ ?_, mu_step hk (by omega)⟩) fun h1 => ⟨nx _ ?_, mu_step hk (by omega)⟩⟩
    · rw [cntTo_succ, e, h1, h2, pAdd1 (by omega)]; rfl
    · rw [cntTo_succ, e, h1, h2]; rfl
    · rw [cntTo_succ, e, h1]; rfl
  · obtain rfl : i = sl.length := by omega
    rw [bif_false (by simp [pLt_coe, pLen])]
    have h0 : pEq (askE (si, sl, sd, so, ()) (ts, tn, ()) 0) 0 = true := by simpa [pNe, pEq] using h
    have h1 : askE (si, sl, sd, so, ()) (ts, tn, ()) 0 = 0 := by simpa [pEq] using h0
    rw [h1]; rfl
def aboveF (a b : LabD) : Bool := bif pGe a.1 b.1 then pEq (pAnd .i64 a.2.1 b.2.1) b.2.1 else false
def cabove : Ctr := shCtr ⟨[pLab, pLab], []⟩ (fun _ => []) [] [.slot 0 false .bool] (fun x => (aboveF x.1.1 x.1.2.1, ()))
def cdomin : Ctr := shCtr ⟨[pLab, pLab], []⟩ (fun _ => []) [] [.slot 0 false .bool] (fun x => (aboveF x.1.1 x.1.2.1, ()))
def above_VC (al : Int) (ak : Int) (bl : Int) (bk : Int) : Prop :=
  bif pGe al bl then (pEq (pAnd IntKind.i64 ak bk) bk, ()) = (aboveF (al, ak, ()) (bl, bk, ()), ()) else (Bool.false, ()) = (aboveF (al, ak, ()) (bl, bk, ()), ())
set_option maxRecDepth 100000 in
theorem above_meets  (h : ∀ (al : Int) (ak : Int) (bl : Int) (bk : Int), above_VC al ak bl bk) : Meets Tryd.prog (fun _ => none) 30 cabove :=
  meets_vc (E := envOf Tryd.prog [] [83, 53]) (envOf_ok (fun p hp => by cases hp) (by kernel_rfl)) ⟨[pLab, pLab], []⟩ (fun x => fun ky9 st9 => look [] ky9) Tryd.func30 (by kernel_rfl) (by kernel_rfl) (fun _ => []) [] [.slot 0 false .bool] (fun x => (aboveF x.1.1 x.1.2.1, ())) (fun x => above_VC x.1.1.1 x.1.1.2.1 x.1.2.1.1 x.1.2.1.2.1) (fun x => by kernel_rfl) (fun x _ => h x.1.1.1 x.1.1.2.1 x.1.2.1.1 x.1.2.1.2.1)
def domin_VC (al : Int) (ak : Int) (bl : Int) (bk : Int) : Prop :=
  bif pGe al bl then (pEq (pAnd IntKind.i64 ak bk) bk, ()) = (aboveF (al, ak, ()) (bl, bk, ()), ()) else (Bool.false, ()) = (aboveF (al, ak, ()) (bl, bk, ()), ())
set_option maxRecDepth 100000 in
theorem domin_meets  (h : ∀ (al : Int) (ak : Int) (bl : Int) (bk : Int), domin_VC al ak bl bk) : Meets Tryd.prog (fun _ => none) 37 cdomin :=
  meets_vc (E := envOf Tryd.prog [] [83, 53]) (envOf_ok (fun p hp => by cases hp) (by kernel_rfl)) ⟨[pLab, pLab], []⟩ (fun x => fun ky9 st9 => look [] ky9) Tryd.func37 (by kernel_rfl) (by kernel_rfl) (fun _ => []) [] [.slot 0 false .bool] (fun x => (aboveF x.1.1 x.1.2.1, ())) (fun x => domin_VC x.1.1.1 x.1.1.2.1 x.1.2.1.1 x.1.2.1.2.1) (fun x => by kernel_rfl) (fun x _ => h x.1.1.1 x.1.1.2.1 x.1.2.1.1 x.1.2.1.2.1)
theorem above_ok : Meets Tryd.prog (fun _ => none) 30 cabove := above_meets fun a b c d => by
  delta above_VC aboveF
  simp only
  cases pGe a c <;> rfl
theorem domin_ok : Meets Tryd.prog (fun _ => none) 37 cdomin := domin_meets fun a b c d => by
  delta domin_VC aboveF
  simp only
  cases pGe a c <;> rfl
section
end


end Go.Proofs.YtedjlbcclhgfmaaDoor
