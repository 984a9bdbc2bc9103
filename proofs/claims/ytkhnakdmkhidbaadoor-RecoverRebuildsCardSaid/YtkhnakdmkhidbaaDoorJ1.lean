/- Plain words of what comes back from a tape. No condition. -/
import Derived.Test.YtkhnakdmkhidbaaDoorFF

/- Plain words of the store: types of readings, what its functions say. No condition. -/
namespace Go.Proofs.YtkhnakdmkhidbaaDoor
open Go.RowKit

abbrev tI : Ty := .int .i64
abbrev tyTxn : Ty := .pair tI (.pair tI .unit)
abbrev tyItem : Ty := .pair tI (.pair tI (.pair tI .unit))
abbrev tyLock : Ty := .pair tI (.pair tI (.pair tI (.pair .bool (.pair tI (.pair tI .unit)))))
abbrev tyDoubt : Ty := .pair tI (.pair tI (.pair tI .unit))
abbrev TxnD := Int × Int × Unit
abbrev ItemD := Int × Int × Int × Unit
abbrev LockD := Int × Int × Int × Bool × Int × Int × Unit
abbrev DoubtD := Int × Int × Int × Unit
abbrev StoD := List ItemD × List LockD × List DoubtD × List TxnD × Unit
abbrev pTxn : Par := .agg [.rd tI, .rd tI]
abbrev pI : Par := .one (.rd tI)
abbrev pSto : Par := .agg [.rd (.sl tyItem), .rd (.sl tyLock), .rd (.sl tyDoubt), .rd (.sl tyTxn)]
abbrev vSto : List (Bool × Ty) := [(true, tyItem), (true, tyLock), (true, tyDoubt), (true, tyTxn)]
abbrev wTxn : TyW := wStruct [wInt, wInt]
def inF (x a b : Int) : Bool := pLe a x && pLe x b
def txnF (t : TxnD) : Bool := inF t.1 0 3 && inF t.2.1 1 1048576
def eqTxn (s t : TxnD) : Bool := pEq s.1 t.1 && pEq s.2.1 t.2.1
/-- one item, behind its neighbour -/
def itemOk (l : List ItemD) (i : Nat) : Bool :=
  inF (pGet tyItem l i).1 0 7 && inF (pGet tyItem l i).2.1 0 1073741824 && inF (pGet tyItem l i).2.2.1 1 1048576 && (decide (i = 0) || pLt (pGet tyItem l (i - 1)).1 (pGet tyItem l i).1)
def itemsF (l : List ItemD) : Bool := allUpto (itemOk l) l.length
def itemsInv (l : List ItemD) : denVars [.slot 7 false tI] → Prop := UpInv (itemOk l) l.length
def itemsMu (l : List ItemD) : denVars [.slot 7 false tI] → Nat := UpMu l.length

def eqTxnAt (l m : List TxnD) (j : Nat) : Bool := eqTxn (pGet tyTxn l j) (pGet tyTxn m j)
def eqItemAt (l m : List ItemD) (j : Nat) : Bool := pEq (pGet tyItem l j).1 (pGet tyItem m j).1 && (pEq (pGet tyItem l j).2.1 (pGet tyItem m j).2.1 && pEq (pGet tyItem l j).2.2.1 (pGet tyItem m j).2.2.1)
def eqLockAt (l m : List LockD) (j : Nat) : Bool := pEq (pGet tyLock l j).1 (pGet tyLock m j).1 && (pEq (pGet tyLock l j).2.1 (pGet tyLock m j).2.1 && (pEq (pGet tyLock l j).2.2.1 (pGet tyLock m j).2.2.1 && (pBeq (pGet tyLock l j).2.2.2.1 (pGet tyLock m j).2.2.2.1 && (pEq (pGet tyLock l j).2.2.2.2.1 (pGet tyLock m j).2.2.2.2.1 && pEq (pGet tyLock l j).2.2.2.2.2.1 (pGet tyLock m j).2.2.2.2.2.1))))
def sameTxnsF (l m : List TxnD) : Bool := decide (l.length = m.length) && allUpto (eqTxnAt l m) l.length
def sameTxnsInv (l m : List TxnD) : denVars [.slot 5 false tI] → Prop := fun y => l.length = m.length ∧ UpInv (eqTxnAt l m) l.length y
def sameTxnsMu (l _m : List TxnD) : denVars [.slot 5 false tI] → Nat := UpMu l.length
def sameStoF (s t : StoD) : Bool := decide (s.1.length = t.1.length) && decide (s.2.1.length = t.2.1.length) && decide (s.2.2.1.length = t.2.2.1.length) && sameTxnsF s.2.2.2.1 t.2.2.2.1 &&
  allUpto (eqItemAt s.1 t.1) s.1.length && allUpto (eqLockAt s.2.1 t.2.1) s.2.1.length && allUpto (eqItemAt s.2.2.1 t.2.2.1) s.2.2.1.length

variable (is : List ItemD) (ls : List LockD) (ds : List DoubtD) (os : List TxnD) (is2 : List ItemD) (ls2 : List LockD) (ds2 : List DoubtD) (os2 : List TxnD)
/-- lengths are the same, and what was looked at so far -/
def SameInv (p : Nat → Bool) (n : Nat) (q : Bool) (y : Int × Unit) : Prop := q = true ∧ UpInv p n y
def sameLens : Bool := decide (is.length = is2.length) && decide (ls.length = ls2.length) && decide (ds.length = ds2.length) && sameTxnsF os os2
def sameStoAInv : denVars [.slot 5 false tI] → Prop := SameInv (eqItemAt is is2) is.length (sameLens is ls ds os is2 ls2 ds2 os2)
def sameStoAMu (_ : List LockD) (_ : List DoubtD) (_ : List TxnD) (_ : List ItemD) (_ : List LockD) (_ : List DoubtD) (_ : List TxnD) : denVars [.slot 5 false tI] → Nat := UpMu is.length
def sameStoBInv : denVars [.slot 6 false tI] → Prop := SameInv (eqLockAt ls ls2) ls.length (sameLens is ls ds os is2 ls2 ds2 os2 && allUpto (eqItemAt is is2) is.length)
def sameStoBMu (_ : List ItemD) (ls : List LockD) (_ : List DoubtD) (_ : List TxnD) (_ : List ItemD) (_ : List LockD) (_ : List DoubtD) (_ : List TxnD) : denVars [.slot 6 false tI] → Nat := UpMu ls.length
def sameStoCInv : denVars [.slot 7 false tI] → Prop := SameInv (eqItemAt ds ds2) ds.length (sameLens is ls ds os is2 ls2 ds2 os2 && allUpto (eqItemAt is is2) is.length && allUpto (eqLockAt ls ls2) ls.length)
def sameStoCMu (_ : List ItemD) (_ : List LockD) (ds : List DoubtD) (_ : List TxnD) (_ : List ItemD) (_ : List LockD) (_ : List DoubtD) (_ : List TxnD) : denVars [.slot 7 false tI] → Nat := UpMu ds.length

def idxTxnF (l : List TxnD) (t : TxnD) : Int := idxOf (fun j => eqTxn t (pGet tyTxn l j)) l.length
def doubtIsF (d : DoubtD) (t : TxnD) : Bool := pEq d.1 t.1 && pEq d.2.1 t.2.1
def lockIsF (x : LockD) (t : TxnD) : Bool := pEq x.1 t.1 && pEq x.2.1 t.2.1
def idxLockF (l : List LockD) (t : TxnD) : Int := idxOf (fun j => lockIsF (pGet tyLock l j) t) l.length
def idxDoubtF (l : List DoubtD) (t : TxnD) : Int := idxOf (fun j => doubtIsF (pGet tyDoubt l j) t) l.length
def indexInv (l : List TxnD) (a b : Int) : denVars [.slot 8 false tI] → Prop := FindInv (fun j => eqTxn (a, b, ()) (pGet tyTxn l j)) l.length
def indexMu (l : List TxnD) (_ _ : Int) : denVars [.slot 8 false tI] → Nat := UpMu l.length
def indexFuncDoubtInv (l : List DoubtD) (c d : Int) : denVars [.slot 8 false tI] → Prop := FindInv (fun j => doubtIsF (pGet tyDoubt l j) (c, d, ())) l.length
def indexFuncDoubtMu (l : List DoubtD) (_ _ : Int) : denVars [.slot 8 false tI] → Nat := UpMu l.length
def indexFuncLockInv (l : List LockD) (c d _a : Int) : denVars [.slot 8 false tI] → Prop := FindInv (fun j => lockIsF (pGet tyLock l j) (c, d, ())) l.length
def indexFuncLockMu (l : List LockD) (_ _ _ : Int) : denVars [.slot 8 false tI] → Nat := UpMu l.length

/- what may be: doubts, locks, a store -/
def sameD (l : List DoubtD) (k i : Nat) : Bool := pAndB (pEq (pGet tyDoubt l k).1 (pGet tyDoubt l i).1) (pEq (pGet tyDoubt l k).2.1 (pGet tyDoubt l i).2.1)
def sameT (l : List TxnD) (k i : Nat) : Bool := pAndB (pEq (pGet tyTxn l k).1 (pGet tyTxn l i).1) (pEq (pGet tyTxn l k).2.1 (pGet tyTxn l i).2.1)
def clash (l : List LockD) (k i : Nat) : Bool :=
  pEq (pGet tyLock l k).2.2.1 (pGet tyLock l i).2.2.1 && (pAndB (pEq (pGet tyLock l k).1 (pGet tyLock l i).1) (pEq (pGet tyLock l k).2.1 (pGet tyLock l i).2.1) || (pGet tyLock l k).2.2.2.1 || (pGet tyLock l i).2.2.2.1)
def doubtOkAt (ls : List LockD) (ds : List DoubtD) (os : List TxnD) (i : Nat) : Bool :=
  txnF ((pGet tyDoubt ds i).1, (pGet tyDoubt ds i).2.1, ()) && inF (pGet tyDoubt ds i).2.2.1 0 1048576 && pNot (pGe (idxTxnF os ((pGet tyDoubt ds i).1, (pGet tyDoubt ds i).2.1, ())) 0) &&
    pGe (idxLockF ls ((pGet tyDoubt ds i).1, (pGet tyDoubt ds i).2.1, ())) 0 && allUpto (fun k => !sameD ds k i) i
def overOkAt (os : List TxnD) (i : Nat) : Bool := txnF ((pGet tyTxn os i).1, (pGet tyTxn os i).2.1, ()) && allUpto (fun k => !sameT os k i) i
def lockOkAt (ls : List LockD) (ds : List DoubtD) (i : Nat) : Bool :=
  pGe (idxDoubtF ds ((pGet tyLock ls i).1, (pGet tyLock ls i).2.1, ())) 0 && inF (pGet tyLock ls i).2.2.1 0 7 && inF (pGet tyLock ls i).2.2.2.2.1 0 1073741824 && inF (pGet tyLock ls i).2.2.2.2.2.1 0 1048576 &&
    ((pGet tyLock ls i).2.2.2.1 || (pEq (pGet tyLock ls i).2.2.2.2.1 0 && pEq (pGet tyLock ls i).2.2.2.2.2.1 0)) && allUpto (fun k => !clash ls k i) i
def doubtsF (s : StoD) : Bool := allUpto (doubtOkAt s.2.1 s.2.2.1 s.2.2.2.1) s.2.2.1.length && allUpto (overOkAt s.2.2.2.1) s.2.2.2.1.length
def locksF (s : StoD) : Bool := allUpto (lockOkAt s.2.1 s.2.2.1) s.2.1.length && pLe (pInt s.2.1.length) 24
def stoF (s : StoD) : Bool := itemsF s.1 && doubtsF s && locksF s

abbrev InvI := List ItemD → List LockD → List DoubtD → List TxnD → Int × Unit → Prop
abbrev InvII := List ItemD → List LockD → List DoubtD → List TxnD → Int → Int × Unit → Prop
abbrev MuI := List ItemD → List LockD → List DoubtD → List TxnD → Int × Unit → Nat
abbrev MuII := List ItemD → List LockD → List DoubtD → List TxnD → Int → Int × Unit → Nat
def doubtsAInv : InvI := fun _ ls ds os => UpInv (doubtOkAt ls ds os) ds.length
def doubtsAMu : MuI := fun _ _ ds _ => UpMu ds.length
def doubtsBInv : InvII := fun _ _ ds _ i => UpInv (fun k => !sameD ds k (pNat i)) (pNat i)
def doubtsBMu : MuII := fun _ _ _ _ i => UpMu (pNat i)
def doubtsCInv : InvI := fun _ _ _ os => UpInv (overOkAt os) os.length
def doubtsCMu : MuI := fun _ _ _ os => UpMu os.length
def locksAInv : InvI := fun _ ls ds _ => UpInv (lockOkAt ls ds) ls.length
def locksAMu : MuI := fun _ ls _ _ => UpMu ls.length
def locksBInv : InvII := fun _ ls _ _ i => UpInv (fun k => !clash ls k (pNat i)) (pNat i)
def locksBMu : MuII := fun _ _ _ _ i => UpMu (pNat i)
def doubtOfInv (_ : List ItemD) (_ : List LockD) (ds : List DoubtD) (_ : List TxnD) (a b : Int) : denVars [.slot 5 false tI] → Prop := FindInv (fun j => doubtIsF (pGet tyDoubt ds j) (a, b, ())) ds.length
def doubtOfMu (_ : List ItemD) (_ : List LockD) (ds : List DoubtD) (_ : List TxnD) (_ _ : Int) : denVars [.slot 5 false tI] → Nat := UpMu ds.length
def isOverInv (_ : List ItemD) (_ : List LockD) (_ : List DoubtD) (os : List TxnD) (a b : Int) : denVars [.slot 5 false tI] → Prop := FindInv (fun j => eqTxn (a, b, ()) (pGet tyTxn os j)) os.length
def isOverMu (_ : List ItemD) (_ : List LockD) (_ : List DoubtD) (os : List TxnD) (_ _ : Int) : denVars [.slot 5 false tI] → Nat := UpMu os.length
def mayAInv : InvI := fun is _ _ _ => UpInv (itemOk is) is.length
def mayAMu : MuI := fun is _ _ _ => UpMu is.length
def mayBInv : InvI := locksAInv
def mayBMu : MuI := locksAMu
def mayCInv : InvII := locksBInv
def mayCMu : MuII := locksBMu
def mayDInv : InvI := doubtsAInv
def mayDMu : MuI := doubtsAMu
/-- any so far -/
def HandInv (p : Nat → Bool) (n : Nat) (y : Int × Bool × Unit) : Prop := ∃ k : Nat, y.1 = (k : Int) ∧ k ≤ n ∧ y.2.1 = anyUpto p k
def HandMu (n : Nat) (y : Int × Bool × Unit) : Nat := n - y.1.toNat
def handAt (ls : List LockD) (ds : List DoubtD) (i j : Nat) : Bool := lockIsF (pGet tyLock ls j) ((pGet tyDoubt ds i).1, (pGet tyDoubt ds i).2.1, ())
def mayEInv (_ : List ItemD) (ls : List LockD) (ds : List DoubtD) (_ : List TxnD) (i : Int) : denVars [.slot 12 false tI, .slot 11 false .bool] → Prop := HandInv (handAt ls ds (pNat i)) ls.length
def mayEMu (_ : List ItemD) (ls : List LockD) (_ : List DoubtD) (_ : List TxnD) (_ : Int) : denVars [.slot 12 false tI, .slot 11 false .bool] → Nat := HandMu ls.length
def mayFInv : InvI := doubtsCInv
def mayFMu : MuI := doubtsCMu
def mayGInv : InvII := fun _ _ _ os i => UpInv (fun k => !sameT os k (pNat i)) (pNat i)
def mayGMu : MuII := fun _ _ _ _ i => UpMu (pNat i)

/- copies: so much of a row is there -/
abbrev CopyT := List ItemD → List LockD → List DoubtD → List TxnD → Int × StoD × Unit → Prop
def copyAInv : CopyT := fun is _ _ _ y => ∃ k : Nat, y = ((k : Int), (is.take k, [], [], [], ()), ()) ∧ k ≤ is.length
def copyBInv : CopyT := fun is ls _ _ y => ∃ k : Nat, y = ((k : Int), (is, ls.take k, [], [], ()), ()) ∧ k ≤ ls.length
def copyCInv : CopyT := fun is ls ds _ y => ∃ k : Nat, y = ((k : Int), (is, ls, ds.take k, [], ()), ()) ∧ k ≤ ds.length
def copyDInv : CopyT := fun is ls ds os y => ∃ k : Nat, y = ((k : Int), (is, ls, ds, os.take k, ()), ()) ∧ k ≤ os.length
abbrev CopyM := List ItemD → List LockD → List DoubtD → List TxnD → Int × StoD × Unit → Nat
def copyAMu : CopyM := fun is _ _ _ y => is.length - y.1.toNat
def copyBMu : CopyM := fun _ ls _ _ y => ls.length - y.1.toNat
def copyCMu : CopyM := fun _ _ ds _ y => ds.length - y.1.toNat
def copyDMu : CopyM := fun _ _ _ os y => os.length - y.1.toNat

/- doubts that are a tick older -/
end Go.Proofs.YtkhnakdmkhidbaaDoor

/- Plain words of the store: what it reads and writes. No condition. -/
namespace Go.Proofs.YtkhnakdmkhidbaaDoor
open Go.RowKit

/-- keys that go up -/
def sortF (l : List ItemD) : Bool := allUpto (fun j => decide (j = 0) || pLt (pGet tyItem l (j - 1)).1 (pGet tyItem l j).1) l.length
def cmpF (a b : Int) : Int := cond (pLt a b) (-1) (cond (pGt a b) 1 0)
def keyAt (l : List ItemD) (k : Int) (j : Nat) : Bool := pEq (pGet tyItem l j).1 k
def idxKeyF (l : List ItemD) (k : Int) : Int := idxOf (keyAt l k) l.length
/-- the first place whose key is no less -/
def posF (l : List ItemD) (k : Int) : Int := match (List.range l.length).find? (fun j => pGe (pGet tyItem l j).1 k) with
  | some j => (j : Int)
  | none => (l.length : Int)
def itemF (l : List ItemD) (k : Int) : ItemD := cond (pGe (idxKeyF l k) 0) (pGet tyItem l (pNat (idxKeyF l k))) (k, 0, 0, ())
def lkIs (x : LockD) (a b c : Int) : Bool := pAndB (pEq x.1 a) (pEq x.2.1 b) && pEq x.2.2.1 c
def idxLkF (l : List LockD) (a b c : Int) : Int := idxOf (fun j => lkIs (pGet tyLock l j) a b c) l.length
def othIs (x : LockD) (a b c : Int) : Bool := pEq x.2.2.1 c && pNot (pAndB (pEq x.1 a) (pEq x.2.1 b))
def busyIs (x : LockD) (a b c : Int) (g : Bool) : Bool := othIs x a b c && (g || x.2.2.2.1)
def idxBusyF (l : List LockD) (a b c : Int) (g : Bool) : Int := idxOf (fun j => busyIs (pGet tyLock l j) a b c g) l.length
def cntTo (p : Nat → Bool) (n : Nat) : Nat := ((List.range n).filter p).length
def othA (l : List LockD) (a b c : Int) : Int := ((cntTo (fun j => busyIs (pGet tyLock l j) a b c true) l.length : Nat) : Int)
def othW (l : List LockD) (a b c : Int) : Int := ((cntTo (fun j => busyIs (pGet tyLock l j) a b c false) l.length : Nat) : Int)
def askE (s : StoD) (t : TxnD) (k : Int) : Int := cond (stoF s) (cond (txnF t && inF k 0 7) 0 2) 9
def handF (l : List DoubtD) (a b : Int) : List DoubtD := cond (pGe (idxDoubtF l (a, b, ())) 0) l (pApp l [(a, b, 0, ())])
def noSto : StoD := ([], [], [], [], ())

def writeE (s : StoD) (t : TxnD) (k v a : Int) : Int :=
  cond (pEq (askE s t k) 0) (cond (inF v 0 1073741824 && inF a 0 1048576)
    (cond (pGe (idxTxnF s.2.2.2.1 t) 0 || (pGe (idxLkF s.2.1 t.1 t.2.1 k) 0 && pGt (pGet tyLock s.2.1 (pNat (idxLkF s.2.1 t.1 t.2.1 k))).2.2.2.2.2.1 a)) 13
      (cond (pGe (idxBusyF s.2.1 t.1 t.2.1 k true) 0) 11 (cond ((pLt (idxLkF s.2.1 t.1 t.2.1 k) 0 && pGe (pInt s.2.1.length) 24) || pGe (itemF s.1 k).2.2.1 1048576) 8 0))) 2) (askE s t k)
def writeS (s : StoD) (t : TxnD) (k v a : Int) : StoD :=
  cond (pEq (writeE s t k v a) 0) (s.1, cond (pLt (idxLkF s.2.1 t.1 t.2.1 k) 0) (pApp s.2.1 [(t.1, t.2.1, k, true, v, a, ())]) (pSet s.2.1 (pNat (idxLkF s.2.1 t.1 t.2.1 k)) (t.1, t.2.1, k, true, v, a, ())),
    handF s.2.2.1 t.1 t.2.1, s.2.2.2.1, ()) noSto

def BinInv (l : List ItemD) (k : Int) (y : Int × Int × Unit) : Prop :=
  ∃ i j : Nat, y = ((i : Int), (j : Int), ()) ∧ i ≤ j ∧ j ≤ l.length ∧ (∀ m, m < i → pGe (pGet tyItem l m).1 k = false) ∧ ∀ m, j ≤ m → m < l.length → pGe (pGet tyItem l m).1 k = true
def binInv (l : List ItemD) (k : Int) : denVars [.slot 9 false tI, .slot 10 false tI] → Prop := BinInv l k
def binMu (_ : List ItemD) (_ : Int) : denVars [.slot 9 false tI, .slot 10 false tI] → Nat := fun y => y.2.1.toNat - y.1.toNat
def itemOfInv (si : List ItemD) (_ : List LockD) (_ : List DoubtD) (_ : List TxnD) (k : Int) : denVars [.slot 5 false tI] → Prop := FindInv (keyAt si k) si.length
def itemOfMu (si : List ItemD) (_ : List LockD) (_ : List DoubtD) (_ : List TxnD) (_ : Int) : denVars [.slot 5 false tI] → Nat := UpMu si.length
def indexLkInv (l : List LockD) (a b c : Int) : denVars [.slot 8 false tI] → Prop := FindInv (fun j => lkIs (pGet tyLock l j) a b c) l.length
def indexLkMu (l : List LockD) (_ _ _ : Int) : denVars [.slot 8 false tI] → Nat := UpMu l.length
def lockOfInv (_ : List ItemD) (l : List LockD) (_ : List DoubtD) (_ : List TxnD) (a b c : Int) : denVars [.slot 7 false tI] → Prop := FindInv (fun j => lkIs (pGet tyLock l j) a b c) l.length
def lockOfMu (_ : List ItemD) (l : List LockD) (_ : List DoubtD) (_ : List TxnD) (_ _ _ : Int) : denVars [.slot 7 false tI] → Nat := UpMu l.length
def indexBuInv (l : List LockD) (c a b : Int) (g : Bool) : denVars [.slot 8 false tI] → Prop := FindInv (fun j => busyIs (pGet tyLock l j) a b c g) l.length
def indexBuMu (l : List LockD) (_ _ _ : Int) (_ : Bool) : denVars [.slot 8 false tI] → Nat := UpMu l.length
def OthInv (p q : Nat → Bool) (n : Nat) (y : Int × Int × Int × Unit) : Prop := ∃ k : Nat, y = ((k : Int), ((cntTo p k : Nat) : Int), ((cntTo q k : Nat) : Int), ()) ∧ k ≤ n
def othInv (_ : List ItemD) (l : List LockD) (_ : List DoubtD) (_ : List TxnD) (a b c : Int) : denVars [.slot 10 false tI, .slot 8 false tI, .slot 9 false tI] → Prop :=
  OthInv (fun j => busyIs (pGet tyLock l j) a b c true) (fun j => busyIs (pGet tyLock l j) a b c false) l.length
def othMu (_ : List ItemD) (l : List LockD) (_ : List DoubtD) (_ : List TxnD) (_ _ _ : Int) : denVars [.slot 10 false tI, .slot 8 false tI, .slot 9 false tI] → Nat := fun y => l.length - y.1.toNat


end Go.Proofs.YtkhnakdmkhidbaaDoor

/- Plain words of the store: what is left of it behind a crash. No condition. -/
namespace Go.Proofs.YtkhnakdmkhidbaaDoor
open Go.RowKit

/-- a row from which some are taken away: so far -/
def DelAt {t : Ty} (p : t.den → Bool) (xs : List t.den) (y : Int × Int × List t.den × Unit) : Prop :=
  ∃ (i j : Nat) (zs : List t.den), y = ((j : Int), (i : Int), zs, ()) ∧ i < j ∧ j ≤ xs.length ∧ zs.length = xs.length ∧ zs.take i = (xs.take j).filter (fun x => !p x) ∧ zs.drop j = xs.drop j
end Go.Proofs.YtkhnakdmkhidbaaDoor

/- slices.Insert on an own row, where its walk is known: its contract. It names no program. No condition. -/
namespace Go.Proofs.YtkhnakdmkhidbaaDoor
open Go.RowKit

/-- the cells of a row where an element was put in -/
def InsCells (vals vvals : Array Value) (n i z : Nat) (vals' : Array Value) : Prop :=
  ∀ j, j < (n + 1) * z → vals'[j]? = if j < i * z then vals[j]? else if j < i * z + z then vvals[j - i * z]? else vals[j - z]?
/-- WHAT A WALK OF slices.Insert IS TO SHOW, for elements of z cells: in place, or in a new block. -/
def InsWalk (P : Program) (K : FuncId) (z bytes : Nat) : Prop :=
  ∀ (w : World) (b vb cap vcap n i : Nat) (vals vvals : Array Value) (T T' : TypeId), i < n → n ≤ cap → cap ≤ 9223372036854775807 → 0 < vcap → b ≠ vb → (n + 1) * bytes ≤ 140737488351232 →
    w.heap[b]? = some (.cells vals T (0, 0)) → vals.size = cap * z → w.heap[vb]? = some (.cells vvals T' (0, 0)) → vvals.size = vcap * z →
    (∀ (j : Nat) v, j < n * z → vals[j]? = some v → v.oneCell' = true) → (∀ (j : Nat) v, j < z → vvals[j]? = some v → v.oneCell' = true) →
    Calls P K #[.slice (some ⟨b, 0, none⟩) n cap, .int .i64 (i : Int), .slice (some ⟨vb, 0, none⟩) 1 vcap] w fun e w' =>
      w'.os = w.os ∧ w'.tape = w.tape ∧ w'.output = w.output ∧
      ((n + 1 ≤ cap ∧ e = .returned (.slice (some ⟨b, 0, none⟩) (n + 1) cap) ∧ w'.heap.size = w.heap.size ∧ (∀ k, k ≠ b → w'.heap[k]? = w.heap[k]?) ∧ ∃ vals', w'.heap[b]? = some (.cells vals' T (0, 0)) ∧ vals'.size = cap * z ∧ InsCells vals vvals n i z vals') ∨
       (∃ cap' vals' T2, n + 1 ≤ cap' ∧ cap' ≤ 9223372036854775807 ∧ e = .returned (.slice (some ⟨w.heap.size, 0, none⟩) (n + 1) cap') ∧ w'.heap = w.heap.push (.cells vals' T2 (0, 0)) ∧ vals'.size = cap' * z ∧ InsCells vals vvals n i z vals'))

def pIns {α : Type} (xs : List α) (i : Nat) (y : α) : List α := xs.take i ++ y :: xs.drop i
theorem pIns_len {α : Type} {xs : List α} {i : Nat} {y : α} (h : i ≤ xs.length) : (pIns xs i y).length = xs.length + 1 := by
  unfold pIns; rw [List.length_append, List.length_cons, List.length_take, List.length_drop]; omega
theorem pIns_get {α : Type} {xs : List α} {i : Nat} {y : α} (h : i ≤ xs.length) {k : Nat} (hk : k < (pIns xs i y).length) :
    (k < i ∧ ∃ hk' : k < xs.length, (pIns xs i y)[k] = xs[k]) ∨ (k = i ∧ (pIns xs i y)[k] = y) ∨ (i < k ∧ ∃ hk' : k - 1 < xs.length, (pIns xs i y)[k] = xs[k - 1]) := by
  have hl := pIns_len (y := y) h
  have ht : (xs.take i).length = i := by rw [List.length_take]; omega
  rcases Nat.lt_trichotomy k i with h1 | h1 | h1
  · refine .inl ⟨h1, by omega, ?_⟩
    have e : (pIns xs i y)[k]? = xs[k]? := by
      unfold pIns
      rw [List.getElem?_append_left (by omega), List.getElem?_take, if_pos h1]
    rw [List.getElem?_eq_getElem hk, List.getElem?_eq_getElem (by omega)] at e
    exact Option.some.inj e
  · refine .inr (.inl ⟨h1, ?_⟩)
    subst h1
    have e : (pIns xs k y)[k]? = some y := by
      unfold pIns
      rw [List.getElem?_append_right (by omega), ht, Nat.sub_self]; rfl
    rw [List.getElem?_eq_getElem hk] at e
    exact Option.some.inj e
  · refine .inr (.inr ⟨h1, by omega, ?_⟩)
    have e : (pIns xs i y)[k]? = xs[k - 1]? := by
      unfold pIns
      rw [List.getElem?_append_right (by omega), ht]
      obtain ⟨d, hd⟩ : ∃ d, k - i = d + 1 := ⟨k - i - 1, by omega⟩
      rw [hd, List.getElem?_cons_succ, List.getElem?_drop]
      congr 1; omega
    rw [List.getElem?_eq_getElem hk, List.getElem?_eq_getElem (by omega)] at e
    exact Option.some.inj e

theorem ins_elems {w w' : World} {N N' : Blk} {t : Ty} {xs : List t.den} {y : t.den} {vals vvals vals' : Array Value} {i : Nat} (hi : i ≤ xs.length) (hN : ∀ b, N b → N' b) (hs : SameOn N w w')
    (h1 : ∀ (k : Nat) (h : k < xs.length), ∃ us : List Value, Rd t w N us xs[k] ∧ ∀ (j : Nat) (u : Value), us[j]? = some u → vals[k * t.size + j]? = some u)
    (h2 : ∃ us : List Value, Rd t w N us y ∧ ∀ (j : Nat) (u : Value), us[j]? = some u → vvals[j]? = some u) (hc : InsCells vals vvals xs.length i t.size vals') :
    ∀ (k : Nat) (h : k < (pIns xs i y).length), ∃ us : List Value, Rd t w' N' us (pIns xs i y)[k] ∧ ∀ (j : Nat) (u : Value), us[j]? = some u → vals'[k * t.size + j]? = some u := by
  intro k hk
  have hl := pIns_len (y := y) hi
  have kz : (k + 1) * t.size ≤ (xs.length + 1) * t.size := Nat.mul_le_mul_right _ (by omega)
  rw [Nat.add_mul, Nat.one_mul] at kz
  rcases pIns_get hi hk with ⟨hki, hk', e⟩ | ⟨hki, e⟩ | ⟨hki, hk', e⟩
  · obtain ⟨us, hr, hg⟩ := h1 k hk'
    refine ⟨us, by rw [e]; exact hr.mono hN hs, fun j u hj => ?_⟩
    have hjz : j < t.size := by rw [← hr.len]; exact (List.getElem?_eq_some_iff.1 hj).1
    have : (k + 1) * t.size ≤ i * t.size := Nat.mul_le_mul_right _ hki
    rw [Nat.add_mul, Nat.one_mul] at this
    rw [hc _ (by omega), if_pos (by omega)]
    exact hg j u hj
  · obtain ⟨us, hr, hg⟩ := h2
    subst hki
    refine ⟨us, by rw [e]; exact hr.mono hN hs, fun j u hj => ?_⟩
    have hjz : j < t.size := by rw [← hr.len]; exact (List.getElem?_eq_some_iff.1 hj).1
    rw [hc _ (by omega), if_neg (by omega), if_pos (by omega), Nat.add_sub_cancel_left]
    exact hg j u hj
  · obtain ⟨us, hr, hg⟩ := h1 (k - 1) hk'
    refine ⟨us, by rw [e]; exact hr.mono hN hs, fun j u hj => ?_⟩
    have hjz : j < t.size := by rw [← hr.len]; exact (List.getElem?_eq_some_iff.1 hj).1
    have h3 : (i + 1) * t.size ≤ k * t.size := Nat.mul_le_mul_right _ hki
    rw [Nat.add_mul, Nat.one_mul] at h3
    have h4 : k * t.size = (k - 1) * t.size + t.size := by
      have : k = k - 1 + 1 := by omega
      conv => lhs; rw [this, Nat.add_mul, Nat.one_mul]
    rw [hc _ (by omega), if_neg (by omega), if_neg (by omega)]
    have : k * t.size + j - t.size = (k - 1) * t.size + j := by omega
    rw [this]
    exact hg j u hj

abbrev insShape (t : Ty) : Shape := ⟨[.one (.own 0), .one (.rd (.int .i64)), .one (.own 1)], [.row t, .row t]⟩
abbrev insPre (t : Ty) (bytes : Nat) (x : (insShape t).den) : List Prop := [pIn x.1.2.1 (pLen x.2.1), pLen x.2.2.1 = 1, pRoom (pPlus (pLen x.2.1) 1) bytes]
abbrev insVal (t : Ty) (x : (insShape t).den) : denVars [.slot 0 true t] := (pIns x.2.1 (pNat x.1.2.1) (pGet t x.2.2.1 0), ())

theorem meets_ins {P : Program} {g : Nat → Option Gl} {K : FuncId} {fn : Func} (hf : P.funcs[K]? = some fn) (hb : fn.body.isSome = true) (hn : (fn.name == "runtime.NumGoroutine") = false) {t : Ty} {bytes : Nat} (hz : 0 < t.size)
    (hw : InsWalk P K t.size bytes) : Meets P g K (shCtr (insShape t) (insPre t bytes) [0] [.slot 0 true t] (insVal t)) := by
  refine ⟨⟨fn, hf, hb, hn⟩, fun args m0 obs r m1 hc hp => ?_⟩
  unfold shCtr at hc
  split at hc
  · rename_i x hx
    simp only [Option.some.injEq, Prod.mk.injEq] at hc
    obtain ⟨rfl, hrm⟩ := hc
    refine shape_spec hx ?_
    obtain ⟨⟨_, i, _, _⟩, xs, ys, u⟩ := x
    have hi : 0 ≤ i ∧ i < (xs.length : Int) := hp _ List.mem_cons_self
    have hy : ys.length = 1 := hp _ (List.mem_cons_of_mem _ List.mem_cons_self)
    have hroom : (xs.length + 1) * bytes ≤ 140737488351232 := hp _ (List.mem_cons_of_mem _ (List.mem_cons_of_mem _ List.mem_cons_self))
    clear hp
    have key : ∀ i : Int, 0 ≤ i ∧ i < (xs.length : Int) → ∃ j : Nat, i = (j : Int) ∧ j < xs.length := fun i h => ⟨i.toNat, by omega, by omega⟩
    obtain ⟨j, rfl, hj⟩ := key i hi
    match ys, hy with
    | [y], _ =>
    have er : r = .v false [.hs 2] := (congrArg Prod.fst hrm).symm
    have em : m1 = [(2, some (.row t (pIns xs j y))), (0, none)] := (congrArg Prod.snd hrm).symm
    subst er em
    clear hrm hx
    intro w N ρ vs hgl hmr hargs hai hmi
    have hm0 : memOf (Shape.mem (insShape t) ⟨⟨(), (j : Int), (), ()⟩, xs, [y], u⟩) = fun id => if id = 0 then some (.row t xs) else if id = 1 then some (.row t [y]) else none := by
      funext id
      match id with
      | 0 => rfl
      | 1 => rfl
      | n + 2 => rfl
    have hm1 : memOf ([(2, some (.row t (pIns xs j y))), (0, none)] ++ Shape.mem (insShape t) ⟨⟨(), (j : Int), (), ()⟩, xs, [y], u⟩) = fun id => if id = 2 then some (.row t (pIns xs j y)) else if id = 1 then some (.row t [y]) else none := by
      funext id
      match id with
      | 0 => rfl
      | 1 => rfl
      | 2 => rfl
      | n + 3 => rfl
    rw [hm0] at hmr hargs
    rw [hm0, hm1]
    have ho0 := hmr.obj 0 _ rfl
    have ho1 := hmr.obj 1 _ rfl
    cases hargs with
    | cons a0 r0 => cases r0 with
      | cons a1 r1 => cases r1 with
        | cons a2 r2 => cases r2 with
          | nil =>
    rename_i v0 v1 v2
    obtain ⟨c0, e0, a0⟩ := a0
    obtain rfl : C.hs 0 = c0 := (List.cons.inj e0).1
    obtain ⟨c1, e1, a1⟩ := a1
    obtain rfl : C.int .i64 (j : Int) = c1 := (List.cons.inj e1).1
    obtain ⟨c2, e2, a2⟩ := a2
    obtain rfl : C.hs 1 = c2 := (List.cons.inj e2).1
    have a0 := a0.2 t xs rfl
    have a1 : v1 = .int .i64 (j : Int) := a1
    have a2 := a2.2 t [y] rfl
    obtain ⟨hl0, hr0⟩ := ho0
    obtain ⟨b, vals, T, hA, hh, hvs, hel⟩ := hr0 (by omega)
    obtain ⟨hl1, hr1⟩ := ho1
    simp only [List.length_singleton] at hl1 a2
    obtain ⟨vb, vvals, T', hA', hh', hvs', hel'⟩ := hr1 (by omega)
    rw [hA] at a0
    rw [hA'] at a2
    subst a0 a1 a2
    have hne : b ≠ vb := fun e => by
      have := hmr.inj 0 1 _ _ rfl rfl (show 0 < (ρ 0).cap by omega) (show 0 < (ρ 1).cap by omega) (by rw [hA, hA', e])
      cases this
    have one0 : ∀ (q : Nat) v, q < xs.length * t.size → vals[q]? = some v → v.oneCell' = true := fun q v hq hv => by
      have hk : q / t.size < xs.length := (Nat.div_lt_iff_lt_mul hz).2 hq
      obtain ⟨us, hr, hg⟩ := hel _ hk
      have hjz : q % t.size < us.length := by rw [hr.len]; exact Nat.mod_lt _ hz
      have := hg (q % t.size) _ (List.getElem?_eq_getElem hjz)
      rw [Nat.mul_comm, Nat.div_add_mod, hv] at this
      rw [Option.some.inj this]
      exact hr.one _ (List.getElem_mem hjz)
    obtain ⟨us1, hru, hgu⟩ := hel' 0 (by simp)
    simp only [Nat.zero_mul, Nat.zero_add] at hgu
    have one1 : ∀ (q : Nat) v, q < t.size → vvals[q]? = some v → v.oneCell' = true := fun q v hq hv => by
      have hjz : q < us1.length := by rw [hru.len]; exact hq
      have := hgu q _ (List.getElem?_eq_getElem hjz)
      rw [hv] at this
      rw [Option.some.inj this]
      exact hru.one _ (List.getElem_mem hjz)
    refine (hw w b vb (ρ 0).cap (ρ 1).cap xs.length j vals vvals T T' hj hl0.1 hl0.2 (by omega) hne hroom hh hvs hh' hvs' one0 one1).mono fun e w' hpost => ?_
    obtain ⟨hos, htape, hout, hpost⟩ := hpost
    have hlen : (pIns xs j y).length = xs.length + 1 := pIns_len (by omega)
    have h2 : ∃ us : List Value, Rd t w N us y ∧ ∀ (j : Nat) (u : Value), us[j]? = some u → vvals[j]? = some u := ⟨us1, hru, hgu⟩
    rcases hpost with ⟨hfit, rfl, hsz, hoth, vals', hh2, hvs2, hcells⟩ | ⟨cap', vals', T2, hge, hc63, rfl, hpush, hvs2, hcells⟩
    · -- in place
      have hgone : Gone ρ (fun id => if id = 0 then some (Obj.row t xs) else if id = 1 then some (Obj.row t [y]) else none) [0] b := ⟨0, by simp, t, xs, rfl, by omega, hA⟩
      obtain ⟨ht, hs, hmr', hown⟩ := hmr.take (w' := w') (ρ' := fun id => if id = 2 then ⟨some ⟨b, 0, none⟩, (ρ 0).cap⟩ else ρ id) (m' := fun id => if id = 2 then some (.row t (pIns xs j y)) else if id = 1 then some (.row t [y]) else none) (nx := 2) (p := ⟨some ⟨b, 0, none⟩, (ρ 0).cap⟩) (zs := pIns xs j y) (D := [0]) rfl
        (fun id o' ho hc => by
          have ho : (if id = 0 then some (Obj.row t xs) else if id = 1 then some (Obj.row t [y]) else none) = some o' := ho
          split at ho
          · cases ho; cases hc
          · split at ho
            · cases ho; cases hc
            · cases ho)
        (fun _ => ⟨0, by simp, t, xs, rfl, by omega, hA⟩) (fun k hk => hoth k fun e => hk (e ▸ hgone)) hsz
        (fun id => by
          match id with
          | 0 => rfl
          | 1 => rfl
          | 2 => rfl
          | n + 3 => rfl) (fun _ => rfl)
        (fun hs ht => by
          refine ⟨by simp only [if_pos]; rw [hlen]; exact ⟨hfit, hl0.2⟩, fun _ => ⟨b, vals', T, by simp only [if_pos], hh2, by simp only [if_pos]; exact hvs2, ?_⟩⟩
          exact ins_elems (by omega) (fun _ h => h) hs hel h2 hcells)
      refine ⟨_, _, N, rfl, fun n hn => ?_, fun _ h => h, hmr', ⟨_, rfl, ⟨_, _, _, rfl⟩, fun t' zs hz => ?_⟩, ⟨hos, htape, hout, by rw [hsz]; exact Nat.le_refl _, fun k hk hx => hoth k fun e => hx (e ▸ gone_own hgone)⟩, fun b hb => .inl (hown b hb), fun b hb => .inl hb⟩
      · have hn : n < 2 := hn
        show (if n = 2 then _ else ρ n) = ρ n
        rw [if_neg (by omega)]
      · have hz : some (Obj.row t (pIns xs j y)) = some (.row t' zs) := hz
        simp only [Option.some.injEq, Obj.row.injEq] at hz
        obtain ⟨rfl, hz⟩ := hz
        have hz := eq_of_heq hz
        subst hz
        show _ = Value.slice (some ⟨b, 0, none⟩) (pIns xs j y).length (ρ 0).cap
        rw [hlen]
    · -- a new block
      have hlt : ∀ k, k < w.heap.size → w'.heap[k]? = w.heap[k]? := fun k hk => push_old hpush hk
      obtain ⟨ht, hN, hs, hmr', hown⟩ := hmr.new (w' := w') (ρ' := fun id => if id = 2 then ⟨some ⟨w.heap.size, 0, none⟩, cap'⟩ else ρ id) (m' := fun id => if id = 2 then some (.row t (pIns xs j y)) else if id = 1 then some (.row t [y]) else none) (N' := fun b => N b ∨ Gone ρ (fun id => if id = 0 then some (Obj.row t xs) else if id = 1 then some (Obj.row t [y]) else none) [0] b) (nx := 2) (cap := cap') (D := [0]) (o := .row t (pIns xs j y)) hpush rfl
        (fun id o' ho hc => by
          have ho : (if id = 0 then some (Obj.row t xs) else if id = 1 then some (Obj.row t [y]) else none) = some o' := ho
          split at ho
          · cases ho; cases hc
          · split at ho
            · cases ho; cases hc
            · cases ho)
        (fun id => by
          match id with
          | 0 => rfl
          | 1 => rfl
          | 2 => rfl
          | n + 3 => rfl) (fun _ => rfl) (fun _ => Iff.rfl)
        (by
          refine ⟨by simp only [if_pos]; rw [hlen]; exact ⟨hge, hc63⟩, fun _ => ⟨w.heap.size, vals', T2, by simp only [if_pos], push_new hpush, by simp only [if_pos]; exact hvs2, ?_⟩⟩
          exact ins_elems (by omega) (fun _ h => .inl h) (fun b hb => push_old hpush (hmr.nlt b hb)) hel h2 hcells)
      refine ⟨_, _, _, rfl, fun n hn => ?_, hN, hmr', ⟨_, rfl, ⟨_, _, _, rfl⟩, fun t' zs hz => ?_⟩, ⟨hos, htape, hout, by rw [hpush, Array.size_push]; omega, fun k hk hx => hlt k hk⟩, fun b hb => hown b hb, fun b hb => hb.elim .inl fun hg => .inr (.inr (gone_own hg))⟩
      · have hn : n < 2 := hn
        show (if n = 2 then _ else ρ n) = ρ n
        rw [if_neg (by omega)]
      · have hz : some (Obj.row t (pIns xs j y)) = some (.row t' zs) := hz
        simp only [Option.some.injEq, Obj.row.injEq] at hz
        obtain ⟨rfl, hz⟩ := hz
        have hz := eq_of_heq hz
        subst hz
        show _ = Value.slice (some ⟨w.heap.size, 0, none⟩) (pIns xs j y).length cap'
        rw [hlen]
  · cases hc


end Go.Proofs.YtkhnakdmkhidbaaDoor

/- Plain words of the store: a transaction that ends. No condition. -/
namespace Go.Proofs.YtkhnakdmkhidbaaDoor
open Go.RowKit


def isT (t : TxnD) (a b : Int) : Bool := pAndB (pEq t.1 a) (pEq t.2.1 b)
def isTL (a b : Int) (x : LockD) : Bool := isT (x.1, x.2.1, ()) a b
def isTD (a b : Int) (x : DoubtD) : Bool := isT (x.1, x.2.1, ()) a b
def noTL (l : List LockD) (a b : Int) : List LockD := l.filter fun x => !isTL a b x
def noTD (l : List DoubtD) (a b : Int) : List DoubtD := l.filter fun x => !isTD a b x
def idxTL (l : List LockD) (a b : Int) : Int := idxOf (fun j => isTL a b (pGet tyLock l j)) l.length
def idxTD (l : List DoubtD) (a b : Int) : Int := idxOf (fun j => isTD a b (pGet tyDoubt l j)) l.length
/-- a row of items with a new value of a key, as the document goes: so far; has it been put? -/
def withK (l : List ItemD) (k v : Int) : Nat → List ItemD × Bool
  | 0 => ([], false)
  | j + 1 => cond (pEq (pGet tyItem l j).1 k) (pApp (withK l k v j).1 [(k, v, pAdd .i64 (pGet tyItem l j).2.2.1 1, ())], true)
      (cond (pGt (pGet tyItem l j).1 k && !(withK l k v j).2) (pApp (pApp (withK l k v j).1 [(k, v, 1, ())]) [pGet tyItem l j], true) (pApp (withK l k v j).1 [pGet tyItem l j], (withK l k v j).2))
def withF (l : List ItemD) (k v : Int) : List ItemD := cond (withK l k v l.length).2 (withK l k v l.length).1 (pApp (withK l k v l.length).1 [(k, v, 1, ())])
def endI (is : List ItemD) (ls : List LockD) (a b : Int) (g : Bool) : Nat → List ItemD
  | 0 => is
  | j + 1 => cond (isTL a b (pGet tyLock ls j) && ((pGet tyLock ls j).2.2.2.1 && g)) (withF (endI is ls a b g j) (pGet tyLock ls j).2.2.1 (pGet tyLock ls j).2.2.2.2.1) (endI is ls a b g j)
def overF (os : List TxnD) (a b : Int) : List TxnD := cond (pGe (idxTxnF os (a, b, ())) 0) os (pApp os [(a, b, ())])
def endE (s : StoD) (t : TxnD) : Int := askE s t 0
def endS (s : StoD) (t : TxnD) (g : Bool) : StoD := cond (pEq (endE s t) 0) (endI s.1 s.2.1 t.1 t.2.1 g s.2.1.length, noTL s.2.1 t.1 t.2.1, noTD s.2.2.1 t.1 t.2.1, overF s.2.2.2.1 t.1 t.2.1, ()) noSto

def indexTLInv (l : List LockD) (a b : Int) : Int × Unit → Prop := FindInv (fun j => isTL a b (pGet tyLock l j)) l.length
def indexTLMu (l : List LockD) (_ _ : Int) : Int × Unit → Nat := UpMu l.length
def indexTDInv (l : List DoubtD) (a b : Int) : Int × Unit → Prop := FindInv (fun j => isTD a b (pGet tyDoubt l j)) l.length
def indexTDMu (l : List DoubtD) (_ _ : Int) : Int × Unit → Nat := UpMu l.length
def delTLInv (l : List LockD) (a b : Int) : Int × Int × List LockD × Unit → Prop := DelAt (t := tyLock) (isTL a b) l
def delTLMu (l : List LockD) (_ _ : Int) : Int × Int × List LockD × Unit → Nat := fun y => l.length - y.1.toNat
def delTDInv (l : List DoubtD) (a b : Int) : Int × Int × List DoubtD × Unit → Prop := DelAt (t := tyDoubt) (isTD a b) l
def delTDMu (l : List DoubtD) (_ _ : Int) : Int × Int × List DoubtD × Unit → Nat := fun y => l.length - y.1.toNat
def withIInv (l : List ItemD) (k v : Int) : Int × List ItemD × Bool × Unit → Prop := fun y => ∃ j : Nat, y = ((j : Int), (withK l k v j).1, (withK l k v j).2, ()) ∧ j ≤ l.length
def withIMu (l : List ItemD) (_ _ : Int) : Int × List ItemD × Bool × Unit → Nat := fun y => l.length - y.1.toNat
abbrev EndT := List ItemD → List LockD → List DoubtD → List TxnD → Int → Int → Bool → Int × StoD × Unit → Prop
abbrev EndM := List ItemD → List LockD → List DoubtD → List TxnD → Int → Int → Bool → Int × StoD × Unit → Nat
def endAInv : EndT := fun si sl sd so a b g y => ∃ k : Nat, y = ((k : Int), (endI si sl a b g k, sl, sd, so, ()), ()) ∧ k ≤ sl.length
def endAMu : EndM := fun _ sl _ _ _ _ _ y => sl.length - y.1.toNat
def endBInv : EndT := fun si sl _ so a b g y => ∃ k : Nat, y = ((k : Int), (endI si sl a b g k, noTL (sl.take k) a b, [], overF so a b, ()), ()) ∧ k ≤ sl.length
def endBMu : EndM := fun _ sl _ _ _ _ _ y => sl.length - y.1.toNat
def endCInv : EndT := fun si sl sd so a b g y => ∃ k : Nat, y = ((k : Int), (endI si sl a b g sl.length, noTL sl a b, noTD (sd.take k) a b, overF so a b, ()), ()) ∧ k ≤ sd.length
def endCMu : EndM := fun _ _ sd _ _ _ _ y => sd.length - y.1.toNat


end Go.Proofs.YtkhnakdmkhidbaaDoor

/- Plain words of a configuration, of a site: what may be, what is answered. No condition. -/
namespace Go.Proofs.YtkhnakdmkhidbaaDoor
open Go.RowKit

abbrev tyN : Ty := .pair tI .unit
abbrev tyLab : Ty := .pair tI (.pair tI .unit)
abbrev ND := Int × Unit
abbrev LabD := Int × Int × Unit
abbrev CfgD := Int × List LabD × Int × Unit
abbrev pLab : Par := .agg [.rd tI, .rd tI]
abbrev pCfg : Par := .agg [.rd tI, .rd (.sl tyLab), .rd tI]
abbrev wLab : TyW := wStruct [wInt, wInt]
abbrev wCfg : TyW := wStruct [wInt, wSl wLab 16, wInt]

abbrev tyRec : Ty := .pair tI (.pair tI (.pair tI (.pair tI (.pair tI (.pair tI (.pair .bool (.pair (.sl tyN) .unit)))))))
abbrev tyNote : Ty := .pair tI (.pair tI (.pair .bool (.pair .bool .unit)))
abbrev RecD := Int × Int × Int × Int × Int × Int × Bool × List ND × Unit
abbrev NoteD := Int × Int × Bool × Bool × Unit
def labF (a : LabD) : Bool := inF a.1 0 9 && inF a.2.1 0 15
def eqLabAt (l : List LabD) (k i : Nat) : Bool := pAndB (pEq (pGet tyLab l k).1 (pGet tyLab l i).1) (pEq (pGet tyLab l k).2.1 (pGet tyLab l i).2.1)
/-- what is wrong with a label, behind those ahead of it -/
def labE (l : List LabD) (i : Nat) : Int := cond (labF (pGet tyLab l i)) (cond (allUpto (fun k => !eqLabAt l k i) i) 0 7) 2
def cfgF (c : CfgD) : Int :=
  cond (inF c.1 1 4) (cond (inF (pInt c.2.1.length) 1 6) (cond (pEq (firstE (labE c.2.1) c.2.1.length) 0) (cond (inF c.2.2.1 1 1048576) 0 2) (firstE (labE c.2.1) c.2.1.length)) 1) 2
def lCheckAInv (_ : Int) (cl : List LabD) (_ : Int) : denVars [.slot 28 false tI] → Prop := FirstInv (labE cl) cl.length
def lCheckAMu (_ : Int) (cl : List LabD) (_ : Int) : denVars [.slot 28 false tI] → Nat := UpMu cl.length
def lCheckBInv (_ : Int) (cl : List LabD) (_ : Int) (i : Int) : denVars [.slot 41 false tI] → Prop := UpInv (fun k => !eqLabAt cl k (pNat i)) (pNat i)
def lCheckBMu (_ : Int) (_ : List LabD) (_ : Int) (i : Int) : denVars [.slot 41 false tI] → Nat := UpMu (pNat i)

def eqNote (a b : NoteD) : Bool := pAndB (pEq a.1 b.1) (pAndB (pEq a.2.1 b.2.1) (pAndB (pBeq a.2.2.1 b.2.2.1) (pBeq a.2.2.2.1 b.2.2.2.1)))
def eqNoteAt (l m : List NoteD) (j : Nat) : Bool := eqNote (pGet tyNote l j) (pGet tyNote m j)
def sameNotesF (l m : List NoteD) : Bool := decide (l.length = m.length) && allUpto (eqNoteAt l m) l.length
def sameNotesInv (l m : List NoteD) : Int × Unit → Prop := fun y => l.length = m.length ∧ UpInv (eqNoteAt l m) l.length y
def sameNotesMu (l _m : List NoteD) : Int × Unit → Nat := UpMu l.length
/- a force -/
/- what is the same -/
def eqNAt (l m : List ND) (j : Nat) : Bool := pEq (pGet tyN l j).1 (pGet tyN m j).1
def sameIntsF (l m : List ND) : Bool := decide (l.length = m.length) && allUpto (eqNAt l m) l.length
def sameIntsInv (l m : List ND) : Int × Unit → Prop := fun y => l.length = m.length ∧ UpInv (eqNAt l m) l.length y
def sameIntsMu (l _m : List ND) : Int × Unit → Nat := UpMu l.length
end Go.Proofs.YtkhnakdmkhidbaaDoor

/- Plain words of messages. No condition. -/
namespace Go.Proofs.YtkhnakdmkhidbaaDoor
open Go.RowKit

abbrev tyParts : Ty := .pair .bool (.pair .bool (.pair .bool (.pair .bool (.pair .bool (.pair .bool (.pair .bool (.pair .bool .unit)))))))
abbrev PartsD := Bool × Bool × Bool × Bool × Bool × Bool × Bool × Bool × Unit
def wtxF (c : CfgD) (s n : Int) : Bool := pLe 0 s && pLt s c.1 && inF n 1 1048576
end Go.Proofs.YtkhnakdmkhidbaaDoor

/- Plain words of records. No condition. -/
namespace Go.Proofs.YtkhnakdmkhidbaaDoor
open Go.RowKit

abbrev pRec : Par := .agg [.rd tI, .rd tI, .rd tI, .rd tI, .rd tI, .rd tI, .rd .bool, .rd (.sl tyN)]
abbrev wRec : TyW := wStruct [wInt, wTxn, wInt, wInt, wInt, wBool, wSl wInt 8]
/-- what records have, by their kinds -/
def recordsT : List PartsD := [(false, false, false, false, false, false, false, false, ()), (false, true, true, false, true, false, false, false, ()), (false, false, false, false, false, true, false, false, ()), (false, false, false, false, false, false, false, true, ()), (false, false, false, false, false, false, false, false, ()), (false, false, false, false, false, false, false, false, ()), (false, false, false, false, false, true, false, false, ())]
def tabsR : Nat → Option Gl := look [(1, Gl.rows tyParts recordsT)]

def siteAt (cn : Int) (l : List ND) (i : Nat) : Bool := pLe 0 (pGet tyN l i).1 && pLt (pGet tyN l i).1 cn && (decide (i = 0) || pLt (pGet tyN l (i - 1)).1 (pGet tyN l i).1)
def recRange (c : CfgD) (r : RecD) : Bool := wtxF c r.2.1 r.2.2.1 && inF r.2.2.2.1 0 7 && inF r.2.2.2.2.1 0 1073741824 && inF r.2.2.2.2.2.1 0 1048576 && allUpto (siteAt c.1 r.2.2.2.2.2.2.2.1) r.2.2.2.2.2.2.2.1.length
def recFormR (p : PartsD) (r : RecD) : Bool := (p.2.1 || pEq r.2.2.2.1 0) && (p.2.2.1 || pEq r.2.2.2.2.1 0) && (p.2.2.2.2.1 || pEq r.2.2.2.2.2.1 0) && (p.2.2.2.2.2.1 || !r.2.2.2.2.2.2.1) && (p.2.2.2.2.2.2.2.1 || pEq (pInt r.2.2.2.2.2.2.2.1.length) 0)
def recForm (r : RecD) : Bool := recFormR (pGet tyParts recordsT (pNat r.1)) r
def recF (c : CfgD) (r : RecD) : Int := cond (pEq (cfgF c) 0) (cond (inF r.1 1 6) (cond (recRange c r) (cond (recForm r) 0 4) 2) 3) (cfgF c)
def recSInv (cn : Int) (_ : List LabD) (_ _ _ _ _ _ _ : Int) (_ : Bool) (rl : List ND) : Int × Unit → Prop := UpInv (siteAt cn rl) rl.length
def recSMu (_ : Int) (_ : List LabD) (_ _ _ _ _ _ _ : Int) (_ : Bool) (rl : List ND) : Int × Unit → Nat := UpMu rl.length

/-- the tables lie where they are to lie -/
def TabsR (W : World) : Prop := ∀ g gl, tabsR g = some gl → GlobR W (fun b => b < W.heap.size) g gl
theorem tabsR_ok : ∀ W, TabsR W → ∀ g gl, tabsR g = some gl → GlobR W (fun b => b < W.heap.size) g gl := fun _ h => h


end Go.Proofs.YtkhnakdmkhidbaaDoor

/- Plain words of what a site hears. No condition. -/
namespace Go.Proofs.YtkhnakdmkhidbaaDoor
open Go.RowKit

abbrev vStoR : List (Bool × Ty) := [(false, .sl tyItem), (false, .sl tyLock), (false, .sl tyDoubt), (false, .sl tyTxn)]
def StoOk (s : StoD) : Prop := (s.1.length < 4611686018427387904 ∧ s.2.1.length < 4611686018427387904 ∧ s.2.2.1.length < 4611686018427387904 ∧ s.2.2.2.1.length < 4611686018427387904) ∧
  pRoom (pLen s.1) 24 ∧ pRoom (pLen s.2.1) 48 ∧ pRoom (pLen s.2.2.1) 24 ∧ pRoom (pLen s.2.2.2.1) 16
/- loops -/
end Go.Proofs.YtkhnakdmkhidbaaDoor

/- Plain words of what comes back from a tape. No condition. -/
namespace Go.Proofs.YtkhnakdmkhidbaaDoor
open Go.RowKit

abbrev tyTask : Ty := .pair .bool (.pair tI (.pair tI (.pair tI (.pair tI (.pair tI (.pair .bool (.pair .bool .unit)))))))
abbrev tyJob : Ty := .pair tI (.pair tI (.pair (.sl tyTask) (.pair (.sl tyN) (.pair tI (.pair tI .unit)))))
abbrev TaskD := Bool × Int × Int × Int × Int × Int × Bool × Bool × Unit
abbrev JobD := Int × Int × List TaskD × List ND × Int × Int × Unit
abbrev DeskD := Int × List JobD × Unit
abbrev pJob : Par := .agg [.rd tI, .rd tI, .rd (.sl tyTask), .rd (.sl tyN), .rd tI, .rd tI]
abbrev pDesk : Par := .agg [.rd tI, .rd (.sl tyJob)]
abbrev MemD := List ItemD × List LockD × List DoubtD × List TxnD × Int × List JobD × List NoteD × Unit
abbrev vMem : List (Bool × Ty) := [(false, tI), (false, .sl tyItem), (false, .sl tyLock), (false, .sl tyDoubt), (false, .sl tyTxn), (false, tI), (true, tyJob), (true, tyNote)]
abbrev vDesk : List (Bool × Ty) := [(false, tI), (true, tyJob)]

def posJ (l : List JobD) (k : Int) : Int := match (List.range l.length).find? (fun j => pGe (pGet tyJob l j).1 k) with
  | some j => (j : Int)
  | none => (l.length : Int)
def keyAtJ (l : List JobD) (k : Int) (j : Nat) : Bool := pEq (pGet tyJob l j).1 k
def idxKeyJ (l : List JobD) (k : Int) : Int := idxOf (keyAtJ l k) l.length
def sortJ (l : List JobD) : Bool := allUpto (fun j => decide (j = 0) || pLt (pGet tyJob l (j - 1)).1 (pGet tyJob l j).1) l.length
def BinInvJ (l : List JobD) (k : Int) (y : Int × Int × Unit) : Prop :=
  ∃ i j : Nat, y = ((i : Int), (j : Int), ()) ∧ i ≤ j ∧ j ≤ l.length ∧ (∀ m, m < i → pGe (pGet tyJob l m).1 k = false) ∧ ∀ m, j ≤ m → m < l.length → pGe (pGet tyJob l m).1 k = true
def binJInv (l : List JobD) (k : Int) : denVars [.slot 9 false tI, .slot 10 false tI] → Prop := BinInvJ l k
def binJMu (_ : List JobD) (_ : Int) : denVars [.slot 9 false tI, .slot 10 false tI] → Nat := fun y => y.2.1.toNat - y.1.toNat
/-- numbers of jobs are small -/
def JobsIn (l : List JobD) : Prop := ∀ q ∈ l, inF q.1 1 1048576 = true
def intsCopyInv (l : List ND) : Int × List ND × Unit → Prop := fun y => ∃ k : Nat, y = ((k : Int), l.take k, ()) ∧ k ≤ l.length
def intsCopyMu (l : List ND) : Int × List ND × Unit → Nat := fun y => l.length - y.1.toNat
def isDJ (x : JobD) (rs rn me : Int) : Bool := pAndB (pEq rs me) (pEq rn x.1)
def delJ (l : List JobD) (rs rn me : Int) : List JobD := l.filter fun x => !isDJ x rs rn me
def idxDJ (l : List JobD) (rs rn me : Int) : Int := idxOf (fun j => isDJ (pGet tyJob l j) rs rn me) l.length
def mSto (m : MemD) : StoD := (m.1, m.2.1, m.2.2.1, m.2.2.2.1, ())
def withS (m : MemD) (s : StoD) : MemD := (s.1, s.2.1, s.2.2.1, s.2.2.2.1, m.2.2.2.2)
def withJ (m : MemD) (js : List JobD) : MemD := (m.1, m.2.1, m.2.2.1, m.2.2.2.1, m.2.2.2.2.1, js, m.2.2.2.2.2.2)
def withX (m : MemD) (n : Int) : MemD := (m.1, m.2.1, m.2.2.1, m.2.2.2.1, n, m.2.2.2.2.2)
def withNs (m : MemD) (ns : List NoteD) : MemD := (m.1, m.2.1, m.2.2.1, m.2.2.2.1, m.2.2.2.2.1, m.2.2.2.2.2.1, ns, ())
def rTxn (r : RecD) : TxnD := (r.2.1, r.2.2.1, ())
def endM (_me : Int) (m : MemD) (t : TxnD) (g : Bool) : MemD := cond (pEq (endE (mSto m) t) 0) (withS m (endS (mSto m) t g)) m
def noComm (me : Int) (m : MemD) (r : RecD) : Bool :=
  pGe (idxKeyJ m.2.2.2.2.2.1 r.2.2.1) 0 || (pNe r.2.1 me || (pGe r.2.2.1 m.2.2.2.2.1 || (pEq (pInt r.2.2.2.2.2.2.2.1.length) 0 || pEq (pInt m.2.2.2.2.2.1.length) 6)))
def jobOf (r : RecD) : JobD := (r.2.2.1, 3, [], r.2.2.2.2.2.2.2.1, 0, 0, ())
def commM (me : Int) (m : MemD) (r : RecD) : MemD := cond (noComm me m r) m (withJ m (pIns m.2.2.2.2.2.1 (pNat (posJ m.2.2.2.2.2.1 r.2.2.1)) (jobOf r)))
def hitR (r : RecD) (x : NoteD) : Bool := pAndB (pEq x.1 r.2.1) (pEq x.2.1 r.2.2.1) && pNot (pBeq x.2.2.1 r.2.2.2.2.2.2.1)
def dmgR (r : RecD) (x : NoteD) : NoteD := cond (hitR r x) (x.1, x.2.1, x.2.2.1, true, ()) x
def damRK (r : RecD) (ns : List NoteD) (k : Nat) : List NoteD := (ns.take k).map (dmgR r) ++ ns.drop k
def stepM (me : Int) (m : MemD) (r : RecD) : MemD :=
  cond (pEq r.1 1) (cond (pEq (writeE (mSto m) (rTxn r) r.2.2.2.1 r.2.2.2.2.1 r.2.2.2.2.2.1) 0) (withS m (writeS (mSto m) (rTxn r) r.2.2.2.1 r.2.2.2.2.1 r.2.2.2.2.2.1)) m)
  (cond (pEq r.1 2) (withNs (endM me m (rTxn r) r.2.2.2.2.2.2.1) (m.2.2.2.2.2.2.1.map (dmgR r)))
  (cond (pEq r.1 6) (withNs (endM me m (rTxn r) r.2.2.2.2.2.2.1) (pApp m.2.2.2.2.2.2.1 [(r.2.1, r.2.2.1, r.2.2.2.2.2.2.1, false, ())]))
  (cond (pEq r.1 3) (commM me m r)
  (cond (pEq r.1 4) (withJ m (delJ m.2.2.2.2.2.1 r.2.1 r.2.2.1 me))
  (cond (pEq r.1 5) (cond (pEq r.2.1 me) (withX m (pMax m.2.2.2.2.1 (pAdd .i64 r.2.2.1 1))) m) m)))))
/-- a store that is small -/
def SmallS (s : StoD) : Prop := s.1.length ≤ 32 ∧ s.2.1.length ≤ 25 ∧ s.2.2.1.length ≤ 25 ∧ s.2.2.2.1.length ≤ 4194305
def MemOk (m : MemD) : Prop := SmallS (mSto m) ∧ (m.2.2.2.2.2.1.length ≤ 6 ∧ sortJ m.2.2.2.2.2.1 = true ∧ JobsIn m.2.2.2.2.2.1) ∧ m.2.2.2.2.2.2.1.length < 1759218604441
def RecsOk (l : List RecD) : Prop := l.length ≤ 1759218604441 ∧ ∀ q ∈ l, pLen q.2.2.2.2.2.2.2.1 < 4611686018427387904
def mem0 : MemD := ([], [], [], [], 1, [], [], ())
def noMem : MemD := ([], [], [], [], 0, [], [], ())
def memK (me : Int) (l : List RecD) (k : Nat) : MemD := (l.take k).foldl (stepM me) mem0
def recAt (c : CfgD) (l : List RecD) (k : Nat) : Int := recF c (pGet tyRec l k)
def rebE (c : CfgD) (me : Int) (l : List RecD) : Int := cond (pEq (cfgF c) 0) (cond (pLe 0 me && pLt me c.1) (firstE (recAt c l) l.length) 2) (cfgF c)
def rebM (c : CfgD) (me : Int) (l : List RecD) : MemD := cond (pEq (rebE c me l) 0) (memK me l l.length) noMem
def withoutK (l : List JobD) (n : Int) (k : Nat) : List JobD := (List.range k).filterMap fun (i : Nat) => cond (pEq (i : Int) n) none (some (pGet tyJob l i))
def withoutF (l : List JobD) (n : Int) : List JobD := withoutK l n l.length
def eqTask (a b : TaskD) : Bool := pAndB (pBeq a.1 b.1) (pAndB (pEq a.2.1 b.2.1) (pAndB (pEq a.2.2.1 b.2.2.1) (pAndB (pEq a.2.2.2.1 b.2.2.2.1) (pAndB (pEq a.2.2.2.2.1 b.2.2.2.2.1) (pAndB (pEq a.2.2.2.2.2.1 b.2.2.2.2.2.1)
  (pAndB (pBeq a.2.2.2.2.2.2.1 b.2.2.2.2.2.2.1) (pBeq a.2.2.2.2.2.2.2.1 b.2.2.2.2.2.2.2.1)))))))
def eqTaskAt (l m : List TaskD) (j : Nat) : Bool := eqTask (pGet tyTask l j) (pGet tyTask m j)
def sameTasksF (l m : List TaskD) : Bool := decide (l.length = m.length) && allUpto (eqTaskAt l m) l.length
def sameTasksInv (l m : List TaskD) : Int × Unit → Prop := fun y => l.length = m.length ∧ UpInv (eqTaskAt l m) l.length y
def sameTasksMu (l _m : List TaskD) : Int × Unit → Nat := UpMu l.length
def sameJobF (a b : JobD) : Bool := !(bif pNe a.1 b.1 then true else bif pNe a.2.1 b.2.1 then true else bif pNe a.2.2.2.2.1 b.2.2.2.2.1 then true else bif pNe a.2.2.2.2.2.1 b.2.2.2.2.2.1 then true else
  bif pNot (sameTasksF a.2.2.1 b.2.2.1) then true else pNot (sameIntsF a.2.2.2.1 b.2.2.2.1))
def eqJobAt (l m : List JobD) (j : Nat) : Bool := sameJobF (pGet tyJob l j) (pGet tyJob m j)
def sameDeskF (a b : DeskD) : Bool := pEq a.1 b.1 && (decide (a.2.1.length = b.2.1.length) && allUpto (eqJobAt a.2.1 b.2.1) a.2.1.length)
def sameDeskInv (_ : Int) (l : List JobD) (_ : Int) (m : List JobD) : Int × Unit → Prop := fun y => l.length = m.length ∧ UpInv (eqJobAt l m) l.length y
def sameDeskMu (_ : Int) (l : List JobD) (_ : Int) (_m : List JobD) : Int × Unit → Nat := UpMu l.length

/- loops -/
def indexDJInv (js : List JobD) (_ : Int) (rs : Int) (rn : Int) (_ : Int) (_ : Int) (_ : Int) (_ : Bool) (_ : List ND) (me : Int) (_ : List ItemD) (_ : List LockD) (_ : List DoubtD) (_ : List TxnD) (_ : Int) (_ : List NoteD) : Int × Unit → Prop := FindInv (fun j => isDJ (pGet tyJob js j) rs rn me) js.length
def indexDJMu (js : List JobD) (_ : Int) (_ : Int) (_ : Int) (_ : Int) (_ : Int) (_ : Int) (_ : Bool) (_ : List ND) (_ : Int) (_ : List ItemD) (_ : List LockD) (_ : List DoubtD) (_ : List TxnD) (_ : Int) (_ : List NoteD) : Int × Unit → Nat := UpMu js.length
def delDJInv (js : List JobD) (_ : Int) (rs : Int) (rn : Int) (_ : Int) (_ : Int) (_ : Int) (_ : Bool) (_ : List ND) (me : Int) (_ : List ItemD) (_ : List LockD) (_ : List DoubtD) (_ : List TxnD) (_ : Int) (_ : List NoteD) : Int × Int × List JobD × Unit → Prop := DelAt (t := tyJob) (fun x => isDJ x rs rn me) js
def delDJMu (js : List JobD) (_ : Int) (_ : Int) (_ : Int) (_ : Int) (_ : Int) (_ : Int) (_ : Bool) (_ : List ND) (_ : Int) (_ : List ItemD) (_ : List LockD) (_ : List DoubtD) (_ : List TxnD) (_ : Int) (_ : List NoteD) : Int × Int × List JobD × Unit → Nat := fun y => js.length - y.1.toNat
def moneInv (rk : Int) (rs : Int) (rn : Int) (ry : Int) (rv : Int) (ra : Int) (rd : Bool) (rl : List ND) (_ : Int) (_ : List ItemD) (_ : List LockD) (_ : List DoubtD) (_ : List TxnD) (_ : Int) (_ : List JobD) (ns : List NoteD) : Int × List NoteD × Unit → Prop := fun y => ∃ k : Nat, y = ((k : Int), damRK (rk, rs, rn, ry, rv, ra, rd, rl, ()) ns k, ()) ∧ k ≤ ns.length
def moneMu (_ : Int) (_ : Int) (_ : Int) (_ : Int) (_ : Int) (_ : Int) (_ : Bool) (_ : List ND) (_ : Int) (_ : List ItemD) (_ : List LockD) (_ : List DoubtD) (_ : List TxnD) (_ : Int) (_ : List JobD) (ns : List NoteD) : Int × List NoteD × Unit → Nat := fun y => ns.length - y.1.toNat
def jobAtInv (_ : Int) (l : List JobD) (n : Int) : Int × Unit → Prop := FindInv (keyAtJ l n) l.length
def jobAtMu (_ : Int) (l : List JobD) (_ : Int) : Int × Unit → Nat := UpMu l.length
def withoutInv (l : List JobD) (n : Int) : Int × List JobD × Unit → Prop := fun y => ∃ k : Nat, y = ((k : Int), withoutK l n k, ()) ∧ k ≤ l.length
def withoutMu (l : List JobD) (_ : Int) : Int × List JobD × Unit → Nat := fun y => l.length - y.1.toNat


end Go.Proofs.YtkhnakdmkhidbaaDoor
