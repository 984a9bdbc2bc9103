/- Plain words of the store: types of readings, what its functions say. No condition. -/
import Derived.Test.YtkhnakdmkhidbaaFF
namespace Go.Proofs.Ytkhnakdmkhidbaa
open Go.RowKit

abbrev tI : Ty := .int .i64
abbrev tyTxn : Ty := .pair tI (.pair tI .unit)
abbrev tyItem : Ty := .pair tI (.pair tI (.pair tI .unit))
abbrev tyLock : Ty := .pair tI (.pair tI (.pair tI (.pair .bool (.pair tI (.pair tI .unit)))))
abbrev tyDoubt : Ty := .pair tI (.pair tI (.pair tI .unit))
abbrev TxnD := Int × Int × Unit
abbrev ItemD := Int × Int × Int × Unit
abbrev LockD := Int × Int × Int × Bool × Int × Int × Unit
abbrev DoubtD := Int × Int × Int × Unit
abbrev StoD := List ItemD × List LockD × List DoubtD × List TxnD × Unit
abbrev pTxn : Par := .agg [.rd tI, .rd tI]
abbrev pI : Par := .one (.rd tI)
abbrev pSto : Par := .agg [.rd (.sl tyItem), .rd (.sl tyLock), .rd (.sl tyDoubt), .rd (.sl tyTxn)]
abbrev vSto : List (Bool × Ty) := [(true, tyItem), (true, tyLock), (true, tyDoubt), (true, tyTxn)]
abbrev wTxn : TyW := wStruct [wInt, wInt]
abbrev wItem : TyW := wStruct [wInt, wInt, wInt]
abbrev wLock : TyW := wStruct [wTxn, wInt, wBool, wInt, wInt]
abbrev wDoubt : TyW := wStruct [wTxn, wInt]
abbrev wSto : TyW := wStruct [wSl wItem 24, wSl wLock 48, wSl wDoubt 24, wSl wTxn 16]

def inF (x a b : Int) : Bool := pLe a x && pLe x b
def txnF (t : TxnD) : Bool := inF t.1 0 3 && inF t.2.1 1 1048576
def eqTxn (s t : TxnD) : Bool := pEq s.1 t.1 && pEq s.2.1 t.2.1
/-- one item, behind its neighbour -/
def itemOk (l : List ItemD) (i : Nat) : Bool :=
  inF (pGet tyItem l i).1 0 7 && inF (pGet tyItem l i).2.1 0 1073741824 && inF (pGet tyItem l i).2.2.1 1 1048576 && (decide (i = 0) || pLt (pGet tyItem l (i - 1)).1 (pGet tyItem l i).1)
def itemsF (l : List ItemD) : Bool := allUpto (itemOk l) l.length
def itemsInv (l : List ItemD) : denVars [.slot 7 false tI] → Prop := UpInv (itemOk l) l.length
def itemsMu (l : List ItemD) : denVars [.slot 7 false tI] → Nat := UpMu l.length

def eqTxnAt (l m : List TxnD) (j : Nat) : Bool := eqTxn (pGet tyTxn l j) (pGet tyTxn m j)
def eqItemAt (l m : List ItemD) (j : Nat) : Bool := pEq (pGet tyItem l j).1 (pGet tyItem m j).1 && (pEq (pGet tyItem l j).2.1 (pGet tyItem m j).2.1 && pEq (pGet tyItem l j).2.2.1 (pGet tyItem m j).2.2.1)
def eqLockAt (l m : List LockD) (j : Nat) : Bool := pEq (pGet tyLock l j).1 (pGet tyLock m j).1 && (pEq (pGet tyLock l j).2.1 (pGet tyLock m j).2.1 && (pEq (pGet tyLock l j).2.2.1 (pGet tyLock m j).2.2.1 && (pBeq (pGet tyLock l j).2.2.2.1 (pGet tyLock m j).2.2.2.1 && (pEq (pGet tyLock l j).2.2.2.2.1 (pGet tyLock m j).2.2.2.2.1 && pEq (pGet tyLock l j).2.2.2.2.2.1 (pGet tyLock m j).2.2.2.2.2.1))))
def sameTxnsF (l m : List TxnD) : Bool := decide (l.length = m.length) && allUpto (eqTxnAt l m) l.length
def sameTxnsInv (l m : List TxnD) : denVars [.slot 5 false tI] → Prop := fun y => l.length = m.length ∧ UpInv (eqTxnAt l m) l.length y
def sameTxnsMu (l _m : List TxnD) : denVars [.slot 5 false tI] → Nat := UpMu l.length
def sameStoF (s t : StoD) : Bool := decide (s.1.length = t.1.length) && decide (s.2.1.length = t.2.1.length) && decide (s.2.2.1.length = t.2.2.1.length) && sameTxnsF s.2.2.2.1 t.2.2.2.1 &&
  allUpto (eqItemAt s.1 t.1) s.1.length && allUpto (eqLockAt s.2.1 t.2.1) s.2.1.length && allUpto (eqItemAt s.2.2.1 t.2.2.1) s.2.2.1.length

variable (is : List ItemD) (ls : List LockD) (ds : List DoubtD) (os : List TxnD) (is2 : List ItemD) (ls2 : List LockD) (ds2 : List DoubtD) (os2 : List TxnD)
/-- lengths are the same, and what was looked at so far -/
def SameInv (p : Nat → Bool) (n : Nat) (q : Bool) (y : Int × Unit) : Prop := q = true ∧ UpInv p n y
def sameLens : Bool := decide (is.length = is2.length) && decide (ls.length = ls2.length) && decide (ds.length = ds2.length) && sameTxnsF os os2
def sameStoAInv : denVars [.slot 5 false tI] → Prop := SameInv (eqItemAt is is2) is.length (sameLens is ls ds os is2 ls2 ds2 os2)
def sameStoAMu (_ : List LockD) (_ : List DoubtD) (_ : List TxnD) (_ : List ItemD) (_ : List LockD) (_ : List DoubtD) (_ : List TxnD) : denVars [.slot 5 false tI] → Nat := UpMu is.length
def sameStoBInv : denVars [.slot 6 false tI] → Prop := SameInv (eqLockAt ls ls2) ls.length (sameLens is ls ds os is2 ls2 ds2 os2 && allUpto (eqItemAt is is2) is.length)
def sameStoBMu (_ : List ItemD) (ls : List LockD) (_ : List DoubtD) (_ : List TxnD) (_ : List ItemD) (_ : List LockD) (_ : List DoubtD) (_ : List TxnD) : denVars [.slot 6 false tI] → Nat := UpMu ls.length
def sameStoCInv : denVars [.slot 7 false tI] → Prop := SameInv (eqItemAt ds ds2) ds.length (sameLens is ls ds os is2 ls2 ds2 os2 && allUpto (eqItemAt is is2) is.length && allUpto (eqLockAt ls ls2) ls.length)
def sameStoCMu (_ : List ItemD) (_ : List LockD) (ds : List DoubtD) (_ : List TxnD) (_ : List ItemD) (_ : List LockD) (_ : List DoubtD) (_ : List TxnD) : denVars [.slot 7 false tI] → Nat := UpMu ds.length

def idxTxnF (l : List TxnD) (t : TxnD) : Int := idxOf (fun j => eqTxn t (pGet tyTxn l j)) l.length
def doubtIsF (d : DoubtD) (t : TxnD) : Bool := pEq d.1 t.1 && pEq d.2.1 t.2.1
def lockIsF (x : LockD) (t : TxnD) : Bool := pEq x.1 t.1 && pEq x.2.1 t.2.1
def idxLockF (l : List LockD) (t : TxnD) : Int := idxOf (fun j => lockIsF (pGet tyLock l j) t) l.length
def idxDoubtF (l : List DoubtD) (t : TxnD) : Int := idxOf (fun j => doubtIsF (pGet tyDoubt l j) t) l.length
def indexInv (l : List TxnD) (a b : Int) : denVars [.slot 8 false tI] → Prop := FindInv (fun j => eqTxn (a, b, ()) (pGet tyTxn l j)) l.length
def indexMu (l : List TxnD) (_ _ : Int) : denVars [.slot 8 false tI] → Nat := UpMu l.length
def indexFuncDoubtInv (l : List DoubtD) (c d : Int) : denVars [.slot 8 false tI] → Prop := FindInv (fun j => doubtIsF (pGet tyDoubt l j) (c, d, ())) l.length
def indexFuncDoubtMu (l : List DoubtD) (_ _ : Int) : denVars [.slot 8 false tI] → Nat := UpMu l.length
def indexFuncLockInv (l : List LockD) (c d _a : Int) : denVars [.slot 8 false tI] → Prop := FindInv (fun j => lockIsF (pGet tyLock l j) (c, d, ())) l.length
def indexFuncLockMu (l : List LockD) (_ _ _ : Int) : denVars [.slot 8 false tI] → Nat := UpMu l.length

/- what may be: doubts, locks, a store -/
def sameD (l : List DoubtD) (k i : Nat) : Bool := pAndB (pEq (pGet tyDoubt l k).1 (pGet tyDoubt l i).1) (pEq (pGet tyDoubt l k).2.1 (pGet tyDoubt l i).2.1)
def sameT (l : List TxnD) (k i : Nat) : Bool := pAndB (pEq (pGet tyTxn l k).1 (pGet tyTxn l i).1) (pEq (pGet tyTxn l k).2.1 (pGet tyTxn l i).2.1)
def clash (l : List LockD) (k i : Nat) : Bool :=
  pEq (pGet tyLock l k).2.2.1 (pGet tyLock l i).2.2.1 && (pAndB (pEq (pGet tyLock l k).1 (pGet tyLock l i).1) (pEq (pGet tyLock l k).2.1 (pGet tyLock l i).2.1) || (pGet tyLock l k).2.2.2.1 || (pGet tyLock l i).2.2.2.1)
def doubtOkAt (ls : List LockD) (ds : List DoubtD) (os : List TxnD) (i : Nat) : Bool :=
  txnF ((pGet tyDoubt ds i).1, (pGet tyDoubt ds i).2.1, ()) && inF (pGet tyDoubt ds i).2.2.1 0 1048576 && pNot (pGe (idxTxnF os ((pGet tyDoubt ds i).1, (pGet tyDoubt ds i).2.1, ())) 0) &&
    pGe (idxLockF ls ((pGet tyDoubt ds i).1, (pGet tyDoubt ds i).2.1, ())) 0 && allUpto (fun k => !sameD ds k i) i
def overOkAt (os : List TxnD) (i : Nat) : Bool := txnF ((pGet tyTxn os i).1, (pGet tyTxn os i).2.1, ()) && allUpto (fun k => !sameT os k i) i
def lockOkAt (ls : List LockD) (ds : List DoubtD) (i : Nat) : Bool :=
  pGe (idxDoubtF ds ((pGet tyLock ls i).1, (pGet tyLock ls i).2.1, ())) 0 && inF (pGet tyLock ls i).2.2.1 0 7 && inF (pGet tyLock ls i).2.2.2.2.1 0 1073741824 && inF (pGet tyLock ls i).2.2.2.2.2.1 0 1048576 &&
    ((pGet tyLock ls i).2.2.2.1 || (pEq (pGet tyLock ls i).2.2.2.2.1 0 && pEq (pGet tyLock ls i).2.2.2.2.2.1 0)) && allUpto (fun k => !clash ls k i) i
def doubtsF (s : StoD) : Bool := allUpto (doubtOkAt s.2.1 s.2.2.1 s.2.2.2.1) s.2.2.1.length && allUpto (overOkAt s.2.2.2.1) s.2.2.2.1.length
def locksF (s : StoD) : Bool := allUpto (lockOkAt s.2.1 s.2.2.1) s.2.1.length && pLe (pInt s.2.1.length) 24
def stoF (s : StoD) : Bool := itemsF s.1 && doubtsF s && locksF s

abbrev InvI := List ItemD → List LockD → List DoubtD → List TxnD → Int × Unit → Prop
abbrev InvII := List ItemD → List LockD → List DoubtD → List TxnD → Int → Int × Unit → Prop
abbrev MuI := List ItemD → List LockD → List DoubtD → List TxnD → Int × Unit → Nat
abbrev MuII := List ItemD → List LockD → List DoubtD → List TxnD → Int → Int × Unit → Nat
def doubtsAInv : InvI := fun _ ls ds os => UpInv (doubtOkAt ls ds os) ds.length
def doubtsAMu : MuI := fun _ _ ds _ => UpMu ds.length
def doubtsBInv : InvII := fun _ _ ds _ i => UpInv (fun k => !sameD ds k (pNat i)) (pNat i)
def doubtsBMu : MuII := fun _ _ _ _ i => UpMu (pNat i)
def doubtsCInv : InvI := fun _ _ _ os => UpInv (overOkAt os) os.length
def doubtsCMu : MuI := fun _ _ _ os => UpMu os.length
def locksAInv : InvI := fun _ ls ds _ => UpInv (lockOkAt ls ds) ls.length
def locksAMu : MuI := fun _ ls _ _ => UpMu ls.length
def locksBInv : InvII := fun _ ls _ _ i => UpInv (fun k => !clash ls k (pNat i)) (pNat i)
def locksBMu : MuII := fun _ _ _ _ i => UpMu (pNat i)
def doubtOfInv (_ : List ItemD) (_ : List LockD) (ds : List DoubtD) (_ : List TxnD) (a b : Int) : denVars [.slot 5 false tI] → Prop := FindInv (fun j => doubtIsF (pGet tyDoubt ds j) (a, b, ())) ds.length
def doubtOfMu (_ : List ItemD) (_ : List LockD) (ds : List DoubtD) (_ : List TxnD) (_ _ : Int) : denVars [.slot 5 false tI] → Nat := UpMu ds.length
def isOverInv (_ : List ItemD) (_ : List LockD) (_ : List DoubtD) (os : List TxnD) (a b : Int) : denVars [.slot 5 false tI] → Prop := FindInv (fun j => eqTxn (a, b, ()) (pGet tyTxn os j)) os.length
def isOverMu (_ : List ItemD) (_ : List LockD) (_ : List DoubtD) (os : List TxnD) (_ _ : Int) : denVars [.slot 5 false tI] → Nat := UpMu os.length
def mayAInv : InvI := fun is _ _ _ => UpInv (itemOk is) is.length
def mayAMu : MuI := fun is _ _ _ => UpMu is.length
def mayBInv : InvI := locksAInv
def mayBMu : MuI := locksAMu
def mayCInv : InvII := locksBInv
def mayCMu : MuII := locksBMu
def mayDInv : InvI := doubtsAInv
def mayDMu : MuI := doubtsAMu
/-- any so far -/
def HandInv (p : Nat → Bool) (n : Nat) (y : Int × Bool × Unit) : Prop := ∃ k : Nat, y.1 = (k : Int) ∧ k ≤ n ∧ y.2.1 = anyUpto p k
def HandMu (n : Nat) (y : Int × Bool × Unit) : Nat := n - y.1.toNat
def handAt (ls : List LockD) (ds : List DoubtD) (i j : Nat) : Bool := lockIsF (pGet tyLock ls j) ((pGet tyDoubt ds i).1, (pGet tyDoubt ds i).2.1, ())
def mayEInv (_ : List ItemD) (ls : List LockD) (ds : List DoubtD) (_ : List TxnD) (i : Int) : denVars [.slot 12 false tI, .slot 11 false .bool] → Prop := HandInv (handAt ls ds (pNat i)) ls.length
def mayEMu (_ : List ItemD) (ls : List LockD) (_ : List DoubtD) (_ : List TxnD) (_ : Int) : denVars [.slot 12 false tI, .slot 11 false .bool] → Nat := HandMu ls.length
def mayFInv : InvI := doubtsCInv
def mayFMu : MuI := doubtsCMu
def mayGInv : InvII := fun _ _ _ os i => UpInv (fun k => !sameT os k (pNat i)) (pNat i)
def mayGMu : MuII := fun _ _ _ _ i => UpMu (pNat i)

/- copies: so much of a row is there -/
abbrev CopyT := List ItemD → List LockD → List DoubtD → List TxnD → Int × StoD × Unit → Prop
def copyAInv : CopyT := fun is _ _ _ y => ∃ k : Nat, y = ((k : Int), (is.take k, [], [], [], ()), ()) ∧ k ≤ is.length
def copyBInv : CopyT := fun is ls _ _ y => ∃ k : Nat, y = ((k : Int), (is, ls.take k, [], [], ()), ()) ∧ k ≤ ls.length
def copyCInv : CopyT := fun is ls ds _ y => ∃ k : Nat, y = ((k : Int), (is, ls, ds.take k, [], ()), ()) ∧ k ≤ ds.length
def copyDInv : CopyT := fun is ls ds os y => ∃ k : Nat, y = ((k : Int), (is, ls, ds, os.take k, ()), ()) ∧ k ≤ os.length
abbrev CopyM := List ItemD → List LockD → List DoubtD → List TxnD → Int × StoD × Unit → Nat
def copyAMu : CopyM := fun is _ _ _ y => is.length - y.1.toNat
def copyBMu : CopyM := fun _ ls _ _ y => ls.length - y.1.toNat
def copyCMu : CopyM := fun _ _ ds _ y => ds.length - y.1.toNat
def copyDMu : CopyM := fun _ _ _ os y => os.length - y.1.toNat

/- doubts that are a tick older -/
def tickD (p : Int) (d : DoubtD) : DoubtD := cond (pGe (pAdd .i64 d.2.2.1 1) p) (d.1, d.2.1, 0, ()) (d.1, d.2.1, pAdd .i64 d.2.2.1 1, ())
def agedK (ds : List DoubtD) (p : Int) (k : Nat) : List DoubtD := (ds.take k).map (tickD p) ++ ds.drop k
def toldK (ds : List DoubtD) (p : Int) (k : Nat) : List TxnD := ((ds.take k).filter fun d => pGe (pAdd .i64 d.2.2.1 1) p).map fun d => (d.1, d.2.1, ())
def ageE (s : StoD) (p : Int) : Int := cond (stoF s) (cond (inF p 1 1048576) 0 2) 9
def ageS (s : StoD) (p : Int) : StoD := cond (pEq (ageE s p) 0) (s.1, s.2.1, agedK s.2.2.1 p s.2.2.1.length, s.2.2.2.1, ()) ([], [], [], [], ())
def ageL (s : StoD) (p : Int) : List TxnD := cond (pEq (ageE s p) 0) (toldK s.2.2.1 p s.2.2.1.length) []
def AgeAt (is : List ItemD) (ls : List LockD) (ds : List DoubtD) (os : List TxnD) (p : Int) (y : Int × List TxnD × StoD × Unit) : Prop := ∃ k : Nat, y = ((k : Int), toldK ds p k, (is, ls, agedK ds p k, os, ()), ()) ∧ k ≤ ds.length
def ageInv (is : List ItemD) (ls : List LockD) (ds : List DoubtD) (os : List TxnD) (p : Int) : denVars [.slot 30 false tI, .slot 9 true tyTxn, .box 136 vSto] → Prop := AgeAt is ls ds os p
def ageMu (_ : List ItemD) (_ : List LockD) (ds : List DoubtD) (_ : List TxnD) (_ : Int) : denVars [.slot 30 false tI, .slot 9 true tyTxn, .box 136 vSto] → Nat := fun y => ds.length - y.1.toNat
def ageOfInv (is : List ItemD) (ls : List LockD) (ds : List DoubtD) (os : List TxnD) (p : Int) : denVars [.slot 9 false tI, .slot 8 true tyTxn, .box 96 vSto] → Prop := AgeAt is ls ds os p
def ageOfMu (_ : List ItemD) (_ : List LockD) (ds : List DoubtD) (_ : List TxnD) (_ : Int) : denVars [.slot 9 false tI, .slot 8 true tyTxn, .box 96 vSto] → Nat := fun y => ds.length - y.1.toNat

end Go.Proofs.Ytkhnakdmkhidbaa
