/- Plain words of the store: what is left of it behind a crash. No condition. -/
import Derived.Test.YtkhnakdmkhidbaaSpB
namespace Go.Proofs.Ytkhnakdmkhidbaa
open Go.RowKit

def wrDel (x : LockD) : Bool := pNot x.2.2.2.1
def wrF (ls : List LockD) : List LockD := ls.filter fun x => !wrDel x
def wrIdx (l : List LockD) : Int := idxOf (fun j => wrDel (pGet tyLock l j)) l.length
def hasLk (ls : List LockD) (d : DoubtD) : Bool := pGe (idxLockF ls (d.1, d.2.1, ())) 0
def inDel (ls : List LockD) (d : DoubtD) : Bool := pNot (hasLk ls d)
def inDF (ls : List LockD) (ds : List DoubtD) : List DoubtD := ds.filter fun d => !inDel ls d
def inIdx (ls : List LockD) (ds : List DoubtD) : Int := idxOf (fun j => inDel ls (pGet tyDoubt ds j)) ds.length
def cntW (ls : List LockD) (a b : Int) : Int := ((cntTo (fun j => lockIsF (pGet tyLock ls j) (a, b, ()) && (pGet tyLock ls j).2.2.2.1) ls.length : Nat) : Int)
def zeroD (d : DoubtD) : DoubtD := (d.1, d.2.1, 0, ())
def zeroK (l : List DoubtD) (k : Nat) : List DoubtD := (l.take k).map zeroD ++ l.drop k
def forgE (s : StoD) : Int := cond (stoF s) 0 9
def forgS (s : StoD) : StoD := cond (stoF s) (s.1, wrF s.2.1, (inDF (wrF s.2.1) s.2.2.1).map zeroD, s.2.2.2.1, ()) noSto

/-- a row from which some are taken away: so far -/
def DelAt {t : Ty} (p : t.den → Bool) (xs : List t.den) (y : Int × Int × List t.den × Unit) : Prop :=
  ∃ (i j : Nat) (zs : List t.den), y = ((j : Int), (i : Int), zs, ()) ∧ i < j ∧ j ≤ xs.length ∧ zs.length = xs.length ∧ zs.take i = (xs.take j).filter (fun x => !p x) ∧ zs.drop j = xs.drop j
def delWInv (ls : List LockD) : Int × Int × List LockD × Unit → Prop := DelAt (t := tyLock) wrDel ls
def delWMu (ls : List LockD) : Int × Int × List LockD × Unit → Nat := fun y => ls.length - y.1.toNat
def delDInv (ds : List DoubtD) (_ : List ItemD) (ls : List LockD) (_ : List TxnD) : Int × Int × List DoubtD × Unit → Prop := DelAt (t := tyDoubt) (inDel ls) ds
def delDMu (ds : List DoubtD) (_ : List ItemD) (_ : List LockD) (_ : List TxnD) : Int × Int × List DoubtD × Unit → Nat := fun y => ds.length - y.1.toNat
def indexWInv (l : List LockD) : Int × Unit → Prop := FindInv (fun j => wrDel (pGet tyLock l j)) l.length
def indexWMu (l : List LockD) : Int × Unit → Nat := UpMu l.length
def indexLInv (l : List LockD) (a b _g : Int) : Int × Unit → Prop := FindInv (fun j => lockIsF (pGet tyLock l j) (a, b, ())) l.length
def indexLMu (l : List LockD) (_ _ _ : Int) : Int × Unit → Nat := UpMu l.length
def indexDInv (ds : List DoubtD) (_ : List ItemD) (ls : List LockD) (_ : List TxnD) : Int × Unit → Prop := FindInv (fun j => inDel ls (pGet tyDoubt ds j)) ds.length
def indexDMu (ds : List DoubtD) (_ : List ItemD) (_ : List LockD) (_ : List TxnD) : Int × Unit → Nat := UpMu ds.length
def cntwInv (_ : List ItemD) (l : List LockD) (_ : List DoubtD) (_ : List TxnD) (a b : Int) : Int × Int × Unit → Prop := fun y => ∃ k : Nat,
  y = ((k : Int), ((cntTo (fun j => lockIsF (pGet tyLock l j) (a, b, ()) && (pGet tyLock l j).2.2.2.1) k : Nat) : Int), ()) ∧ k ≤ l.length
def cntwMu (_ : List ItemD) (l : List LockD) (_ : List DoubtD) (_ : List TxnD) (_ _ : Int) : Int × Int × Unit → Nat := fun y => l.length - y.1.toNat
abbrev ForgT := List ItemD → List LockD → List DoubtD → List TxnD → Int × StoD × Unit → Prop
abbrev ForgM := List ItemD → List LockD → List DoubtD → List TxnD → Int × StoD × Unit → Nat
def forgInv : ForgT := fun si sl sd so y => ∃ k : Nat, y = ((k : Int), (si, wrF sl, zeroK (inDF (wrF sl) sd) k, so, ()), ()) ∧ k ≤ (inDF (wrF sl) sd).length
def forgMu : ForgM := fun _ sl sd _ y => (inDF (wrF sl) sd).length - y.1.toNat
def forgAInv : ForgT := fun si sl _ so y => ∃ k : Nat, y = ((k : Int), (si, wrF (sl.take k), [], so, ()), ()) ∧ k ≤ sl.length
def forgAMu : ForgM := fun _ sl _ _ y => sl.length - y.1.toNat
def forgBInv : ForgT := fun si sl sd so y => ∃ k : Nat, y = ((k : Int), (si, wrF sl, (inDF (wrF sl) (sd.take k)).map zeroD, so, ()), ()) ∧ k ≤ sd.length
def forgBMu : ForgM := fun _ _ sd _ y => sd.length - y.1.toNat

end Go.Proofs.Ytkhnakdmkhidbaa
