/- Plain words of the store: a transaction that ends. No condition. -/
import Derived.Test.YtkhnakdmkhidbaaSpC
import Derived.Test.YtkhnakdmkhidbaaIns
namespace Go.Proofs.Ytkhnakdmkhidbaa
open Go.RowKit


def isT (t : TxnD) (a b : Int) : Bool := pAndB (pEq t.1 a) (pEq t.2.1 b)
def isTL (a b : Int) (x : LockD) : Bool := isT (x.1, x.2.1, ()) a b
def isTD (a b : Int) (x : DoubtD) : Bool := isT (x.1, x.2.1, ()) a b
def noTL (l : List LockD) (a b : Int) : List LockD := l.filter fun x => !isTL a b x
def noTD (l : List DoubtD) (a b : Int) : List DoubtD := l.filter fun x => !isTD a b x
def idxTL (l : List LockD) (a b : Int) : Int := idxOf (fun j => isTL a b (pGet tyLock l j)) l.length
def idxTD (l : List DoubtD) (a b : Int) : Int := idxOf (fun j => isTD a b (pGet tyDoubt l j)) l.length
/-- a row of items with a new value of a key, as the document goes: so far; has it been put? -/
def withK (l : List ItemD) (k v : Int) : Nat → List ItemD × Bool
  | 0 => ([], false)
  | j + 1 => cond (pEq (pGet tyItem l j).1 k) (pApp (withK l k v j).1 [(k, v, pAdd .i64 (pGet tyItem l j).2.2.1 1, ())], true)
      (cond (pGt (pGet tyItem l j).1 k && !(withK l k v j).2) (pApp (pApp (withK l k v j).1 [(k, v, 1, ())]) [pGet tyItem l j], true) (pApp (withK l k v j).1 [pGet tyItem l j], (withK l k v j).2))
def withF (l : List ItemD) (k v : Int) : List ItemD := cond (withK l k v l.length).2 (withK l k v l.length).1 (pApp (withK l k v l.length).1 [(k, v, 1, ())])
def endI (is : List ItemD) (ls : List LockD) (a b : Int) (g : Bool) : Nat → List ItemD
  | 0 => is
  | j + 1 => cond (isTL a b (pGet tyLock ls j) && ((pGet tyLock ls j).2.2.2.1 && g)) (withF (endI is ls a b g j) (pGet tyLock ls j).2.2.1 (pGet tyLock ls j).2.2.2.2.1) (endI is ls a b g j)
def overF (os : List TxnD) (a b : Int) : List TxnD := cond (pGe (idxTxnF os (a, b, ())) 0) os (pApp os [(a, b, ())])
def endE (s : StoD) (t : TxnD) : Int := askE s t 0
def endS (s : StoD) (t : TxnD) (g : Bool) : StoD := cond (pEq (endE s t) 0) (endI s.1 s.2.1 t.1 t.2.1 g s.2.1.length, noTL s.2.1 t.1 t.2.1, noTD s.2.2.1 t.1 t.2.1, overF s.2.2.2.1 t.1 t.2.1, ()) noSto

def indexTLInv (l : List LockD) (a b : Int) : Int × Unit → Prop := FindInv (fun j => isTL a b (pGet tyLock l j)) l.length
def indexTLMu (l : List LockD) (_ _ : Int) : Int × Unit → Nat := UpMu l.length
def indexTDInv (l : List DoubtD) (a b : Int) : Int × Unit → Prop := FindInv (fun j => isTD a b (pGet tyDoubt l j)) l.length
def indexTDMu (l : List DoubtD) (_ _ : Int) : Int × Unit → Nat := UpMu l.length
def delTLInv (l : List LockD) (a b : Int) : Int × Int × List LockD × Unit → Prop := DelAt (t := tyLock) (isTL a b) l
def delTLMu (l : List LockD) (_ _ : Int) : Int × Int × List LockD × Unit → Nat := fun y => l.length - y.1.toNat
def delTDInv (l : List DoubtD) (a b : Int) : Int × Int × List DoubtD × Unit → Prop := DelAt (t := tyDoubt) (isTD a b) l
def delTDMu (l : List DoubtD) (_ _ : Int) : Int × Int × List DoubtD × Unit → Nat := fun y => l.length - y.1.toNat
def withIInv (l : List ItemD) (k v : Int) : Int × List ItemD × Bool × Unit → Prop := fun y => ∃ j : Nat, y = ((j : Int), (withK l k v j).1, (withK l k v j).2, ()) ∧ j ≤ l.length
def withIMu (l : List ItemD) (_ _ : Int) : Int × List ItemD × Bool × Unit → Nat := fun y => l.length - y.1.toNat
abbrev EndT := List ItemD → List LockD → List DoubtD → List TxnD → Int → Int → Bool → Int × StoD × Unit → Prop
abbrev EndM := List ItemD → List LockD → List DoubtD → List TxnD → Int → Int → Bool → Int × StoD × Unit → Nat
def endAInv : EndT := fun si sl sd so a b g y => ∃ k : Nat, y = ((k : Int), (endI si sl a b g k, sl, sd, so, ()), ()) ∧ k ≤ sl.length
def endAMu : EndM := fun _ sl _ _ _ _ _ y => sl.length - y.1.toNat
def endBInv : EndT := fun si sl _ so a b g y => ∃ k : Nat, y = ((k : Int), (endI si sl a b g k, noTL (sl.take k) a b, [], overF so a b, ()), ()) ∧ k ≤ sl.length
def endBMu : EndM := fun _ sl _ _ _ _ _ y => sl.length - y.1.toNat
def endCInv : EndT := fun si sl sd so a b g y => ∃ k : Nat, y = ((k : Int), (endI si sl a b g sl.length, noTL sl a b, noTD (sd.take k) a b, overF so a b, ()), ()) ∧ k ≤ sd.length
def endCMu : EndM := fun _ _ sd _ _ _ _ y => sd.length - y.1.toNat

end Go.Proofs.Ytkhnakdmkhidbaa
