/- Plain words of the store: what it reads and writes. No condition. -/
import Derived.Test.YtkhnakdmkhidbaaSpA
namespace Go.Proofs.Ytkhnakdmkhidbaa
open Go.RowKit

/-- keys that go up -/
def sortF (l : List ItemD) : Bool := allUpto (fun j => decide (j = 0) || pLt (pGet tyItem l (j - 1)).1 (pGet tyItem l j).1) l.length
def cmpF (a b : Int) : Int := cond (pLt a b) (-1) (cond (pGt a b) 1 0)
def keyAt (l : List ItemD) (k : Int) (j : Nat) : Bool := pEq (pGet tyItem l j).1 k
def idxKeyF (l : List ItemD) (k : Int) : Int := idxOf (keyAt l k) l.length
/-- the first place whose key is no less -/
def posF (l : List ItemD) (k : Int) : Int := match (List.range l.length).find? (fun j => pGe (pGet tyItem l j).1 k) with
  | some j => (j : Int)
  | none => (l.length : Int)
def itemF (l : List ItemD) (k : Int) : ItemD := cond (pGe (idxKeyF l k) 0) (pGet tyItem l (pNat (idxKeyF l k))) (k, 0, 0, ())
def lkIs (x : LockD) (a b c : Int) : Bool := pAndB (pEq x.1 a) (pEq x.2.1 b) && pEq x.2.2.1 c
def idxLkF (l : List LockD) (a b c : Int) : Int := idxOf (fun j => lkIs (pGet tyLock l j) a b c) l.length
def othIs (x : LockD) (a b c : Int) : Bool := pEq x.2.2.1 c && pNot (pAndB (pEq x.1 a) (pEq x.2.1 b))
def busyIs (x : LockD) (a b c : Int) (g : Bool) : Bool := othIs x a b c && (g || x.2.2.2.1)
def idxBusyF (l : List LockD) (a b c : Int) (g : Bool) : Int := idxOf (fun j => busyIs (pGet tyLock l j) a b c g) l.length
def cntTo (p : Nat → Bool) (n : Nat) : Nat := ((List.range n).filter p).length
def othA (l : List LockD) (a b c : Int) : Int := ((cntTo (fun j => busyIs (pGet tyLock l j) a b c true) l.length : Nat) : Int)
def othW (l : List LockD) (a b c : Int) : Int := ((cntTo (fun j => busyIs (pGet tyLock l j) a b c false) l.length : Nat) : Int)
def askE (s : StoD) (t : TxnD) (k : Int) : Int := cond (stoF s) (cond (txnF t && inF k 0 7) 0 2) 9
def handF (l : List DoubtD) (a b : Int) : List DoubtD := cond (pGe (idxDoubtF l (a, b, ())) 0) l (pApp l [(a, b, 0, ())])
def noSto : StoD := ([], [], [], [], ())

def readE (s : StoD) (t : TxnD) (k : Int) : Int :=
  cond (pEq (askE s t k) 0) (cond (pGe (idxLkF s.2.1 t.1 t.2.1 k) 0) 0 (cond (pGe (idxTxnF s.2.2.2.1 t) 0) 13 (cond (pGe (idxBusyF s.2.1 t.1 t.2.1 k false) 0) 11 (cond (pGe (pInt s.2.1.length) 24) 8 0)))) (askE s t k)
def readS (s : StoD) (t : TxnD) (k : Int) : StoD :=
  cond (pEq (readE s t k) 0) (cond (pGe (idxLkF s.2.1 t.1 t.2.1 k) 0) s (s.1, pApp s.2.1 [(t.1, t.2.1, k, false, 0, 0, ())], handF s.2.2.1 t.1 t.2.1, s.2.2.2.1, ())) noSto
def readV (s : StoD) (t : TxnD) (k : Int) : Int :=
  cond (pEq (readE s t k) 0) (cond (pGe (idxLkF s.2.1 t.1 t.2.1 k) 0 && (pGet tyLock s.2.1 (pNat (idxLkF s.2.1 t.1 t.2.1 k))).2.2.2.1) (pGet tyLock s.2.1 (pNat (idxLkF s.2.1 t.1 t.2.1 k))).2.2.2.2.1 (itemF s.1 k).2.1) 0
def readN (s : StoD) (t : TxnD) (k : Int) : Int := cond (pEq (readE s t k) 0) (itemF s.1 k).2.2.1 0
def writeE (s : StoD) (t : TxnD) (k v a : Int) : Int :=
  cond (pEq (askE s t k) 0) (cond (inF v 0 1073741824 && inF a 0 1048576)
    (cond (pGe (idxTxnF s.2.2.2.1 t) 0 || (pGe (idxLkF s.2.1 t.1 t.2.1 k) 0 && pGt (pGet tyLock s.2.1 (pNat (idxLkF s.2.1 t.1 t.2.1 k))).2.2.2.2.2.1 a)) 13
      (cond (pGe (idxBusyF s.2.1 t.1 t.2.1 k true) 0) 11 (cond ((pLt (idxLkF s.2.1 t.1 t.2.1 k) 0 && pGe (pInt s.2.1.length) 24) || pGe (itemF s.1 k).2.2.1 1048576) 8 0))) 2) (askE s t k)
def writeS (s : StoD) (t : TxnD) (k v a : Int) : StoD :=
  cond (pEq (writeE s t k v a) 0) (s.1, cond (pLt (idxLkF s.2.1 t.1 t.2.1 k) 0) (pApp s.2.1 [(t.1, t.2.1, k, true, v, a, ())]) (pSet s.2.1 (pNat (idxLkF s.2.1 t.1 t.2.1 k)) (t.1, t.2.1, k, true, v, a, ())),
    handF s.2.2.1 t.1 t.2.1, s.2.2.2.1, ()) noSto

def BinInv (l : List ItemD) (k : Int) (y : Int × Int × Unit) : Prop :=
  ∃ i j : Nat, y = ((i : Int), (j : Int), ()) ∧ i ≤ j ∧ j ≤ l.length ∧ (∀ m, m < i → pGe (pGet tyItem l m).1 k = false) ∧ ∀ m, j ≤ m → m < l.length → pGe (pGet tyItem l m).1 k = true
def binInv (l : List ItemD) (k : Int) : denVars [.slot 9 false tI, .slot 10 false tI] → Prop := BinInv l k
def binMu (_ : List ItemD) (_ : Int) : denVars [.slot 9 false tI, .slot 10 false tI] → Nat := fun y => y.2.1.toNat - y.1.toNat
def itemOfInv (si : List ItemD) (_ : List LockD) (_ : List DoubtD) (_ : List TxnD) (k : Int) : denVars [.slot 5 false tI] → Prop := FindInv (keyAt si k) si.length
def itemOfMu (si : List ItemD) (_ : List LockD) (_ : List DoubtD) (_ : List TxnD) (_ : Int) : denVars [.slot 5 false tI] → Nat := UpMu si.length
def indexLkInv (l : List LockD) (a b c : Int) : denVars [.slot 8 false tI] → Prop := FindInv (fun j => lkIs (pGet tyLock l j) a b c) l.length
def indexLkMu (l : List LockD) (_ _ _ : Int) : denVars [.slot 8 false tI] → Nat := UpMu l.length
def lockOfInv (_ : List ItemD) (l : List LockD) (_ : List DoubtD) (_ : List TxnD) (a b c : Int) : denVars [.slot 7 false tI] → Prop := FindInv (fun j => lkIs (pGet tyLock l j) a b c) l.length
def lockOfMu (_ : List ItemD) (l : List LockD) (_ : List DoubtD) (_ : List TxnD) (_ _ _ : Int) : denVars [.slot 7 false tI] → Nat := UpMu l.length
def indexBuInv (l : List LockD) (c a b : Int) (g : Bool) : denVars [.slot 8 false tI] → Prop := FindInv (fun j => busyIs (pGet tyLock l j) a b c g) l.length
def indexBuMu (l : List LockD) (_ _ _ : Int) (_ : Bool) : denVars [.slot 8 false tI] → Nat := UpMu l.length
def OthInv (p q : Nat → Bool) (n : Nat) (y : Int × Int × Int × Unit) : Prop := ∃ k : Nat, y = ((k : Int), ((cntTo p k : Nat) : Int), ((cntTo q k : Nat) : Int), ()) ∧ k ≤ n
def othInv (_ : List ItemD) (l : List LockD) (_ : List DoubtD) (_ : List TxnD) (a b c : Int) : denVars [.slot 10 false tI, .slot 8 false tI, .slot 9 false tI] → Prop :=
  OthInv (fun j => busyIs (pGet tyLock l j) a b c true) (fun j => busyIs (pGet tyLock l j) a b c false) l.length
def othMu (_ : List ItemD) (l : List LockD) (_ : List DoubtD) (_ : List TxnD) (_ _ _ : Int) : denVars [.slot 10 false tI, .slot 8 false tI, .slot 9 false tI] → Nat := fun y => l.length - y.1.toNat

end Go.Proofs.Ytkhnakdmkhidbaa
