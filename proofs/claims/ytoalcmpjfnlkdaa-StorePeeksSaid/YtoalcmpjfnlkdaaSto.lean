/- Stores as plain values. -/
import Derived.Test.YtoalcmpjfnlkdaaOwn
import Derived.Test.YtoalcmpjfnlkdaaIn
import Derived.Deep.QuietTactic
import Derived.BigQuiet
namespace Go.Proofs.Ytoalcmpjfnlkdaa
open Go.RowKit Go.ChangeShapes Go.WideShapes Go.Deep

structure SItem where
  key : Int
  value : Int
  version : Int
  deriving DecidableEq
def sItem0 : SItem := ⟨0, 0, 0⟩
instance : Inhabited SItem := ⟨sItem0⟩
def encSItem (m : SItem) : List Value := [.int .i64 m.key, .int .i64 m.value, .int .i64 m.version]
theorem goodSItem : Good (Flat encSItem) 3 := Flat.good (fun _ => rfl) (fun _ u hu => by simp [encSItem] at hu; rcases hu with rfl | rfl | rfl <;> rfl)
abbrev ItemsAt (w : World) (B : Nat) (A : Option Addr) (n c : Nat) (xs : List SItem) : Prop := SlR (Flat encSItem) 3 24 w B A n c xs
theorem ItemsAt.cells {w : World} {B : Nat} {A : Option Addr} {n c : Nat} {xs : List SItem} (h : ItemsAt w B A n c xs) {k : Nat} (hk : k < n) :
    ∃ b off, A = some ⟨b, off, none⟩ ∧ b < B ∧ ∀ j, j < n → w.cell? ⟨b, off + j * 3, none⟩ = some (.int .i64 (xs.getD j sItem0).key) ∧ w.cell? ⟨b, off + j * 3 + 1, none⟩ = some (.int .i64 (xs.getD j sItem0).value) ∧ w.cell? ⟨b, off + j * 3 + 2, none⟩ = some (.int .i64 (xs.getD j sItem0).version) := by
  obtain ⟨b, off, hA, hb, hc⟩ := SlR.flat h hk
  refine ⟨b, off, hA, hb, fun j hj => ?_⟩
  have hl : j < xs.length := by have := h.1; omega
  have := (hc j xs[j] (List.getElem?_eq_getElem hl)).2
  rw [List.getD_eq_getElem?_getD, List.getElem?_eq_getElem hl]
  exact ⟨this 0 _ rfl, this 1 _ rfl, this 2 _ rfl⟩

structure SLock where
  site : Int
  num : Int
  key : Int
  write : Bool
  value : Int
  ask : Int
  deriving DecidableEq
def sLock0 : SLock := ⟨0, 0, 0, false, 0, 0⟩
instance : Inhabited SLock := ⟨sLock0⟩
def encSLock (m : SLock) : List Value := [.int .i64 m.site, .int .i64 m.num, .int .i64 m.key, .bool m.write, .int .i64 m.value, .int .i64 m.ask]
theorem goodSLock : Good (Flat encSLock) 6 := Flat.good (fun _ => rfl) (fun _ u hu => by simp [encSLock] at hu; rcases hu with rfl | rfl | rfl | rfl | rfl | rfl <;> rfl)
abbrev LocksAt (w : World) (B : Nat) (A : Option Addr) (n c : Nat) (xs : List SLock) : Prop := SlR (Flat encSLock) 6 48 w B A n c xs
theorem LocksAt.cells {w : World} {B : Nat} {A : Option Addr} {n c : Nat} {xs : List SLock} (h : LocksAt w B A n c xs) {k : Nat} (hk : k < n) :
    ∃ b off, A = some ⟨b, off, none⟩ ∧ b < B ∧ ∀ j, j < n → w.cell? ⟨b, off + j * 6, none⟩ = some (.int .i64 (xs.getD j sLock0).site) ∧ w.cell? ⟨b, off + j * 6 + 1, none⟩ = some (.int .i64 (xs.getD j sLock0).num) ∧ w.cell? ⟨b, off + j * 6 + 2, none⟩ = some (.int .i64 (xs.getD j sLock0).key) ∧ w.cell? ⟨b, off + j * 6 + 3, none⟩ = some (.bool (xs.getD j sLock0).write) ∧ w.cell? ⟨b, off + j * 6 + 4, none⟩ = some (.int .i64 (xs.getD j sLock0).value) ∧ w.cell? ⟨b, off + j * 6 + 5, none⟩ = some (.int .i64 (xs.getD j sLock0).ask) := by
  obtain ⟨b, off, hA, hb, hc⟩ := SlR.flat h hk
  refine ⟨b, off, hA, hb, fun j hj => ?_⟩
  have hl : j < xs.length := by have := h.1; omega
  have := (hc j xs[j] (List.getElem?_eq_getElem hl)).2
  rw [List.getD_eq_getElem?_getD, List.getElem?_eq_getElem hl]
  exact ⟨this 0 _ rfl, this 1 _ rfl, this 2 _ rfl, this 3 _ rfl, this 4 _ rfl, this 5 _ rfl⟩

structure SDoubt where
  site : Int
  num : Int
  age : Int
  deriving DecidableEq
def sDoubt0 : SDoubt := ⟨0, 0, 0⟩
instance : Inhabited SDoubt := ⟨sDoubt0⟩
def encSDoubt (m : SDoubt) : List Value := [.int .i64 m.site, .int .i64 m.num, .int .i64 m.age]
theorem goodSDoubt : Good (Flat encSDoubt) 3 := Flat.good (fun _ => rfl) (fun _ u hu => by simp [encSDoubt] at hu; rcases hu with rfl | rfl | rfl <;> rfl)
abbrev DoubtsAt (w : World) (B : Nat) (A : Option Addr) (n c : Nat) (xs : List SDoubt) : Prop := SlR (Flat encSDoubt) 3 24 w B A n c xs
theorem DoubtsAt.cells {w : World} {B : Nat} {A : Option Addr} {n c : Nat} {xs : List SDoubt} (h : DoubtsAt w B A n c xs) {k : Nat} (hk : k < n) :
    ∃ b off, A = some ⟨b, off, none⟩ ∧ b < B ∧ ∀ j, j < n → w.cell? ⟨b, off + j * 3, none⟩ = some (.int .i64 (xs.getD j sDoubt0).site) ∧ w.cell? ⟨b, off + j * 3 + 1, none⟩ = some (.int .i64 (xs.getD j sDoubt0).num) ∧ w.cell? ⟨b, off + j * 3 + 2, none⟩ = some (.int .i64 (xs.getD j sDoubt0).age) := by
  obtain ⟨b, off, hA, hb, hc⟩ := SlR.flat h hk
  refine ⟨b, off, hA, hb, fun j hj => ?_⟩
  have hl : j < xs.length := by have := h.1; omega
  have := (hc j xs[j] (List.getElem?_eq_getElem hl)).2
  rw [List.getD_eq_getElem?_getD, List.getElem?_eq_getElem hl]
  exact ⟨this 0 _ rfl, this 1 _ rfl, this 2 _ rfl⟩

structure Sto where
  items : List SItem
  locks : List SLock
  doubts : List SDoubt
  over : List (Int × Int)

/-- all, any, the first of n places -/
def allB (f : Nat → Bool) (n : Nat) : Bool := (List.range n).all f
def anyB (f : Nat → Bool) (n : Nat) : Bool := (List.range n).any f
def ixN (f : Nat → Bool) (n : Nat) : Int := match (List.range n).find? f with | some k => (k : Int) | none => -1
theorem allB_mk {f : Nat → Bool} {n : Nat} (h : ∀ j, j < n → f j = true) : allB f n = true := by simpa [allB] using h
theorem allB_get {f : Nat → Bool} {n : Nat} (h : allB f n = true) : ∀ j, j < n → f j = true := by simpa [allB] using h
theorem allB_no {f : Nat → Bool} {n k : Nat} (hk : k < n) (h : f k = false) : allB f n = false := by
  cases hc : allB f n
  · rfl
  · rw [allB_get hc k hk] at h; cases h
theorem anyB_mk {f : Nat → Bool} {n k : Nat} (hk : k < n) (h : f k = true) : anyB f n = true := by
  simp [anyB]; exact ⟨k, hk, h⟩
theorem anyB_no {f : Nat → Bool} {n : Nat} (h : ∀ j, j < n → f j = false) : anyB f n = false := by
  simpa [anyB] using h
theorem ixN_hit {f : Nat → Bool} {n k : Nat} (hk : k < n) (h : f k = true) (h0 : ∀ j, j < k → f j = false) : ixN f n = k := by
  unfold ixN
  have : (List.range n).find? f = some k := by
    rw [List.find?_range_eq_some]
    exact ⟨h, by simpa using hk, fun j hj => by rw [h0 j hj]; rfl⟩
  rw [this]
theorem ixN_miss {f : Nat → Bool} {n : Nat} (h : ∀ j, j < n → f j = false) : ixN f n = -1 := by
  unfold ixN
  have : (List.range n).find? f = none := by
    rw [List.find?_eq_none]
    intro x hx
    rw [h x (by simpa using hx)]
    simp
  rw [this]
theorem ixN_or (f : Nat → Bool) (n : Nat) : (ixN f n = -1 ∧ ∀ j, j < n → f j = false) ∨ ∃ k : Nat, ixN f n = k ∧ k < n ∧ f k = true ∧ ∀ j, j < k → f j = false := by
  cases h : (List.range n).find? f with
  | none =>
    left
    have h3 : ∀ j, j < n → f j = false := fun j hj => by
      have := List.find?_eq_none.1 h j (by simpa using hj)
      simpa using this
    exact ⟨ixN_miss h3, h3⟩
  | some k =>
    right
    rw [List.find?_range_eq_some] at h
    obtain ⟨h1, h2, h3⟩ := h
    have h3' : ∀ j, j < k → f j = false := fun j hj => by simpa using h3 j hj
    exact ⟨k, ixN_hit (by simpa using h2) h1 h3', by simpa using h2, h1, h3'⟩

/-- two transactions, one? -/
def eqT (a b c d : Int) : Bool := decide (a = c) && decide (b = d)
theorem eqT_mk {a b c d : Int} (h1 : a = c) (h2 : b = d) : eqT a b c d = true := by simp [eqT, h1, h2]
theorem eqT_no {a b c d : Int} (h : ¬ (a = c ∧ b = d)) : eqT a b c d = false := by simp [eqT]; omega
theorem eqT_true {a b c d : Int} (h : eqT a b c d = true) : a = c ∧ b = d := by simpa [eqT] using h
theorem eqT_false {a b c d : Int} (h : eqT a b c d = false) : ¬ (a = c ∧ b = d) := by simp [eqT] at h; omega
def txnOk (a b : Int) : Bool := inB a 0 3 && inB b 1 1048576

namespace Sto
def it (s : Sto) (k : Nat) : SItem := s.items.getD k sItem0
def lk (s : Sto) (k : Nat) : SLock := s.locks.getD k sLock0
def db (s : Sto) (k : Nat) : SDoubt := s.doubts.getD k sDoubt0
def ov (s : Sto) (k : Nat) : Int × Int := s.over.getD k (0, 0)
end Sto
def itemB (x : SItem) : Bool := inB x.key 0 7 && inB x.value 0 1073741824 && inB x.version 1 1048576
def itemAt (l : List SItem) (k : Nat) : Bool := itemB (l.getD k sItem0) && (k == 0 || decide ((l.getD (k - 1) sItem0).key < (l.getD k sItem0).key))
def itemsB (l : List SItem) : Bool := allB (itemAt l) l.length
def doubtIx (l : List SDoubt) (a b : Int) : Int := ixN (fun k => eqT (l.getD k sDoubt0).site (l.getD k sDoubt0).num a b) l.length
def overIx (l : List (Int × Int)) (a b : Int) : Int := ixN (fun k => eqT (l.getD k (0, 0)).1 (l.getD k (0, 0)).2 a b) l.length
def handIx (l : List SLock) (a b : Int) : Int := ixN (fun k => eqT (l.getD k sLock0).site (l.getD k sLock0).num a b) l.length
def lockB (x : SLock) : Bool := inB x.key 0 7 && inB x.value 0 1073741824 && inB x.ask 0 1048576 && (x.write || x.value + x.ask == 0)
def clash (x y : SLock) : Bool := decide (y.key = x.key) && (eqT y.site y.num x.site x.num || y.write || x.write)
def lockAt (ds : List SDoubt) (l : List SLock) (k : Nat) : Bool :=
  decide (0 ≤ doubtIx ds (l.getD k sLock0).site (l.getD k sLock0).num) && lockB (l.getD k sLock0) && allB (fun j => !clash (l.getD k sLock0) (l.getD j sLock0)) k
def locksB (ds : List SDoubt) (l : List SLock) : Bool := allB (lockAt ds l) l.length && decide (l.length ≤ 24)
def doubtAt (ls : List SLock) (os : List (Int × Int)) (l : List SDoubt) (k : Nat) : Bool :=
  txnOk (l.getD k sDoubt0).site (l.getD k sDoubt0).num && inB (l.getD k sDoubt0).age 0 1048576 && decide (overIx os (l.getD k sDoubt0).site (l.getD k sDoubt0).num < 0) && decide (0 ≤ handIx ls (l.getD k sDoubt0).site (l.getD k sDoubt0).num) &&
    allB (fun j => !eqT (l.getD j sDoubt0).site (l.getD j sDoubt0).num (l.getD k sDoubt0).site (l.getD k sDoubt0).num) k
def overAt (l : List (Int × Int)) (k : Nat) : Bool :=
  txnOk (l.getD k (0, 0)).1 (l.getD k (0, 0)).2 && allB (fun j => !eqT (l.getD j (0, 0)).1 (l.getD j (0, 0)).2 (l.getD k (0, 0)).1 (l.getD k (0, 0)).2) k
def doubtsB (s : Sto) : Bool := allB (doubtAt s.locks s.over s.doubts) s.doubts.length && allB (overAt s.over) s.over.length
def mayB (s : Sto) : Bool := itemsB s.items && doubtsB s && locksB s.doubts s.locks

/-- a store's four slices -/
def StoAt (w : World) (B : Nat) (A1 : Option Addr) (n1 c1 : Nat) (A2 : Option Addr) (n2 c2 : Nat) (A3 : Option Addr) (n3 c3 : Nat) (A4 : Option Addr) (n4 c4 : Nat) (s : Sto) : Prop :=
  ItemsAt w B A1 n1 c1 s.items ∧ LocksAt w B A2 n2 c2 s.locks ∧ DoubtsAt w B A3 n3 c3 s.doubts ∧ LabelsAt w B A4 n4 c4 s.over
theorem StoAt.below {w w' : World} {B B' : Nat} {A1 : Option Addr} {n1 c1 : Nat} {A2 : Option Addr} {n2 c2 : Nat} {A3 : Option Addr} {n3 c3 : Nat} {A4 : Option Addr} {n4 c4 : Nat} {s : Sto} (h : StoAt w B A1 n1 c1 A2 n2 c2 A3 n3 c3 A4 n4 c4 s) (hb : Below B w w') (hB : B ≤ B') : StoAt w' B' A1 n1 c1 A2 n2 c2 A3 n3 c3 A4 n4 c4 s :=
  ⟨h.1.below (Flat.stable _) hb hB, h.2.1.below (Flat.stable _) hb hB, h.2.2.1.below (Flat.stable _) hb hB, h.2.2.2.below (Flat.stable _) hb hB⟩
theorem SlR.max63 {α : Type} {R : ER α} {sz bytes : Nat} {w : World} {B : Nat} {A : Option Addr} {n c : Nat} {xs : List α} (h : SlR R sz bytes w B A n c xs) : n ≤ 9223372036854775807 ∧ n ≤ c := by
  have h1 := h.2.1
  have h2 := h.2.2.1
  unfold maxLen at h2
  exact ⟨by omega, h1⟩

end Go.Proofs.Ytoalcmpjfnlkdaa
