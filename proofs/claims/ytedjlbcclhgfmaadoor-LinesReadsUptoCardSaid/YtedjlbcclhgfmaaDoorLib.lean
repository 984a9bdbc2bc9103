/- Words and small lemmas that name no program: a slice that reads as a list, blocks that stay, a scan. -/
import Derived.Test.YtedjlbcclhgfmaaDoorRows
import Derived.WalkKit
import Derived.WalkSpells
import Derived.WalkLawsBesides
import Derived.Lib.Hide
import Derived.Deep.QuietTactic
import Derived.BigQuiet
import Derived.ProofKit
import Derived.Deep.Slices
import Derived.Deep.Draws
namespace Go.Proofs.YtedjlbcclhgfmaaDoor
open Go.RowKit

theorem bcell {W w1 : World} {B : Nat} (hb : Below B W w1) : (∀ b o, b < B → w1.cell? ⟨b, o, none⟩ = W.cell? ⟨b, o, none⟩) ∧ (∀ b o, b < B → w1.frozen? ⟨b, o, none⟩ = W.frozen? ⟨b, o, none⟩) :=
  ⟨fun b o h => hb.cell (p := ⟨b, o, none⟩) h, fun b o h => hb.frozen (p := ⟨b, o, none⟩) h⟩

/-- Below, at one block: a rule without a side condition. -/
theorem bat {W w1 : World} {B : Nat} (hb : Below B W w1) (g : Nat) (hg : g < B) : (∀ o, w1.cell? ⟨g, o, none⟩ = W.cell? ⟨g, o, none⟩) ∧ (∀ o, w1.frozen? ⟨g, o, none⟩ = W.frozen? ⟨g, o, none⟩) :=
  ⟨fun o => hb.cell (p := ⟨g, o, none⟩) hg, fun o => hb.frozen (p := ⟨g, o, none⟩) hg⟩

theorem below_drewN {B : Nat} {a w : World} (h : Below B a w) (n : Nat) : Below B a (w.drewN n) := ⟨h.os, h.tape, h.output, h.size, h.block⟩

/-- How an element lies in cells: a relation on the world, a bound on blocks, the element's cells, and what they read as. -/
abbrev ER (α : Type) := World → Nat → List Value → α → Prop

/-- The slice value '.slice A n c' reads as the list xs: elements of sz cells, of 'bytes' bytes. -/
def SlR {α : Type} (R : ER α) (sz bytes : Nat) (w : World) (B : Nat) (A : Option Addr) (n c : Nat) (xs : List α) : Prop :=
  xs.length = n ∧ n ≤ c ∧ c ≤ maxLen ∧ n * bytes ≤ 140737488351232 ∧
    (0 < n → ∃ b off, A = some ⟨b, off, none⟩ ∧ b < B ∧ ∀ k x, xs[k]? = some x → ∃ cs, cs.length = sz ∧ R w B cs x ∧ ∀ j u, cs[j]? = some u → w.cell? ⟨b, off + k * sz + j, none⟩ = some u)

/-- An element relation that only looks below its bound. -/
def Stable {α : Type} (R : ER α) : Prop := ∀ (w w' : World) (B B' : Nat) (cs : List Value) (x : α), B ≤ B' → (∀ p : Addr, p.block < B → w'.cell? p = w.cell? p) → R w B cs x → R w' B' cs x

theorem SlR.keep {α : Type} {R : ER α} {sz bytes : Nat} {w w' : World} {B B' : Nat} {A : Option Addr} {n c : Nat} {xs : List α} (hR : Stable R) (h : SlR R sz bytes w B A n c xs) (hB : B ≤ B')
    (hk : ∀ p : Addr, p.block < B → w'.cell? p = w.cell? p) : SlR R sz bytes w' B' A n c xs := by
  obtain ⟨h1, h2, h3, h4, h5⟩ := h
  refine ⟨h1, h2, h3, h4, fun hn => ?_⟩
  obtain ⟨b, off, hA, hb, hc⟩ := h5 hn
  refine ⟨b, off, hA, by omega, fun k x hx => ?_⟩
  obtain ⟨cs, hl, hr, hcell⟩ := hc k x hx
  exact ⟨cs, hl, hR w w' B B' cs x hB hk hr, fun j u hu => (hk _ hb).trans (hcell j u hu)⟩

theorem SlR.below {α : Type} {R : ER α} {sz bytes : Nat} {w w' : World} {B B' : Nat} {A : Option Addr} {n c : Nat} {xs : List α} (hR : Stable R) (h : SlR R sz bytes w B A n c xs) (hb : Below B w w') (hB : B ≤ B') : SlR R sz bytes w' B' A n c xs :=
  h.keep hR hB fun _ hp => hb.cell hp

theorem SlR.nil_ {α : Type} {R : ER α} {sz bytes : Nat} {w : World} {B : Nat} : SlR R sz bytes w B none 0 0 [] := ⟨rfl, Nat.le_refl _, by simp [maxLen], by simp, fun h => absurd h (by omega)⟩

/-- A relation that says what the cells are, and nothing of memory. -/
def Flat {α : Type} (enc : α → List Value) : ER α := fun _ _ cs x => cs = enc x
theorem Flat.stable {α : Type} (enc : α → List Value) : Stable (Flat enc) := fun _ _ _ _ _ _ _ _ h => h

/-- the cells of element k, where elements are flat -/
theorem SlR.flat {α : Type} {enc : α → List Value} {sz bytes : Nat} {w : World} {B : Nat} {A : Option Addr} {n c : Nat} {xs : List α} (h : SlR (Flat enc) sz bytes w B A n c xs) {k : Nat} (hk : k < n) :
    ∃ b off, A = some ⟨b, off, none⟩ ∧ b < B ∧ ∀ k x, xs[k]? = some x → (enc x).length = sz ∧ ∀ j u, (enc x)[j]? = some u → w.cell? ⟨b, off + k * sz + j, none⟩ = some u := by
  obtain ⟨b, off, hA, hb, hc⟩ := h.2.2.2.2 (by omega)
  refine ⟨b, off, hA, hb, fun k x hx => ?_⟩
  obtain ⟨cs, hl, hr, hcell⟩ := hc k x hx
  have hr : cs = enc x := hr
  subst hr
  exact ⟨hl, hcell⟩

/-- the first answer that is not 0, of the last m of n places -/
def scanF (f : Nat → Int) (n : Nat) : Nat → Int
  | 0 => 0
  | m + 1 => if f (n - (m + 1)) = 0 then scanF f n m else f (n - (m + 1))

theorem scanF_step {f : Nat → Int} {n k : Nat} (hk : k < n) : scanF f n (n - k) = if f k = 0 then scanF f n (n - (k + 1)) else f k := by
  have h : n - k = (n - (k + 1)) + 1 := by omega
  rw [h, scanF, show n - (n - (k + 1) + 1) = k by omega]

theorem scanF_end (f : Nat → Int) (n : Nat) : scanF f n (n - n) = 0 := by rw [Nat.sub_self]; rfl

theorem ret_int {k : IntKind} {a b : Int} (h : a = b) : Ending.returned (.int k a) = .returned (.int k b) := by rw [h]
theorem ret_bool {a b : Bool} (h : a = b) : Ending.returned (.bool a) = .returned (.bool b) := by rw [h]

end Go.Proofs.YtedjlbcclhgfmaaDoor
