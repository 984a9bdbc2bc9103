/- Records: what CheckRecord and its reference compute. -/
import Derived.Test.YtobhipeiogljjaaDoorWirA
import Derived.Test.YtobhipeiogljjaaDoorArg
import Derived.Deep.Light
import Derived.BigGuardPart
namespace Go.Proofs.YtobhipeiogljjaaDoor
open Go.RowKit Go.ChangeShapes Go.WideShapes Go.Deep

structure Rec where
  kind : Int
  site : Int
  num : Int
  key : Int
  value : Int
  ask : Int
  yes : Bool
  sites : List Int
  deriving DecidableEq
abbrev IntsAt (w : World) (B : Nat) (A : Option Addr) (n c : Nat) (xs : List Int) : Prop := SlR RInt 1 8 w B A n c xs
theorem IntsAt.cells {w : World} {B : Nat} {A : Option Addr} {n c : Nat} {xs : List Int} (h : IntsAt w B A n c xs) {k : Nat} (hk : k < n) :
    ∃ b off, A = some ⟨b, off, none⟩ ∧ b < B ∧ ∀ j, j < n → w.cell? ⟨b, off + j, none⟩ = some (.int .i64 (xs[j]?.getD 0)) ∧ -9223372036854775808 ≤ xs[j]?.getD 0 ∧ xs[j]?.getD 0 ≤ 9223372036854775807 := by
  obtain ⟨b, off, hA, hb, hc⟩ := h.2.2.2.2 (by omega)
  refine ⟨b, off, hA, hb, fun j hj => ?_⟩
  have hl : j < xs.length := by have := h.1; omega
  obtain ⟨cs, h1, ⟨h2, h3, h4⟩, h5⟩ := hc j _ (List.getElem?_eq_getElem hl)
  subst h2
  rw [List.getElem?_eq_getElem hl, Option.getD_some]
  exact ⟨by have := h5 0 _ rfl; rw [Nat.mul_one, Nat.add_zero] at this; exact this, h3, h4⟩

def recTab : List (List Bool) := [[false, false, false, false, false, false, false, false], [false, true, true, false, true, false, false, false], [false, false, false, false, false, true, false, false], [false, false, false, false, false, false, false, true], [false, false, false, false, false, false, false, false], [false, false, false, false, false, false, false, false], [false, false, false, false, false, true, false, false]]
/-- the cells of the table 'records' -/
def RecTab (w : World) : Prop := ∀ i j r b, recTab[i]? = some r → r[j]? = some b → w.cell? ⟨1, i * 8 + j, none⟩ = some (.bool b)
def flagR (k : Int) (j : Nat) : Bool := (recTab.getD k.toNat []).getD j false
def recRange (s : Int) (r : Rec) : Bool := txnB s r.site r.num && inB r.key 0 7 && inB r.value 0 1073741824 && inB r.ask 0 1048576
def recForm (r : Rec) : Bool := (flagR r.kind 1 || r.key == 0) && (flagR r.kind 2 || r.value == 0) && (flagR r.kind 4 || r.ask == 0) && (flagR r.kind 5 || !r.yes) && (flagR r.kind 7 || r.sites.length == 0)
def siteFault (s : Int) (xs : List Int) (k : Nat) : Int := if inB (xs[k]?.getD 0) 0 (s - 1) = true ∧ ¬ (0 < k ∧ xs[k]?.getD 0 ≤ xs[k - 1]?.getD 0) then 0 else 2
def recF (s p : Int) (ls : List (Int × Int)) (r : Rec) : Int :=
  if checkF s p ls ≠ 0 then checkF s p ls else if inB r.kind 1 6 = false then 3 else if recRange s r = false then 2 else if scanF (siteFault s r.sites) r.sites.length r.sites.length ≠ 0 then 2 else if recForm r = false then 4 else 0

theorem RecTab.row {w : World} (h : RecTab w) (k : Nat) (hk : k < 7) : ∀ j, j < 8 → w.cell? ⟨1, k * 8 + j, none⟩ = some (.bool (flagR k j)) := by
  intro j hj
  have h1 : ∃ r, recTab[k]? = some r ∧ ∃ b, r[j]? = some b ∧ flagR k j = b := by
    have : ∀ k : Fin 7, ∀ j : Fin 8, ∃ r, recTab[k.1]? = some r ∧ ∃ b, r[j.1]? = some b ∧ flagR k.1 j.1 = b := by decide
    exact this ⟨k, hk⟩ ⟨j, hj⟩
  obtain ⟨r, hr, b, hb, he⟩ := h1
  rw [he]
  exact h k j r b hr hb
theorem RecTab.lt {w : World} (h : RecTab w) : 1 < w.heap.size := (cell_block_lt (h.row 0 (by decide) 0 (by decide))).1
theorem RecTab.below {w w' : World} (h : RecTab w) (hb : Below w.heap.size w w') : RecTab w' := fun i j r b hr hj => (hb.cell (p := ⟨1, i * 8 + j, none⟩) h.lt).trans (h i j r b hr hj)

theorem site_good {s : Int} {xs : List Int} {k : Nat} (h1 : inB (xs[k]?.getD 0) 0 (s - 1) = true) (h2 : ¬ (0 < k ∧ xs[k]?.getD 0 ≤ xs[k - 1]?.getD 0)) : siteFault s xs k = 0 := by unfold siteFault; rw [if_pos ⟨h1, h2⟩]
theorem site_bad1 {s : Int} {xs : List Int} {k : Nat} (h1 : inB (xs[k]?.getD 0) 0 (s - 1) = false) : siteFault s xs k = 2 := by unfold siteFault; rw [if_neg (by rw [h1]; simp)]
theorem site_bad2 {s : Int} {xs : List Int} {k : Nat} (h1 : 0 < k) (h2 : xs[k]?.getD 0 ≤ xs[k - 1]?.getD 0) : siteFault s xs k = 2 := by unfold siteFault; rw [if_neg (fun h => h.2 ⟨h1, h2⟩)]
theorem recF_site {s p : Int} {ls : List (Int × Int)} {r : Rec} {n k : Nat} (hC : checkF s p ls = 0) (hk : inB r.kind 1 6 = true) (hR : recRange s r = true) (hl : r.sites.length = n) (hkn : k < n) (hs : scanF (siteFault s r.sites) n n = scanF (siteFault s r.sites) n (n - k)) (hb : siteFault s r.sites k = 2) : recF s p ls r = 2 := by
  subst hl
  unfold recF
  rw [if_neg (by simpa using hC), if_neg (by rw [hk]; simp), if_neg (by rw [hR]; simp), if_pos]
  rw [hs, scanF_step hkn, hb]
  simp
theorem recF_end {s p : Int} {ls : List (Int × Int)} {r : Rec} {n : Nat} (hC : checkF s p ls = 0) (hk : inB r.kind 1 6 = true) (hR : recRange s r = true) (hl : r.sites.length = n) (hs : scanF (siteFault s r.sites) n n = scanF (siteFault s r.sites) n (n - n)) : recF s p ls r = if recForm r = false then 4 else 0 := by
  subst hl
  unfold recF
  rw [if_neg (by simpa using hC), if_neg (by rw [hk]; simp), if_neg (by rw [hR]; simp), if_neg]
  rw [hs, scanF_end]
  simp

end Go.Proofs.YtobhipeiogljjaaDoor
