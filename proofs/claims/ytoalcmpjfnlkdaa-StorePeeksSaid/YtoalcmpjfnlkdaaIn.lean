/- pairs of numbers in cells; is a number from b to c? -/
import Derived.Test.YtoalcmpjfnlkdaaLib
namespace Go.Proofs.Ytoalcmpjfnlkdaa
open Go.RowKit

def encLabel (l : Int × Int) : List Value := [.int .i64 l.1, .int .i64 l.2]
abbrev LabelsAt (w : World) (B : Nat) (A : Option Addr) (n c : Nat) (ls : List (Int × Int)) : Prop := SlR (Flat encLabel) 2 16 w B A n c ls

theorem LabelsAt.cells {w : World} {B : Nat} {A : Option Addr} {n c : Nat} {ls : List (Int × Int)} (h : LabelsAt w B A n c ls) {k : Nat} (hk : k < n) :
    ∃ b off, A = some ⟨b, off, none⟩ ∧ b < B ∧ ∀ j, j < n → w.cell? ⟨b, off + j * 2, none⟩ = some (.int .i64 (ls.getD j (0, 0)).1) ∧ w.cell? ⟨b, off + j * 2 + 1, none⟩ = some (.int .i64 (ls.getD j (0, 0)).2) := by
  obtain ⟨b, off, hA, hb, hc⟩ := SlR.flat h hk
  refine ⟨b, off, hA, hb, fun j hj => ?_⟩
  have hl : j < ls.length := by have := h.1; omega
  have := (hc j ls[j] (List.getElem?_eq_getElem hl)).2
  rw [List.getD_eq_getElem?_getD, List.getElem?_eq_getElem hl]
  exact ⟨this 0 _ rfl, this 1 _ rfl⟩

/-- is a from b to c? (a plain definition: the walk doesn't look into it) -/
def inB (a b c : Int) : Bool := decide (b ≤ a) && decide (a ≤ c)
theorem inB_true {a b c : Int} (h : inB a b c = true) : b ≤ a ∧ a ≤ c := by simpa [inB] using h
theorem inB_false {a b c : Int} (h : inB a b c = false) : a < b ∨ c < a := by simp [inB] at h; omega
theorem inB_mk {a b c : Int} (h : b ≤ a ∧ a ≤ c) : inB a b c = true := by simp [inB]; omega
theorem inB_mkf {a b c : Int} (h : ¬ (b ≤ a ∧ a ≤ c)) : inB a b c = false := by simp [inB]; omega

set_option maxHeartbeats 400000 in
theorem in_any (a b c : Int) (w : World) :
    Calls Try.prog 36 #[.int .i64 a, .int .i64 b, .int .i64 c] w fun e w' => e = .returned (.bool (inB a b c)) ∧ w = w' := by
  go_enter Try.func36, Try.ntmps36
  go_wp2
  all_goals
    go_ret
    refine ⟨by simp [inB]; try omega, rfl⟩

end Go.Proofs.Ytoalcmpjfnlkdaa
