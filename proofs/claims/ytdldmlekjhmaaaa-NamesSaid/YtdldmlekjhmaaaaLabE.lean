/- label.Home, label.Sees and their references. -/
import Derived.Test.YtdldmlekjhmaaaaLabD
namespace Go.Proofs.Ytdldmlekjhmaaaa
open Go.RowKit Go.ChangeShapes Go.WideShapes Go.Deep


def homeF (s p : Int) (ls : List (Int × Int)) (key : Int) : Int × Int := if checkF s p ls ≠ 0 then (0, checkF s p ls) else if key < 0 ∨ 8 ≤ key then (0, 2) else (key % s, 0)

set_option maxHeartbeats 400000 in
theorem home_any (s p key : Int) (A : Option Addr) (n c : Nat) (ls : List (Int × Int)) (w : World) (hls : LabelsAt w w.heap.size A n c ls) :
    Calls Try.prog 34 #[.agg #[.int .i64 s, .slice A n c, .int .i64 p], .int .i64 key] w fun e w' => e = .returned (.tuple #[.int .i64 (homeF s p ls key).1, .int .i64 (homeF s p ls key).2]) ∧ Below w.heap.size w w' := by
  by_cases hC : checkF s p ls = 0
  · by_cases hK : 0 ≤ key ∧ key < 8
    · have hf : homeF s p ls key = (key % s, 0) := by unfold homeF; rw [if_neg (by simpa using hC), if_neg (by omega)]
      rw [hf]
      have hs := checkF_ok hC
      obtain ⟨hs1, hs2, _⟩ := hs
      obtain ⟨hk1, hk2⟩ := hK
      go_enter Try.func34, Try.ntmps34
      go_wp2_with (go_at_call 27; refine (check_any _ _ _ _ _ ls _ (hls.below (Flat.stable _) ((Below.refl _ _).alloc (Nat.le_refl _) _) (by simp))).mono ?_; rintro e w1 ⟨rfl, hb1⟩; obtain ⟨hc1, hf1⟩ := bcell hb1; have hsz1 := hb1.size; simp at hsz1; have z0 : w.heap.size < w1.heap.size := by omega)
      go_ret2
      exact ⟨rfl, ((Below.refl _ _).alloc (Nat.le_refl _) _).trans (hb1.mono (by simp))⟩
    · have hf : homeF s p ls key = (0, 2) := by unfold homeF; rw [if_neg (by simpa using hC), if_pos (by omega)]
      rw [hf]
      go_enter Try.func34, Try.ntmps34
      go_wp2_with (go_at_call 27; refine (check_any _ _ _ _ _ ls _ (hls.below (Flat.stable _) ((Below.refl _ _).alloc (Nat.le_refl _) _) (by simp))).mono ?_; rintro e w1 ⟨rfl, hb1⟩; obtain ⟨hc1, hf1⟩ := bcell hb1; have hsz1 := hb1.size; simp at hsz1; have z0 : w.heap.size < w1.heap.size := by omega)
      all_goals
        go_ret2
        exact ⟨rfl, ((Below.refl _ _).alloc (Nat.le_refl _) _).trans (hb1.mono (by simp))⟩
  · have hf : homeF s p ls key = (0, checkF s p ls) := by unfold homeF; rw [if_pos (by simpa using hC)]
    rw [hf]
    go_enter Try.func34, Try.ntmps34
    go_wp2_with (go_at_call 27; refine (check_any _ _ _ _ _ ls _ (hls.below (Flat.stable _) ((Below.refl _ _).alloc (Nat.le_refl _) _) (by simp))).mono ?_; rintro e w1 ⟨rfl, hb1⟩; obtain ⟨hc1, hf1⟩ := bcell hb1; have hsz1 := hb1.size; simp at hsz1; have z0 : w.heap.size < w1.heap.size := by omega)
    go_ret2
    exact ⟨rfl, ((Below.refl _ _).alloc (Nat.le_refl _) _).trans (hb1.mono (by simp))⟩

set_option maxHeartbeats 400000 in
theorem homeOf_any (s p key : Int) (A : Option Addr) (n c : Nat) (ls : List (Int × Int)) (w : World) (hls : LabelsAt w w.heap.size A n c ls) :
    Calls Try.prog 35 #[.agg #[.int .i64 s, .slice A n c, .int .i64 p], .int .i64 key] w fun e w' => e = .returned (.tuple #[.int .i64 (homeF s p ls key).1, .int .i64 (homeF s p ls key).2]) ∧ Below w.heap.size w w' := by
  by_cases hC : checkF s p ls = 0
  · cases hK : inB key 0 7
    · have hf : homeF s p ls key = (0, 2) := by unfold homeF; rw [if_neg (by simpa using hC), if_pos (by have := inB_false hK; omega)]
      rw [hf]
      go_enter Try.func35, Try.ntmps35
      go_wp2_with (first | (go_at_call 28; refine (fault_any _ _ _ _ _ ls _ (hls.below (Flat.stable _) ((Below.refl _ _).alloc (Nat.le_refl _) _) (by simp))).mono ?_; rintro e w1 ⟨rfl, hb1⟩; obtain ⟨hc1, hf1⟩ := bcell hb1; have hsz1 := hb1.size; simp at hsz1; have z0 : w.heap.size < w1.heap.size := by omega) | (go_at_call 46; refine (in_any _ _ _ _).mono ?_; rintro e w2 ⟨rfl, rfl⟩))
      all_goals
        go_ret2
        exact ⟨rfl, ((Below.refl _ _).alloc (Nat.le_refl _) _).trans (hb1.mono (by simp))⟩
    · have hf : homeF s p ls key = (key % s, 0) := by unfold homeF; rw [if_neg (by simpa using hC), if_neg (by have := inB_true hK; omega)]
      rw [hf]
      obtain ⟨hs1, hs2, _⟩ := checkF_ok hC
      obtain ⟨hk1, hk2⟩ := inB_true hK
      go_enter Try.func35, Try.ntmps35
      go_wp2_with (first | (go_at_call 28; refine (fault_any _ _ _ _ _ ls _ (hls.below (Flat.stable _) ((Below.refl _ _).alloc (Nat.le_refl _) _) (by simp))).mono ?_; rintro e w1 ⟨rfl, hb1⟩; obtain ⟨hc1, hf1⟩ := bcell hb1; have hsz1 := hb1.size; simp at hsz1; have z0 : w.heap.size < w1.heap.size := by omega) | (go_at_call 46; refine (in_any _ _ _ _).mono ?_; rintro e w2 ⟨rfl, rfl⟩))
      all_goals
        go_ret2
        exact ⟨rfl, ((Below.refl _ _).alloc (Nat.le_refl _) _).trans (hb1.mono (by simp))⟩
  · have hf : homeF s p ls key = (0, checkF s p ls) := by unfold homeF; rw [if_pos (by simpa using hC)]
    rw [hf]
    go_enter Try.func35, Try.ntmps35
    go_wp2_with (first | (go_at_call 28; refine (fault_any _ _ _ _ _ ls _ (hls.below (Flat.stable _) ((Below.refl _ _).alloc (Nat.le_refl _) _) (by simp))).mono ?_; rintro e w1 ⟨rfl, hb1⟩; obtain ⟨hc1, hf1⟩ := bcell hb1; have hsz1 := hb1.size; simp at hsz1; have z0 : w.heap.size < w1.heap.size := by omega) | (go_at_call 46; refine (in_any _ _ _ _).mono ?_; rintro e w2 ⟨rfl, rfl⟩))
    all_goals
      go_ret2
      exact ⟨rfl, ((Below.refl _ _).alloc (Nat.le_refl _) _).trans (hb1.mono (by simp))⟩

end Go.Proofs.Ytdldmlekjhmaaaa
