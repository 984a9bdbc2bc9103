/- label.Sees and its reference. -/
import Derived.Test.YtdldmlekjhmaaaaLabE
import Derived.Deep.RegionHeld3
namespace Go.Proofs.Ytdldmlekjhmaaaa
open Go.RowKit Go.ChangeShapes Go.WideShapes Go.Deep

set_option maxHeartbeats 400000 in
theorem place_any (s p : Int) (A : Option Addr) (n c : Nat) (l : Int) (w : World) :
    Calls Try.prog 48 #[.agg #[.int .i64 s, .slice A n c, .int .i64 p], .int .i64 l] w fun e w' => e = .returned (.bool (inB l 0 ((n : Int) - 1))) ∧ w' = w.alloc (.cells #[.int .i64 s, .slice A n c, .int .i64 p] 42) := by
  go_enter Try.func48, Try.ntmps48
  go_wp2
  all_goals
    go_ret
    refine ⟨ret_bool (by rw [Bool.eq_iff_iff]; simp [inB]; try omega), rfl⟩

def seesF (s p : Int) (ls : List (Int × Int)) (a b : Int) : Bool × Int :=
  if checkF s p ls ≠ 0 then (false, checkF s p ls) else if inB a 0 ((ls.length : Int) - 1) = false ∨ inB b 0 ((ls.length : Int) - 1) = false then (false, 6) else
    (domB (ls.getD a.toNat (0, 0)).1 (ls.getD a.toNat (0, 0)).2 (ls.getD b.toNat (0, 0)).1 (ls.getD b.toNat (0, 0)).2, 0)

set_option maxHeartbeats 400000 in
theorem sees_any (s p a b : Int) (A : Option Addr) (n c : Nat) (ls : List (Int × Int)) (w : World) (hls : LabelsAt w w.heap.size A n c ls) :
    Calls Try.prog 36 #[.agg #[.int .i64 s, .slice A n c, .int .i64 p], .int .i64 a, .int .i64 b] w fun e w' => e = .returned (.tuple #[.bool (seesF s p ls a b).1, .int .i64 (seesF s p ls a b).2]) ∧ Below w.heap.size w w' := by
  have hn : n ≤ 9223372036854775807 := by have := hls.2.1; have := hls.2.2.1; unfold maxLen at this; omega
  have hnc : n ≤ c := hls.2.1
  have HL := Lib.hid hls.1
  by_cases hC : checkF s p ls = 0
  · cases hA : inB a 0 ((n : Int) - 1)
    · have hf : seesF s p ls a b = (false, 6) := by unfold seesF; rw [if_neg (by simpa using hC), HL.out, if_pos (.inl hA)]
      rw [hf]
      go_enter Try.func36, Try.ntmps36
      go_wp2_with (first | (go_at_call 27; refine (check_any _ _ _ _ _ ls _ (hls.below (Flat.stable _) ((Below.refl _ _).alloc (Nat.le_refl _) _) (by simp))).mono ?_; rintro e w1 ⟨rfl, hb1⟩; obtain ⟨hc1, hf1⟩ := bcell hb1; have hsz1 := hb1.size; simp at hsz1; have z0 : w.heap.size < w1.heap.size := by omega) | (go_at_call 48; refine (place_any _ _ _ _ _ _ _).mono ?_; rintro e w2 ⟨rfl, rfl⟩) | (go_at_call 15; refine (above_any _ _ _ _ _).mono ?_; rintro e w2 ⟨rfl, rfl⟩))
      all_goals
        go_ret2
        exact ⟨rfl, by have hbb : Below w.heap.size w w1 := ((Below.refl _ _).alloc (Nat.le_refl _) _).trans (hb1.mono (by simp)); (repeat (first | exact Below.refl _ _ | assumption | refine Below.alloc ?_ (by first | omega | (simp; done) | (simp; omega)) _ | refine below_drewN ?_ _ | refine Below.drew ?_ | refine Below.setCell ?_ (by first | omega | (simp; done) | (simp; omega)) _))⟩
    · cases hB : inB b 0 ((n : Int) - 1)
      · have hf : seesF s p ls a b = (false, 6) := by unfold seesF; rw [if_neg (by simpa using hC), HL.out, if_pos (.inr hB)]
        rw [hf]
        go_enter Try.func36, Try.ntmps36
        go_wp2_with (first | (go_at_call 27; refine (check_any _ _ _ _ _ ls _ (hls.below (Flat.stable _) ((Below.refl _ _).alloc (Nat.le_refl _) _) (by simp))).mono ?_; rintro e w1 ⟨rfl, hb1⟩; obtain ⟨hc1, hf1⟩ := bcell hb1; have hsz1 := hb1.size; simp at hsz1; have z0 : w.heap.size < w1.heap.size := by omega) | (go_at_call 48; refine (place_any _ _ _ _ _ _ _).mono ?_; rintro e w2 ⟨rfl, rfl⟩) | (go_at_call 15; refine (above_any _ _ _ _ _).mono ?_; rintro e w2 ⟨rfl, rfl⟩))
        all_goals
          go_ret2
          exact ⟨rfl, by have hbb : Below w.heap.size w w1 := ((Below.refl _ _).alloc (Nat.le_refl _) _).trans (hb1.mono (by simp)); (repeat (first | exact Below.refl _ _ | assumption | refine Below.alloc ?_ (by first | omega | (simp; done) | (simp; omega)) _ | refine below_drewN ?_ _ | refine Below.drew ?_ | refine Below.setCell ?_ (by first | omega | (simp; done) | (simp; omega)) _))⟩
      · obtain ⟨ha1, ha2⟩ := inB_true hA
        obtain ⟨hb1', hb2'⟩ := inB_true hB
        obtain ⟨ka, rfl⟩ := Int.eq_ofNat_of_zero_le ha1
        obtain ⟨kb, rfl⟩ := Int.eq_ofNat_of_zero_le hb1'
        have hka : ka < n := by omega
        have hkb : kb < n := by omega
        have hf : seesF s p ls ka kb = (domB (ls.getD ka (0, 0)).1 (ls.getD ka (0, 0)).2 (ls.getD kb (0, 0)).1 (ls.getD kb (0, 0)).2, 0) := by
          unfold seesF; rw [if_neg (by simpa using hC), HL.out, if_neg (by rw [hA, hB]; simp)]; rfl
        rw [hf]
        obtain ⟨b, off, hAd, hbB, hcell⟩ := hls.cells hka
        obtain rfl := hAd
        go_enter Try.func36, Try.ntmps36
        go_wp2_with fail
        refine (check_any _ _ _ _ _ ls _ (hls.below (Flat.stable _) ((Below.refl _ _).alloc (Nat.le_refl _) _) (by simp))).mono ?_
        rintro e w1 ⟨rfl, hb1⟩
        obtain ⟨hc1, hf1⟩ := bcell hb1
        have hsz1 := hb1.size
        simp at hsz1
        have z0 : w.heap.size < w1.heap.size := by omega
        have z1 : b < w1.heap.size := by omega
        have hbb : Below w.heap.size w w1 := ((Below.refl _ _).alloc (Nat.le_refl _) _).trans (hb1.mono (by simp))
        go_wp2_with fail
        refine (place_any _ _ _ _ _ _ _).mono ?_
        rintro e W ⟨rfl, hWe⟩
        have hbW : Below (w.heap.size + 1) (w.alloc (.cells #[.int .i64 s, .slice (some ⟨b, off, none⟩) n c, .int .i64 p] 42)) W := by rw [hWe]; exact Below.alloc (hb1.mono (by simp)) (by omega) _
        clear hWe hc1 hf1
        obtain ⟨hc2, hf2⟩ := bcell hbW
        have hsz2 := hbW.size
        simp at hsz2
        have z2 : w.heap.size < W.heap.size := by omega
        have y2 : b < W.heap.size := by omega
        go_wp2_with fail
        refine (place_any _ _ _ _ _ _ _).mono ?_
        rintro e V ⟨rfl, hVe⟩
        have hbV : Below (w.heap.size + 1) (w.alloc (.cells #[.int .i64 s, .slice (some ⟨b, off, none⟩) n c, .int .i64 p] 42)) V := by rw [hVe]; exact Below.alloc hbW (by omega) _
        clear hVe hc2 hf2
        have hbb2 : Below w.heap.size w V := ((Below.refl _ _).alloc (Nat.le_refl _) _).trans (hbV.mono (by simp))
        obtain ⟨hc2, hf2⟩ := bcell hbV
        have hsz2 := hbV.size
        simp at hsz2
        have z2 : w.heap.size < V.heap.size := by omega
        have y2 : b < V.heap.size := by omega
        have z3 : w.heap.size < V.heap.size + 1 := by omega
        have y3 : b < V.heap.size + 1 := by omega
        obtain ⟨hxa1, hxa2⟩ := hcell ka hka
        obtain ⟨hxb1, hxb2⟩ := hcell kb hkb
        have hka1 : (ka : Int) < n := by omega
        have hkb1 : (kb : Int) < n := by omega
        go_wp2_with fail
        go_region_held3 (fun w' => w'.cell? ⟨w.heap.size, 1, none⟩ = some (.slice (some ⟨b, off, none⟩) n c) ∧ w'.cell? ⟨b, off + ka * 2, none⟩ = some (.int .i64 (ls.getD ka (0, 0)).1) ∧ w'.cell? ⟨b, off + ka * 2 + 1, none⟩ = some (.int .i64 (ls.getD ka (0, 0)).2)
            ∧ w'.cell? ⟨b, off + kb * 2, none⟩ = some (.int .i64 (ls.getD kb (0, 0)).1) ∧ w'.cell? ⟨b, off + kb * 2 + 1, none⟩ = some (.int .i64 (ls.getD kb (0, 0)).2) ∧ Below w.heap.size w w') 
          ((try refine ⟨?_, ?_, ?_, ?_, ?_, ?_⟩) <;> first | ((repeat (first | exact Below.refl _ _ | assumption | refine Below.alloc ?_ (by first | omega | (simp; done) | (simp; omega)) _ | refine below_drewN ?_ _ | refine Below.drew ?_ | refine Below.setCell ?_ (by first | omega | (simp; done) | (simp; omega)) _)); done) | (go_simp; done)) (first | (go_at_call 15; refine (above_any _ _ _ _ _).mono ?_; rintro e w2 ⟨rfl, rfl⟩))
        go_wp2
        go_ret2
        exact ⟨by simp, by (repeat (first | exact Below.refl _ _ | assumption | refine Below.alloc ?_ (by first | omega | (simp; done) | (simp; omega)) _ | refine below_drewN ?_ _ | refine Below.drew ?_ | refine Below.setCell ?_ (by first | omega | (simp; done) | (simp; omega)) _))⟩
  · have hf : seesF s p ls a b = (false, checkF s p ls) := by unfold seesF; rw [if_pos (by simpa using hC)]
    rw [hf]
    go_enter Try.func36, Try.ntmps36
    go_wp2_with (first | (go_at_call 27; refine (check_any _ _ _ _ _ ls _ (hls.below (Flat.stable _) ((Below.refl _ _).alloc (Nat.le_refl _) _) (by simp))).mono ?_; rintro e w1 ⟨rfl, hb1⟩; obtain ⟨hc1, hf1⟩ := bcell hb1; have hsz1 := hb1.size; simp at hsz1; have z0 : w.heap.size < w1.heap.size := by omega) | (go_at_call 48; refine (place_any _ _ _ _ _ _ _).mono ?_; rintro e w2 ⟨rfl, rfl⟩) | (go_at_call 15; refine (above_any _ _ _ _ _).mono ?_; rintro e w2 ⟨rfl, rfl⟩))
    all_goals
      go_ret2
      exact ⟨rfl, by have hbb : Below w.heap.size w w1 := ((Below.refl _ _).alloc (Nat.le_refl _) _).trans (hb1.mono (by simp)); (repeat (first | exact Below.refl _ _ | assumption | refine Below.alloc ?_ (by first | omega | (simp; done) | (simp; omega)) _ | refine below_drewN ?_ _ | refine Below.drew ?_ | refine Below.setCell ?_ (by first | omega | (simp; done) | (simp; omega)) _))⟩

set_option maxHeartbeats 400000 in
theorem seesOf_any (s p a b : Int) (A : Option Addr) (n c : Nat) (ls : List (Int × Int)) (w : World) (hls : LabelsAt w w.heap.size A n c ls) :
    Calls Try.prog 37 #[.agg #[.int .i64 s, .slice A n c, .int .i64 p], .int .i64 a, .int .i64 b] w fun e w' => e = .returned (.tuple #[.bool (seesF s p ls a b).1, .int .i64 (seesF s p ls a b).2]) ∧ Below w.heap.size w w' := by
  have hn : n ≤ 9223372036854775807 := by have := hls.2.1; have := hls.2.2.1; unfold maxLen at this; omega
  have hnc : n ≤ c := hls.2.1
  have HL := Lib.hid hls.1
  by_cases hC : checkF s p ls = 0
  · cases hA : inB a 0 ((n : Int) - 1)
    · have hf : seesF s p ls a b = (false, 6) := by unfold seesF; rw [if_neg (by simpa using hC), HL.out, if_pos (.inl hA)]
      rw [hf]
      go_enter Try.func37, Try.ntmps37
      go_wp2_with (first | (go_at_call 28; refine (fault_any _ _ _ _ _ ls _ (hls.below (Flat.stable _) ((Below.refl _ _).alloc (Nat.le_refl _) _) (by simp))).mono ?_; rintro e w1 ⟨rfl, hb1⟩; obtain ⟨hc1, hf1⟩ := bcell hb1; have hsz1 := hb1.size; simp at hsz1; have z0 : w.heap.size < w1.heap.size := by omega) | (go_at_call 49; refine (labelMay_any _ _ _ _ _ _ _ (by omega)).mono ?_; rintro e w2 ⟨rfl, rfl⟩) | (go_at_call 16; refine (dom_any _ _ _ _ _).mono ?_; rintro e w2 ⟨rfl, rfl⟩))
      all_goals
        go_ret2
        exact ⟨rfl, by have hbb : Below w.heap.size w w1 := ((Below.refl _ _).alloc (Nat.le_refl _) _).trans (hb1.mono (by simp)); (repeat (first | exact Below.refl _ _ | assumption | refine Below.alloc ?_ (by first | omega | (simp; done) | (simp; omega)) _ | refine below_drewN ?_ _ | refine Below.drew ?_ | refine Below.setCell ?_ (by first | omega | (simp; done) | (simp; omega)) _))⟩
    · cases hB : inB b 0 ((n : Int) - 1)
      · have hf : seesF s p ls a b = (false, 6) := by unfold seesF; rw [if_neg (by simpa using hC), HL.out, if_pos (.inr hB)]
        rw [hf]
        go_enter Try.func37, Try.ntmps37
        go_wp2_with (first | (go_at_call 28; refine (fault_any _ _ _ _ _ ls _ (hls.below (Flat.stable _) ((Below.refl _ _).alloc (Nat.le_refl _) _) (by simp))).mono ?_; rintro e w1 ⟨rfl, hb1⟩; obtain ⟨hc1, hf1⟩ := bcell hb1; have hsz1 := hb1.size; simp at hsz1; have z0 : w.heap.size < w1.heap.size := by omega) | (go_at_call 49; refine (labelMay_any _ _ _ _ _ _ _ (by omega)).mono ?_; rintro e w2 ⟨rfl, rfl⟩) | (go_at_call 16; refine (dom_any _ _ _ _ _).mono ?_; rintro e w2 ⟨rfl, rfl⟩))
        all_goals
          go_ret2
          exact ⟨rfl, by have hbb : Below w.heap.size w w1 := ((Below.refl _ _).alloc (Nat.le_refl _) _).trans (hb1.mono (by simp)); (repeat (first | exact Below.refl _ _ | assumption | refine Below.alloc ?_ (by first | omega | (simp; done) | (simp; omega)) _ | refine below_drewN ?_ _ | refine Below.drew ?_ | refine Below.setCell ?_ (by first | omega | (simp; done) | (simp; omega)) _))⟩
      · obtain ⟨ha1, ha2⟩ := inB_true hA
        obtain ⟨hb1', hb2'⟩ := inB_true hB
        obtain ⟨ka, rfl⟩ := Int.eq_ofNat_of_zero_le ha1
        obtain ⟨kb, rfl⟩ := Int.eq_ofNat_of_zero_le hb1'
        have hka : ka < n := by omega
        have hkb : kb < n := by omega
        have hf : seesF s p ls ka kb = (domB (ls.getD ka (0, 0)).1 (ls.getD ka (0, 0)).2 (ls.getD kb (0, 0)).1 (ls.getD kb (0, 0)).2, 0) := by
          unfold seesF; rw [if_neg (by simpa using hC), HL.out, if_neg (by rw [hA, hB]; simp)]; rfl
        rw [hf]
        obtain ⟨b, off, hAd, hbB, hcell⟩ := hls.cells hka
        obtain rfl := hAd
        go_enter Try.func37, Try.ntmps37
        go_wp2_with fail
        refine (fault_any _ _ _ _ _ ls _ (hls.below (Flat.stable _) ((Below.refl _ _).alloc (Nat.le_refl _) _) (by simp))).mono ?_
        rintro e w1 ⟨rfl, hb1⟩
        obtain ⟨hc1, hf1⟩ := bcell hb1
        have hsz1 := hb1.size
        simp at hsz1
        have z0 : w.heap.size < w1.heap.size := by omega
        have z1 : b < w1.heap.size := by omega
        have hbb : Below w.heap.size w w1 := ((Below.refl _ _).alloc (Nat.le_refl _) _).trans (hb1.mono (by simp))
        go_wp2_with fail
        refine (labelMay_any _ _ _ _ _ _ _ (by omega)).mono ?_
        rintro e W ⟨rfl, hWe⟩
        have hbW : Below (w.heap.size + 1) (w.alloc (.cells #[.int .i64 s, .slice (some ⟨b, off, none⟩) n c, .int .i64 p] 42)) W := by rw [hWe]; exact Below.alloc (hb1.mono (by simp)) (by omega) _
        clear hWe hc1 hf1
        obtain ⟨hc2, hf2⟩ := bcell hbW
        have hsz2 := hbW.size
        simp at hsz2
        have z2 : w.heap.size < W.heap.size := by omega
        have y2 : b < W.heap.size := by omega
        go_wp2_with fail
        refine (labelMay_any _ _ _ _ _ _ _ (by omega)).mono ?_
        rintro e V ⟨rfl, hVe⟩
        have hbV : Below (w.heap.size + 1) (w.alloc (.cells #[.int .i64 s, .slice (some ⟨b, off, none⟩) n c, .int .i64 p] 42)) V := by rw [hVe]; exact Below.alloc hbW (by omega) _
        clear hVe hc2 hf2
        have hbb2 : Below w.heap.size w V := ((Below.refl _ _).alloc (Nat.le_refl _) _).trans (hbV.mono (by simp))
        obtain ⟨hc2, hf2⟩ := bcell hbV
        have hsz2 := hbV.size
        simp at hsz2
        have z2 : w.heap.size < V.heap.size := by omega
        have y2 : b < V.heap.size := by omega
        have z3 : w.heap.size < V.heap.size + 1 := by omega
        have y3 : b < V.heap.size + 1 := by omega
        obtain ⟨hxa1, hxa2⟩ := hcell ka hka
        obtain ⟨hxb1, hxb2⟩ := hcell kb hkb
        have hka1 : (ka : Int) < n := by omega
        have hkb1 : (kb : Int) < n := by omega
        go_wp2_with fail
        go_region_held3 (fun w' => w'.cell? ⟨w.heap.size, 1, none⟩ = some (.slice (some ⟨b, off, none⟩) n c) ∧ w'.cell? ⟨b, off + ka * 2, none⟩ = some (.int .i64 (ls.getD ka (0, 0)).1) ∧ w'.cell? ⟨b, off + ka * 2 + 1, none⟩ = some (.int .i64 (ls.getD ka (0, 0)).2)
            ∧ w'.cell? ⟨b, off + kb * 2, none⟩ = some (.int .i64 (ls.getD kb (0, 0)).1) ∧ w'.cell? ⟨b, off + kb * 2 + 1, none⟩ = some (.int .i64 (ls.getD kb (0, 0)).2) ∧ Below w.heap.size w w') 
          ((try refine ⟨?_, ?_, ?_, ?_, ?_, ?_⟩) <;> first | ((repeat (first | exact Below.refl _ _ | assumption | refine Below.alloc ?_ (by first | omega | (simp; done) | (simp; omega)) _ | refine below_drewN ?_ _ | refine Below.drew ?_ | refine Below.setCell ?_ (by first | omega | (simp; done) | (simp; omega)) _)); done) | (go_simp; done)) (first | (go_at_call 16; refine (dom_any _ _ _ _ _).mono ?_; rintro e w2 ⟨rfl, rfl⟩))
        go_wp2
        go_ret2
        exact ⟨by simp, by (repeat (first | exact Below.refl _ _ | assumption | refine Below.alloc ?_ (by first | omega | (simp; done) | (simp; omega)) _ | refine below_drewN ?_ _ | refine Below.drew ?_ | refine Below.setCell ?_ (by first | omega | (simp; done) | (simp; omega)) _))⟩
  · have hf : seesF s p ls a b = (false, checkF s p ls) := by unfold seesF; rw [if_pos (by simpa using hC)]
    rw [hf]
    go_enter Try.func37, Try.ntmps37
    go_wp2_with (first | (go_at_call 28; refine (fault_any _ _ _ _ _ ls _ (hls.below (Flat.stable _) ((Below.refl _ _).alloc (Nat.le_refl _) _) (by simp))).mono ?_; rintro e w1 ⟨rfl, hb1⟩; obtain ⟨hc1, hf1⟩ := bcell hb1; have hsz1 := hb1.size; simp at hsz1; have z0 : w.heap.size < w1.heap.size := by omega) | (go_at_call 49; refine (labelMay_any _ _ _ _ _ _ _ (by omega)).mono ?_; rintro e w2 ⟨rfl, rfl⟩) | (go_at_call 16; refine (dom_any _ _ _ _ _).mono ?_; rintro e w2 ⟨rfl, rfl⟩))
    all_goals
      go_ret2
      exact ⟨rfl, by have hbb : Below w.heap.size w w1 := ((Below.refl _ _).alloc (Nat.le_refl _) _).trans (hb1.mono (by simp)); (repeat (first | exact Below.refl _ _ | assumption | refine Below.alloc ?_ (by first | omega | (simp; done) | (simp; omega)) _ | refine below_drewN ?_ _ | refine Below.drew ?_ | refine Below.setCell ?_ (by first | omega | (simp; done) | (simp; omega)) _))⟩

end Go.Proofs.Ytdldmlekjhmaaaa
