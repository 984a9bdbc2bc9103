/- tape.Crash and its reference. -/
import Derived.Test.YtdldmlekjhmaaaaTapD
namespace Go.Proofs.Ytdldmlekjhmaaaa
open Go.RowKit Go.ChangeShapes Go.WideShapes Go.Deep

def crashF (xs : List Int) (s keep : Int) : List Int × Int × Int :=
  if tapeB xs.length s = true then if keep < 0 then ([], 0, 2) else (xs.take (s + min keep (xs.length - s)).toNat, s + min keep (xs.length - s), 0) else ([], 0, 9)

theorem crashF_lt {xs : List Int} {sn kn : Nat} (hT : tapeB xs.length sn = true) (h : sn + kn ≤ xs.length) : crashF xs sn kn = (xs.take (sn + kn), ((sn + kn : Nat) : Int), 0) := by
  unfold crashF
  rw [if_pos hT, if_neg (by omega), show (sn : Int) + min (kn : Int) ((xs.length : Int) - sn) = ((sn + kn : Nat) : Int) by omega]
  rfl
theorem crashF_ge {xs : List Int} {sn kn : Nat} (hT : tapeB xs.length sn = true) (h : xs.length ≤ sn + kn) : crashF xs sn kn = (xs, (xs.length : Int), 0) := by
  unfold crashF
  rw [if_pos hT, if_neg (by omega), show (sn : Int) + min (kn : Int) ((xs.length : Int) - sn) = (xs.length : Int) by omega]
  rw [Int.toNat_natCast, List.take_length]

set_option maxHeartbeats 1000000 in
theorem crash_any (A : Option Addr) (n c : Nat) (s keep : Int) (xs : List Int) (w : World) (hx : BytesAt w w.heap.size A n c xs) (hk : keep ≤ 9223372036854775807) :
    Calls Try.prog 29 #[.agg #[.slice A n c, .int .i64 s], .int .i64 keep] w (RetTape w (crashF xs s keep)) := by
  obtain rfl := hx.1
  cases hT : tapeB xs.length s
  · have hf : crashF xs s keep = ([], 0, 9) := by unfold crashF; rw [hT]; rfl
    rw [hf]
    go_enter Try.func29, Try.ntmps29
    go_wp2_with fail
    refine (open_no _ _ _ _ _ hT).mono ?_
    rintro e w1 ⟨rfl, hb1⟩
    obtain ⟨hc1, hf1⟩ := bcell hb1; have hbb1 : Below w.heap.size w w1 := (by refine Below.trans ?_ (hb1.mono ?_); rotate_left; (first | omega | (simp; done) | (simp; omega)); (repeat (first | exact Below.refl _ _ | assumption | refine Below.alloc ?_ (by first | omega | (simp; done) | (simp; omega)) _ | refine below_drewN ?_ _ | refine Below.drew ?_ | refine Below.setCell ?_ (by first | omega | (simp; done) | (simp; omega)) _))); have hsz1 := hb1.size; (try simp at hsz1)
    have z_w_w1_0 : w.heap.size < w1.heap.size := (by omega); have z_w_w1_1 : w.heap.size + 1 < w1.heap.size := (by omega)
    go_wp2_with fail
    refine bodyPost_ret (v := .tuple #[.agg #[.slice none 0 0, .int .i64 0], .int .i64 9]) (by simp only [results, Try.results29]; go_simp) rfl ⟨none, 0, rfl, SlR.nil_, Fresh.none_, ?_⟩
    (repeat (first | exact Below.refl _ _ | assumption | refine Below.alloc ?_ (by first | omega | (simp; done) | (simp; omega)) _ | refine below_drewN ?_ _ | refine Below.drew ?_ | refine Below.setCell ?_ (by first | omega | (simp; done) | (simp; omega)) _))
  · have hn : xs.length ≤ 6000 := by simp [tapeB] at hT; omega
    by_cases hk0 : keep < 0
    · have hf : crashF xs s keep = ([], 0, 2) := by unfold crashF; rw [if_pos hT, if_pos hk0]
      rw [hf]
      go_enter Try.func29, Try.ntmps29
      go_wp2_with fail
      refine (open_yes _ _ _ _ xs _ (hx.below RByte.stable (by (repeat (first | exact Below.refl _ _ | assumption | refine Below.alloc ?_ (by first | omega | (simp; done) | (simp; omega)) _ | refine below_drewN ?_ _ | refine Below.drew ?_ | refine Below.setCell ?_ (by first | omega | (simp; done) | (simp; omega)) _))) (by first | omega | (simp; done) | (simp; omega))) hT).mono ?_
      rintro e w1 ⟨A1, c1, rfl, hs1, hfr1, hb1⟩
      obtain ⟨hc1, hf1⟩ := bcell hb1; have hbb1 : Below w.heap.size w w1 := (by refine Below.trans ?_ (hb1.mono ?_); rotate_left; (first | omega | (simp; done) | (simp; omega)); (repeat (first | exact Below.refl _ _ | assumption | refine Below.alloc ?_ (by first | omega | (simp; done) | (simp; omega)) _ | refine below_drewN ?_ _ | refine Below.drew ?_ | refine Below.setCell ?_ (by first | omega | (simp; done) | (simp; omega)) _))); have hsz1 := hb1.size; (try simp at hsz1)
      have z_w_w1_0 : w.heap.size < w1.heap.size := (by omega); have z_w_w1_1 : w.heap.size + 1 < w1.heap.size := (by omega)
      go_wp2_with fail
      refine bodyPost_ret (v := .tuple #[.agg #[.slice none 0 0, .int .i64 0], .int .i64 2]) (by simp only [results, Try.results29]; go_simp) rfl ⟨none, 0, rfl, SlR.nil_, Fresh.none_, ?_⟩
      (repeat (first | exact Below.refl _ _ | assumption | refine Below.alloc ?_ (by first | omega | (simp; done) | (simp; omega)) _ | refine below_drewN ?_ _ | refine Below.drew ?_ | refine Below.setCell ?_ (by first | omega | (simp; done) | (simp; omega)) _))
    · obtain ⟨hs0, hs2⟩ : 0 ≤ s ∧ s ≤ xs.length := by simp [tapeB] at hT; exact inB_true hT.2
      obtain ⟨sn, rfl⟩ := Int.eq_ofNat_of_zero_le hs0
      obtain ⟨kn, rfl⟩ := Int.eq_ofNat_of_zero_le (Int.not_lt.1 hk0)
      have hs3 : sn ≤ xs.length := by omega
      by_cases hlt : sn + kn ≤ xs.length
      · have hf := crashF_lt hT hlt
        rw [hf]
        have hlt1 : (kn : Int) ≤ (xs.length : Int) - sn := by omega
        go_enter Try.func29, Try.ntmps29
        go_wp2_with fail
        refine (open_yes _ _ _ _ xs _ (hx.below RByte.stable (by (repeat (first | exact Below.refl _ _ | assumption | refine Below.alloc ?_ (by first | omega | (simp; done) | (simp; omega)) _ | refine below_drewN ?_ _ | refine Below.drew ?_ | refine Below.setCell ?_ (by first | omega | (simp; done) | (simp; omega)) _))) (by first | omega | (simp; done) | (simp; omega))) hT).mono ?_
        rintro e w1 ⟨A1, c1, rfl, hs1, hfr1, hb1⟩
        have hc11 := hs1.2.1
        have hc12 := hs1.2.2.1
        obtain ⟨hc1, hf1⟩ := bcell hb1; have hbb1 : Below w.heap.size w w1 := (by refine Below.trans ?_ (hb1.mono ?_); rotate_left; (first | omega | (simp; done) | (simp; omega)); (repeat (first | exact Below.refl _ _ | assumption | refine Below.alloc ?_ (by first | omega | (simp; done) | (simp; omega)) _ | refine below_drewN ?_ _ | refine Below.drew ?_ | refine Below.setCell ?_ (by first | omega | (simp; done) | (simp; omega)) _))); have hsz1 := hb1.size; (try simp at hsz1)
        have z_w_w1_0 : w.heap.size < w1.heap.size := (by omega); have z_w_w1_1 : w.heap.size + 1 < w1.heap.size := (by omega)
        go_wp2_with fail
        refine bodyPost_ret (v := .tuple #[.agg #[.slice A1 (sn + kn) (sn + kn), .int .i64 ((sn + kn : Nat) : Int)], .int .i64 0]) (by simp only [results, Try.results29]; go_simp) rfl ⟨A1, sn + kn, by rw [List.length_take, Nat.min_eq_left hlt], ?_, hfr1.mono (by first | omega | (simp; done) | (simp; omega)), by (repeat (first | exact Below.refl _ _ | assumption | refine Below.alloc ?_ (by first | omega | (simp; done) | (simp; omega)) _ | refine below_drewN ?_ _ | refine Below.drew ?_ | refine Below.setCell ?_ (by first | omega | (simp; done) | (simp; omega)) _))⟩
        have hs2 := hs1.take (m := sn + kn) (c' := sn + kn) hlt (Nat.le_refl _) (by unfold maxLen; omega)
        rw [List.length_take, Nat.min_eq_left hlt]
        (refine SlR.more RByte.stable (B := w1.heap.size) ?_ (by first | omega | (simp; done) | (simp; omega)); (repeat (first | assumption | refine SlR.alloc RByte.stable ?_ (by first | omega | (simp; done) | (simp; omega)) _ | refine SlR.setFree RByte.free ?_ (fun a ha => (by have := hfr1 a ha; simp at this ⊢; omega)) _)))
      · have hf := crashF_ge hT (by omega : xs.length ≤ sn + kn)
        rw [hf]
        have hlt1 : ¬ (kn : Int) ≤ (xs.length : Int) - sn := by omega
        go_enter Try.func29, Try.ntmps29
        go_wp2_with fail
        refine (open_yes _ _ _ _ xs _ (hx.below RByte.stable (by (repeat (first | exact Below.refl _ _ | assumption | refine Below.alloc ?_ (by first | omega | (simp; done) | (simp; omega)) _ | refine below_drewN ?_ _ | refine Below.drew ?_ | refine Below.setCell ?_ (by first | omega | (simp; done) | (simp; omega)) _))) (by first | omega | (simp; done) | (simp; omega))) hT).mono ?_
        rintro e w1 ⟨A1, c1, rfl, hs1, hfr1, hb1⟩
        have hc11 := hs1.2.1
        have hc12 := hs1.2.2.1
        obtain ⟨hc1, hf1⟩ := bcell hb1; have hbb1 : Below w.heap.size w w1 := (by refine Below.trans ?_ (hb1.mono ?_); rotate_left; (first | omega | (simp; done) | (simp; omega)); (repeat (first | exact Below.refl _ _ | assumption | refine Below.alloc ?_ (by first | omega | (simp; done) | (simp; omega)) _ | refine below_drewN ?_ _ | refine Below.drew ?_ | refine Below.setCell ?_ (by first | omega | (simp; done) | (simp; omega)) _))); have hsz1 := hb1.size; (try simp at hsz1)
        have z_w_w1_0 : w.heap.size < w1.heap.size := (by omega); have z_w_w1_1 : w.heap.size + 1 < w1.heap.size := (by omega)
        go_wp2_with fail
        refine bodyPost_ret (v := .tuple #[.agg #[.slice A1 xs.length xs.length, .int .i64 (xs.length : Int)], .int .i64 0]) (by simp only [results, Try.results29]; go_simp; try omega) rfl ⟨A1, xs.length, rfl, ?_, hfr1.mono (by first | omega | (simp; done) | (simp; omega)), by (repeat (first | exact Below.refl _ _ | assumption | refine Below.alloc ?_ (by first | omega | (simp; done) | (simp; omega)) _ | refine below_drewN ?_ _ | refine Below.drew ?_ | refine Below.setCell ?_ (by first | omega | (simp; done) | (simp; omega)) _))⟩
        have hs2 := hs1.take (m := xs.length) (c' := xs.length) (Nat.le_refl _) (Nat.le_refl _) (by unfold maxLen; omega)
        rw [List.take_length] at hs2
        (refine SlR.more RByte.stable (B := w1.heap.size) ?_ (by first | omega | (simp; done) | (simp; omega)); (repeat (first | assumption | refine SlR.alloc RByte.stable ?_ (by first | omega | (simp; done) | (simp; omega)) _ | refine SlR.setFree RByte.free ?_ (fun a ha => (by have := hfr1 a ha; simp at this ⊢; omega)) _)))


set_option maxHeartbeats 1000000 in
theorem crashed_any (A : Option Addr) (n c : Nat) (s keep : Int) (xs : List Int) (w : World) (hx : BytesAt w w.heap.size A n c xs) (hk : keep ≤ 9223372036854775807) :
    Calls Try.prog 30 #[.agg #[.slice A n c, .int .i64 s], .int .i64 keep] w (RetTape w (crashF xs s keep)) := by
  obtain rfl := hx.1
  cases hT : tapeB xs.length s
  · have hf : crashF xs s keep = ([], 0, 9) := by unfold crashF; rw [hT]; rfl
    rw [hf]
    go_enter Try.func30, Try.ntmps30
    go_wp2_with (go_at_call 42; refine (tapeMay_any _ _ _ _ _).mono ?_; rintro e w1 ⟨rfl, rfl⟩)
    refine bodyPost_ret (v := .tuple #[.agg #[.slice none 0 0, .int .i64 0], .int .i64 9]) (by simp only [results, Try.results30]; go_simp) rfl ⟨none, 0, rfl, SlR.nil_, Fresh.none_, ?_⟩
    (repeat (first | exact Below.refl _ _ | assumption | refine Below.alloc ?_ (by first | omega | (simp; done) | (simp; omega)) _ | refine below_drewN ?_ _ | refine Below.drew ?_ | refine Below.setCell ?_ (by first | omega | (simp; done) | (simp; omega)) _))
  · have hn : xs.length ≤ 6000 := by simp [tapeB] at hT; omega
    by_cases hk0 : keep < 0
    · have hf : crashF xs s keep = ([], 0, 2) := by unfold crashF; rw [if_pos hT, if_pos hk0]
      rw [hf]
      go_enter Try.func30, Try.ntmps30
      go_wp2_with (go_at_call 42; refine (tapeMay_any _ _ _ _ _).mono ?_; rintro e w1 ⟨rfl, rfl⟩)
      refine bodyPost_ret (v := .tuple #[.agg #[.slice none 0 0, .int .i64 0], .int .i64 2]) (by simp only [results, Try.results30]; go_simp) rfl ⟨none, 0, rfl, SlR.nil_, Fresh.none_, ?_⟩
      (repeat (first | exact Below.refl _ _ | assumption | refine Below.alloc ?_ (by first | omega | (simp; done) | (simp; omega)) _ | refine below_drewN ?_ _ | refine Below.drew ?_ | refine Below.setCell ?_ (by first | omega | (simp; done) | (simp; omega)) _))
    · obtain ⟨hs0, hs2⟩ : 0 ≤ s ∧ s ≤ xs.length := by simp [tapeB] at hT; exact inB_true hT.2
      obtain ⟨sn, rfl⟩ := Int.eq_ofNat_of_zero_le hs0
      obtain ⟨kn, rfl⟩ := Int.eq_ofNat_of_zero_le (Int.not_lt.1 hk0)
      have hs3 : sn ≤ xs.length := by omega
      have hc11 := hx.2.1
      have hc12 := hx.2.2.1
      by_cases hlt : sn + kn < xs.length
      · have hf := crashF_lt hT (Nat.le_of_lt hlt)
        rw [hf]
        have hlt1 : (kn : Int) < (xs.length : Int) - sn := by omega
        have hlt2 : sn + kn ≤ xs.length := by omega
        have hx2 := hx.take (m := sn + kn) (c' := c) hlt2 (by omega) hc12
        go_enter Try.func30, Try.ntmps30
        go_wp2_with (first | (go_at_call 42; refine (tapeMay_any _ _ _ _ _).mono ?_; rintro e w1 ⟨rfl, rfl⟩))
        refine (joined1_any _ _ A _ c (xs.take (sn + kn)) (by go_simp) (by simp) (hx2.below RByte.stable (by (repeat (first | exact Below.refl _ _ | assumption | refine Below.alloc ?_ (by first | omega | (simp; done) | (simp; omega)) _ | refine below_drewN ?_ _ | refine Below.drew ?_ | refine Below.setCell ?_ (by first | omega | (simp; done) | (simp; omega)) _))) (by first | omega | (simp; done) | (simp; omega)))).mono ?_
        rintro e w1 ⟨A1, c1, rfl, hown1, hb1⟩
        rw [List.length_take, Nat.min_eq_left hlt2] at hown1
        obtain ⟨hc1, hf1⟩ := bcell hb1; have hbb1 : Below w.heap.size w w1 := (by refine Below.trans ?_ (hb1.mono ?_); rotate_left; (first | omega | (simp; done) | (simp; omega)); (repeat (first | exact Below.refl _ _ | assumption | refine Below.alloc ?_ (by first | omega | (simp; done) | (simp; omega)) _ | refine below_drewN ?_ _ | refine Below.drew ?_ | refine Below.setCell ?_ (by first | omega | (simp; done) | (simp; omega)) _))); have hsz1 := hb1.size; (try simp at hsz1)
        have hs1 := hown1.slF RByte.free RByte.good (bytes := 1) (by rw [List.length_take]; omega)
        have hfr1 := hown1.fresh
        go_wp2_with fail
        refine bodyPost_ret (v := .tuple #[.agg #[.slice A1 (sn + kn) c1, .int .i64 ((sn + kn : Nat) : Int)], .int .i64 0]) (by simp only [results, Try.results30]; go_simp; try omega) rfl ⟨A1, c1, by rw [List.length_take, Nat.min_eq_left hlt2], ?_, hfr1.mono (by first | omega | (simp; done) | (simp; omega)), by (repeat (first | exact Below.refl _ _ | assumption | refine Below.alloc ?_ (by first | omega | (simp; done) | (simp; omega)) _ | refine below_drewN ?_ _ | refine Below.drew ?_ | refine Below.setCell ?_ (by first | omega | (simp; done) | (simp; omega)) _))⟩
        rw [List.length_take, Nat.min_eq_left hlt2]
        (refine SlR.more RByte.stable (B := w1.heap.size) ?_ (by first | omega | (simp; done) | (simp; omega)); (repeat (first | assumption | refine SlR.alloc RByte.stable ?_ (by first | omega | (simp; done) | (simp; omega)) _ | refine SlR.setFree RByte.free ?_ (fun a ha => (by have := hfr1 a ha; simp at this ⊢; omega)) _)))
      · have hf := crashF_ge hT (by omega : xs.length ≤ sn + kn)
        rw [hf]
        have hlt1 : ¬ (kn : Int) < (xs.length : Int) - sn := by omega
        have hx2 := hx.take (m := xs.length) (c' := c) (Nat.le_refl _) (by omega) hc12
        rw [List.take_length] at hx2
        go_enter Try.func30, Try.ntmps30
        go_wp2_with (first | (go_at_call 42; refine (tapeMay_any _ _ _ _ _).mono ?_; rintro e w1 ⟨rfl, rfl⟩))
        refine (joined1_any _ _ A _ c xs (by go_simp) (by simp) (hx2.below RByte.stable (by (repeat (first | exact Below.refl _ _ | assumption | refine Below.alloc ?_ (by first | omega | (simp; done) | (simp; omega)) _ | refine below_drewN ?_ _ | refine Below.drew ?_ | refine Below.setCell ?_ (by first | omega | (simp; done) | (simp; omega)) _))) (by first | omega | (simp; done) | (simp; omega)))).mono ?_
        rintro e w1 ⟨A1, c1, rfl, hown1, hb1⟩
        obtain ⟨hc1, hf1⟩ := bcell hb1; have hbb1 : Below w.heap.size w w1 := (by refine Below.trans ?_ (hb1.mono ?_); rotate_left; (first | omega | (simp; done) | (simp; omega)); (repeat (first | exact Below.refl _ _ | assumption | refine Below.alloc ?_ (by first | omega | (simp; done) | (simp; omega)) _ | refine below_drewN ?_ _ | refine Below.drew ?_ | refine Below.setCell ?_ (by first | omega | (simp; done) | (simp; omega)) _))); have hsz1 := hb1.size; (try simp at hsz1)
        have hs1 := hown1.slF RByte.free RByte.good (bytes := 1) (by omega)
        have hfr1 := hown1.fresh
        go_wp2_with fail
        refine bodyPost_ret (v := .tuple #[.agg #[.slice A1 xs.length c1, .int .i64 (xs.length : Int)], .int .i64 0]) (by simp only [results, Try.results30]; go_simp; try omega) rfl ⟨A1, c1, rfl, ?_, hfr1.mono (by first | omega | (simp; done) | (simp; omega)), by (repeat (first | exact Below.refl _ _ | assumption | refine Below.alloc ?_ (by first | omega | (simp; done) | (simp; omega)) _ | refine below_drewN ?_ _ | refine Below.drew ?_ | refine Below.setCell ?_ (by first | omega | (simp; done) | (simp; omega)) _))⟩
        skip
        (refine SlR.more RByte.stable (B := w1.heap.size) ?_ (by first | omega | (simp; done) | (simp; omega)); (repeat (first | assumption | refine SlR.alloc RByte.stable ?_ (by first | omega | (simp; done) | (simp; omega)) _ | refine SlR.setFree RByte.free ?_ (fun a ha => (by have := hfr1 a ha; simp at this ⊢; omega)) _)))

end Go.Proofs.Ytdldmlekjhmaaaa
