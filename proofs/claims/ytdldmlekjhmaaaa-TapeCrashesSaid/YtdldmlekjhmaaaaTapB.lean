/- tape.open and the reference's TapeMay. -/
import Derived.Test.YtdldmlekjhmaaaaTapA
import Derived.Test.YtdldmlekjhmaaaaLabA
import Derived.Deep.RegionWith
namespace Go.Proofs.Ytdldmlekjhmaaaa
open Go.RowKit Go.ChangeShapes Go.WideShapes Go.Deep

/-- may a tape of n bytes, s of them synced, be? -/
def tapeB (n : Nat) (s : Int) : Bool := decide (n ≤ 6000) && inB s 0 n

/-- what open hands back -/
def RetOpen (w0 : World) (n : Nat) (s : Int) (xs : List Int) (e : Ending) (w' : World) : Prop :=
  ∃ A c, e = .returned (.tuple #[.agg #[.slice A n c, .int .i64 s], .bool true]) ∧ BytesAt w' w'.heap.size A n c xs ∧ Fresh w0.heap.size A ∧ Below w0.heap.size w0 w'

set_option maxHeartbeats 400000 in
theorem open_no (A : Option Addr) (n c : Nat) (s : Int) (w : World) (h : tapeB n s = false) :
    Calls Try.prog 41 #[.agg #[.slice A n c, .int .i64 s]] w fun e w' => e = .returned (.tuple #[.agg #[.slice none 0 0, .int .i64 0], .bool false]) ∧ Below w.heap.size w w' := by
  unfold tapeB inB at h
  go_enter Try.func41, Try.ntmps41
  have H := Lib.hid h
  clear h
  go_wp2_with fail
  all_goals first
    | (refine bodyPost_ret (v := .tuple #[.agg #[.slice none 0 0, .int .i64 0], .bool false]) (by simp [results, Try.results41, go_sem]) rfl ⟨rfl, ?_⟩
       (repeat (first | exact Below.refl _ _ | assumption | refine Below.alloc ?_ (by first | omega | (simp; done) | (simp; omega)) _ | refine below_drewN ?_ _ | refine Below.drew ?_ | refine Below.setCell ?_ (by first | omega | (simp; done) | (simp; omega)) _)))
    | (exfalso; have := H.out; simp at this; omega)

set_option maxHeartbeats 400000 in
theorem open_yes (A : Option Addr) (n c : Nat) (s : Int) (xs : List Int) (w : World) (hx : BytesAt w w.heap.size A n c xs) (h : tapeB n s = true) :
    Calls Try.prog 41 #[.agg #[.slice A n c, .int .i64 s]] w (RetOpen w n s xs) := by
  obtain rfl := hx.1
  have hn : xs.length ≤ 6000 := by simp [tapeB] at h; exact h.1
  have hs : 0 ≤ s ∧ s ≤ xs.length := by simp [tapeB] at h; exact inB_true h.2
  obtain ⟨hs1, hs2⟩ := hs
  clear h
  go_enter Try.func41, Try.ntmps41
  go_wp2_with fail
  go_region_with
     (first | (go_at_call 52; refine (clone_any A _ c xs _ (hx.below (RByte.stable) (by (repeat (first | exact Below.refl _ _ | assumption | refine Below.alloc ?_ (by first | omega | (simp; done) | (simp; omega)) _ | refine below_drewN ?_ _ | refine Below.drew ?_ | refine Below.setCell ?_ (by first | omega | (simp; done) | (simp; omega)) _))) (by first | omega | (simp; done) | (simp; omega)))).mono ?_; rintro e w1 ⟨A1, c1, rfl, hown1, hb1⟩; obtain ⟨hc1, hf1⟩ := bcell hb1; have hbb : Below w.heap.size w w1 := (show Below w.heap.size w _ from by (repeat (first | exact Below.refl _ _ | assumption | refine Below.alloc ?_ (by first | omega | (simp; done) | (simp; omega)) _ | refine below_drewN ?_ _ | refine Below.drew ?_ | refine Below.setCell ?_ (by first | omega | (simp; done) | (simp; omega)) _))).trans (hb1.mono (by first | omega | (simp; done) | (simp; omega)))))
  all_goals
    go_wp2
    refine bodyPost_ret (v := .tuple #[.agg #[.slice A1 xs.length c1, .int .i64 s], .bool true]) (by simp only [results, Try.results41]; go_simp) rfl ⟨A1, c1, rfl, ?_, hown1.fresh.mono (by first | omega | (simp; done) | (simp; omega)), by (repeat (first | exact Below.refl _ _ | assumption | refine Below.alloc ?_ (by first | omega | (simp; done) | (simp; omega)) _ | refine below_drewN ?_ _ | refine Below.drew ?_ | refine Below.setCell ?_ (by first | omega | (simp; done) | (simp; omega)) _))⟩
    exact ((hown1.setFree RByte.free (by simp) _).setFree RByte.free (by simp) _).slF RByte.free RByte.good (by omega)


set_option maxHeartbeats 400000 in
theorem tapeMay_any (A : Option Addr) (n c : Nat) (s : Int) (w : World) :
    Calls Try.prog 42 #[.agg #[.slice A n c, .int .i64 s]] w fun e w' => e = .returned (.bool (tapeB n s)) ∧ w' = w.alloc (.cells #[.slice A n c, .int .i64 s] 32) := by
  by_cases hn : n ≤ 6000
  · have hd : ((n : Int) ≤ 6000) := by omega
    go_enter Try.func42, Try.ntmps42
    go_wp2_with (go_at_call 46; refine (in_any _ _ _ _).mono ?_; rintro e w1 ⟨rfl, rfl⟩)
    go_ret
    exact ⟨by simp [tapeB, hn], rfl⟩
  · have hd : ¬ ((n : Int) ≤ 6000) := by omega
    go_enter Try.func42, Try.ntmps42
    go_wp2_with (go_at_call 46; refine (in_any _ _ _ _).mono ?_; rintro e w1 ⟨rfl, rfl⟩)
    go_ret
    exact ⟨by simp [tapeB, hn], rfl⟩

def roomF (n : Nat) (s : Int) : Int × Int := if tapeB n s = true then (6000 - (n : Int), 0) else (0, 9)

set_option maxHeartbeats 400000 in
theorem room_any (A : Option Addr) (n c : Nat) (s : Int) (xs : List Int) (w : World) (hx : BytesAt w w.heap.size A n c xs) :
    Calls Try.prog 21 #[.agg #[.slice A n c, .int .i64 s]] w fun e w' => e = .returned (.tuple #[.int .i64 (roomF n s).1, .int .i64 (roomF n s).2]) ∧ Below w.heap.size w w' := by
  cases hT : tapeB n s
  · have hf : roomF n s = (0, 9) := by unfold roomF; rw [hT]; rfl
    rw [hf]
    go_enter Try.func21, Try.ntmps21
    go_wp2_with (go_at_call 41; refine (open_no _ _ _ _ _ hT).mono ?_; rintro e w1 ⟨rfl, hb1⟩; obtain ⟨hc1, hf1⟩ := bcell hb1; have hbb : Below w.heap.size w w1 := (show Below w.heap.size w _ from by (repeat (first | exact Below.refl _ _ | assumption | refine Below.alloc ?_ (by first | omega | (simp; done) | (simp; omega)) _ | refine below_drewN ?_ _ | refine Below.drew ?_ | refine Below.setCell ?_ (by first | omega | (simp; done) | (simp; omega)) _))).trans (hb1.mono (by first | omega | (simp; done) | (simp; omega))); have hsz1 := hb1.size; simp at hsz1; have z0 : w.heap.size < w1.heap.size := by omega)
    go_ret2
    exact ⟨rfl, by (repeat (first | exact Below.refl _ _ | assumption | refine Below.alloc ?_ (by first | omega | (simp; done) | (simp; omega)) _ | refine below_drewN ?_ _ | refine Below.drew ?_ | refine Below.setCell ?_ (by first | omega | (simp; done) | (simp; omega)) _))⟩
  · have hf : roomF n s = (6000 - (n : Int), 0) := by unfold roomF; rw [hT]; rfl
    rw [hf]
    have hn : (n : Int) ≤ 6000 := by simp [tapeB] at hT; omega
    go_enter Try.func21, Try.ntmps21
    go_wp2_with (go_at_call 41; refine (open_yes _ _ _ _ xs _ (hx.below (RByte.stable) (by (repeat (first | exact Below.refl _ _ | assumption | refine Below.alloc ?_ (by first | omega | (simp; done) | (simp; omega)) _ | refine below_drewN ?_ _ | refine Below.drew ?_ | refine Below.setCell ?_ (by first | omega | (simp; done) | (simp; omega)) _))) (by first | omega | (simp; done) | (simp; omega))) hT).mono ?_; rintro e w1 ⟨A1, c1, rfl, hs1, hfr1, hb1⟩; obtain ⟨hc1, hf1⟩ := bcell hb1; have hbb : Below w.heap.size w w1 := (show Below w.heap.size w _ from by (repeat (first | exact Below.refl _ _ | assumption | refine Below.alloc ?_ (by first | omega | (simp; done) | (simp; omega)) _ | refine below_drewN ?_ _ | refine Below.drew ?_ | refine Below.setCell ?_ (by first | omega | (simp; done) | (simp; omega)) _))).trans (hb1.mono (by first | omega | (simp; done) | (simp; omega))); have hsz1 := hb1.size; simp at hsz1; have z0 : w.heap.size < w1.heap.size := by omega)
    go_ret2
    exact ⟨rfl, by (repeat (first | exact Below.refl _ _ | assumption | refine Below.alloc ?_ (by first | omega | (simp; done) | (simp; omega)) _ | refine below_drewN ?_ _ | refine Below.drew ?_ | refine Below.setCell ?_ (by first | omega | (simp; done) | (simp; omega)) _))⟩

set_option maxHeartbeats 400000 in
theorem roomOf_any (A : Option Addr) (n c : Nat) (s : Int) (w : World) :
    Calls Try.prog 22 #[.agg #[.slice A n c, .int .i64 s]] w fun e w' => e = .returned (.tuple #[.int .i64 (roomF n s).1, .int .i64 (roomF n s).2]) ∧ Below w.heap.size w w' := by
  cases hT : tapeB n s
  · have hf : roomF n s = (0, 9) := by unfold roomF; rw [hT]; rfl
    rw [hf]
    go_enter Try.func22, Try.ntmps22
    go_wp2_with (go_at_call 42; refine (tapeMay_any _ _ _ _ _).mono ?_; rintro e w1 ⟨rfl, rfl⟩)
    go_ret2
    exact ⟨rfl, by (repeat (first | exact Below.refl _ _ | assumption | refine Below.alloc ?_ (by first | omega | (simp; done) | (simp; omega)) _ | refine below_drewN ?_ _ | refine Below.drew ?_ | refine Below.setCell ?_ (by first | omega | (simp; done) | (simp; omega)) _))⟩
  · have hf : roomF n s = (6000 - (n : Int), 0) := by unfold roomF; rw [hT]; rfl
    rw [hf]
    have hn : (n : Int) ≤ 6000 := by simp [tapeB] at hT; omega
    go_enter Try.func22, Try.ntmps22
    go_wp2_with (go_at_call 42; refine (tapeMay_any _ _ _ _ _).mono ?_; rintro e w1 ⟨rfl, rfl⟩)
    go_ret2
    exact ⟨rfl, by (repeat (first | exact Below.refl _ _ | assumption | refine Below.alloc ?_ (by first | omega | (simp; done) | (simp; omega)) _ | refine below_drewN ?_ _ | refine Below.drew ?_ | refine Below.setCell ?_ (by first | omega | (simp; done) | (simp; omega)) _))⟩

end Go.Proofs.Ytdldmlekjhmaaaa
