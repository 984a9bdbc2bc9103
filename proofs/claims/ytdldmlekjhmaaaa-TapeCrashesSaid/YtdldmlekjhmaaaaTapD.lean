/- tape.Sync, tape.Crash and their references. -/
import Derived.Test.YtdldmlekjhmaaaaTapC
import Derived.Deep.RegionWith
namespace Go.Proofs.Ytdldmlekjhmaaaa
open Go.RowKit Go.ChangeShapes Go.WideShapes Go.Deep

/-- a tape and a code -/
def RetTape (w0 : World) (r : List Int × Int × Int) (e : Ending) (w' : World) : Prop :=
  ∃ A c, e = .returned (.tuple #[.agg #[.slice A r.1.length c, .int .i64 r.2.1], .int .i64 r.2.2]) ∧ BytesAt w' w'.heap.size A r.1.length c r.1 ∧ Fresh w0.heap.size A ∧ Below w0.heap.size w0 w'

def syncF (xs : List Int) (s : Int) : List Int × Int × Int := if tapeB xs.length s = true then (xs, (xs.length : Int), 0) else ([], 0, 9)

set_option maxHeartbeats 400000 in
theorem sync_any (A : Option Addr) (n c : Nat) (s : Int) (xs : List Int) (w : World) (hx : BytesAt w w.heap.size A n c xs) :
    Calls Try.prog 23 #[.agg #[.slice A n c, .int .i64 s]] w (RetTape w (syncF xs s)) := by
  obtain rfl := hx.1
  cases hT : tapeB xs.length s
  · have hf : syncF xs s = ([], 0, 9) := by unfold syncF; rw [hT]; rfl
    rw [hf]
    go_enter Try.func23, Try.ntmps23
    go_wp2_with fail
    refine (open_no _ _ _ _ _ hT).mono ?_
    rintro e w1 ⟨rfl, hb1⟩
    obtain ⟨hc1, hf1⟩ := bcell hb1; have hbb1 : Below w.heap.size w w1 := (by refine Below.trans ?_ (hb1.mono ?_); rotate_left; (first | omega | (simp; done) | (simp; omega)); (repeat (first | exact Below.refl _ _ | assumption | refine Below.alloc ?_ (by first | omega | (simp; done) | (simp; omega)) _ | refine below_drewN ?_ _ | refine Below.drew ?_ | refine Below.setCell ?_ (by first | omega | (simp; done) | (simp; omega)) _))); have hsz1 := hb1.size; (try simp at hsz1)
    have z_w_w1_0 : w.heap.size < w1.heap.size := (by omega); have z_w_w1_1 : w.heap.size + 1 < w1.heap.size := (by omega)
    go_wp2_with fail
    refine bodyPost_ret (v := .tuple #[.agg #[.slice none 0 0, .int .i64 0], .int .i64 9]) (by simp only [results, Try.results23]; go_simp) rfl ⟨none, 0, rfl, SlR.nil_, Fresh.none_, ?_⟩
    (repeat (first | exact Below.refl _ _ | assumption | refine Below.alloc ?_ (by first | omega | (simp; done) | (simp; omega)) _ | refine below_drewN ?_ _ | refine Below.drew ?_ | refine Below.setCell ?_ (by first | omega | (simp; done) | (simp; omega)) _))
  · have hf : syncF xs s = (xs, (xs.length : Int), 0) := by unfold syncF; rw [hT]; rfl
    rw [hf]
    go_enter Try.func23, Try.ntmps23
    go_wp2_with fail
    refine (open_yes _ _ _ _ xs _ (hx.below RByte.stable (by (repeat (first | exact Below.refl _ _ | assumption | refine Below.alloc ?_ (by first | omega | (simp; done) | (simp; omega)) _ | refine below_drewN ?_ _ | refine Below.drew ?_ | refine Below.setCell ?_ (by first | omega | (simp; done) | (simp; omega)) _))) (by first | omega | (simp; done) | (simp; omega))) hT).mono ?_
    rintro e w1 ⟨A1, c1, rfl, hs1, hfr1, hb1⟩
    obtain ⟨hc1, hf1⟩ := bcell hb1; have hbb1 : Below w.heap.size w w1 := (by refine Below.trans ?_ (hb1.mono ?_); rotate_left; (first | omega | (simp; done) | (simp; omega)); (repeat (first | exact Below.refl _ _ | assumption | refine Below.alloc ?_ (by first | omega | (simp; done) | (simp; omega)) _ | refine below_drewN ?_ _ | refine Below.drew ?_ | refine Below.setCell ?_ (by first | omega | (simp; done) | (simp; omega)) _))); have hsz1 := hb1.size; (try simp at hsz1)
    have z_w_w1_0 : w.heap.size < w1.heap.size := (by omega); have z_w_w1_1 : w.heap.size + 1 < w1.heap.size := (by omega)
    go_wp2_with fail
    refine bodyPost_ret (v := .tuple #[.agg #[.slice A1 xs.length c1, .int .i64 xs.length], .int .i64 0]) (by simp only [results, Try.results23]; go_simp) rfl ⟨A1, c1, rfl, ?_, hfr1.mono (by first | omega | (simp; done) | (simp; omega)), ?_⟩
    · (refine SlR.more RByte.stable (B := w1.heap.size) ?_ (by first | omega | (simp; done) | (simp; omega)); (repeat (first | assumption | refine SlR.alloc RByte.stable ?_ (by first | omega | (simp; done) | (simp; omega)) _ | refine SlR.setFree RByte.free ?_ (fun a ha => (by have := hfr1 a ha; simp at this ⊢; omega)) _)))
    · (repeat (first | exact Below.refl _ _ | assumption | refine Below.alloc ?_ (by first | omega | (simp; done) | (simp; omega)) _ | refine below_drewN ?_ _ | refine Below.drew ?_ | refine Below.setCell ?_ (by first | omega | (simp; done) | (simp; omega)) _))


set_option maxHeartbeats 1000000 in
theorem synced_any (A : Option Addr) (n c : Nat) (s : Int) (xs : List Int) (w : World) (hx : BytesAt w w.heap.size A n c xs) :
    Calls Try.prog 25 #[.agg #[.slice A n c, .int .i64 s]] w (RetTape w (syncF xs s)) := by
  obtain rfl := hx.1
  cases hT : tapeB xs.length s
  · have hf : syncF xs s = ([], 0, 9) := by unfold syncF; rw [hT]; rfl
    rw [hf]
    go_enter Try.func25, Try.ntmps25
    go_wp2_with (go_at_call 42; refine (tapeMay_any _ _ _ _ _).mono ?_; rintro e w1 ⟨rfl, rfl⟩)
    refine bodyPost_ret (v := .tuple #[.agg #[.slice none 0 0, .int .i64 0], .int .i64 9]) (by simp only [results, Try.results25]; go_simp) rfl ⟨none, 0, rfl, SlR.nil_, Fresh.none_, ?_⟩
    (repeat (first | exact Below.refl _ _ | assumption | refine Below.alloc ?_ (by first | omega | (simp; done) | (simp; omega)) _ | refine below_drewN ?_ _ | refine Below.drew ?_ | refine Below.setCell ?_ (by first | omega | (simp; done) | (simp; omega)) _))
  · have hf : syncF xs s = (xs, (xs.length : Int), 0) := by unfold syncF; rw [hT]; rfl
    rw [hf]
    have hn : xs.length ≤ 6000 := by simp [tapeB] at hT; omega
    go_enter Try.func25, Try.ntmps25
    go_wp2_with (go_at_call 42; refine (tapeMay_any _ _ _ _ _).mono ?_; rintro e w1 ⟨rfl, rfl⟩)
    go_region_with (first | (go_at_call 44; go_must (refine (joined1_any _ _ A _ c xs (by go_simp) (by simp) (hx.below RByte.stable (by (repeat (first | exact Below.refl _ _ | assumption | refine Below.alloc ?_ (by first | omega | (simp; done) | (simp; omega)) _ | refine below_drewN ?_ _ | refine Below.drew ?_ | refine Below.setCell ?_ (by first | omega | (simp; done) | (simp; omega)) _))) (by first | omega | (simp; done) | (simp; omega)))).mono ?_; rintro e w1 ⟨A1, c1, rfl, hown1, hb1⟩; obtain ⟨hc1, hf1⟩ := bcell hb1; have hbb1 : Below w.heap.size w w1 := (by refine Below.trans ?_ (hb1.mono ?_); rotate_left; (first | omega | (simp; done) | (simp; omega)); (repeat (first | exact Below.refl _ _ | assumption | refine Below.alloc ?_ (by first | omega | (simp; done) | (simp; omega)) _ | refine below_drewN ?_ _ | refine Below.drew ?_ | refine Below.setCell ?_ (by first | omega | (simp; done) | (simp; omega)) _))); have hsz1 := hb1.size; (try simp at hsz1))))
    all_goals
      go_wp2
      refine bodyPost_ret (v := .tuple #[.agg #[.slice A1 xs.length c1, .int .i64 xs.length], .int .i64 0]) (by simp only [results, Try.results25]; go_simp) rfl ⟨A1, c1, rfl, ?_, hown1.fresh.mono (by first | omega | (simp; done) | (simp; omega)), by (repeat (first | exact Below.refl _ _ | assumption | refine Below.alloc ?_ (by first | omega | (simp; done) | (simp; omega)) _ | refine below_drewN ?_ _ | refine Below.drew ?_ | refine Below.setCell ?_ (by first | omega | (simp; done) | (simp; omega)) _))⟩
      have hs1 := hown1.slF RByte.free RByte.good (bytes := 1) (by omega)
      have hfr1 := hown1.fresh
      (refine SlR.more RByte.stable (B := w1.heap.size) ?_ (by first | omega | (simp; done) | (simp; omega)); (repeat (first | assumption | refine SlR.alloc RByte.stable ?_ (by first | omega | (simp; done) | (simp; omega)) _ | refine SlR.setFree RByte.free ?_ (fun a ha => (by have := hfr1 a ha; simp at this ⊢; omega)) _)))

/-- what tapes hands back -/
def RetCopy (w0 : World) (xs : List Int) (s : Int) (e : Ending) (w' : World) : Prop :=
  ∃ A c, e = .returned (.agg #[.slice A xs.length c, .int .i64 s]) ∧ BytesAt w' w'.heap.size A xs.length c xs ∧ Fresh w0.heap.size A ∧ Below w0.heap.size w0 w'

set_option maxHeartbeats 1000000 in
theorem tapes_any (A : Option Addr) (n c : Nat) (s : Int) (xs : List Int) (w : World) (hx : BytesAt w w.heap.size A n c xs) :
    Calls Try.prog 24 #[.agg #[.slice A n c, .int .i64 s]] w (RetCopy w xs s) := by
  obtain rfl := hx.1
  have hlen := hx.2.2.2.1
  go_enter Try.func24, Try.ntmps24
  go_wp2_with fail
  go_region_with (first | (go_at_call 43; refine (octets_any A _ c xs _ (hx.below RByte.stable (by (repeat (first | exact Below.refl _ _ | assumption | refine Below.alloc ?_ (by first | omega | (simp; done) | (simp; omega)) _ | refine below_drewN ?_ _ | refine Below.drew ?_ | refine Below.setCell ?_ (by first | omega | (simp; done) | (simp; omega)) _))) (by first | omega | (simp; done) | (simp; omega)))).mono ?_; rintro e w1 ⟨A1, c1, rfl, hown1, hb1⟩; obtain ⟨hc1, hf1⟩ := bcell hb1; have hbb1 : Below w.heap.size w w1 := (by refine Below.trans ?_ (hb1.mono ?_); rotate_left; (first | omega | (simp; done) | (simp; omega)); (repeat (first | exact Below.refl _ _ | assumption | refine Below.alloc ?_ (by first | omega | (simp; done) | (simp; omega)) _ | refine below_drewN ?_ _ | refine Below.drew ?_ | refine Below.setCell ?_ (by first | omega | (simp; done) | (simp; omega)) _))); have hsz1 := hb1.size; (try simp at hsz1)))
  all_goals
    go_wp2
    refine bodyPost_end (v := .agg #[.slice A1 xs.length c1, .int .i64 s]) (by simp only [results, Try.results24]; go_simp) rfl ⟨A1, c1, rfl, ?_, hown1.fresh.mono (by first | omega | (simp; done) | (simp; omega)), by (repeat (first | exact Below.refl _ _ | assumption | refine Below.alloc ?_ (by first | omega | (simp; done) | (simp; omega)) _ | refine below_drewN ?_ _ | refine Below.drew ?_ | refine Below.setCell ?_ (by first | omega | (simp; done) | (simp; omega)) _))⟩
    have hs1 := hown1.slF RByte.free RByte.good (bytes := 1) (by omega)
    have hfr1 := hown1.fresh
    (refine SlR.more RByte.stable (B := w1.heap.size) ?_ (by first | omega | (simp; done) | (simp; omega)); (repeat (first | assumption | refine SlR.alloc RByte.stable ?_ (by first | omega | (simp; done) | (simp; omega)) _ | refine SlR.setFree RByte.free ?_ (fun a ha => (by have := hfr1 a ha; simp at this ⊢; omega)) _)))

end Go.Proofs.Ytdldmlekjhmaaaa
