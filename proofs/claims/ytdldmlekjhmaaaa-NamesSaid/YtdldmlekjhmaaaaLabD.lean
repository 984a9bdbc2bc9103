/- label.Above, Join, Meet and their references; the laws LabelAbove, LabelJoins, LabelMeets. -/
import Derived.Test.YtdldmlekjhmaaaaLabC
namespace Go.Proofs.Ytdldmlekjhmaaaa
open Go.RowKit Go.ChangeShapes Go.WideShapes Go.Deep

def domB (a0 a1 b0 b1 : Int) : Bool := decide (b0 ≤ a0) && (bits .and .i64 a1 b1 == b1)

set_option maxHeartbeats 400000 in
theorem above_any (a0 a1 b0 b1 : Int) (w : World) :
    Calls Try.prog 15 #[.agg #[.int .i64 a0, .int .i64 a1], .agg #[.int .i64 b0, .int .i64 b1]] w fun e w' => e = .returned (.bool (domB a0 a1 b0 b1)) ∧ w' = (w.alloc (.cells #[.int .i64 a0, .int .i64 a1] 27)).alloc (.cells #[.int .i64 b0, .int .i64 b1] 27) := by
  go_enter Try.func15, Try.ntmps15
  go_wp2
  all_goals
    go_ret
    refine ⟨by simp [domB, *]; try omega, rfl⟩

set_option maxHeartbeats 400000 in
theorem dom_any (a0 a1 b0 b1 : Int) (w : World) :
    Calls Try.prog 16 #[.agg #[.int .i64 a0, .int .i64 a1], .agg #[.int .i64 b0, .int .i64 b1]] w fun e w' => e = .returned (.bool (domB a0 a1 b0 b1)) ∧ w' = (w.alloc (.cells #[.int .i64 a0, .int .i64 a1] 27)).alloc (.cells #[.int .i64 b0, .int .i64 b1] 27) := by
  go_enter Try.func16, Try.ntmps16
  go_wp2
  all_goals
    go_ret
    refine ⟨by simp [domB, *]; try omega, rfl⟩

set_option maxHeartbeats 400000 in
theorem join_any (a0 a1 b0 b1 : Int) (w : World) :
    Calls Try.prog 17 #[.agg #[.int .i64 a0, .int .i64 a1], .agg #[.int .i64 b0, .int .i64 b1]] w fun e w' => e = .returned (.agg #[.int .i64 (max a0 b0), .int .i64 (bits .or .i64 a1 b1)]) ∧ Below w.heap.size w w' := by
  go_enter Try.func17, Try.ntmps17
  go_wp2
  all_goals
    refine bodyPost_ret (v := .agg #[.int .i64 (max a0 b0), .int .i64 (bits .or .i64 a1 b1)]) (by simp [results, Try.results17, go_sem]; try omega) rfl ⟨rfl, ?_⟩
    (repeat (first | exact Below.refl _ _ | assumption | refine Below.alloc ?_ (by first | omega | (simp; done) | (simp; omega)) _ | refine below_drewN ?_ _ | refine Below.drew ?_ | refine Below.setCell ?_ (by first | omega | (simp; done) | (simp; omega)) _))

set_option maxHeartbeats 400000 in
theorem joinOf_any (a0 a1 b0 b1 : Int) (w : World) :
    Calls Try.prog 18 #[.agg #[.int .i64 a0, .int .i64 a1], .agg #[.int .i64 b0, .int .i64 b1]] w fun e w' => e = .returned (.agg #[.int .i64 (max a0 b0), .int .i64 (bits .or .i64 a1 b1)]) ∧ Below w.heap.size w w' := by
  go_enter Try.func18, Try.ntmps18
  go_wp2
  all_goals
    refine bodyPost_ret (v := .agg #[.int .i64 (max a0 b0), .int .i64 (bits .or .i64 a1 b1)]) (by simp [results, Try.results18, go_sem]; try omega) rfl ⟨rfl, ?_⟩
    (repeat (first | exact Below.refl _ _ | assumption | refine Below.alloc ?_ (by first | omega | (simp; done) | (simp; omega)) _ | refine below_drewN ?_ _ | refine Below.drew ?_ | refine Below.setCell ?_ (by first | omega | (simp; done) | (simp; omega)) _))

set_option maxHeartbeats 400000 in
theorem meet_any (a0 a1 b0 b1 : Int) (w : World) :
    Calls Try.prog 19 #[.agg #[.int .i64 a0, .int .i64 a1], .agg #[.int .i64 b0, .int .i64 b1]] w fun e w' => e = .returned (.agg #[.int .i64 (min a0 b0), .int .i64 (bits .and .i64 a1 b1)]) ∧ Below w.heap.size w w' := by
  go_enter Try.func19, Try.ntmps19
  go_wp2
  all_goals
    refine bodyPost_ret (v := .agg #[.int .i64 (min a0 b0), .int .i64 (bits .and .i64 a1 b1)]) (by simp [results, Try.results19, go_sem]; try omega) rfl ⟨rfl, ?_⟩
    (repeat (first | exact Below.refl _ _ | assumption | refine Below.alloc ?_ (by first | omega | (simp; done) | (simp; omega)) _ | refine below_drewN ?_ _ | refine Below.drew ?_ | refine Below.setCell ?_ (by first | omega | (simp; done) | (simp; omega)) _))

set_option maxHeartbeats 400000 in
theorem meetOf_any (a0 a1 b0 b1 : Int) (w : World) :
    Calls Try.prog 20 #[.agg #[.int .i64 a0, .int .i64 a1], .agg #[.int .i64 b0, .int .i64 b1]] w fun e w' => e = .returned (.agg #[.int .i64 (min a0 b0), .int .i64 (bits .and .i64 a1 b1)]) ∧ Below w.heap.size w w' := by
  go_enter Try.func20, Try.ntmps20
  go_wp2
  all_goals
    refine bodyPost_ret (v := .agg #[.int .i64 (min a0 b0), .int .i64 (bits .and .i64 a1 b1)]) (by simp [results, Try.results20, go_sem]; try omega) rfl ⟨rfl, ?_⟩
    (repeat (first | exact Below.refl _ _ | assumption | refine Below.alloc ?_ (by first | omega | (simp; done) | (simp; omega)) _ | refine below_drewN ?_ _ | refine Below.drew ?_ | refine Below.setCell ?_ (by first | omega | (simp; done) | (simp; omega)) _))

theorem arg_label {H : Type} {enc : TypeId × Value → H} {W : World} {base : Nat} {r : Reach} {v : Value} {d : DataW H} {p : List MemPlace} (hok : Value.okWide Try.prog W r base 27 v)
    (ht : DataW.Trod enc Try.prog W 0 (fun _ => true) true 27 v d p) (hw : okW Try.prog 27 d) :
    ∃ (a b : Int), v = .agg #[.int .i64 a, .int .i64 b] := by
  obtain ⟨cs, rfl, _⟩ := okWide_struct Try.underlying27 hok
  obtain ⟨_, c, hcs⟩ := dec_label.arg ht hw
  refine ⟨c.1, c.2, ?_⟩
  obtain ⟨l⟩ := cs
  have : l = encLabel c := hcs
  rw [this]; rfl

set_option maxHeartbeats 400000 in
theorem labelAbove_walk (a0 a1 b0 b1 : Int) (w : World) :
    Calls Try.prog 4 #[.agg #[.int .i64 a0, .int .i64 a1], .agg #[.int .i64 b0, .int .i64 b1]] w fun e w' => e = .returned (.bool true) ∧ Below w.heap.size w w' := by
  go_enter Try.func4, Try.ntmps4
  go_wp2_with fail
  refine (above_any _ _ _ _ _).mono ?_
  rintro e w1 ⟨rfl, rfl⟩
  go_wp2_with fail
  refine (dom_any _ _ _ _ _).mono ?_
  rintro e w2 ⟨rfl, rfl⟩
  go_wp2_with fail
  go_ret
  refine ⟨by simp, ?_⟩
  (repeat (first | exact Below.refl _ _ | assumption | refine Below.alloc ?_ (by first | omega | (simp; done) | (simp; omega)) _ | refine below_drewN ?_ _ | refine Below.drew ?_ | refine Below.setCell ?_ (by first | omega | (simp; done) | (simp; omega)) _))

set_option maxHeartbeats 400000 in
theorem labelJoins_walk (a0 a1 b0 b1 : Int) (w : World) :
    Calls Try.prog 5 #[.agg #[.int .i64 a0, .int .i64 a1], .agg #[.int .i64 b0, .int .i64 b1]] w fun e w' => e = .returned (.bool true) ∧ Below w.heap.size w w' := by
  go_enter Try.func5, Try.ntmps5
  go_wp2_with fail
  refine (join_any _ _ _ _ _).mono ?_
  rintro e w1 ⟨rfl, hb1⟩
  obtain ⟨hc1, hf1⟩ := bcell hb1
  have hsz1 := hb1.size
  simp at hsz1
  have z0 : w.heap.size < w1.heap.size := by omega
  have z1 : w.heap.size + 1 < w1.heap.size := by omega
  have hbb : Below w.heap.size w w1 := (((Below.refl _ _).alloc (Nat.le_refl _) _).alloc (by simp) _).trans (hb1.mono (by simp; omega))
  go_wp2_with fail
  refine (joinOf_any _ _ _ _ _).mono ?_
  rintro e w2 ⟨rfl, hb2⟩
  have hsz2 := hb2.size
  simp at hsz2
  obtain ⟨hc2, hf2⟩ := bcell hb2
  have z3 : w1.heap.size < w2.heap.size := by omega
  have hbb2 : Below w.heap.size w w2 := (hbb.alloc (by omega) _).trans (hb2.mono (by simp; omega))
  go_wp2_with fail
  go_ret
  refine ⟨by simp, ?_⟩
  (repeat (first | exact Below.refl _ _ | assumption | refine Below.alloc ?_ (by first | omega | (simp; done) | (simp; omega)) _ | refine below_drewN ?_ _ | refine Below.drew ?_ | refine Below.setCell ?_ (by first | omega | (simp; done) | (simp; omega)) _))

set_option maxHeartbeats 400000 in
theorem labelMeets_walk (a0 a1 b0 b1 : Int) (w : World) :
    Calls Try.prog 6 #[.agg #[.int .i64 a0, .int .i64 a1], .agg #[.int .i64 b0, .int .i64 b1]] w fun e w' => e = .returned (.bool true) ∧ Below w.heap.size w w' := by
  go_enter Try.func6, Try.ntmps6
  go_wp2_with fail
  refine (meet_any _ _ _ _ _).mono ?_
  rintro e w1 ⟨rfl, hb1⟩
  obtain ⟨hc1, hf1⟩ := bcell hb1
  have hsz1 := hb1.size
  simp at hsz1
  have z0 : w.heap.size < w1.heap.size := by omega
  have z1 : w.heap.size + 1 < w1.heap.size := by omega
  have hbb : Below w.heap.size w w1 := (((Below.refl _ _).alloc (Nat.le_refl _) _).alloc (by simp) _).trans (hb1.mono (by simp; omega))
  go_wp2_with fail
  refine (meetOf_any _ _ _ _ _).mono ?_
  rintro e w2 ⟨rfl, hb2⟩
  have hsz2 := hb2.size
  simp at hsz2
  obtain ⟨hc2, hf2⟩ := bcell hb2
  have z3 : w1.heap.size < w2.heap.size := by omega
  have hbb2 : Below w.heap.size w w2 := (hbb.alloc (by omega) _).trans (hb2.mono (by simp; omega))
  go_wp2_with fail
  go_ret
  refine ⟨by simp, ?_⟩
  (repeat (first | exact Below.refl _ _ | assumption | refine Below.alloc ?_ (by first | omega | (simp; done) | (simp; omega)) _ | refine below_drewN ?_ _ | refine Below.drew ?_ | refine Below.setCell ?_ (by first | omega | (simp; done) | (simp; omega)) _))

end Go.Proofs.Ytdldmlekjhmaaaa
