/- net.Empty and its reference. -/
import Derived.Test.YtdldmlekjhmaaaaNetA
import Derived.Test.YtdldmlekjhmaaaaLabE
namespace Go.Proofs.Ytdldmlekjhmaaaa
open Go.RowKit Go.ChangeShapes Go.WideShapes Go.Deep

/-- a list of lists of messages, and a code -/
def RetFly (w0 : World) (r : List (List Msg) × Int) (e : Ending) (w' : World) : Prop :=
  ∃ A c, e = .returned (.tuple #[.slice A r.1.length c, .int .i64 r.2]) ∧ FlyAt w' w'.heap.size A r.1.length c r.1 ∧ Below w0.heap.size w0 w'

def emptyF (s p : Int) (ls : List (Int × Int)) : List (List Msg) × Int := if checkF s p ls ≠ 0 then ([], checkF s p ls) else (List.replicate (s * s).toNat [], 0)
theorem infoMsgs : (Try.prog.info? 68).map (fun i => (i.zero, i.size, i.bytes)) = some (some (.slice none 0 0), 1, 24) := by kernel_rfl

set_option maxHeartbeats 1000000 in
theorem empty_any (s p : Int) (A : Option Addr) (n c : Nat) (ls : List (Int × Int)) (w : World) (hls : LabelsAt w w.heap.size A n c ls) :
    Calls Try.prog 31 #[.agg #[.int .i64 s, .slice A n c, .int .i64 p]] w (RetFly w (emptyF s p ls)) := by
  by_cases hC : checkF s p ls = 0
  · have hf : emptyF s p ls = (List.replicate (s * s).toNat [], 0) := by unfold emptyF; rw [if_neg (by simpa using hC)]
    rw [hf]
    obtain ⟨hs1, hs2, _⟩ := checkF_ok hC
    have hs : s = 1 ∨ s = 2 ∨ s = 3 ∨ s = 4 := by omega
    rcases hs with rfl | rfl | rfl | rfl
    all_goals
      go_enter Try.func31, Try.ntmps31
      go_wp2_with fail
      refine (check_any _ _ _ _ _ ls _ (hls.below (Flat.stable _) (by (repeat (first | exact Below.refl _ _ | assumption | refine Below.alloc ?_ (by first | omega | (simp; done) | (simp; omega)) _ | refine below_drewN ?_ _ | refine Below.drew ?_ | refine Below.setCell ?_ (by first | omega | (simp; done) | (simp; omega)) _))) (by first | omega | (simp; done) | (simp; omega)))).mono ?_
      rintro e w1 ⟨rfl, hb1⟩
      obtain ⟨hc1, hf1⟩ := bcell hb1; have hbb1 : Below w.heap.size w w1 := (by refine Below.trans ?_ (hb1.mono ?_); rotate_left; (focus (first | omega | (simp; done) | (simp; omega))); (repeat (first | exact Below.refl _ _ | assumption | refine Below.alloc ?_ (by first | omega | (simp; done) | (simp; omega)) _ | refine below_drewN ?_ _ | refine Below.drew ?_ | refine Below.setCell ?_ (by first | omega | (simp; done) | (simp; omega)) _))); have hsz1 := hb1.size; (try simp at hsz1)
      have z_w_w1_0 : w.heap.size < w1.heap.size := (by omega)
      go_wp2_with (at_make; refine wpList_makeL (R := RMsgs) rfl _ _ rfl w1.heap.size w1.heap.size (.slice none 0 0) [] Try.underlying47 infoMsgs rfl (fun _ _ => ⟨none, 0, 0, rfl, SlR.nil_⟩) .i64 .i64 _ rfl rfl (by decide) (by decide) (by decide) (Nat.le_refl _) ?_; intro w2 hown hg)
      go_ret2
      refine ⟨some ⟨w1.heap.size, 0, none⟩, _, rfl, ?_, hbb1.grown hg hbb1.size (fun k hk => by cases hk)⟩
      exact (hown.slOf (RSlice.good (Flat.stable _)) (B := w1.heap.size) hg.size (by decide))
  · have hf : emptyF s p ls = ([], checkF s p ls) := by unfold emptyF; rw [if_pos (by simpa using hC)]
    rw [hf]
    go_enter Try.func31, Try.ntmps31
    go_wp2_with fail
    refine (check_any _ _ _ _ _ ls _ (hls.below (Flat.stable _) (by (repeat (first | exact Below.refl _ _ | assumption | refine Below.alloc ?_ (by first | omega | (simp; done) | (simp; omega)) _ | refine below_drewN ?_ _ | refine Below.drew ?_ | refine Below.setCell ?_ (by first | omega | (simp; done) | (simp; omega)) _))) (by first | omega | (simp; done) | (simp; omega)))).mono ?_
    rintro e w1 ⟨rfl, hb1⟩
    obtain ⟨hc1, hf1⟩ := bcell hb1; have hbb1 : Below w.heap.size w w1 := (by refine Below.trans ?_ (hb1.mono ?_); rotate_left; (focus (first | omega | (simp; done) | (simp; omega))); (repeat (first | exact Below.refl _ _ | assumption | refine Below.alloc ?_ (by first | omega | (simp; done) | (simp; omega)) _ | refine below_drewN ?_ _ | refine Below.drew ?_ | refine Below.setCell ?_ (by first | omega | (simp; done) | (simp; omega)) _))); have hsz1 := hb1.size; (try simp at hsz1)
    have z_w_w1_0 : w.heap.size < w1.heap.size := (by omega)
    go_wp2_with fail
    go_ret2
    exact ⟨none, 0, rfl, SlR.nil_, hbb1⟩

set_option maxHeartbeats 1000000 in
theorem emptyOf_any (s p : Int) (A : Option Addr) (n c : Nat) (ls : List (Int × Int)) (w : World) (hls : LabelsAt w w.heap.size A n c ls) :
    Calls Try.prog 32 #[.agg #[.int .i64 s, .slice A n c, .int .i64 p]] w (RetFly w (emptyF s p ls)) := by
  by_cases hC : checkF s p ls = 0
  · have hf : emptyF s p ls = (List.replicate (s * s).toNat [], 0) := by unfold emptyF; rw [if_neg (by simpa using hC)]
    rw [hf]
    obtain ⟨hs1, hs2, _⟩ := checkF_ok hC
    have hs : s = 1 ∨ s = 2 ∨ s = 3 ∨ s = 4 := by omega
    rcases hs with rfl | rfl | rfl | rfl
    all_goals
      go_enter Try.func32, Try.ntmps32
      go_wp2_with fail
      refine (fault_any _ _ _ _ _ ls _ (hls.below (Flat.stable _) (by (repeat (first | exact Below.refl _ _ | assumption | refine Below.alloc ?_ (by first | omega | (simp; done) | (simp; omega)) _ | refine below_drewN ?_ _ | refine Below.drew ?_ | refine Below.setCell ?_ (by first | omega | (simp; done) | (simp; omega)) _))) (by first | omega | (simp; done) | (simp; omega)))).mono ?_
      rintro e w1 ⟨rfl, hb1⟩
      obtain ⟨hc1, hf1⟩ := bcell hb1; have hbb1 : Below w.heap.size w w1 := (by refine Below.trans ?_ (hb1.mono ?_); rotate_left; (focus (first | omega | (simp; done) | (simp; omega))); (repeat (first | exact Below.refl _ _ | assumption | refine Below.alloc ?_ (by first | omega | (simp; done) | (simp; omega)) _ | refine below_drewN ?_ _ | refine Below.drew ?_ | refine Below.setCell ?_ (by first | omega | (simp; done) | (simp; omega)) _))); have hsz1 := hb1.size; (try simp at hsz1)
      have z_w_w1_0 : w.heap.size < w1.heap.size := (by omega)
      go_wp2_with (at_make; refine wpList_makeL (R := RMsgs) rfl _ _ rfl w1.heap.size w1.heap.size (.slice none 0 0) [] Try.underlying47 infoMsgs rfl (fun _ _ => ⟨none, 0, 0, rfl, SlR.nil_⟩) .i64 .i64 _ rfl rfl (by decide) (by decide) (by decide) (Nat.le_refl _) ?_; intro w2 hown hg)
      go_ret2
      refine ⟨some ⟨w1.heap.size, 0, none⟩, _, rfl, ?_, hbb1.grown hg hbb1.size (fun k hk => by cases hk)⟩
      exact (hown.slOf (RSlice.good (Flat.stable _)) (B := w1.heap.size) hg.size (by decide))
  · have hf : emptyF s p ls = ([], checkF s p ls) := by unfold emptyF; rw [if_pos (by simpa using hC)]
    rw [hf]
    go_enter Try.func32, Try.ntmps32
    go_wp2_with fail
    refine (fault_any _ _ _ _ _ ls _ (hls.below (Flat.stable _) (by (repeat (first | exact Below.refl _ _ | assumption | refine Below.alloc ?_ (by first | omega | (simp; done) | (simp; omega)) _ | refine below_drewN ?_ _ | refine Below.drew ?_ | refine Below.setCell ?_ (by first | omega | (simp; done) | (simp; omega)) _))) (by first | omega | (simp; done) | (simp; omega)))).mono ?_
    rintro e w1 ⟨rfl, hb1⟩
    obtain ⟨hc1, hf1⟩ := bcell hb1; have hbb1 : Below w.heap.size w w1 := (by refine Below.trans ?_ (hb1.mono ?_); rotate_left; (focus (first | omega | (simp; done) | (simp; omega))); (repeat (first | exact Below.refl _ _ | assumption | refine Below.alloc ?_ (by first | omega | (simp; done) | (simp; omega)) _ | refine below_drewN ?_ _ | refine Below.drew ?_ | refine Below.setCell ?_ (by first | omega | (simp; done) | (simp; omega)) _))); have hsz1 := hb1.size; (try simp at hsz1)
    have z_w_w1_0 : w.heap.size < w1.heap.size := (by omega)
    go_wp2_with fail
    go_ret2
    exact ⟨none, 0, rfl, SlR.nil_, hbb1⟩

end Go.Proofs.Ytdldmlekjhmaaaa
