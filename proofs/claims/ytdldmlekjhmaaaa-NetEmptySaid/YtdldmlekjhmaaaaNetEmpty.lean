/- The law NetEmpty: for every input it returns true and turns nothing. No condition. -/
import Derived.Test.YtdldmlekjhmaaaaNetB
import Derived.Test.YtdldmlekjhmaaaaLabC
namespace Go.Proofs.Ytdldmlekjhmaaaa
open Go.RowKit Go.ChangeShapes Go.WideShapes Go.Deep

set_option maxHeartbeats 400000 in
theorem netEmpty_walk (s p : Int) (A : Option Addr) (n c : Nat) (ls : List (Int × Int)) (w : World) (hls : LabelsAt w w.heap.size A n c ls) :
    Calls Try.prog 11 #[.agg #[.int .i64 s, .slice A n c, .int .i64 p]] w fun e w' => e = .returned (.bool true) ∧ Below w.heap.size w w' := by
  go_enter Try.func11, Try.ntmps11
  go_wp2_with fail
  refine (empty_any s p A n c ls _ (hls.below (Flat.stable _) (by (repeat (first | exact Below.refl _ _ | assumption | refine Below.alloc ?_ (by first | omega | (simp; done) | (simp; omega)) _ | refine below_drewN ?_ _ | refine Below.drew ?_ | refine Below.setCell ?_ (by first | omega | (simp; done) | (simp; omega)) _))) (by first | omega | (simp; done) | (simp; omega)))).mono ?_
  rintro e w1 ⟨A1, c1, rfl, hs1, hb1⟩
  obtain ⟨hc1, hf1⟩ := bcell hb1; have hbb1 : Below w.heap.size w w1 := (by refine Below.trans ?_ (hb1.mono ?_); rotate_left; (focus (first | omega | (simp; done) | (simp; omega))); (repeat (first | exact Below.refl _ _ | assumption | refine Below.alloc ?_ (by first | omega | (simp; done) | (simp; omega)) _ | refine below_drewN ?_ _ | refine Below.drew ?_ | refine Below.setCell ?_ (by first | omega | (simp; done) | (simp; omega)) _))); have hsz1 := hb1.size; (try simp at hsz1)
  have z_w_w1_0 : w.heap.size < w1.heap.size := (by omega)
  go_wp2_with fail
  refine (emptyOf_any s p A n c ls _ (hls.below (Flat.stable _) hbb1 hbb1.size)).mono ?_
  rintro e w2 ⟨A2, c2, rfl, hs2, hb2⟩
  have hbb2 := hbb1.trans (hb2.mono hbb1.size)
  go_wp2_with fail
  refine (sameFlying_refl A1 A2 _ c1 c2 _ _ (hs1.below (RSlice.stable (Flat.stable _)) hb2 hb2.size) hs2).mono ?_
  rintro e w3 ⟨rfl, hd3⟩
  go_wp2_with fail
  go_ret
  exact ⟨by simp, hbb2.trans (hd3.below _)⟩

theorem netEmpty_lifted (os : Os) (started : os.Started) (H : Type) (enc : TypeId × Value → H) :
    ReturnsInHanded {} Try.checked os 11 .any (Rows.netEmptySpec.pre6 enc Try.prog Try.f11 Rows.netEmptyRow.domain false) (Rows.netEmptySpec.post enc Try.prog Try.f11 false true false false) := by
  refine lift_law started _ _ Rows.netEmptySpec Try.func11 (by kernel_rfl) rfl rfl (by kernel_rfl) ?_
    (ChangeSpec.witness6 (enc := enc) (C := Try.checked) false ⟨#[], #[.agg #[.int .i64 0, .slice none 0 0, .int .i64 0]], []⟩ 8 (by kernel_rfl) (by kernel_rfl) (by kernel_rfl) (by kernel_rfl)) ?_
  · intro ds hds
    match ds, hds with
    | [_], _ => rfl
  · intro W base args ds p hA hval hlt hsz
    rw [Try.params11] at hA hval hsz
    obtain ⟨v0, d0, rfl, rfl, h0⟩ := trodAll_one hA
    obtain ⟨c, A, n, cap, rfl, hls⟩ := arg_cfg (hval 0 _ v0 rfl rfl) h0 (weightsEach_get hsz (i := 0) rfl rfl)
    exact netEmpty_walk _ _ _ _ _ _ _ hls

/-- NetEmpty: the statement. -/
theorem netEmpty_holds : Rows.NetEmptySaid :=
  OpenClaim.holds_of_wide 11 Try.f11 rfl rfl rfl rfl rfl rfl rfl ⟨rfl, rfl, rfl, rfl, rfl⟩ rfl rfl rfl rfl rfl (by kernel_rfl) Try.func11 (by kernel_rfl)
    (of_decide_eq_true (by kernel_rfl)) (by unfold Func.isWrapper; rw [if_neg (of_decide_eq_false (by kernel_rfl))]; exact ⟨rfl, rfl⟩)
    (fun os started H enc _ => netEmpty_lifted os started H enc)


end Go.Proofs.Ytdldmlekjhmaaaa
