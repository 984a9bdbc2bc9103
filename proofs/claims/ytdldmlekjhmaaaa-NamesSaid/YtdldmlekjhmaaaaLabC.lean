/- The law LabelChecks. -/
import Derived.Test.YtdldmlekjhmaaaaArg
import Derived.Test.YtdldmlekjhmaaaaFrame
namespace Go.Proofs.Ytdldmlekjhmaaaa
open Go.RowKit Go.ChangeShapes Go.WideShapes Go.Deep

set_option maxHeartbeats 400000 in
theorem labelChecks_walk (s p : Int) (A : Option Addr) (n c : Nat) (ls : List (Int × Int)) (w : World) (hls : LabelsAt w w.heap.size A n c ls) :
    Calls Try.prog 9 #[.agg #[.int .i64 s, .slice A n c, .int .i64 p]] w fun e w' => e = .returned (.bool true) ∧ Below w.heap.size w w' := by
  go_enter Try.func9, Try.ntmps9
  go_wp2_with fail
  refine (check_any s p A n c ls _ (hls.below (Flat.stable _) ((Below.refl _ _).alloc (Nat.le_refl _) _) (by simp))).mono ?_
  rintro e w1 ⟨rfl, hb1⟩
  obtain ⟨hc1, hf1⟩ := bcell hb1
  go_wp2_with fail
  have hb : Below w.heap.size w w1 := ((Below.refl _ _).alloc (Nat.le_refl _) _).trans (hb1.mono (by simp))
  refine (fault_any s p A n c ls _ (hls.below (Flat.stable _) hb hb.size)).mono ?_
  rintro e w2 ⟨rfl, hb2⟩
  go_wp2_with fail
  go_ret
  exact ⟨by simp, hb.trans (hb2.mono hb.size)⟩

theorem labelChecks_lifted (os : Os) (started : os.Started) (H : Type) (enc : TypeId × Value → H) :
    ReturnsInHanded {} Try.checked os 9 .any (Rows.labelChecksSpec.pre6 enc Try.prog Try.f9 Rows.labelChecksRow.domain false) (Rows.labelChecksSpec.post enc Try.prog Try.f9 false true false false) := by
  refine lift_law started _ _ Rows.labelChecksSpec Try.func9 (by kernel_rfl) rfl rfl (by kernel_rfl) ?_
    (ChangeSpec.witness6 (enc := enc) (C := Try.checked) false ⟨#[], #[.agg #[.int .i64 0, .slice none 0 0, .int .i64 0]], []⟩ 8 (by kernel_rfl) (by kernel_rfl) (by kernel_rfl) (by kernel_rfl)) ?_
  · intro ds hds
    match ds, hds with
    | [_], _ => rfl
  · intro W base args ds p hA hval hlt hsz
    rw [Try.params9] at hA hval hsz
    obtain ⟨v0, d0, rfl, rfl, h0⟩ := trodAll_one hA
    obtain ⟨c, A, n, cap, rfl, hls⟩ := arg_cfg (hval 0 _ v0 rfl rfl) h0 (weightsEach_get hsz (i := 0) rfl rfl)
    exact labelChecks_walk _ _ _ _ _ _ _ hls

theorem labelChecks_holds : Rows.LabelChecksSaid :=
  OpenClaim.holds_of_wide 9 Try.f9 rfl rfl rfl rfl rfl rfl rfl ⟨rfl, rfl, rfl, rfl, rfl⟩ rfl rfl rfl rfl rfl (by kernel_rfl) Try.func9 (by kernel_rfl)
    (of_decide_eq_true (by kernel_rfl)) (by unfold Func.isWrapper; rw [if_neg (of_decide_eq_false (by kernel_rfl))]; exact ⟨rfl, rfl⟩)
    (fun os started H enc _ => labelChecks_lifted os started H enc)

end Go.Proofs.Ytdldmlekjhmaaaa
