/- The law LabelMeets: for every input it returns true and turns nothing. No condition. -/
import Derived.Test.YtdldmlekjhmaaaaLabD
namespace Go.Proofs.Ytdldmlekjhmaaaa
open Go.RowKit Go.ChangeShapes Go.WideShapes Go.Deep

theorem labelMeets_lifted (os : Os) (started : os.Started) (H : Type) (enc : TypeId × Value → H) :
    ReturnsInHanded {} Try.checked os 6 .any (Rows.labelMeetsSpec.pre6 enc Try.prog Try.f6 Rows.labelMeetsRow.domain false) (Rows.labelMeetsSpec.post enc Try.prog Try.f6 false true false false) := by
  refine lift_law started _ _ Rows.labelMeetsSpec Try.func6 (by kernel_rfl) rfl rfl (by kernel_rfl) ?_
    (ChangeSpec.witness6 (enc := enc) (C := Try.checked) false ⟨#[], #[.agg #[.int .i64 0, .int .i64 0], .agg #[.int .i64 0, .int .i64 0]], []⟩ 8 (by kernel_rfl) (by kernel_rfl) (by kernel_rfl) (by kernel_rfl)) ?_
  · intro ds hds
    match ds, hds with
    | [_, _], _ => rfl
  · intro W base args ds p hA hval hlt hsz
    rw [Try.params6] at hA hval hsz
    obtain ⟨v0, v1, d0, d1, p0, p1, rfl, rfl, rfl, h0, h1⟩ := trodAll_two hA
    obtain ⟨a0, a1, rfl⟩ := arg_label (hval 0 _ v0 rfl rfl) h0 (weightsEach_get hsz (i := 0) rfl rfl)
    obtain ⟨b0, b1, rfl⟩ := arg_label (hval 1 _ v1 rfl rfl) h1 (weightsEach_get hsz (i := 1) rfl rfl)
    exact labelMeets_walk _ _ _ _ _

/-- LabelMeets: the statement. -/
theorem labelMeets_holds : Rows.LabelMeetsSaid :=
  OpenClaim.holds_of_wide 6 Try.f6 rfl rfl rfl rfl rfl rfl rfl ⟨rfl, rfl, rfl, rfl, rfl⟩ rfl rfl rfl rfl rfl (by kernel_rfl) Try.func6 (by kernel_rfl)
    (of_decide_eq_true (by kernel_rfl)) (by unfold Func.isWrapper; rw [if_neg (of_decide_eq_false (by kernel_rfl))]; exact ⟨rfl, rfl⟩)
    (fun os started H enc _ => labelMeets_lifted os started H enc)

end Go.Proofs.Ytdldmlekjhmaaaa
