/- The law TapeSyncs: for every input it returns true and turns nothing. No condition. -/
import Derived.Test.YtdldmlekjhmaaaaTapF
namespace Go.Proofs.Ytdldmlekjhmaaaa
open Go.RowKit Go.ChangeShapes Go.WideShapes Go.Deep

theorem tapeSyncs_lifted (os : Os) (started : os.Started) (H : Type) (enc : TypeId × Value → H) :
    ReturnsInHanded {} Try.checked os 8 .any (Rows.tapeSyncsSpec.pre6 enc Try.prog Try.f8 Rows.tapeSyncsRow.domain false) (Rows.tapeSyncsSpec.post enc Try.prog Try.f8 false true false false) := by
  refine lift_law started _ _ Rows.tapeSyncsSpec Try.func8 (by kernel_rfl) rfl rfl (by kernel_rfl) ?_
    (ChangeSpec.witness6 (enc := enc) (C := Try.checked) false ⟨#[], #[.agg #[.slice none 0 0, .int .i64 0]], []⟩ 8 (by kernel_rfl) (by kernel_rfl) (by kernel_rfl) (by kernel_rfl)) ?_
  · intro ds hds
    match ds, hds with
    | [_], _ => rfl
  · intro W base args ds p hA hval hlt hsz
    rw [Try.params8] at hA hval hsz
    obtain ⟨v0, d0, rfl, rfl, h0⟩ := trodAll_one hA
    obtain ⟨xs, s, A, n, c, rfl, hx⟩ := arg_tape (hval 0 _ v0 rfl rfl) h0 (weightsEach_get hsz (i := 0) rfl rfl)
    exact tapeSyncs_walk _ _ _ _ _ _ hx

/-- TapeSyncs: the statement. -/
theorem tapeSyncs_holds : Rows.TapeSyncsSaid :=
  OpenClaim.holds_of_wide 8 Try.f8 rfl rfl rfl rfl rfl rfl rfl ⟨rfl, rfl, rfl, rfl, rfl⟩ rfl rfl rfl rfl rfl (by kernel_rfl) Try.func8 (by kernel_rfl)
    (of_decide_eq_true (by kernel_rfl)) (by unfold Func.isWrapper; rw [if_neg (of_decide_eq_false (by kernel_rfl))]; exact ⟨rfl, rfl⟩)
    (fun os started H enc _ => tapeSyncs_lifted os started H enc)


end Go.Proofs.Ytdldmlekjhmaaaa
