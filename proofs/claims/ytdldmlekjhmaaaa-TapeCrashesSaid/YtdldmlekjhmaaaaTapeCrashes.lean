/- The law TapeCrashes: for every input it returns true and turns nothing. No condition. -/
import Derived.Test.YtdldmlekjhmaaaaTapF
namespace Go.Proofs.Ytdldmlekjhmaaaa
open Go.RowKit Go.ChangeShapes Go.WideShapes Go.Deep

theorem tapeCrashes_lifted (os : Os) (started : os.Started) (H : Type) (enc : TypeId × Value → H) :
    ReturnsInHanded {} Try.checked os 10 .any (Rows.tapeCrashesSpec.pre6 enc Try.prog Try.f10 Rows.tapeCrashesRow.domain false) (Rows.tapeCrashesSpec.post enc Try.prog Try.f10 false true false false) := by
  refine lift_law started _ _ Rows.tapeCrashesSpec Try.func10 (by kernel_rfl) rfl rfl (by kernel_rfl) ?_
    (ChangeSpec.witness6 (enc := enc) (C := Try.checked) false ⟨#[], #[.agg #[.slice none 0 0, .int .i64 0], .int .i64 0], []⟩ 8 (by kernel_rfl) (by kernel_rfl) (by kernel_rfl) (by kernel_rfl)) ?_
  · intro ds hds
    match ds, hds with
    | [_, _], _ => rfl
  · intro W base args ds p hA hval hlt hsz
    rw [Try.params10] at hA hval hsz
    obtain ⟨v0, v1, d0, d1, p0, p1, rfl, rfl, rfl, h0, h1⟩ := trodAll_two hA
    obtain ⟨xs, s, A, n, c, rfl, hx⟩ := arg_tape (hval 0 _ v0 rfl rfl) h0 (weightsEach_get hsz (i := 0) rfl rfl)
    obtain ⟨keep, rfl, rfl, rfl, wk⟩ := open_int Try.underlying3 (hval 1 _ v1 rfl rfl) h1
    exact tapeCrashes_walk _ _ _ _ _ _ _ hx (i64_le wk).2

/-- TapeCrashes: the statement. -/
theorem tapeCrashes_holds : Rows.TapeCrashesSaid :=
  OpenClaim.holds_of_wide 10 Try.f10 rfl rfl rfl rfl rfl rfl rfl ⟨rfl, rfl, rfl, rfl, rfl⟩ rfl rfl rfl rfl rfl (by kernel_rfl) Try.func10 (by kernel_rfl)
    (of_decide_eq_true (by kernel_rfl)) (by unfold Func.isWrapper; rw [if_neg (of_decide_eq_false (by kernel_rfl))]; exact ⟨rfl, rfl⟩)
    (fun os started H enc _ => tapeCrashes_lifted os started H enc)


end Go.Proofs.Ytdldmlekjhmaaaa
