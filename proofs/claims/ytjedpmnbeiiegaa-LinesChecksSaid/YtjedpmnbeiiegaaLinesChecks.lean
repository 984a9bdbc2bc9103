/- The law LinesChecks: for every input it returns true and turns nothing. No condition. -/
import Derived.Test.YtjedpmnbeiiegaaLjP
import Derived.Test.YtjedpmnbeiiegaaFrame
namespace Go.Proofs.Ytjedpmnbeiiegaa
open Go.RowKit Go.ChangeShapes Go.WideShapes Go.Deep

theorem linesChecks_lifted (os : Os) (started : os.Started) (H : Type) (enc : TypeId × Value → H) :
    ReturnsInHanded {} Try.checked os 4 .any (Rows.linesChecksSpec.pre6 enc Try.prog Try.f4 Rows.linesChecksRow.domain false) (Rows.linesChecksSpec.post enc Try.prog Try.f4 false true false false) := by
  refine lift_law started _ _ Rows.linesChecksSpec Try.func4 (by kernel_rfl) rfl rfl (by kernel_rfl) ?_
    (ChangeSpec.witness6 (enc := enc) (C := Try.checked) false ⟨#[], #[.agg #[.int .i64 0, .slice none 0 0, .int .i64 0], .agg #[.int .i64 0, .int .i64 0, .int .i64 0, .int .i64 0, .int .i64 0, .slice none 0 0, .int .i64 0, .int .i64 0, .int .i64 0, .int .i64 0, .int .i64 0, .string ⟨#[]⟩]], []⟩ 8 (by kernel_rfl) (by kernel_rfl) (by kernel_rfl) (by kernel_rfl)) ?_
  · intro ds hds
    match ds, hds with
    | [_, _], _ => rfl
  · refine LinesChecks_walk liCheck_ok aFault_ok fun x h => ?_
    have h1 : x.1.2.1.length * 16 ≤ 140737488351232 := h.1.2.1.1
    have h2 : x.2.1.2.2.2.2.2.1.length * 8 ≤ 140737488351232 := h.2.1.2.2.2.2.2.1.1
    have k1 : x.1.2.1.length < 4611686018427387904 := by omega
    have k2 : x.2.1.2.2.2.2.2.1.length < 4611686018427387904 := by omega
    refine ⟨k1, k2, k1, k2, congrArg (·, ()) ?_⟩
    unfold pEq
    simp

/-- LinesChecks: the statement. -/
theorem linesChecks_holds : Rows.LinesChecksSaid :=
  OpenClaim.holds_of_wide 4 Try.f4 rfl rfl rfl rfl rfl rfl rfl ⟨rfl, rfl, rfl, rfl, rfl⟩ rfl rfl rfl rfl rfl (by kernel_rfl) Try.func4 (by kernel_rfl)
    (of_decide_eq_true (by kernel_rfl)) (by unfold Func.isWrapper; rw [if_neg (of_decide_eq_false (by kernel_rfl))]; exact ⟨rfl, rfl⟩)
    (fun os started H enc _ => linesChecks_lifted os started H enc)

end Go.Proofs.Ytjedpmnbeiiegaa
