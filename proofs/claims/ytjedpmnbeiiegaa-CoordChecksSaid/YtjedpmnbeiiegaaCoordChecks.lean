/- The law CoordChecks: for every input it returns true and turns nothing. No condition. -/
import Derived.Test.YtjedpmnbeiiegaaCoP
import Derived.Test.YtjedpmnbeiiegaaFrame
namespace Go.Proofs.Ytjedpmnbeiiegaa
open Go.RowKit Go.ChangeShapes Go.WideShapes Go.Deep

theorem coordChecks_lifted (os : Os) (started : os.Started) (H : Type) (enc : TypeId × Value → H) :
    ReturnsInHanded {} Try.checked os 3 .any (Rows.coordChecksSpec.pre6 enc Try.prog Try.f3 Rows.coordChecksRow.domain false) (Rows.coordChecksSpec.post enc Try.prog Try.f3 false true false false) := by
  refine lift_law started _ _ Rows.coordChecksSpec Try.func3 (by kernel_rfl) rfl rfl (by kernel_rfl) ?_
    (ChangeSpec.witness6 (enc := enc) (C := Try.checked) false ⟨#[], #[.agg #[.int .i64 0, .slice none 0 0, .int .i64 0], .agg #[.int .i64 0, .slice none 0 0]], []⟩ 8 (by kernel_rfl) (by kernel_rfl) (by kernel_rfl) (by kernel_rfl)) ?_
  · intro ds hds
    match ds, hds with
    | [_, _], _ => rfl
  · refine CoordChecks_walk cCheck_ok dFault_ok fun x h => ?_
    have h1 : x.1.2.1.length * 16 ≤ 140737488351232 := h.1.2.1.1
    have h2 : x.2.1.2.1.length * 80 ≤ 140737488351232 := h.2.1.2.1.1
    have h3 : ∀ q ∈ x.2.1.2.1, q.2.2.1.length < 4611686018427387904 ∧ q.2.2.2.1.length < 4611686018427387904 := fun q hq => by
      have a : q.2.2.1.length * 56 ≤ 140737488351232 := (h.2.1.2.1.2 q hq).2.2.1.1
      have b : q.2.2.2.1.length * 8 ≤ 140737488351232 := (h.2.1.2.1.2 q hq).2.2.2.1.1
      omega
    have k1 : x.1.2.1.length < 4611686018427387904 := by omega
    have k2 : x.2.1.2.1.length < 4611686018427387904 := by omega
    refine ⟨k1, k2, h3, k1, k2, h3, congrArg (·, ()) ?_⟩
    unfold pEq
    simp

/-- CoordChecks: the statement. -/
theorem coordChecks_holds : Rows.CoordChecksSaid :=
  OpenClaim.holds_of_wide 3 Try.f3 rfl rfl rfl rfl rfl rfl rfl ⟨rfl, rfl, rfl, rfl, rfl⟩ rfl rfl rfl rfl rfl (by kernel_rfl) Try.func3 (by kernel_rfl)
    (of_decide_eq_true (by kernel_rfl)) (by unfold Func.isWrapper; rw [if_neg (of_decide_eq_false (by kernel_rfl))]; exact ⟨rfl, rfl⟩)
    (fun os started H enc _ => coordChecks_lifted os started H enc)

end Go.Proofs.Ytjedpmnbeiiegaa
