/- The law LabelPurges: for every input it returns true and turns nothing. No condition. -/
import Derived.Test.YtpgolfigfbjbeaaLpP
import Derived.Test.YtpgolfigfbjbeaaFrame
namespace Go.Proofs.Ytpgolfigfbjbeaa
open Go.RowKit Go.ChangeShapes Go.WideShapes Go.Deep

theorem purges_vc (cn : Int) (cl : List LabD) (cp l : Int) (zs : List ActD) (c2 : zs.length * 120 ≤ 140737488351232) (k1 : cl.length < 4611686018427387904) (k2 : zs.length < 4611686018427387904)
    (hq : ∀ q ∈ zs, pLen q.2.2.2.2.2.1 < 4611686018427387904 ∧ pRoom (pLen q.2.2.2.2.2.1) 8) : LabelPurges_VC cn cl cp l zs := by
  have e : pApp [] zs = zs := rfl
  unfold LabelPurges_VC
  rw [e]
  refine ⟨?_, k1, k2, c2, hq, k1, k2, c2, hq, ?_⟩
  · unfold pRoom pPlus pLen; rw [List.length_nil, Nat.zero_add]; exact c2
  rw [bif_true (show pEq _ _ = true by simp [pEq])]
  refine ⟨Nat.lt_of_le_of_lt purgeF_len k2, fun q hm => ?_, congrArg (·, ()) (sameActs_refl _)⟩
  obtain ⟨a, ha, he⟩ := purgeF_mem hm
  have := (hq a ha).1
  unfold pLen at *
  rw [he]; exact this

theorem labelPurges_lifted (os : Os) (started : os.Started) (H : Type) (enc : TypeId × Value → H) :
    ReturnsInHanded {} Try.checked os 3 .any (Rows.labelPurgesSpec.pre6 enc Try.prog Try.f3 Rows.labelPurgesRow.domain false) (Rows.labelPurgesSpec.post enc Try.prog Try.f3 false true false false) := by
  refine lift_law started _ _ Rows.labelPurgesSpec Try.func3 (by kernel_rfl) rfl rfl (by kernel_rfl) ?_
    (ChangeSpec.witness6 (enc := enc) (C := Try.checked) false ⟨#[], #[.agg #[.int .i64 0, .slice none 0 0, .int .i64 0], .int .i64 0, .slice none 0 0], []⟩ 8 (by kernel_rfl) (by kernel_rfl) (by kernel_rfl) (by kernel_rfl)) ?_
  · intro ds hds
    match ds, hds with
    | [_, _, _], _ => rfl
  · refine LabelPurges_walk Purge_ok PurgeOf_ok sameActs_ok fun x h => ?_
    have c1 : x.1.2.1.length * 16 ≤ 140737488351232 := h.1.2.1.1
    have c2 : x.2.2.1.1.length * 120 ≤ 140737488351232 := h.2.2.1.1
    have k1 := lt62 c1 (by decide)
    have k2 := lt62 c2 (by decide)
    have hq : ∀ q ∈ x.2.2.1.1, pLen q.2.2.2.2.2.1 < 4611686018427387904 ∧ pRoom (pLen q.2.2.2.2.2.1) 8 := fun q hin => by
      have c3 : q.2.2.2.2.2.1.length * 8 ≤ 140737488351232 := (h.2.2.1.2 q hin).2.2.2.2.2.1.1
      exact ⟨lt62 c3 (by decide), c3⟩
    exact purges_vc _ _ _ _ _ c2 k1 k2 hq

/-- LabelPurges: the statement. -/
theorem labelPurges_holds : Rows.LabelPurgesSaid :=
  OpenClaim.holds_of_wide 3 Try.f3 rfl rfl rfl rfl rfl rfl rfl ⟨rfl, rfl, rfl, rfl, rfl⟩ rfl rfl rfl rfl rfl (by kernel_rfl) Try.func3 (by kernel_rfl)
    (of_decide_eq_true (by kernel_rfl)) (by unfold Func.isWrapper; rw [if_neg (of_decide_eq_false (by kernel_rfl))]; exact ⟨rfl, rfl⟩)
    (fun os started H enc _ => labelPurges_lifted os started H enc)

end Go.Proofs.Ytpgolfigfbjbeaa
