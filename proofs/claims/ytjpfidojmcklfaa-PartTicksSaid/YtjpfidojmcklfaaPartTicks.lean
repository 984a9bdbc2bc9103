/- The law PartTicks: for every input it returns true and turns nothing. No condition. -/
import Derived.Test.YtjpfidojmcklfaaPaP
import Derived.Test.YtjpfidojmcklfaaFrame
namespace Go.Proofs.Ytjpfidojmcklfaa
open Go.RowKit Go.ChangeShapes Go.WideShapes Go.Deep

theorem ticks_vc (cn : Int) (cl : List LabD) (cp l me : Int) (ss : List StoD) (c2 : ss.length * 96 ≤ 140737488351232) (k1 : cl.length < 4611686018427387904) (k2 : ss.length < 4611686018427387904)
    (hq : ∀ q ∈ ss, pLen q.1 < 4611686018427387904 ∧ pLen q.2.1 < 4611686018427387904 ∧ pLen q.2.2.1 < 4611686018427387904 ∧ pLen q.2.2.2.1 < 4611686018427387904 ∧ pRoom (pLen q.1) 24 ∧ pRoom (pLen q.2.1) 48 ∧ pRoom (pLen q.2.2.1) 24 ∧ pRoom (pLen q.2.2.2.1) 16) : PartTicks_VC cn cl cp l me ss := by
  obtain ⟨t1, t2, t3, t4, t5, t6, t7⟩ := tickA_len (cn, cl, cp, ()) l me hq
  have e : pApp [] ss = ss := rfl
  unfold PartTicks_VC
  rw [e]
  refine ⟨?_, k1, k2, hq, k1, k2, hq, ?_⟩
  · unfold pRoom pPlus pLen; rw [List.length_nil, Nat.zero_add]; exact c2
  rw [bif_true (show pEq _ _ = true by simp [pEq])]
  refine ⟨t1, t2, t3, t4, t5, t6, t7, t7, congrArg (·, ()) ?_⟩
  rw [bif_true (show (bif sameStoF _ _ then sameMsgsF _ _ else false) = true by rw [bif_true (sameSto_refl _)]; exact sameMsgs_refl _)]
  exact sameNotes_refl _

theorem partTicks_lifted (os : Os) (started : os.Started) (H : Type) (enc : TypeId × Value → H) :
    ReturnsInHanded {} Try.checked os 3 .any (Rows.partTicksSpec.pre6 enc Try.prog Try.f3 Rows.partTicksRow.domain false) (Rows.partTicksSpec.post enc Try.prog Try.f3 false true false false) := by
  refine lift_law started _ _ Rows.partTicksSpec Try.func3 (by kernel_rfl) rfl rfl (by kernel_rfl) ?_
    (ChangeSpec.witness6 (enc := enc) (C := Try.checked) false ⟨#[], #[.agg #[.int .i64 0, .slice none 0 0, .int .i64 0], .int .i64 0, .int .i64 0, .slice none 0 0], []⟩ 8 (by kernel_rfl) (by kernel_rfl) (by kernel_rfl) (by kernel_rfl)) ?_
  · intro ds hds
    match ds, hds with
    | [_, _, _, _], _ => rfl
  · refine PartTicks_walk Tick_ok Ticked_ok sameAns_ok fun x h => ?_
    have c1 : x.1.2.1.length * 16 ≤ 140737488351232 := h.1.2.1.1
    have c2 : x.2.2.2.1.1.length * 96 ≤ 140737488351232 := h.2.2.2.1.1
    have k1 := lt62 c1 (by decide)
    have k2 := lt62 c2 (by decide)
    have hq : ∀ q ∈ x.2.2.2.1.1, pLen q.1 < 4611686018427387904 ∧ pLen q.2.1 < 4611686018427387904 ∧ pLen q.2.2.1 < 4611686018427387904 ∧ pLen q.2.2.2.1 < 4611686018427387904 ∧ pRoom (pLen q.1) 24 ∧ pRoom (pLen q.2.1) 48 ∧ pRoom (pLen q.2.2.1) 24 ∧ pRoom (pLen q.2.2.2.1) 16 := fun q hin => by
      obtain ⟨r1, r2, r3, r4, l1, l2, l3, l4⟩ := stoIn q (h.2.2.2.1.2 q hin)
      exact ⟨l1, l2, l3, l4, r1, r2, r3, r4⟩
    exact ticks_vc _ _ _ _ _ _ c2 k1 k2 hq

/-- PartTicks: the statement. -/
theorem partTicks_holds : Rows.PartTicksSaid :=
  OpenClaim.holds_of_wide 3 Try.f3 rfl rfl rfl rfl rfl rfl rfl ⟨rfl, rfl, rfl, rfl, rfl⟩ rfl rfl rfl rfl rfl (by kernel_rfl) Try.func3 (by kernel_rfl)
    (of_decide_eq_true (by kernel_rfl)) (by unfold Func.isWrapper; rw [if_neg (of_decide_eq_false (by kernel_rfl))]; exact ⟨rfl, rfl⟩)
    (fun os started H enc _ => partTicks_lifted os started H enc)

end Go.Proofs.Ytjpfidojmcklfaa
