/- The law StoreAges: for every input it returns true and turns nothing. No condition. -/
import Derived.Test.YtoalcmpjfnlkdaaSmL
import Derived.Test.YtoalcmpjfnlkdaaFrame
namespace Go.Proofs.Ytoalcmpjfnlkdaa
open Go.RowKit Go.ChangeShapes Go.WideShapes Go.Deep

theorem storeAges_lifted (os : Os) (started : os.Started) (H : Type) (enc : TypeId × Value → H) :
    ReturnsInHanded {} Try.checked os 5 .any (Rows.storeAgesSpec.pre6 enc Try.prog Try.f5 Rows.storeAgesRow.domain false) (Rows.storeAgesSpec.post enc Try.prog Try.f5 false true false false) := by
  refine lift_law started _ _ Rows.storeAgesSpec Try.func5 (by kernel_rfl) rfl rfl (by kernel_rfl) ?_
    (ChangeSpec.witness6 (enc := enc) (C := Try.checked) false ⟨#[], #[.agg #[.slice none 0 0, .slice none 0 0, .slice none 0 0, .slice none 0 0], .int .i64 0], []⟩ 8 (by kernel_rfl) (by kernel_rfl) (by kernel_rfl) (by kernel_rfl)) ?_
  · intro ds hds
    match ds, hds with
    | [_, _], _ => rfl
  · refine StoreAges_walk Age_ok AgeOf_ok StoreCopy_ok sameStore_ok sameTxns_ok fun x h => ?_
    obtain ⟨r1, r2, r3, r4, l1, l2, l3, l4⟩ := stoIn x.1 h.1
    obtain ⟨a1, a2, a3, a4, a5⟩ := ageS_len x.1.1 x.1.2.1 x.1.2.2.1 x.1.2.2.2.1 x.2.1.1
    unfold StoreAges_VC
    refine ⟨r1, r2, r3, r4, l1, l2, l3, l4, r1, r2, r3, r4, l1, l2, l3, l4, r1, r2, r3, r4, ?_⟩
    rw [bif_true (show pEq _ _ = true by simp [pEq])]
    refine ⟨Nat.lt_of_le_of_lt a1 l1, Nat.lt_of_le_of_lt a2 l2, Nat.lt_of_le_of_lt a3 l3, Nat.lt_of_le_of_lt a4 l4, ?_⟩
    rw [bif_true (sameSto_refl _)]
    refine ⟨Nat.lt_of_le_of_lt a5 l3, ?_⟩
    rw [bif_true (sameTxns_refl _)]
    exact ⟨l1, l2, l3, l4, congrArg (·, ()) (sameSto_refl _)⟩

/-- StoreAges: the statement. -/
theorem storeAges_holds : Rows.StoreAgesSaid :=
  OpenClaim.holds_of_wide 5 Try.f5 rfl rfl rfl rfl rfl rfl rfl ⟨rfl, rfl, rfl, rfl, rfl⟩ rfl rfl rfl rfl rfl (by kernel_rfl) Try.func5 (by kernel_rfl)
    (of_decide_eq_true (by kernel_rfl)) (by unfold Func.isWrapper; rw [if_neg (of_decide_eq_false (by kernel_rfl))]; exact ⟨rfl, rfl⟩)
    (fun os started H enc _ => storeAges_lifted os started H enc)

end Go.Proofs.Ytoalcmpjfnlkdaa
