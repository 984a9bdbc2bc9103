/- The law StoreEnds: for every input it returns true and turns nothing. No condition. -/
import Derived.Test.YtkhnakdmkhidbaaSmT
import Derived.Test.YtkhnakdmkhidbaaSvJ
import Derived.Test.YtkhnakdmkhidbaaFrame
namespace Go.Proofs.Ytkhnakdmkhidbaa
open Go.RowKit Go.ChangeShapes Go.WideShapes Go.Deep

theorem storeEnds_lifted (os : Os) (started : os.Started) (H : Type) (enc : TypeId × Value → H) :
    ReturnsInHanded {} Try.checked os 3 .any (Rows.storeEndsSpec.pre6 enc Try.prog Try.f3 Rows.storeEndsRow.domain false) (Rows.storeEndsSpec.post enc Try.prog Try.f3 false true false false) := by
  refine lift_law started _ _ Rows.storeEndsSpec Try.func3 (by kernel_rfl) rfl rfl (by kernel_rfl) ?_
    (ChangeSpec.witness6 (enc := enc) (C := Try.checked) false ⟨#[], #[.agg #[.slice none 0 0, .slice none 0 0, .slice none 0 0, .slice none 0 0], .agg #[.int .i64 0, .int .i64 0], .bool false], []⟩ 8 (by kernel_rfl) (by kernel_rfl) (by kernel_rfl) (by kernel_rfl)) ?_
  · intro ds hds
    match ds, hds with
    | [_, _, _], _ => rfl
  · refine StoreEnds_walk End_ok EndOf_ok StoreCopy_ok sameStore_ok fun x h => ?_
    obtain ⟨r1, r2, r3, r4, l1, l2, l3, l4⟩ := stoIn x.1 h.1
    obtain ⟨a1, a2, a3, a4⟩ := endS_len x.1.1 x.1.2.1 x.1.2.2.1 x.1.2.2.2.1 (x.2.1.1, x.2.1.2.1, ()) x.2.2.1.1
    have a1' : (endS (x.1.1, x.1.2.1, x.1.2.2.1, x.1.2.2.2.1, ()) (x.2.1.1, x.2.1.2.1, ()) x.2.2.1.1).1.length < 4611686018427387904 := by
      have q : ∀ a b : Nat, a * 24 ≤ 140737488351232 → b * 48 ≤ 140737488351232 → a + b < 4611686018427387904 := fun a b h1 h2 => by omega
      exact Nat.lt_of_le_of_lt a1 (q _ _ r1 r2)
    unfold StoreEnds_VC
    refine ⟨r1, r2, r3, r4, l1, l2, l3, l4, r1, r2, r3, r4, l1, l2, l3, l4, r1, r2, r3, r4, ?_⟩
    rw [bif_true (show pEq _ _ = true by simp [pEq])]
    refine ⟨a1', lt62s r2 (by decide) (Nat.le_succ_of_le a2), lt62s r3 (by decide) (Nat.le_succ_of_le a3), lt62s r4 (by decide) a4, ?_⟩
    rw [bif_true (sameSto_refl _)]
    exact ⟨l1, l2, l3, l4, congrArg (·, ()) (sameSto_refl _)⟩

/-- StoreEnds: the statement. -/
theorem storeEnds_holds : Rows.StoreEndsSaid :=
  OpenClaim.holds_of_wide 3 Try.f3 rfl rfl rfl rfl rfl rfl rfl ⟨rfl, rfl, rfl, rfl, rfl⟩ rfl rfl rfl rfl rfl (by kernel_rfl) Try.func3 (by kernel_rfl)
    (of_decide_eq_true (by kernel_rfl)) (by unfold Func.isWrapper; rw [if_neg (of_decide_eq_false (by kernel_rfl))]; exact ⟨rfl, rfl⟩)
    (fun os started H enc _ => storeEnds_lifted os started H enc)

end Go.Proofs.Ytkhnakdmkhidbaa
