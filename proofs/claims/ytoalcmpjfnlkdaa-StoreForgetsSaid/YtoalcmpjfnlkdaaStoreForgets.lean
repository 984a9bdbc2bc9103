/- The law StoreForgets: for every input it returns true and turns nothing. No condition. -/
import Derived.Test.YtoalcmpjfnlkdaaSmI
import Derived.Test.YtoalcmpjfnlkdaaSvH
import Derived.Test.YtoalcmpjfnlkdaaFrame
namespace Go.Proofs.Ytoalcmpjfnlkdaa
open Go.RowKit Go.ChangeShapes Go.WideShapes Go.Deep

theorem storeForgets_lifted (os : Os) (started : os.Started) (H : Type) (enc : TypeId × Value → H) :
    ReturnsInHanded {} Try.checked os 6 .any (Rows.storeForgetsSpec.pre6 enc Try.prog Try.f6 Rows.storeForgetsRow.domain false) (Rows.storeForgetsSpec.post enc Try.prog Try.f6 false true false false) := by
  refine lift_law started _ _ Rows.storeForgetsSpec Try.func6 (by kernel_rfl) rfl rfl (by kernel_rfl) ?_
    (ChangeSpec.witness6 (enc := enc) (C := Try.checked) false ⟨#[], #[.agg #[.slice none 0 0, .slice none 0 0, .slice none 0 0, .slice none 0 0]], []⟩ 8 (by kernel_rfl) (by kernel_rfl) (by kernel_rfl) (by kernel_rfl)) ?_
  · intro ds hds
    match ds, hds with
    | [_], _ => rfl
  · refine StoreForgets_walk Forget_ok ForgetOf_ok StoreCopy_ok sameStore_ok fun x h => ?_
    obtain ⟨r1, r2, r3, r4, l1, l2, l3, l4⟩ := stoIn x.1 h.1
    obtain ⟨a1, a2, a3, a4⟩ := forgS_len x.1.1 x.1.2.1 x.1.2.2.1 x.1.2.2.2.1
    unfold StoreForgets_VC
    refine ⟨r1, r2, r3, r4, l1, l2, l3, l4, r1, r2, r3, r4, l1, l2, l3, l4, r1, r2, r3, r4, ?_⟩
    rw [bif_true (show pEq _ _ = true by simp [pEq])]
    refine ⟨lt62s r1 (by decide) a1, lt62s r2 (by decide) a2, lt62s r3 (by decide) a3, lt62s r4 (by decide) a4, ?_⟩
    rw [bif_true (sameSto_refl _)]
    exact ⟨l1, l2, l3, l4, congrArg (·, ()) (sameSto_refl _)⟩

/-- StoreForgets: the statement. -/
theorem storeForgets_holds : Rows.StoreForgetsSaid :=
  OpenClaim.holds_of_wide 6 Try.f6 rfl rfl rfl rfl rfl rfl rfl ⟨rfl, rfl, rfl, rfl, rfl⟩ rfl rfl rfl rfl rfl (by kernel_rfl) Try.func6 (by kernel_rfl)
    (of_decide_eq_true (by kernel_rfl)) (by unfold Func.isWrapper; rw [if_neg (of_decide_eq_false (by kernel_rfl))]; exact ⟨rfl, rfl⟩)
    (fun os started H enc _ => storeForgets_lifted os started H enc)

end Go.Proofs.Ytoalcmpjfnlkdaa
