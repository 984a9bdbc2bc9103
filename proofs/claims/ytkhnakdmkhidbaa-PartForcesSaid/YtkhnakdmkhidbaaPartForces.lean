/- The law PartForces: for every input it returns true and turns nothing. No condition. -/
import Derived.Test.YtkhnakdmkhidbaaPbP
import Derived.Test.YtkhnakdmkhidbaaFrame
namespace Go.Proofs.Ytkhnakdmkhidbaa
open Go.RowKit Go.ChangeShapes Go.WideShapes Go.Deep

theorem forces_vc (cn : Int) (cl : List LabD) (cp l me : Int) (ss : List StoD) (ns : List NoteD) (ts tn : Int) (g : Bool) (c2 : ss.length * 96 ≤ 140737488351232) (c3 : ns.length * 24 ≤ 140737488351232) (k1 : cl.length < 4611686018427387904) (k2 : ss.length < 4611686018427387904)
    (k3 : ns.length < 4611686018427387904) (hq : ∀ q ∈ ss, pLen q.1 < 4611686018427387904 ∧ pLen q.2.1 < 4611686018427387904 ∧ pLen q.2.2.1 < 4611686018427387904 ∧ pLen q.2.2.2.1 < 4611686018427387904 ∧ pRoom (pLen q.1) 24 ∧ pRoom (pLen q.2.1) 48 ∧ pRoom (pLen q.2.2.1) 24 ∧ pRoom (pLen q.2.2.2.1) 16) : PartForces_VC cn cl cp l me ss ns ts tn g := by
  obtain ⟨t1, t2, t3, t4, t5, t6, t7, t8⟩ := forceA_len (cn, cl, cp, ()) l me (ns := ns) (t := (ts, tn, ())) (g := g) k3 hq
  have e : pApp [] ss = ss := rfl
  unfold PartForces_VC
  rw [e]
  refine ⟨?_, c3, k1, k2, hq, k3, c3, k1, k2, hq, k3, c3, ?_⟩
  · unfold pRoom pPlus pLen; rw [List.length_nil, Nat.zero_add]; exact c2
  rw [bif_true (show pEq _ _ = true by simp [pEq])]
  exact ⟨t1, t2, t3, t4, t5, t6, t7, t8, congrArg (·, ()) (sameAnsw_refl _)⟩

theorem partForces_lifted (os : Os) (started : os.Started) (H : Type) (enc : TypeId × Value → H) :
    ReturnsInHanded {} Try.checked os 4 .any (Rows.partForcesSpec.pre6 enc Try.prog Try.f4 Rows.partForcesRow.domain false) (Rows.partForcesSpec.post enc Try.prog Try.f4 false true false false) := by
  refine lift_law started _ _ Rows.partForcesSpec Try.func4 (by kernel_rfl) rfl rfl (by kernel_rfl) ?_
    (ChangeSpec.witness6 (enc := enc) (C := Try.checked) false ⟨#[], #[.agg #[.int .i64 0, .slice none 0 0, .int .i64 0], .int .i64 0, .int .i64 0, .slice none 0 0, .slice none 0 0, .agg #[.int .i64 0, .int .i64 0], .bool false], []⟩ 8 (by kernel_rfl) (by kernel_rfl) (by kernel_rfl) (by kernel_rfl)) ?_
  · intro ds hds
    match ds, hds with
    | [_, _, _, _, _, _, _], _ => rfl
  · refine PartForces_walk NotesCopy_ok Force_ok ForcedOf_ok sameAnsw_ok fun x h => ?_
    have c1 : x.1.2.1.length * 16 ≤ 140737488351232 := h.1.2.1.1
    have c2 : x.2.2.2.1.1.length * 96 ≤ 140737488351232 := h.2.2.2.1.1
    have c3 : x.2.2.2.2.1.1.length * 24 ≤ 140737488351232 := h.2.2.2.2.1.1
    have k3 := lt62 c3 (by decide)
    have k1 := lt62 c1 (by decide)
    have k2 := lt62 c2 (by decide)
    have hq : ∀ q ∈ x.2.2.2.1.1, pLen q.1 < 4611686018427387904 ∧ pLen q.2.1 < 4611686018427387904 ∧ pLen q.2.2.1 < 4611686018427387904 ∧ pLen q.2.2.2.1 < 4611686018427387904 ∧ pRoom (pLen q.1) 24 ∧ pRoom (pLen q.2.1) 48 ∧ pRoom (pLen q.2.2.1) 24 ∧ pRoom (pLen q.2.2.2.1) 16 := fun q hin => by
      obtain ⟨r1, r2, r3, r4, l1, l2, l3, l4⟩ := stoIn q (h.2.2.2.1.2 q hin)
      exact ⟨l1, l2, l3, l4, r1, r2, r3, r4⟩
    exact forces_vc _ _ _ _ _ _ _ _ _ _ c2 c3 k1 k2 k3 hq

/-- PartForces: the statement. -/
theorem partForces_holds : Rows.PartForcesSaid :=
  OpenClaim.holds_of_wide 4 Try.f4 rfl rfl rfl rfl rfl rfl rfl ⟨rfl, rfl, rfl, rfl, rfl⟩ rfl rfl rfl rfl rfl (by kernel_rfl) Try.func4 (by kernel_rfl)
    (of_decide_eq_true (by kernel_rfl)) (by unfold Func.isWrapper; rw [if_neg (of_decide_eq_false (by kernel_rfl))]; exact ⟨rfl, rfl⟩)
    (fun os started H enc _ => partForces_lifted os started H enc)

end Go.Proofs.Ytkhnakdmkhidbaa
