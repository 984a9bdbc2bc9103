/- The law LabelSees: for every input it returns true and turns nothing. No condition. -/
import Derived.Test.YtdldmlekjhmaaaaLabF
namespace Go.Proofs.Ytdldmlekjhmaaaa
open Go.RowKit Go.ChangeShapes Go.WideShapes Go.Deep

set_option maxHeartbeats 400000 in
theorem labelSees_walk (s p a b : Int) (A : Option Addr) (n c : Nat) (ls : List (Int × Int)) (w : World) (hls : LabelsAt w w.heap.size A n c ls) :
    Calls Try.prog 13 #[.agg #[.int .i64 s, .slice A n c, .int .i64 p], .int .i64 a, .int .i64 b] w fun e w' => e = .returned (.bool true) ∧ Below w.heap.size w w' := by
  go_enter Try.func13, Try.ntmps13
  go_wp2_with fail
  refine (sees_any s p a b A n c ls _ (hls.below (Flat.stable _) ((Below.refl _ _).alloc (Nat.le_refl _) _) (by simp))).mono ?_
  rintro e w1 ⟨rfl, hb1⟩
  obtain ⟨hc1, hf1⟩ := bcell hb1
  have hsz1 := hb1.size
  simp at hsz1
  have z0 : w.heap.size < w1.heap.size := by omega
  have hb : Below w.heap.size w w1 := ((Below.refl _ _).alloc (Nat.le_refl _) _).trans (hb1.mono (by simp))
  go_wp2_with fail
  refine (seesOf_any s p a b A n c ls _ (hls.below (Flat.stable _) hb hb.size)).mono ?_
  rintro e w2 ⟨rfl, hb2⟩
  go_wp2_with fail
  all_goals
    go_ret
    exact ⟨by simp, hb.trans (hb2.mono hb.size)⟩

theorem labelSees_lifted (os : Os) (started : os.Started) (H : Type) (enc : TypeId × Value → H) :
    ReturnsInHanded {} Try.checked os 13 .any (Rows.labelSeesSpec.pre6 enc Try.prog Try.f13 Rows.labelSeesRow.domain false) (Rows.labelSeesSpec.post enc Try.prog Try.f13 false true false false) := by
  refine lift_law started _ _ Rows.labelSeesSpec Try.func13 (by kernel_rfl) rfl rfl (by kernel_rfl) ?_
    (ChangeSpec.witness6 (enc := enc) (C := Try.checked) false ⟨#[], #[.agg #[.int .i64 0, .slice none 0 0, .int .i64 0], .int .i64 0, .int .i64 0], []⟩ 8 (by kernel_rfl) (by kernel_rfl) (by kernel_rfl) (by kernel_rfl)) ?_
  · intro ds hds
    match ds, hds with
    | [_, _, _], _ => rfl
  · intro W base args ds p hA hval hlt hsz
    rw [Try.params13] at hA hval hsz
    obtain ⟨v0, v1, v2, d0, d1, d2, p0, p1, p2, rfl, rfl, rfl, h0, h1, h2⟩ := trodAll_three hA
    obtain ⟨c, A, n, cap, rfl, hls⟩ := arg_cfg (hval 0 _ v0 rfl rfl) h0 (weightsEach_get hsz (i := 0) rfl rfl)
    obtain ⟨x1, rfl, rfl, rfl, wx1⟩ := open_int Try.underlying3 (hval 1 _ v1 rfl rfl) h1
    obtain ⟨x2, rfl, rfl, rfl, wx2⟩ := open_int Try.underlying3 (hval 2 _ v2 rfl rfl) h2
    exact labelSees_walk _ _ _ _ _ _ _ _ _ hls

/-- LabelSees: the statement. -/
theorem labelSees_holds : Rows.LabelSeesSaid :=
  OpenClaim.holds_of_wide 13 Try.f13 rfl rfl rfl rfl rfl rfl rfl ⟨rfl, rfl, rfl, rfl, rfl⟩ rfl rfl rfl rfl rfl (by kernel_rfl) Try.func13 (by kernel_rfl)
    (of_decide_eq_true (by kernel_rfl)) (by unfold Func.isWrapper; rw [if_neg (of_decide_eq_false (by kernel_rfl))]; exact ⟨rfl, rfl⟩)
    (fun os started H enc _ => labelSees_lifted os started H enc)


end Go.Proofs.Ytdldmlekjhmaaaa
