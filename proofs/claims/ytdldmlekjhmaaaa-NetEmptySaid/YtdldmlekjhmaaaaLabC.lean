/- Config as an argument; the law LabelChecks. -/
import Derived.Test.YtdldmlekjhmaaaaLabB
import Derived.Test.YtdldmlekjhmaaaaDec
import Derived.Test.YtdldmlekjhmaaaaFrame
namespace Go.Proofs.Ytdldmlekjhmaaaa
open Go.RowKit Go.ChangeShapes Go.WideShapes Go.Deep

structure Cfg where
  sites : Int
  labels : List (Int × Int)
  patience : Int

def Cfg.bd (c : Cfg) : Prop := -9223372036854775808 ≤ c.sites ∧ c.sites ≤ 9223372036854775807
def RCfg : ER Cfg := fun w B cs c => ∃ A n cap, cs = [.int .i64 c.sites, .slice A n cap, .int .i64 c.patience] ∧ LabelsAt w B A n cap c.labels

theorem dec_i64 : Dec Try.prog 3 1 RInt := dec_int Try.underlying3 (by kernel_rfl)
theorem dec_label : Dec Try.prog 27 2 (Flat encLabel) :=
  (dec_struct Try.underlying27 (by kernel_rfl) (FDec.cons rfl dec_i64 (FDec.cons rfl dec_i64 (FDec.nil rfl)))).imp (by
    rintro w B cs x ⟨a, b, rfl, ⟨rfl, _⟩, c, d, rfl, ⟨rfl, _⟩, rfl⟩
    exact ⟨(x.1, x.2.1), rfl⟩)
theorem dec_labels : Dec Try.prog 40 1 (RSlice (Flat encLabel) 2 16) := dec_slice Try.underlying40 (by kernel_rfl) (by kernel_rfl) (by decide) dec_label
theorem dec_cfg : Dec Try.prog 42 3 RCfg :=
  (dec_struct Try.underlying42 (by kernel_rfl) (FDec.cons rfl dec_i64 (FDec.cons rfl dec_labels (FDec.cons rfl dec_i64 (FDec.nil rfl))))).imp (by
    rintro w B cs x ⟨a, b, rfl, ⟨rfl, _⟩, c, d, rfl, ⟨A, n, cap, rfl, h⟩, e, f, rfl, ⟨rfl, _⟩, rfl⟩
    exact ⟨⟨x.1, x.2.1, x.2.2.1⟩, A, n, cap, rfl, h⟩)

/-- a Config argument opened -/
theorem arg_cfg {H : Type} {enc : TypeId × Value → H} {W : World} {base : Nat} {r : Reach} {v : Value} {d : DataW H} {p : List MemPlace} (hok : Value.okWide Try.prog W r base 42 v)
    (ht : DataW.Trod enc Try.prog W 0 (fun _ => true) true 42 v d p) (hw : okW Try.prog 42 d) :
    ∃ (c : Cfg) (A : Option Addr) (n cap : Nat), v = .agg #[.int .i64 c.sites, .slice A n cap, .int .i64 c.patience] ∧ LabelsAt W W.heap.size A n cap c.labels := by
  obtain ⟨cs, rfl, _⟩ := okWide_struct Try.underlying42 hok
  obtain ⟨_, c, A, n, cap, hcs, h⟩ := dec_cfg.arg ht hw
  refine ⟨c, A, n, cap, ?_, h⟩
  obtain ⟨l⟩ := cs
  have : l = [.int .i64 c.sites, .slice A n cap, .int .i64 c.patience] := hcs
  rw [this]

set_option maxHeartbeats 400000 in
theorem labelChecks_walk (s p : Int) (A : Option Addr) (n c : Nat) (ls : List (Int × Int)) (w : World) (hls : LabelsAt w w.heap.size A n c ls) :
    Calls Try.prog 9 #[.agg #[.int .i64 s, .slice A n c, .int .i64 p]] w fun e w' => e = .returned (.bool true) ∧ Below w.heap.size w w' := by
  go_enter Try.func9, Try.ntmps9
  go_wp2_with fail
  refine (check_any s p A n c ls _ (hls.below (Flat.stable _) ((Below.refl _ _).alloc (Nat.le_refl _) _) (by simp))).mono ?_
  rintro e w1 ⟨rfl, hb1⟩
  obtain ⟨hc1, hf1⟩ := bcell hb1
  go_wp2_with fail
  have hb : Below w.heap.size w w1 := ((Below.refl _ _).alloc (Nat.le_refl _) _).trans (hb1.mono (by simp))
  refine (fault_any s p A n c ls _ (hls.below (Flat.stable _) hb hb.size)).mono ?_
  rintro e w2 ⟨rfl, hb2⟩
  go_wp2_with fail
  go_ret
  exact ⟨by simp, hb.trans (hb2.mono hb.size)⟩

theorem labelChecks_lifted (os : Os) (started : os.Started) (H : Type) (enc : TypeId × Value → H) :
    ReturnsInHanded {} Try.checked os 9 .any (Rows.labelChecksSpec.pre6 enc Try.prog Try.f9 Rows.labelChecksRow.domain false) (Rows.labelChecksSpec.post enc Try.prog Try.f9 false true false false) := by
  refine lift_law started _ _ Rows.labelChecksSpec Try.func9 (by kernel_rfl) rfl rfl (by kernel_rfl) ?_
    (ChangeSpec.witness6 (enc := enc) (C := Try.checked) false ⟨#[], #[.agg #[.int .i64 0, .slice none 0 0, .int .i64 0]], []⟩ 8 (by kernel_rfl) (by kernel_rfl) (by kernel_rfl) (by kernel_rfl)) ?_
  · intro ds hds
    match ds, hds with
    | [_], _ => rfl
  · intro W base args ds p hA hval hlt hsz
    rw [Try.params9] at hA hval hsz
    obtain ⟨v0, d0, rfl, rfl, h0⟩ := trodAll_one hA
    obtain ⟨c, A, n, cap, rfl, hls⟩ := arg_cfg (hval 0 _ v0 rfl rfl) h0 (weightsEach_get hsz (i := 0) rfl rfl)
    exact labelChecks_walk _ _ _ _ _ _ _ hls

theorem labelChecks_holds : Rows.LabelChecksSaid :=
  OpenClaim.holds_of_wide 9 Try.f9 rfl rfl rfl rfl rfl rfl rfl ⟨rfl, rfl, rfl, rfl, rfl⟩ rfl rfl rfl rfl rfl (by kernel_rfl) Try.func9 (by kernel_rfl)
    (of_decide_eq_true (by kernel_rfl)) (by unfold Func.isWrapper; rw [if_neg (of_decide_eq_false (by kernel_rfl))]; exact ⟨rfl, rfl⟩)
    (fun os started H enc _ => labelChecks_lifted os started H enc)

end Go.Proofs.Ytdldmlekjhmaaaa
