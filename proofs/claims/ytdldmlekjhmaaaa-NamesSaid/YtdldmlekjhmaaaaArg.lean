/- Config as an argument; labelMay. -/
import Derived.Test.YtdldmlekjhmaaaaLabB
import Derived.Test.YtdldmlekjhmaaaaDec
namespace Go.Proofs.Ytdldmlekjhmaaaa
open Go.RowKit Go.ChangeShapes Go.WideShapes Go.Deep

structure Cfg where
  sites : Int
  labels : List (Int × Int)
  patience : Int

def Cfg.bd (c : Cfg) : Prop := -9223372036854775808 ≤ c.sites ∧ c.sites ≤ 9223372036854775807
def RCfg : ER Cfg := fun w B cs c => ∃ A n cap, cs = [.int .i64 c.sites, .slice A n cap, .int .i64 c.patience] ∧ LabelsAt w B A n cap c.labels

theorem dec_i64 : Dec Try.prog 3 1 RInt := dec_int Try.underlying3 (by kernel_rfl)
theorem dec_label : Dec Try.prog 27 2 (Flat encLabel) :=
  (dec_struct Try.underlying27 (by kernel_rfl) (FDec.cons rfl dec_i64 (FDec.cons rfl dec_i64 (FDec.nil rfl)))).imp (by
    rintro w B cs x ⟨a, b, rfl, ⟨rfl, _⟩, c, d, rfl, ⟨rfl, _⟩, rfl⟩
    exact ⟨(x.1, x.2.1), rfl⟩)
theorem dec_labels : Dec Try.prog 40 1 (RSlice (Flat encLabel) 2 16) := dec_slice Try.underlying40 (by kernel_rfl) (by kernel_rfl) (by decide) dec_label
theorem dec_cfg : Dec Try.prog 42 3 RCfg :=
  (dec_struct Try.underlying42 (by kernel_rfl) (FDec.cons rfl dec_i64 (FDec.cons rfl dec_labels (FDec.cons rfl dec_i64 (FDec.nil rfl))))).imp (by
    rintro w B cs x ⟨a, b, rfl, ⟨rfl, _⟩, c, d, rfl, ⟨A, n, cap, rfl, h⟩, e, f, rfl, ⟨rfl, _⟩, rfl⟩
    exact ⟨⟨x.1, x.2.1, x.2.2.1⟩, A, n, cap, rfl, h⟩)

set_option maxRecDepth 100000 in
/-- a Config argument opened -/
theorem arg_cfg {H : Type} {enc : TypeId × Value → H} {W : World} {base : Nat} {r : Reach} {v : Value} {d : DataW H} {p : List MemPlace} (hok : Value.okWide Try.prog W r base 42 v)
    (ht : DataW.Trod enc Try.prog W 0 (fun _ => true) true 42 v d p) (hw : okW Try.prog 42 d) :
    ∃ (c : Cfg) (A : Option Addr) (n cap : Nat), v = .agg #[.int .i64 c.sites, .slice A n cap, .int .i64 c.patience] ∧ LabelsAt W W.heap.size A n cap c.labels := by
  obtain ⟨cs, rfl, _⟩ := okWide_struct Try.underlying42 hok
  obtain ⟨_, c, A, n, cap, hcs, h⟩ := dec_cfg.arg ht hw
  refine ⟨c, A, n, cap, ?_, h⟩
  obtain ⟨l⟩ := cs
  have : l = [.int .i64 c.sites, .slice A n cap, .int .i64 c.patience] := hcs
  rw [this]

set_option maxHeartbeats 400000 in
theorem labelMay_any (s p : Int) (A : Option Addr) (n c : Nat) (l : Int) (w : World) (hn : n ≤ 9223372036854775807) :
    Calls Try.prog 49 #[.agg #[.int .i64 s, .slice A n c, .int .i64 p], .int .i64 l] w fun e w' => e = .returned (.bool (inB l 0 ((n : Int) - 1))) ∧ w' = w.alloc (.cells #[.int .i64 s, .slice A n c, .int .i64 p] 42) := by
  go_enter Try.func49, Try.ntmps49
  go_wp2_with (go_at_call 46; refine (in_any _ _ _ _).mono ?_; rintro e w1 ⟨rfl, rfl⟩)
  go_ret
  exact ⟨rfl, rfl⟩

end Go.Proofs.Ytdldmlekjhmaaaa
