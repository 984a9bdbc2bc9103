/- wire.CheckRecord and its reference: the contracts; a Record as an argument. -/
import Derived.Test.YtobhipeiogljjaaDoorRecC
import Derived.Test.YtobhipeiogljjaaDoorWirJ
namespace Go.Proofs.YtobhipeiogljjaaDoor
open Go.RowKit Go.ChangeShapes Go.WideShapes Go.Deep

theorem checkRecord_any (s p : Int) (A : Option Addr) (n c : Nat) (ls : List (Int × Int)) (r : Rec) (A2 : Option Addr) (n2 c2 : Nat) (w : World) (hls : LabelsAt w w.heap.size A n c ls) (hsi : IntsAt w w.heap.size A2 n2 c2 r.sites) (hT : RecTab w) :
    Calls Tryd.prog 23 #[.agg #[.int .i64 s, .slice A n c, .int .i64 p], .agg #[.int .i64 r.kind, .int .i64 r.site, .int .i64 r.num, .int .i64 r.key, .int .i64 r.value, .int .i64 r.ask, .bool r.yes, .slice A2 n2 c2]] w fun e w' => e = .returned (.int .i64 (recF s p ls r)) ∧ Below w.heap.size w w' := by
  by_cases hC : checkF s p ls = 0
  · cases hk : inB r.kind 1 6
    · exact checkRecord_kind s p A n c ls r A2 n2 c2 w hls hC hk
    · cases hR : recRange s r
      · exact checkRecord_range s p A n c ls r A2 n2 c2 w hls hC hk hR
      · exact checkRecord_main s p A n c ls r A2 n2 c2 w hls hsi hT hC hk hR
  · exact checkRecord_cfg s p A n c ls r A2 n2 c2 w hls hC

theorem recordFault_any (s p : Int) (A : Option Addr) (n c : Nat) (ls : List (Int × Int)) (r : Rec) (A2 : Option Addr) (n2 c2 : Nat) (w : World) (hls : LabelsAt w w.heap.size A n c ls) (hsi : IntsAt w w.heap.size A2 n2 c2 r.sites) :
    Calls Tryd.prog 24 #[.agg #[.int .i64 s, .slice A n c, .int .i64 p], .agg #[.int .i64 r.kind, .int .i64 r.site, .int .i64 r.num, .int .i64 r.key, .int .i64 r.value, .int .i64 r.ask, .bool r.yes, .slice A2 n2 c2]] w fun e w' => e = .returned (.int .i64 (recF s p ls r)) ∧ Below w.heap.size w w' := by
  by_cases hC : checkF s p ls = 0
  · cases hk : inB r.kind 1 6
    · exact recordFault_kind s p A n c ls r A2 n2 c2 w hls hC hk
    · cases hR : recRange s r
      · exact recordFault_range s p A n c ls r A2 n2 c2 w hls hC hk hR
      · exact recordFault_main s p A n c ls r A2 n2 c2 w hls hsi hC hk hR
  · exact recordFault_cfg s p A n c ls r A2 n2 c2 w hls hC

theorem dec_ints : Dec Tryd.prog 32 1 (RSlice RInt 1 8) := dec_slice Tryd.underlying32 (by kernel_rfl) (by kernel_rfl) (by decide) dec_i64
def RRec : ER Rec := fun w B cs r => ∃ A2 n2 c2, cs = [.int .i64 r.kind, .int .i64 r.site, .int .i64 r.num, .int .i64 r.key, .int .i64 r.value, .int .i64 r.ask, .bool r.yes, .slice A2 n2 c2] ∧ IntsAt w B A2 n2 c2 r.sites
theorem dec_rec : Dec Tryd.prog 34 8 RRec :=
  (dec_struct Tryd.underlying34 (by kernel_rfl) (FDec.cons rfl dec_i64 (FDec.cons rfl dec_txn (FDec.cons rfl dec_i64 (FDec.cons rfl dec_i64 (FDec.cons rfl dec_i64 (FDec.cons rfl dec_bool_ (FDec.cons rfl dec_ints (FDec.nil rfl))))))))).imp (by
    rintro w B cs x ⟨a1, b1, rfl, ⟨rfl, _⟩, a2, b2, rfl, ha2, a3, b3, rfl, ⟨rfl, _⟩, a4, b4, rfl, ⟨rfl, _⟩, a5, b5, rfl, ⟨rfl, _⟩, a6, b6, rfl, rfl, a7, b7, rfl, ⟨A2, n2, c2, rfl, h⟩, rfl⟩
    obtain rfl : a2 = encLabel x.2.1 := ha2
    exact ⟨⟨x.1, x.2.1.1, x.2.1.2, x.2.2.1, x.2.2.2.1, x.2.2.2.2.1, x.2.2.2.2.2.1, x.2.2.2.2.2.2.1⟩, A2, n2, c2, rfl, h⟩)
set_option maxRecDepth 100000 in
theorem arg_rec {H : Type} {enc : TypeId × Value → H} {W : World} {base : Nat} {q : Reach} {v : Value} {d : DataW H} {p : List MemPlace} (hok : Value.okWide Tryd.prog W q base 34 v)
    (ht : DataW.Trod enc Tryd.prog W 0 (fun _ => true) true 34 v d p) (hw : okW Tryd.prog 34 d) :
    ∃ (r : Rec) (A2 : Option Addr) (n2 c2 : Nat), v = .agg #[.int .i64 r.kind, .int .i64 r.site, .int .i64 r.num, .int .i64 r.key, .int .i64 r.value, .int .i64 r.ask, .bool r.yes, .slice A2 n2 c2] ∧ IntsAt W W.heap.size A2 n2 c2 r.sites := by
  obtain ⟨cs, rfl, _⟩ := okWide_struct Tryd.underlying34 hok
  obtain ⟨_, x, A2, n2, c2, hcs, h⟩ := dec_rec.arg ht hw
  refine ⟨x, A2, n2, c2, ?_, h⟩
  obtain ⟨l⟩ := cs
  have : l = _ := hcs
  rw [this]

end Go.Proofs.YtobhipeiogljjaaDoor
