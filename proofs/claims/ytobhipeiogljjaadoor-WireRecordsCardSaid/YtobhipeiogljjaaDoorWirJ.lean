/- wire.CheckMessage and its reference: the contracts; a Message as an argument. -/
import Derived.Test.YtobhipeiogljjaaDoorWirC
import Derived.Test.YtobhipeiogljjaaDoorWirD
import Derived.Test.YtobhipeiogljjaaDoorWirE
import Derived.Test.YtobhipeiogljjaaDoorWirG
import Derived.Test.YtobhipeiogljjaaDoorWirH
import Derived.Test.YtobhipeiogljjaaDoorWirI
namespace Go.Proofs.YtobhipeiogljjaaDoor
open Go.RowKit Go.ChangeShapes Go.WideShapes Go.Deep

theorem checkMessage_any (s p : Int) (A : Option Addr) (n c : Nat) (ls : List (Int × Int)) (m : Msg) (w : World) (hls : LabelsAt w w.heap.size A n c ls) (hT : MsgTab w) :
    Calls Tryd.prog 21 #[.agg #[.int .i64 s, .slice A n c, .int .i64 p], .agg #[.int .i64 m.kind, .int .i64 m.from_, .int .i64 m.to, .int .i64 m.site, .int .i64 m.num, .int .i64 m.label, .int .i64 m.key, .int .i64 m.value, .int .i64 m.version, .int .i64 m.ask, .bool m.yes, .int .i64 m.code]] w fun e w' => e = .returned (.int .i64 (msgF s p ls m)) ∧ Below w.heap.size w w' := by
  by_cases hC : checkF s p ls = 0
  · cases hk : inB m.kind 1 9
    · exact checkMessage_kind s p A n c ls m w hls hC hk
    · cases hR : msgRange s ls.length m
      · exact checkMessage_range s p A n c ls m w hls hC hk hR
      · obtain ⟨h1, h2⟩ := inB_true hk
        have h3 : m.kind = 1 ∨ m.kind = 2 ∨ m.kind = 3 ∨ m.kind = 4 ∨ m.kind = 5 ∨ m.kind = 6 ∨ m.kind = 7 ∨ m.kind = 8 ∨ m.kind = 9 := by omega
        rcases h3 with h | h | h | h | h | h | h | h | h
        · exact checkMessage_form1 s p A n c ls m w hls hT hC h hR
        · exact checkMessage_form2 s p A n c ls m w hls hT hC h hR
        · exact checkMessage_form3 s p A n c ls m w hls hT hC h hR
        · exact checkMessage_form4 s p A n c ls m w hls hT hC h hR
        · exact checkMessage_form5 s p A n c ls m w hls hT hC h hR
        · exact checkMessage_form6 s p A n c ls m w hls hT hC h hR
        · exact checkMessage_form7 s p A n c ls m w hls hT hC h hR
        · exact checkMessage_form8 s p A n c ls m w hls hT hC h hR
        · exact checkMessage_form9 s p A n c ls m w hls hT hC h hR
  · exact checkMessage_cfg s p A n c ls m w hls hC

theorem messageFault_any (s p : Int) (A : Option Addr) (n c : Nat) (ls : List (Int × Int)) (m : Msg) (w : World) (hls : LabelsAt w w.heap.size A n c ls) :
    Calls Tryd.prog 22 #[.agg #[.int .i64 s, .slice A n c, .int .i64 p], .agg #[.int .i64 m.kind, .int .i64 m.from_, .int .i64 m.to, .int .i64 m.site, .int .i64 m.num, .int .i64 m.label, .int .i64 m.key, .int .i64 m.value, .int .i64 m.version, .int .i64 m.ask, .bool m.yes, .int .i64 m.code]] w fun e w' => e = .returned (.int .i64 (msgF s p ls m)) ∧ Below w.heap.size w w' := by
  by_cases hC : checkF s p ls = 0
  · cases hk : inB m.kind 1 9
    · exact messageFault_kind s p A n c ls m w hls hC hk
    · cases hR : msgRange s ls.length m
      · exact messageFault_range s p A n c ls m w hls hC hk hR
      · obtain ⟨h1, h2⟩ := inB_true hk
        have h3 : m.kind = 1 ∨ m.kind = 2 ∨ m.kind = 3 ∨ m.kind = 4 ∨ m.kind = 5 ∨ m.kind = 6 ∨ m.kind = 7 ∨ m.kind = 8 ∨ m.kind = 9 := by omega
        rcases h3 with h | h | h | h | h | h | h | h | h
        · exact messageFault_form1 s p A n c ls m w hls hC h hR
        · exact messageFault_form2 s p A n c ls m w hls hC h hR
        · exact messageFault_form3 s p A n c ls m w hls hC h hR
        · exact messageFault_form4 s p A n c ls m w hls hC h hR
        · exact messageFault_form5 s p A n c ls m w hls hC h hR
        · exact messageFault_form6 s p A n c ls m w hls hC h hR
        · exact messageFault_form7 s p A n c ls m w hls hC h hR
        · exact messageFault_form8 s p A n c ls m w hls hC h hR
        · exact messageFault_form9 s p A n c ls m w hls hC h hR
  · exact messageFault_cfg s p A n c ls m w hls hC

theorem MsgTab.lt {w : World} (h : MsgTab w) : 0 < w.heap.size := (cell_block_lt (h.row 0 (by decide) 0 (by decide))).1
theorem MsgTab.below {w w' : World} (h : MsgTab w) (hb : Below w.heap.size w w') : MsgTab w' := fun i j r b hr hj => (hb.cell (p := ⟨0, i * 8 + j, none⟩) h.lt).trans (h i j r b hr hj)

theorem dec_bool_ : Dec Tryd.prog 4 1 RBool := dec_bool Tryd.underlying4 (by kernel_rfl)
theorem dec_err : Dec Tryd.prog 27 1 RInt := dec_int Tryd.underlying27 (by kernel_rfl)
theorem dec_txn : Dec Tryd.prog 26 2 (Flat encLabel) :=
  (dec_struct Tryd.underlying26 (by kernel_rfl) (FDec.cons rfl dec_i64 (FDec.cons rfl dec_i64 (FDec.nil rfl)))).imp (by
    rintro w B cs x ⟨a, b, rfl, ⟨rfl, _⟩, c, d, rfl, ⟨rfl, _⟩, rfl⟩
    exact ⟨(x.1, x.2.1), rfl⟩)
theorem dec_msg : Dec Tryd.prog 29 12 (Flat encMsg) :=
  (dec_struct Tryd.underlying29 (by kernel_rfl) (FDec.cons rfl dec_i64 (FDec.cons rfl dec_i64 (FDec.cons rfl dec_i64 (FDec.cons rfl dec_txn (FDec.cons rfl dec_i64 (FDec.cons rfl dec_i64 (FDec.cons rfl dec_i64 (FDec.cons rfl dec_i64 (FDec.cons rfl dec_i64 (FDec.cons rfl dec_bool_ (FDec.cons rfl dec_err (FDec.nil rfl))))))))))))).imp (by
    rintro w B cs x ⟨a1, b1, rfl, ⟨rfl, _⟩, a2, b2, rfl, ⟨rfl, _⟩, a3, b3, rfl, ⟨rfl, _⟩, a4, b4, rfl, ha4, a5, b5, rfl, ⟨rfl, _⟩, a6, b6, rfl, ⟨rfl, _⟩, a7, b7, rfl, ⟨rfl, _⟩, a8, b8, rfl, ⟨rfl, _⟩, a9, b9, rfl, ⟨rfl, _⟩, a10, b10, rfl, rfl, a11, b11, rfl, ⟨rfl, _⟩, rfl⟩
    obtain rfl : a4 = encLabel x.2.2.2.1 := ha4
    exact ⟨⟨x.1, x.2.1, x.2.2.1, x.2.2.2.1.1, x.2.2.2.1.2, x.2.2.2.2.1, x.2.2.2.2.2.1, x.2.2.2.2.2.2.1, x.2.2.2.2.2.2.2.1, x.2.2.2.2.2.2.2.2.1, x.2.2.2.2.2.2.2.2.2.1, x.2.2.2.2.2.2.2.2.2.2.1⟩, rfl⟩)
set_option maxRecDepth 100000 in
theorem arg_msg {H : Type} {enc : TypeId × Value → H} {W : World} {base : Nat} {r : Reach} {v : Value} {d : DataW H} {p : List MemPlace} (hok : Value.okWide Tryd.prog W r base 29 v)
    (ht : DataW.Trod enc Tryd.prog W 0 (fun _ => true) true 29 v d p) (hw : okW Tryd.prog 29 d) :
    ∃ m : Msg, v = .agg #[.int .i64 m.kind, .int .i64 m.from_, .int .i64 m.to, .int .i64 m.site, .int .i64 m.num, .int .i64 m.label, .int .i64 m.key, .int .i64 m.value, .int .i64 m.version, .int .i64 m.ask, .bool m.yes, .int .i64 m.code] := by
  obtain ⟨cs, rfl, _⟩ := okWide_struct Tryd.underlying29 hok
  obtain ⟨_, x, hcs⟩ := dec_msg.arg ht hw
  refine ⟨x, ?_⟩
  obtain ⟨l⟩ := cs
  have : l = encMsg x := hcs
  rw [this]
  rfl

end Go.Proofs.YtobhipeiogljjaaDoor
