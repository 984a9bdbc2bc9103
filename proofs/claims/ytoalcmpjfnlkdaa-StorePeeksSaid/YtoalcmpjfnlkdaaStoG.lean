/- A store as an argument. -/
import Derived.Test.YtoalcmpjfnlkdaaSto
import Derived.Test.YtoalcmpjfnlkdaaDec
namespace Go.Proofs.Ytoalcmpjfnlkdaa
open Go.RowKit Go.ChangeShapes Go.WideShapes Go.Deep

theorem dec_i64 : Dec Try.prog 3 1 RInt := dec_int Try.underlying3 (by kernel_rfl)
theorem dec_bool_ : Dec Try.prog 4 1 RBool := dec_bool Try.underlying4 (by kernel_rfl)
theorem dec_txn : Dec Try.prog 32 2 (Flat encLabel) :=
  (dec_struct Try.underlying32 (by kernel_rfl) (FDec.cons rfl dec_i64 (FDec.cons rfl dec_i64 (FDec.nil rfl)))).imp (by
    rintro w B cs x ⟨a, b, rfl, ⟨rfl, _⟩, c, d, rfl, ⟨rfl, _⟩, rfl⟩
    exact ⟨(x.1, x.2.1), rfl⟩)
theorem dec_item : Dec Try.prog 58 3 (Flat encSItem) :=
  (dec_struct Try.underlying58 (by kernel_rfl) (FDec.cons rfl dec_i64 (FDec.cons rfl dec_i64 (FDec.cons rfl dec_i64 (FDec.nil rfl))))).imp (by
    rintro w B cs x ⟨a1, b1, rfl, ⟨rfl, _⟩, a2, b2, rfl, ⟨rfl, _⟩, a3, b3, rfl, ⟨rfl, _⟩, rfl⟩
    exact ⟨⟨x.1, x.2.1, x.2.2.1⟩, rfl⟩)
theorem dec_lock : Dec Try.prog 61 6 (Flat encSLock) :=
  (dec_struct Try.underlying61 (by kernel_rfl) (FDec.cons rfl dec_txn (FDec.cons rfl dec_i64 (FDec.cons rfl dec_bool_ (FDec.cons rfl dec_i64 (FDec.cons rfl dec_i64 (FDec.nil rfl))))))).imp (by
    rintro w B cs x ⟨a1, b1, rfl, h1, a2, b2, rfl, ⟨rfl, _⟩, a3, b3, rfl, rfl, a4, b4, rfl, ⟨rfl, _⟩, a5, b5, rfl, ⟨rfl, _⟩, rfl⟩
    obtain rfl : a1 = encLabel x.1 := h1
    exact ⟨⟨x.1.1, x.1.2, x.2.1, x.2.2.1, x.2.2.2.1, x.2.2.2.2.1⟩, rfl⟩)
theorem dec_doubt : Dec Try.prog 64 3 (Flat encSDoubt) :=
  (dec_struct Try.underlying64 (by kernel_rfl) (FDec.cons rfl dec_txn (FDec.cons rfl dec_i64 (FDec.nil rfl)))).imp (by
    rintro w B cs x ⟨a1, b1, rfl, h1, a2, b2, rfl, ⟨rfl, _⟩, rfl⟩
    obtain rfl : a1 = encLabel x.1 := h1
    exact ⟨⟨x.1.1, x.1.2, x.2.1⟩, rfl⟩)
def RSto : ER Sto := fun w B cs s => ∃ A1 n1 c1 A2 n2 c2 A3 n3 c3 A4 n4 c4, cs = [.slice A1 n1 c1, .slice A2 n2 c2, .slice A3 n3 c3, .slice A4 n4 c4] ∧ StoAt w B A1 n1 c1 A2 n2 c2 A3 n3 c3 A4 n4 c4 s
theorem dec_items : Dec Try.prog 22 1 (RSlice (Flat encSItem) 3 24) := dec_slice Try.underlying22 (by kernel_rfl) (by kernel_rfl) (by decide) dec_item
theorem dec_locks : Dec Try.prog 23 1 (RSlice (Flat encSLock) 6 48) := dec_slice Try.underlying23 (by kernel_rfl) (by kernel_rfl) (by decide) dec_lock
theorem dec_doubts : Dec Try.prog 24 1 (RSlice (Flat encSDoubt) 3 24) := dec_slice Try.underlying24 (by kernel_rfl) (by kernel_rfl) (by decide) dec_doubt
theorem dec_txns : Dec Try.prog 25 1 (RSlice (Flat encLabel) 2 16) := dec_slice Try.underlying25 (by kernel_rfl) (by kernel_rfl) (by decide) dec_txn
theorem dec_sto : Dec Try.prog 27 4 RSto :=
  (dec_struct Try.underlying27 (by kernel_rfl) (FDec.cons rfl dec_items (FDec.cons rfl dec_locks (FDec.cons rfl dec_doubts (FDec.cons rfl dec_txns (FDec.nil rfl)))))).imp (by
    rintro w B cs x ⟨a1, b1, rfl, ⟨A1, n1, c1, rfl, h1⟩, a2, b2, rfl, ⟨A2, n2, c2, rfl, h2⟩, a3, b3, rfl, ⟨A3, n3, c3, rfl, h3⟩, a4, b4, rfl, ⟨A4, n4, c4, rfl, h4⟩, rfl⟩
    exact ⟨⟨x.1, x.2.1, x.2.2.1, x.2.2.2.1⟩, A1, n1, c1, A2, n2, c2, A3, n3, c3, A4, n4, c4, rfl, h1, h2, h3, h4⟩)

set_option maxRecDepth 100000 in
/-- a Store argument opened -/
theorem arg_sto {H : Type} {enc : TypeId × Value → H} {W : World} {base : Nat} {r : Reach} {v : Value} {d : DataW H} {p : List MemPlace} (hok : Value.okWide Try.prog W r base 27 v)
    (ht : DataW.Trod enc Try.prog W 0 (fun _ => true) true 27 v d p) (hw : okW Try.prog 27 d) :
    ∃ (s : Sto) (A1 : Option Addr) (n1 c1 : Nat) (A2 : Option Addr) (n2 c2 : Nat) (A3 : Option Addr) (n3 c3 : Nat) (A4 : Option Addr) (n4 c4 : Nat), v = .agg #[.slice A1 n1 c1, .slice A2 n2 c2, .slice A3 n3 c3, .slice A4 n4 c4] ∧ StoAt W W.heap.size A1 n1 c1 A2 n2 c2 A3 n3 c3 A4 n4 c4 s := by
  obtain ⟨cs, rfl, _⟩ := okWide_struct Try.underlying27 hok
  obtain ⟨_, s, A1, n1, c1, A2, n2, c2, A3, n3, c3, A4, n4, c4, hcs, h⟩ := dec_sto.arg ht hw
  refine ⟨s, A1, n1, c1, A2, n2, c2, A3, n3, c3, A4, n4, c4, ?_, h⟩
  obtain ⟨l⟩ := cs
  have : l = [.slice A1 n1 c1, .slice A2 n2 c2, .slice A3 n3 c3, .slice A4 n4 c4] := hcs
  rw [this]
set_option maxRecDepth 100000 in
/-- a Txn argument opened -/
theorem arg_txn {H : Type} {enc : TypeId × Value → H} {W : World} {base : Nat} {r : Reach} {v : Value} {d : DataW H} {p : List MemPlace} (hok : Value.okWide Try.prog W r base 32 v)
    (ht : DataW.Trod enc Try.prog W 0 (fun _ => true) true 32 v d p) (hw : okW Try.prog 32 d) :
    ∃ a b : Int, v = .agg #[.int .i64 a, .int .i64 b] := by
  obtain ⟨cs, rfl, _⟩ := okWide_struct Try.underlying32 hok
  obtain ⟨_, x, hcs⟩ := dec_txn.arg ht hw
  refine ⟨x.1, x.2, ?_⟩
  obtain ⟨l⟩ := cs
  have : l = encLabel x := hcs
  rw [this]
  rfl

end Go.Proofs.Ytoalcmpjfnlkdaa
