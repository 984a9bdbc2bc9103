/- Tape as an argument; the walks of the tape laws. -/
import Derived.Test.YtdldmlekjhmaaaaTapE
import Derived.Test.YtdldmlekjhmaaaaLabC
namespace Go.Proofs.Ytdldmlekjhmaaaa
open Go.RowKit Go.ChangeShapes Go.WideShapes Go.Deep

theorem dec_byte_ : Dec Try.prog 5 1 RByte := dec_byte Try.underlying5 (by kernel_rfl)
theorem dec_bytes : Dec Try.prog 30 1 (RSlice RByte 1 1) := dec_slice Try.underlying30 (by kernel_rfl) (by kernel_rfl) (by decide) dec_byte_

def RTape : ER (List Int × Int) := fun w B cs x => ∃ A n c, cs = [.slice A n c, .int .i64 x.2] ∧ BytesAt w B A n c x.1
theorem dec_tape : Dec Try.prog 32 2 RTape :=
  (dec_struct Try.underlying32 (by kernel_rfl) (FDec.cons rfl dec_bytes (FDec.cons rfl dec_i64 (FDec.nil rfl)))).imp (by
    rintro w B cs x ⟨a, b, rfl, ⟨A, n, c, rfl, h⟩, e, f, rfl, ⟨rfl, _⟩, rfl⟩
    exact ⟨(x.1, x.2.1), A, n, c, rfl, h⟩)

theorem arg_tape {H : Type} {enc : TypeId × Value → H} {W : World} {base : Nat} {r : Reach} {v : Value} {d : DataW H} {p : List MemPlace} (hok : Value.okWide Try.prog W r base 32 v)
    (ht : DataW.Trod enc Try.prog W 0 (fun _ => true) true 32 v d p) (hw : okW Try.prog 32 d) :
    ∃ (xs : List Int) (s : Int) (A : Option Addr) (n c : Nat), v = .agg #[.slice A n c, .int .i64 s] ∧ BytesAt W W.heap.size A n c xs := by
  obtain ⟨cs, rfl, _⟩ := okWide_struct Try.underlying32 hok
  obtain ⟨_, x, A, n, c, hcs, h⟩ := dec_tape.arg ht hw
  refine ⟨x.1, x.2, A, n, c, ?_, h⟩
  obtain ⟨l⟩ := cs
  have : l = [.slice A n c, .int .i64 x.2] := hcs
  rw [this]

theorem i64_le {n : Int} (h : (Lit.int .i64 n).wf = true) : -9223372036854775808 ≤ n ∧ n ≤ 9223372036854775807 := by
  simp [Lit.wf, IntKind.min, IntKind.max, IntKind.signed, IntKind.bits] at h
  omega

set_option maxHeartbeats 1000000 in
theorem tapeRooms_walk (A : Option Addr) (n c : Nat) (s : Int) (xs : List Int) (w : World) (hx : BytesAt w w.heap.size A n c xs) :
    Calls Try.prog 7 #[.agg #[.slice A n c, .int .i64 s]] w fun e w' => e = .returned (.bool true) ∧ Below w.heap.size w w' := by
  go_enter Try.func7, Try.ntmps7
  go_wp2_with fail
  refine (room_any A n c s xs _ (hx.below RByte.stable (by (repeat (first | exact Below.refl _ _ | assumption | refine Below.alloc ?_ (by first | omega | (simp; done) | (simp; omega)) _ | refine below_drewN ?_ _ | refine Below.drew ?_ | refine Below.setCell ?_ (by first | omega | (simp; done) | (simp; omega)) _))) (by first | omega | (simp; done) | (simp; omega)))).mono ?_
  rintro e w1 ⟨rfl, hb1⟩
  obtain ⟨hc1, hf1⟩ := bcell hb1; have hbb1 : Below w.heap.size w w1 := (by refine Below.trans ?_ (hb1.mono ?_); rotate_left; (focus (first | omega | (simp; done) | (simp; omega))); (repeat (first | exact Below.refl _ _ | assumption | refine Below.alloc ?_ (by first | omega | (simp; done) | (simp; omega)) _ | refine below_drewN ?_ _ | refine Below.drew ?_ | refine Below.setCell ?_ (by first | omega | (simp; done) | (simp; omega)) _))); have hsz1 := hb1.size; (try simp at hsz1)
  have z_w_w1_0 : w.heap.size < w1.heap.size := (by omega)
  go_wp2_with fail
  refine (roomOf_any A n c s _).mono ?_
  rintro e w2 ⟨rfl, hb2⟩
  have hbb2 := hbb1.trans (hb2.mono hbb1.size)
  go_wp2_with fail
  all_goals
    go_ret
    exact ⟨by simp, hbb2⟩

set_option maxHeartbeats 1000000 in
theorem tapeSyncs_walk (A : Option Addr) (n c : Nat) (s : Int) (xs : List Int) (w : World) (hx : BytesAt w w.heap.size A n c xs) :
    Calls Try.prog 8 #[.agg #[.slice A n c, .int .i64 s]] w fun e w' => e = .returned (.bool true) ∧ Below w.heap.size w w' := by
  go_enter Try.func8, Try.ntmps8
  go_wp2_with fail
  refine (tapes_any A n c s xs _ (hx.below RByte.stable (by (repeat (first | exact Below.refl _ _ | assumption | refine Below.alloc ?_ (by first | omega | (simp; done) | (simp; omega)) _ | refine below_drewN ?_ _ | refine Below.drew ?_ | refine Below.setCell ?_ (by first | omega | (simp; done) | (simp; omega)) _))) (by first | omega | (simp; done) | (simp; omega)))).mono ?_
  rintro e w1 ⟨A1, c1, rfl, hs1, hfr1, hb1⟩
  obtain ⟨hc1, hf1⟩ := bcell hb1; have hbb1 : Below w.heap.size w w1 := (by refine Below.trans ?_ (hb1.mono ?_); rotate_left; (focus (first | omega | (simp; done) | (simp; omega))); (repeat (first | exact Below.refl _ _ | assumption | refine Below.alloc ?_ (by first | omega | (simp; done) | (simp; omega)) _ | refine below_drewN ?_ _ | refine Below.drew ?_ | refine Below.setCell ?_ (by first | omega | (simp; done) | (simp; omega)) _))); have hsz1 := hb1.size; (try simp at hsz1)
  have z_w_w1_0 : w.heap.size < w1.heap.size := (by omega)
  go_wp2_with fail
  refine (sync_any A1 _ c1 s xs _ hs1).mono ?_
  rintro e w2 ⟨A2, c2, rfl, hs2, hfr2, hb2⟩
  obtain ⟨hc2, hf2⟩ := bcell hb2; have hbb2 : Below w.heap.size w w2 := (by refine Below.trans ?_ (hb2.mono ?_); rotate_left; (focus (first | omega | (simp; done) | (simp; omega))); (repeat (first | exact Below.refl _ _ | assumption | refine Below.alloc ?_ (by first | omega | (simp; done) | (simp; omega)) _ | refine below_drewN ?_ _ | refine Below.drew ?_ | refine Below.setCell ?_ (by first | omega | (simp; done) | (simp; omega)) _))); have hsz2 := hb2.size; (try simp at hsz2)
  have z_w_w2_0 : w.heap.size < w2.heap.size := (by omega)
  go_wp2_with fail
  refine (synced_any A n c s xs _ (hx.below RByte.stable (by (repeat (first | exact Below.refl _ _ | assumption | refine Below.alloc ?_ (by first | omega | (simp; done) | (simp; omega)) _ | refine below_drewN ?_ _ | refine Below.drew ?_ | refine Below.setCell ?_ (by first | omega | (simp; done) | (simp; omega)) _))) (by first | omega | (simp; done) | (simp; omega)))).mono ?_
  rintro e w3 ⟨A3, c3, rfl, hs3, hfr3, hb3⟩
  obtain ⟨hc3, hf3⟩ := bcell hb3; have hbb3 : Below w.heap.size w w3 := (by refine Below.trans ?_ (hb3.mono ?_); rotate_left; (focus (first | omega | (simp; done) | (simp; omega))); (repeat (first | exact Below.refl _ _ | assumption | refine Below.alloc ?_ (by first | omega | (simp; done) | (simp; omega)) _ | refine below_drewN ?_ _ | refine Below.drew ?_ | refine Below.setCell ?_ (by first | omega | (simp; done) | (simp; omega)) _))); have hsz3 := hb3.size; (try simp at hsz3)
  have z_w2_w3_0 : w2.heap.size < w3.heap.size := (by omega)
  go_wp2_with fail
  refine (sameTape_any A2 A3 _ _ c2 c3 _ _ _ ((hs2.below RByte.stable (Below.trans (Below.alloc (Below.refl _ _) (Nat.le_refl _) _) (hb3.mono (by first | omega | (simp; done) | (simp; omega)))) (Nat.le_refl _)).below RByte.stable (by (repeat (first | exact Below.refl _ _ | assumption | refine Below.alloc ?_ (by first | omega | (simp; done) | (simp; omega)) _ | refine below_drewN ?_ _ | refine Below.drew ?_ | refine Below.setCell ?_ (by first | omega | (simp; done) | (simp; omega)) _))) (by first | omega | (simp; done) | (simp; omega))) (hs3.below RByte.stable (by (repeat (first | exact Below.refl _ _ | assumption | refine Below.alloc ?_ (by first | omega | (simp; done) | (simp; omega)) _ | refine below_drewN ?_ _ | refine Below.drew ?_ | refine Below.setCell ?_ (by first | omega | (simp; done) | (simp; omega)) _))) (by first | omega | (simp; done) | (simp; omega)))).mono ?_
  rintro e w4 ⟨rfl, hb4⟩
  obtain ⟨hc4, hf4⟩ := bcell hb4; have hbb4 : Below w.heap.size w w4 := (by refine Below.trans ?_ (hb4.mono ?_); rotate_left; (focus (first | omega | (simp; done) | (simp; omega))); (repeat (first | exact Below.refl _ _ | assumption | refine Below.alloc ?_ (by first | omega | (simp; done) | (simp; omega)) _ | refine below_drewN ?_ _ | refine Below.drew ?_ | refine Below.setCell ?_ (by first | omega | (simp; done) | (simp; omega)) _))); have hsz4 := hb4.size; (try simp at hsz4)
  go_wp2_with fail
  all_goals
    go_ret
    exact ⟨by simp, by (repeat (first | exact Below.refl _ _ | assumption | refine Below.alloc ?_ (by first | omega | (simp; done) | (simp; omega)) _ | refine below_drewN ?_ _ | refine Below.drew ?_ | refine Below.setCell ?_ (by first | omega | (simp; done) | (simp; omega)) _))⟩

set_option maxHeartbeats 1000000 in
theorem tapeCrashes_walk (A : Option Addr) (n c : Nat) (s keep : Int) (xs : List Int) (w : World) (hx : BytesAt w w.heap.size A n c xs) (hk : keep ≤ 9223372036854775807) :
    Calls Try.prog 10 #[.agg #[.slice A n c, .int .i64 s], .int .i64 keep] w fun e w' => e = .returned (.bool true) ∧ Below w.heap.size w w' := by
  go_enter Try.func10, Try.ntmps10
  go_wp2_with fail
  refine (tapes_any A n c s xs _ (hx.below RByte.stable (by (repeat (first | exact Below.refl _ _ | assumption | refine Below.alloc ?_ (by first | omega | (simp; done) | (simp; omega)) _ | refine below_drewN ?_ _ | refine Below.drew ?_ | refine Below.setCell ?_ (by first | omega | (simp; done) | (simp; omega)) _))) (by first | omega | (simp; done) | (simp; omega)))).mono ?_
  rintro e w1 ⟨A1, c1, rfl, hs1, hfr1, hb1⟩
  obtain ⟨hc1, hf1⟩ := bcell hb1; have hbb1 : Below w.heap.size w w1 := (by refine Below.trans ?_ (hb1.mono ?_); rotate_left; (focus (first | omega | (simp; done) | (simp; omega))); (repeat (first | exact Below.refl _ _ | assumption | refine Below.alloc ?_ (by first | omega | (simp; done) | (simp; omega)) _ | refine below_drewN ?_ _ | refine Below.drew ?_ | refine Below.setCell ?_ (by first | omega | (simp; done) | (simp; omega)) _))); have hsz1 := hb1.size; (try simp at hsz1)
  have z_w_w1_0 : w.heap.size < w1.heap.size := (by omega)
  go_wp2_with fail
  refine (crash_any A1 _ c1 s keep xs _ (hs1.below RByte.stable (by (repeat (first | exact Below.refl _ _ | assumption | refine Below.alloc ?_ (by first | omega | (simp; done) | (simp; omega)) _ | refine below_drewN ?_ _ | refine Below.drew ?_ | refine Below.setCell ?_ (by first | omega | (simp; done) | (simp; omega)) _))) (by first | omega | (simp; done) | (simp; omega))) hk).mono ?_
  rintro e w2 ⟨A2, c2, rfl, hs2, hfr2, hb2⟩
  obtain ⟨hc2, hf2⟩ := bcell hb2; have hbb2 : Below w.heap.size w w2 := (by refine Below.trans ?_ (hb2.mono ?_); rotate_left; (focus (first | omega | (simp; done) | (simp; omega))); (repeat (first | exact Below.refl _ _ | assumption | refine Below.alloc ?_ (by first | omega | (simp; done) | (simp; omega)) _ | refine below_drewN ?_ _ | refine Below.drew ?_ | refine Below.setCell ?_ (by first | omega | (simp; done) | (simp; omega)) _))); have hsz2 := hb2.size; (try simp at hsz2)
  have z_w_w2_0 : w.heap.size < w2.heap.size := (by omega)
  have z_w1_w2_0 : w1.heap.size < w2.heap.size := (by omega)
  go_wp2_with fail
  refine (crashed_any A n c s keep xs _ (hx.below RByte.stable (by (repeat (first | exact Below.refl _ _ | assumption | refine Below.alloc ?_ (by first | omega | (simp; done) | (simp; omega)) _ | refine below_drewN ?_ _ | refine Below.drew ?_ | refine Below.setCell ?_ (by first | omega | (simp; done) | (simp; omega)) _))) (by first | omega | (simp; done) | (simp; omega))) hk).mono ?_
  rintro e w3 ⟨A3, c3, rfl, hs3, hfr3, hb3⟩
  obtain ⟨hc3, hf3⟩ := bcell hb3; have hbb3 : Below w.heap.size w w3 := (by refine Below.trans ?_ (hb3.mono ?_); rotate_left; (focus (first | omega | (simp; done) | (simp; omega))); (repeat (first | exact Below.refl _ _ | assumption | refine Below.alloc ?_ (by first | omega | (simp; done) | (simp; omega)) _ | refine below_drewN ?_ _ | refine Below.drew ?_ | refine Below.setCell ?_ (by first | omega | (simp; done) | (simp; omega)) _))); have hsz3 := hb3.size; (try simp at hsz3)
  have hb13 : Below w1.heap.size w1 w3 := ((Below.refl _ _).alloc (Nat.le_refl _) _).trans ((hb2.mono (by first | omega | (simp; done) | (simp; omega))).trans (((Below.refl _ _).alloc (by first | omega | (simp; done) | (simp; omega)) _).trans (hb3.mono (by first | omega | (simp; done) | (simp; omega)))))
  have z_w_w3_0 : w.heap.size < w3.heap.size := (by omega)
  have z_w1_w3_0 : w1.heap.size < w3.heap.size := (by omega)
  have z_w2_w3_0 : w2.heap.size < w3.heap.size := (by omega)
  go_wp2_with fail
  refine (sameTape_any A2 A3 _ _ c2 c3 _ _ _ ((hs2.below RByte.stable (Below.trans (Below.alloc (Below.refl _ _) (Nat.le_refl _) _) (hb3.mono (by first | omega | (simp; done) | (simp; omega)))) (Nat.le_refl _)).below RByte.stable (by (repeat (first | exact Below.refl _ _ | assumption | refine Below.alloc ?_ (by first | omega | (simp; done) | (simp; omega)) _ | refine below_drewN ?_ _ | refine Below.drew ?_ | refine Below.setCell ?_ (by first | omega | (simp; done) | (simp; omega)) _))) (by first | omega | (simp; done) | (simp; omega))) (hs3.below RByte.stable (by (repeat (first | exact Below.refl _ _ | assumption | refine Below.alloc ?_ (by first | omega | (simp; done) | (simp; omega)) _ | refine below_drewN ?_ _ | refine Below.drew ?_ | refine Below.setCell ?_ (by first | omega | (simp; done) | (simp; omega)) _))) (by first | omega | (simp; done) | (simp; omega)))).mono ?_
  rintro e w4 ⟨rfl, hb4⟩
  obtain ⟨hc4, hf4⟩ := bcell hb4; have hbb4 : Below w.heap.size w w4 := (by refine Below.trans ?_ (hb4.mono ?_); rotate_left; (focus (first | omega | (simp; done) | (simp; omega))); (repeat (first | exact Below.refl _ _ | assumption | refine Below.alloc ?_ (by first | omega | (simp; done) | (simp; omega)) _ | refine below_drewN ?_ _ | refine Below.drew ?_ | refine Below.setCell ?_ (by first | omega | (simp; done) | (simp; omega)) _))); have hsz4 := hb4.size; (try simp at hsz4)
  go_wp2_with fail
  refine (sameTape_any A1 A _ _ c1 c _ _ _ (((hs1.below RByte.stable hb13 (Nat.le_refl _)).below RByte.stable (B' := w4.heap.size) (Below.trans (Below.alloc (Below.refl _ _) (by first | omega | (simp; done) | (simp; omega)) _) (hb4.mono (by first | omega | (simp; done) | (simp; omega)))) (by first | omega | (simp; done) | (simp; omega)))) (hx.below RByte.stable (by (repeat (first | exact Below.refl _ _ | assumption | refine Below.alloc ?_ (by first | omega | (simp; done) | (simp; omega)) _ | refine below_drewN ?_ _ | refine Below.drew ?_ | refine Below.setCell ?_ (by first | omega | (simp; done) | (simp; omega)) _))) (by first | omega | (simp; done) | (simp; omega)))).mono ?_
  rintro e w5 ⟨rfl, hb5⟩
  obtain ⟨hc5, hf5⟩ := bcell hb5; have hbb5 : Below w.heap.size w w5 := (by refine Below.trans ?_ (hb5.mono ?_); rotate_left; (focus (first | omega | (simp; done) | (simp; omega))); (repeat (first | exact Below.refl _ _ | assumption | refine Below.alloc ?_ (by first | omega | (simp; done) | (simp; omega)) _ | refine below_drewN ?_ _ | refine Below.drew ?_ | refine Below.setCell ?_ (by first | omega | (simp; done) | (simp; omega)) _))); have hsz5 := hb5.size; (try simp at hsz5)
  go_wp2_with fail
  all_goals
    go_ret
    exact ⟨by simp, by (repeat (first | exact Below.refl _ _ | assumption | refine Below.alloc ?_ (by first | omega | (simp; done) | (simp; omega)) _ | refine below_drewN ?_ _ | refine Below.drew ?_ | refine Below.setCell ?_ (by first | omega | (simp; done) | (simp; omega)) _))⟩

end Go.Proofs.Ytdldmlekjhmaaaa
