/- Copies of bytes: slices.Clone, octets, joined. -/
import Derived.Test.YtdldmlekjhmaaaaOwn
namespace Go.Proofs.Ytdldmlekjhmaaaa
open Go.RowKit Go.ChangeShapes Go.WideShapes Go.Deep

abbrev BytesAt (w : World) (B : Nat) (A : Option Addr) (n c : Nat) (xs : List Int) : Prop := SlR RByte 1 1 w B A n c xs
theorem infoByte : (Try.prog.info? 5).map (fun i => (i.zero, i.size, i.bytes)) = some (some (.int .u8 0), 1, 1) := by kernel_rfl
theorem tyByte : TyE Try.prog 30 5 1 1 := by
  obtain ⟨i, h1, h2, h3, h4⟩ := info_parts infoByte
  exact ⟨Try.underlying30, ⟨i, _, h1, h2, h3, h4, rfl⟩, by decide⟩

set_option maxHeartbeats 400000 in
theorem octets_any (A : Option Addr) (n c : Nat) (xs : List Int) (w : World) (h : BytesAt w w.heap.size A n c xs) :
    Calls Try.prog 43 #[.slice A n c] w (RetOwn RByte 5 1 w xs) := by
  have hn1 := h.2.2.2.1
  have hm : n ≤ maxLen := Nat.le_trans h.2.1 h.2.2.1
  go_enter Try.func43, Try.ntmps43
  go_wp2_with (at_builtin; refine wpList_app (v := .slice none 0 0) rfl _ _ rfl RByte.good tyByte rfl (OwnL.nil (base := w.heap.size) (B := w.heap.size)) rfl h (by simp; omega) (by simpa using hm) (Nat.le_refl _) (Nat.le_refl _) ?_; intro v1 w1 hown1 hg1 _)
  go_ret
  exact RetOwn.mk hown1 ((Below.refl _ _).grown hg1 (Nat.le_refl _) (by simp [Value.ownBlock]))

set_option maxHeartbeats 400000 in
theorem clone_any (A : Option Addr) (n c : Nat) (xs : List Int) (w : World) (h : BytesAt w w.heap.size A n c xs) :
    Calls Try.prog 52 #[.slice A n c] w (RetOwn RByte 5 1 w xs) := by
  have hn1 := h.2.2.2.1
  have hm : n ≤ maxLen := Nat.le_trans h.2.1 h.2.2.1
  go_enter Try.func52, Try.ntmps52
  cases A with
  | none =>
    have hn0 : n = 0 := by
      rcases Nat.eq_zero_or_pos n with h0 | h0
      · exact h0
      · obtain ⟨_, _, hA, _⟩ := h.2.2.2.2 h0
        cases hA
    subst hn0
    have hx0 : xs = [] := List.eq_nil_of_length_eq_zero h.1
    subst hx0
    have he := fun w : World => Lib.run_eql_slice_nil (P := Try.prog) w 30 5 none 0 c 0 0 Try.underlying30
    go_wp2_with fail
    go_ret
    exact RetOwn.mk OwnL.nil (Below.refl _ _)
  | some ad =>
    have he := fun w : World => Lib.run_eql_slice_nil (P := Try.prog) w 30 5 (some ad) n c 0 0 Try.underlying30
    go_wp2_with (at_builtin; refine wpList_app (v := .slice (some ⟨w.heap.size, 0, none⟩) 0 0) rfl _ _ rfl RByte.good tyByte rfl (OwnL.made (base := w.heap.size) (B := w.heap.size) #[] 0 (Nat.le_refl _) (by simp [maxLen]) rfl) rfl (h.below (RByte.stable) ((Below.refl _ _).alloc (Nat.le_refl _) _) (Nat.le_refl _)) (by simp; omega) (by simpa using hm) (by simp) (Nat.le_refl _) ?_; intro v1 w1 hown1 hg1 _)
    go_ret
    exact RetOwn.mk hown1 (((Below.refl _ _).alloc (Nat.le_refl _) _).grown hg1 (by simp) (by simp [Value.ownBlock]))

end Go.Proofs.Ytdldmlekjhmaaaa
