/- bytes as a string; joined; sameTape. -/
import Derived.Test.YtdldmlekjhmaaaaTapB
import Derived.Laws.BytesArg
namespace Go.Proofs.Ytdldmlekjhmaaaa
open Go.RowKit Go.ChangeShapes Go.WideShapes Go.Deep

theorem SlR.cell1 {α : Type} {R : ER α} {bytes : Nat} {w : World} {B : Nat} {A : Option Addr} {n c : Nat} {xs : List α} (h : SlR R 1 bytes w B A n c xs) {k : Nat} (hk : k < n) :
    ∃ b off, A = some ⟨b, off, none⟩ ∧ b < B ∧ ∀ j, j < n → ∃ u x, w.cell? ⟨b, off + j, none⟩ = some u ∧ xs[j]? = some x ∧ R w B [u] x := by
  obtain ⟨b, off, hA, hb, hc⟩ := h.2.2.2.2 (by omega)
  refine ⟨b, off, hA, hb, fun j hj => ?_⟩
  have hl : j < xs.length := by have := h.1; omega
  obtain ⟨cs, h1, h2, h3⟩ := hc j _ (List.getElem?_eq_getElem hl)
  match cs, h1 with
  | [u], _ => exact ⟨u, xs[j], by have := h3 0 u rfl; rw [Nat.mul_one, Nat.add_zero] at this; exact this, List.getElem?_eq_getElem hl, h2⟩

theorem BytesAt.cells {w : World} {B : Nat} {A : Option Addr} {n c : Nat} {xs : List Int} (h : BytesAt w B A n c xs) {k : Nat} (hk : k < n) :
    ∃ b off, A = some ⟨b, off, none⟩ ∧ b < B ∧ ∀ j, j < n → w.cell? ⟨b, off + j, none⟩ = some (.int .u8 (xs.getD j 0)) ∧ 0 ≤ xs.getD j 0 ∧ xs.getD j 0 ≤ 255 := by
  obtain ⟨b, off, hA, hb, hc⟩ := h.cell1 hk
  refine ⟨b, off, hA, hb, fun j hj => ?_⟩
  obtain ⟨u, x, h1, h2, h3, h4, h5⟩ := hc j hj
  have : xs.getD j 0 = x := by rw [List.getD_eq_getElem?_getD, h2]; rfl
  rw [this]
  injection h3 with h3 _
  subst h3
  exact ⟨h1, h4, h5⟩

theorem SlR.nil_of {α : Type} {R : ER α} {sz bytes : Nat} {w : World} {B : Nat} {n c : Nat} {xs : List α} (h : SlR R sz bytes w B none n c xs) : n = 0 ∧ xs = [] := by
  have hn : n = 0 := by
    rcases Nat.eq_zero_or_pos n with h0 | h0
    · exact h0
    · obtain ⟨_, _, hA, _⟩ := h.2.2.2.2 h0
      cases hA
  exact ⟨hn, List.eq_nil_of_length_eq_zero (by rw [h.1, hn])⟩

/-- string(b), b any slice of bytes that is read -/
theorem run_bytes {w : World} {B : Nat} {A : Option Addr} {n c : Nat} {xs : List Int} (h : BytesAt w B A n c xs) :
    (convert 30 9 (.slice A n c)).run Try.prog w = .ok (.string (strOfNums xs)) w := by
  by_cases hn : 0 < n
  · obtain ⟨b, off, rfl, _, hc⟩ := BytesAt.cells h hn
    exact run_convert_bytes_arg w _ _ Try.underlying30 Try.underlying5 b off n c xs h.1 (fun i hi => (hc i hi).1) _ Try.underlying9
  · have h0 : n = 0 := by omega
    subst h0
    have hx : xs = [] := List.eq_nil_of_length_eq_zero h.1
    subst hx
    cases A with
    | none => exact run_convert_bytes_nil w _ _ Try.underlying30 Try.underlying5 0 c _ Try.underlying9
    | some a =>
      rw [run_convert_bytes_string w _ _ _ _ 0 c Try.underlying30 Try.underlying5 Try.underlying9, run_bytesToString w a 0 c [] (by simp [loadCells, loadCellsFrom])]
      rfl

theorem strOfNums_le {xs : List Int} (h : xs.length ≤ 140737488351232) : (strOfNums xs).size ≤ 140737488351232 := by rw [strOfNums_size]; exact h

set_option maxHeartbeats 400000 in
theorem sameTape_any (A A' : Option Addr) (n n' c c' : Nat) (s : Int) (xs : List Int) (w : World) (h : BytesAt w w.heap.size A n c xs) (h' : BytesAt w w.heap.size A' n' c' xs) :
    Calls Try.prog 26 #[.agg #[.slice A n c, .int .i64 s], .agg #[.slice A' n' c', .int .i64 s]] w fun e w' => e = .returned (.bool true) ∧ Below w.heap.size w w' := by
  have e1 := run_bytes (h.below RByte.stable (((Below.refl _ _).alloc (Nat.le_refl _) (.cells #[.slice A n c, .int .i64 s] 32)).alloc (by simp) (.cells #[.slice A' n' c', .int .i64 s] 32)) (Nat.le_refl _))
  have e2 := run_bytes (h'.below RByte.stable (((Below.refl _ _).alloc (Nat.le_refl _) (.cells #[.slice A n c, .int .i64 s] 32)).alloc (by simp) (.cells #[.slice A' n' c', .int .i64 s] 32)) (Nat.le_refl _))
  go_enter Try.func26, Try.ntmps26
  go_wp2
  go_ret
  exact ⟨by simp, by (repeat (first | exact Below.refl _ _ | assumption | refine Below.alloc ?_ (by first | omega | (simp; done) | (simp; omega)) _ | refine below_drewN ?_ _ | refine Below.drew ?_ | refine Below.setCell ?_ (by first | omega | (simp; done) | (simp; omega)) _))⟩

theorem getD_some {α : Type} {l : List α} {j : Nat} {d v : α} (h : j < l.length) (e : l.getD j d = v) : l[j]? = some v := by
  rw [← e, List.getD_eq_getElem?_getD, List.getElem?_eq_getElem h]; rfl
theorem flat_take_succ {ls : List (List Int)} {k : Nat} {x : List Int} (hx : ls[k]? = some x) : (ls.take (k + 1)).flatten = (ls.take k).flatten ++ x := by
  rw [List.take_add_one, hx, List.flatten_append]; simp
theorem flat_take_le {ls : List (List Int)} {k : Nat} {x : List Int} (hx : ls[k]? = some x) : (ls.take k).flatten.length + x.length ≤ ls.flatten.length := by
  have h1 : ls.flatten = (ls.take (k + 1)).flatten ++ (ls.drop (k + 1)).flatten := by rw [← List.flatten_append, List.take_append_drop]
  rw [h1, flat_take_succ hx, List.length_append, List.length_append]
  omega

set_option maxHeartbeats 400000 in
theorem joined_any (A : Option Addr) (n c : Nat) (ls : List (List Int)) (w : World) (h : SlR (RSlice RByte 1 1) 1 24 w w.heap.size A n c ls) (htot : ls.flatten.length ≤ 140737488351232) :
    Calls Try.prog 44 #[.slice A n c] w (RetOwn RByte 5 1 w ls.flatten) := by
  have hn : n ≤ 9223372036854775807 := by have := h.2.1; have := h.2.2.1; unfold maxLen at this; omega
  have hnc := h.2.1
  have HL := Lib.hid h.1
  go_enter Try.func44, Try.ntmps44
  go_wp2_with fail
  go_loopw [3, 4] (fun v i wr => ∃ k : Nat, k ≤ n ∧ i = .int .i64 k ∧ OwnL RByte 5 1 wr w.heap.size w.heap.size v (ls.take k).flatten ∧ Below w.heap.size w wr)
    (fun _ i _ => n - (intOf i).toNat)
  case atStart => exact ⟨0, Nat.zero_le _, rfl, by simpa using OwnL.nil, Below.refl _ _⟩
  case round =>
    obtain ⟨wo, rfl⟩ : ∃ wo : World, wo = wr := ⟨_, rfl⟩
    obtain ⟨k, hk, rfl, hown, hb⟩ := hrel
    by_cases hlt : k < n
    · obtain ⟨b, off, rfl, hbB, hcell⟩ := h.cell1 hlt
      obtain ⟨u, x, hu, hx, A1, n1, c1, hu1, h1⟩ := hcell k hlt
      injection hu1 with hu1 _
      subst hu1
      clear hcell
      have HX := Lib.hid hx
      clear hx
      have hn1 : n1 ≤ 9223372036854775807 := by have := h1.2.1; have := h1.2.2.1; unfold maxLen at this; omega
      have hx1 := h1.1
      have HX1 := Lib.hid hx1
      clear hx1
      go_wp2_with fail
      go_loopw [3, 5] (fun v i wi => ∃ j : Nat, j ≤ n1 ∧ i = .int .i64 j ∧ OwnL RByte 5 1 wi w.heap.size w.heap.size v ((ls.take k).flatten ++ x.take j) ∧ Below w.heap.size w wi)
        (fun _ i _ => n1 - (intOf i).toNat)
      case atStart => exact ⟨0, Nat.zero_le _, rfl, by simpa using hown, hb⟩
      case round =>
        obtain ⟨j, hj, rfl, hown', hb'⟩ := hrel
        obtain ⟨hc', hf'⟩ := bcell hb'
        have hsz' := hb'.size
        by_cases hjl : j < n1
        · obtain ⟨b1, off1, rfl, hbB1, hcell1⟩ := BytesAt.cells h1 hjl
          obtain ⟨hv, hv0, hv1⟩ := hcell1 j hjl
          clear hcell1
          have z1 : b < wr.heap.size := by omega
          have z2 : b1 < wr.heap.size := by omega
          have hlenb : ((ls.take k).flatten ++ x.take j).length + 1 ≤ 140737488351232 := by
            have htk := flat_take_le HX.out
            have hx1 := HX1.out
            rw [List.length_append, List.length_take]
            omega
          generalize hxv : x.getD j 0 = xv at hv hv0 hv1
          have HXV := Lib.hid hxv
          clear hxv
          go_wp2_with (at_builtin; refine wpList_push (v := u3) rfl _ _ rfl RByte.good tyByte rfl (hown'.alloc RByte.stable (by omega) _) rfl (cs := [.int .u8 xv]) (y := xv) ⟨rfl, hv0, hv1⟩ (new_cells _ _ _) (by omega) (by unfold maxLen; omega) (by simp; omega) (Nat.le_refl _) ?_; intro v2 w2 hown2 hg2 _)
          · have hbn : Below w.heap.size w w2 := below_own (hb'.alloc (by omega) _) (hown'.alloc RByte.stable (by omega) _) hg2 (by simp; omega) (Nat.le_refl _)
            go_roundw
            case rel =>
              refine ⟨j + 1, by omega, by go_num, ?_, hbn⟩
              rw [List.append_assoc] at hown2
              rw [List.take_add_one, getD_some (by have := HX1.out; omega) HXV.out]
              exact hown2
            case measure => simp [intOf]; omega
        · obtain rfl : j = n1 := by omega
          go_wp2
          go_roundw
          case rel =>
            refine ⟨k + 1, by omega, by go_num, ?_, hb'⟩
            rw [flat_take_succ HX.out, ← List.take_of_length_le (l := x) (i := j) (by have := HX1.out; omega)]
            exact hown'
          case measure => simp [intOf]; omega
    · obtain rfl : k = n := by omega
      go_wp2
      go_ret
      rw [List.take_of_length_le (by have := HL.out; omega)] at hown
      exact RetOwn.mk hown hb

/-- joined of one slice: it lies in a cell -/
theorem joined1_any (W : World) (b : Nat) (A : Option Addr) (n c : Nat) (xs : List Int) (hc : W.cell? ⟨b, 0, none⟩ = some (.slice A n c)) (hb : b < W.heap.size) (hx : BytesAt W W.heap.size A n c xs) :
    Calls Try.prog 44 #[.slice (some ⟨b, 0, none⟩) 1 1] W (RetOwn RByte 5 1 W xs) := by
  have h : SlR (RSlice RByte 1 1) 1 24 W W.heap.size (some ⟨b, 0, none⟩) 1 1 [xs] := by
    refine ⟨rfl, Nat.le_refl _, by simp [maxLen], by omega, fun _ => ⟨b, 0, rfl, hb, fun k x hk => ?_⟩⟩
    cases k with
    | zero =>
      simp at hk
      subst hk
      refine ⟨[.slice A n c], rfl, ⟨A, n, c, rfl, hx⟩, fun j u hu => ?_⟩
      cases j with
      | zero => simp at hu; subst hu; simpa using hc
      | succ j => simp at hu
    | succ k => simp at hk
  have := joined_any (some ⟨b, 0, none⟩) 1 1 [xs] W h (by have := hx.2.2.2.1; have := hx.1; simp; omega)
  simpa using this

end Go.Proofs.Ytdldmlekjhmaaaa
