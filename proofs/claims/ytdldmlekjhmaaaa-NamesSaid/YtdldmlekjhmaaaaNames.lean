/- The law Names: it returns true. No argument. -/
import Derived.Test.YtdldmlekjhmaaaaPurA
import Derived.Test.YtdldmlekjhmaaaaMsg
import Derived.ArgAppend
namespace Go.Proofs.Ytdldmlekjhmaaaa
open Go.RowKit Go.ChangeShapes Go.WideShapes Go.Deep

def L1 : List Int := [6, 9, 15, 4, 8, 1073741824, 1048576, 6, 10, 24, 30, 6000, 1048576, 1048576, 3000, 1048576, 60, 60, 600, 500]
def L2 : List Int := [1, 2, 3, 4, 5, 6, 7, 8, 9, 1, 2, 3, 4, 5, 6, 1, 2, 3, 1, 2, 3, 4, 5, 1, 2, 3, 4, 1, 2, 3, 4, 5, 6, 7, 8]
abbrev L1v : List Value := [.int .i64 6, .int .i64 9, .int .i64 15, .int .i64 4, .int .i64 8, .int .i64 1073741824, .int .i64 1048576, .int .i64 6, .int .i64 10, .int .i64 24, .int .i64 30, .int .i64 6000, .int .i64 1048576, .int .i64 1048576, .int .i64 3000, .int .i64 1048576, .int .i64 60, .int .i64 60, .int .i64 600, .int .i64 500]
abbrev L2v : List Value := [.int .i64 1, .int .i64 2, .int .i64 3, .int .i64 4, .int .i64 5, .int .i64 6, .int .i64 7, .int .i64 8, .int .i64 9, .int .i64 1, .int .i64 2, .int .i64 3, .int .i64 4, .int .i64 5, .int .i64 6, .int .i64 1, .int .i64 2, .int .i64 3, .int .i64 1, .int .i64 2, .int .i64 3, .int .i64 4, .int .i64 5, .int .i64 1, .int .i64 2, .int .i64 3, .int .i64 4, .int .i64 1, .int .i64 2, .int .i64 3, .int .i64 4, .int .i64 5, .int .i64 6, .int .i64 7, .int .i64 8]
theorem L2one : ∀ u ∈ L2v, u.oneCell' = true := by
  intro u hu
  simp only [L2v, List.mem_cons, List.not_mem_nil, or_false] at hu
  rcases hu with rfl | rfl | rfl | rfl | rfl | rfl | rfl | rfl | rfl | rfl | rfl | rfl | rfl | rfl | rfl | rfl | rfl | rfl | rfl | rfl | rfl | rfl | rfl | rfl | rfl | rfl | rfl | rfl | rfl | rfl | rfl | rfl | rfl | rfl | rfl <;> rfl
theorem heap_at (w : World) (o : Obj) (k : Nat) (hk : k = w.heap.size) : (w.alloc o).heap[k]? = some o := by
  subst hk
  show (w.heap.push o)[w.heap.size]? = some o
  simp
theorem heap_old (w : World) (o : Obj) (k : Nat) (hk : k < w.heap.size) : (w.alloc o).heap[k]? = w.heap[k]? := by
  show (w.heap.push o)[k]? = _
  rw [Array.getElem?_push, if_neg (by omega)]
theorem lit_cell (w : World) (k : Nat) (e : TypeId) (cs : List Value) (hw : w.heap[k]? = some (.cells cs.toArray e)) (j : Nat) (u : Value) (hj : cs[j]? = some u) : w.cell? ⟨k, j, none⟩ = some u := by
  simp [World.cell?, hw, hj]
theorem lit_cells (w : World) (k : Nat) (e : TypeId) (cs : List Value) (hw : w.heap[k]? = some (.cells cs.toArray e)) : ∀ j u, cs[j]? = some u → w.cell? ((⟨k, 0, none⟩ : Addr).add j) = some u := by
  intro j u hj
  rw [Addr.add_lit, Nat.zero_add]
  exact lit_cell w k e cs hw j u hj
theorem old_cells {W w4 : World} {B k : Nat} {o : Obj} {cs : List Value} (hb : Below B W w4) (hB : k < B) (hw : k < w4.heap.size) (h : ∀ j u, cs[j]? = some u → W.cell? ((⟨k, 0, none⟩ : Addr).add j) = some u) : ∀ j u, cs[j]? = some u → (w4.alloc o).cell? ((⟨k, 0, none⟩ : Addr).add j) = some u := by
  intro j u hj
  have h := h j u hj
  rw [Addr.add_lit] at h ⊢
  have hc := hb.cell (p := ⟨k, 0 + j, none⟩) hB
  have h2 : Below w4.heap.size w4 (w4.alloc o) := (Below.refl _ _).alloc (Nat.le_refl _) _
  rw [h2.cell (p := ⟨k, 0 + j, none⟩) hw, hc, h]
theorem ints_cells {w : World} {B : Nat} {A : Option Addr} {n c : Nat} {xs : List Int} (h : IntsAt w B A n c xs) {k : Nat} (hk : k < n) :
    ∃ b off, A = some ⟨b, off, none⟩ ∧ b < B ∧ ∀ j, j < n → w.cell? ⟨b, off + j, none⟩ = some (.int .i64 (xs.getD j 0)) := by
  obtain ⟨b, off, hA, hb, hc⟩ := SlR.flat h hk
  refine ⟨b, off, hA, hb, fun j hj => ?_⟩
  have hl : j < xs.length := by have := h.1; omega
  have := (hc j xs[j] (List.getElem?_eq_getElem hl)).2
  rw [List.getD_eq_getElem?_getD, List.getElem?_eq_getElem hl]
  have := this 0 _ rfl
  rwa [Nat.mul_one, Nat.add_zero] at this
theorem enc_flat (xs : List Int) : (xs.map encI).flatten = xs.map (Value.int .i64) := by
  induction xs with
  | nil => rfl
  | cons x xs ih => simp only [List.map_cons, List.flatten_cons, ih]; rfl
theorem row_sl {w : World} {base : Nat} {v : Value} (h : w.ownsRow base 3 1 v 55 (L1v ++ L2v)) : ∃ A c, v = .slice A 55 c ∧ IntsAt w w.heap.size A 55 c (L1 ++ L2) := by
  have ho : OwnL (Flat encI) 3 1 w base 0 v (L1 ++ L2) := by
    refine ⟨(L1 ++ L2).map encI, ⟨by simp, fun k cs x h1 h2 => ?_⟩, ?_⟩
    · rw [List.getElem?_map, h2] at h1
      injection h1 with h1
      exact h1.symm
    · rw [enc_flat]
      exact h
  obtain ⟨A, c, hv, hs⟩ := ho.sl (bytes := 8) goodI (Nat.zero_le _) (by decide)
  exact ⟨A, c, hv, hs⟩

set_option maxRecDepth 100000 in
set_option maxHeartbeats 4000000 in
theorem names_walk (w : World) : Calls Try.prog 3 #[] w fun e w' => e = .returned (.bool true) ∧ Below w.heap.size w w' := by
  obtain ⟨i, h1, h2, h3, h4⟩ := info_parts infoInt
  go_enter Try.func3, Try.ntmps3
  go_wp2_with fail
  go_loopw [2] (fun i wr => ∃ k : Nat, k ≤ 15 ∧ i = .int .i64 k ∧ Below w.heap.size w wr ∧ w.heap.size < wr.heap.size ∧ Hid (∀ j : Nat, j < 15 → wr.cell? ⟨w.heap.size, j, none⟩ = some (.int .i64 j))) (fun i _ => 15 - (intOf i).toNat)
  case atStart =>
    refine ⟨0, by omega, rfl, by (repeat (first | exact Below.refl _ _ | assumption | refine Below.alloc ?_ (by first | omega | (simp; done) | (simp; omega)) _ | refine below_drewN ?_ _ | refine Below.drew ?_ | refine Below.setCell ?_ (by first | omega | (simp; done) | (simp; omega)) _)), by simp, ?_⟩
    intro j hj
    refine lit_cell _ _ _ [.int .i64 0, .int .i64 1, .int .i64 2, .int .i64 3, .int .i64 4, .int .i64 5, .int .i64 6, .int .i64 7, .int .i64 8, .int .i64 9, .int .i64 10, .int .i64 11, .int .i64 12, .int .i64 13, .int .i64 14] (heap_at _ _ _ rfl) j _ ?_
    have h : j = 0 ∨ j = 1 ∨ j = 2 ∨ j = 3 ∨ j = 4 ∨ j = 5 ∨ j = 6 ∨ j = 7 ∨ j = 8 ∨ j = 9 ∨ j = 10 ∨ j = 11 ∨ j = 12 ∨ j = 13 ∨ j = 14 := by omega
    rcases h with rfl | rfl | rfl | rfl | rfl | rfl | rfl | rfl | rfl | rfl | rfl | rfl | rfl | rfl | rfl <;> rfl
  case round =>
    obtain ⟨wo, rfl⟩ : ∃ wo : World, wo = wr := ⟨_, rfl⟩
    obtain ⟨k, hk, rfl, hb, hsz, HC⟩ := hrel
    by_cases hlt : k < 15
    · have hx := HC.out k hlt
      have hk1 : (k : Int) < 15 := by omega
      go_wp2
      go_roundw
      case rel => exact ⟨k + 1, by omega, by go_num, hb, hsz, HC⟩
      case measure => simp [intOf]; omega
    · obtain rfl : k = 15 := by omega
      clear HC
      go_wp2_with (first | (at_builtin; (refine wpList_append_grows _ rfl _ _ _ rfl _ i _ 1 8 Try.underlying24 h1 h2 h3 h4 rfl (by decide) (some ⟨wo.heap.size, 0, none⟩) 20 20 L1v rfl (by intro h; cases h) rfl (fun b hb => by injection hb with hb; subst hb; exact (lit_cells (((wo.alloc (.cells L1v.toArray 3)).alloc (.cells L1v.toArray 3)).alloc (.cells L2v.toArray 3)) _ 3 L1v ((heap_old _ _ _ (by simp; omega)).trans ((heap_old _ _ _ (by simp)).trans (heap_at _ _ _ rfl))))) ⟨wo.heap.size + 1 + 1, 0, none⟩ 35 35 L2v rfl rfl (lit_cells (((wo.alloc (.cells L1v.toArray 3)).alloc (.cells L1v.toArray 3)).alloc (.cells L2v.toArray 3)) _ 3 L2v (heap_at _ _ _ (by simp))) L2one (by omega) (by decide) (by decide) ?_; intro v1 w4 hrow hg; obtain ⟨AA1, cc1, rfl, hs1⟩ := row_sl hrow; clear hrow; have hb4 : Below (wo.heap.size + 1 + 1 + 1) (((wo.alloc (.cells L1v.toArray 3)).alloc (.cells L1v.toArray 3)).alloc (.cells L2v.toArray 3)) w4 := (by simpa using (Below.refl (((wo.alloc (.cells L1v.toArray 3)).alloc (.cells L1v.toArray 3)).alloc (.cells L2v.toArray 3)).heap.size (((wo.alloc (.cells L1v.toArray 3)).alloc (.cells L1v.toArray 3)).alloc (.cells L2v.toArray 3))).grown hg (by simp) (by simp)); have hsz4 : wo.heap.size + 1 + 1 + 1 ≤ w4.heap.size := (by have := hb4.size; simpa using this); clear hg)) | (at_builtin; go_must (refine wpList_append_grows _ rfl _ _ _ rfl _ i _ 1 8 Try.underlying24 h1 h2 h3 h4 rfl (by decide) (some ⟨wo.heap.size + 1, 0, none⟩) 20 20 L1v rfl (by intro h; cases h) rfl (fun b hb => by injection hb with hb; subst hb; exact (old_cells hb4 (by simp) (by omega) (lit_cells (((wo.alloc (.cells L1v.toArray 3)).alloc (.cells L1v.toArray 3)).alloc (.cells L2v.toArray 3)) _ 3 L1v ((heap_old _ _ _ (by simp)).trans (heap_at _ _ _ (by simp)))))) ⟨w4.heap.size, 0, none⟩ 35 35 L2v rfl rfl (lit_cells (w4.alloc (.cells L2v.toArray 3)) _ 3 L2v (heap_at _ _ _ rfl)) L2one (by omega) (by decide) (by decide) ?_; intro v1 w6 hrow hg; obtain ⟨AA2, cc2, rfl, hs2⟩ := row_sl hrow; clear hrow; have hb6 : Below (w4.heap.size + 1) (w4.alloc (.cells L2v.toArray 3)) w6 := (by simpa using (Below.refl (w4.alloc (.cells L2v.toArray 3)).heap.size (w4.alloc (.cells L2v.toArray 3))).grown hg (by simp) (by simp)); have hsz6 : w4.heap.size + 1 ≤ w6.heap.size := (by have := hb6.size; simpa using this); clear hg)))
      have hb' : Below w.heap.size w w6 := by
        refine Below.trans ?_ (hb6.mono (by omega))
        refine Below.alloc ?_ (by omega) _
        refine Below.trans ?_ (hb4.mono (by omega))
        (repeat (first | exact Below.refl _ _ | assumption | refine Below.alloc ?_ (by first | omega | (simp; done) | (simp; omega)) _ | refine below_drewN ?_ _ | refine Below.drew ?_ | refine Below.setCell ?_ (by first | omega | (simp; done) | (simp; omega)) _))
      have hs1' := hs1.below (Flat.stable _) (B' := w6.heap.size) (Below.trans (by (repeat (first | exact Below.refl _ _ | assumption | refine Below.alloc ?_ (by first | omega | (simp; done) | (simp; omega)) _ | refine below_drewN ?_ _ | refine Below.drew ?_ | refine Below.setCell ?_ (by first | omega | (simp; done) | (simp; omega)) _))) (hb6.mono (by omega))) (by omega)
      clear hs1 hb4 hb6 hb
      go_loopw [5] (fun i wr => ∃ k : Nat, k ≤ 55 ∧ i = .int .i64 k ∧ Drew w6 wr) (fun i _ => 55 - (intOf i).toNat)
      case atStart => exact ⟨0, Nat.zero_le _, rfl, Drew.refl _⟩
      case round =>
        obtain ⟨k, hk, rfl, hd⟩ := hrel
        have hcell := hd.cell
        by_cases hlt : k < 55
        · obtain ⟨b, off, rfl, hbB, hx⟩ := ints_cells hs1' hlt
          obtain ⟨b', off', rfl, hbB', hx'⟩ := ints_cells hs2 hlt
          have hk1 : (k : Int) < 55 := by omega
          have hx := hx k hlt
          have hx' := hx' k hlt
          generalize (L1 ++ L2).getD k 0 = x at hx hx'
          go_wp2_with fail
          go_quiet (fail)
          go_wp2_with fail
          go_roundw
          case rel => exact ⟨k + 1, by omega, by go_num, hd.more _⟩
          case measure => simp [intOf]; omega
        · obtain rfl : k = 55 := by omega
          go_wp2
          go_ret
          exact ⟨rfl, hb'.trans (hd.below _)⟩

theorem names_lifted (os : Os) (started : os.Started) (H : Type) (enc : TypeId × Value → H) :
    ReturnsInHanded {} Try.checked os 3 .any (Rows.namesSpec.pre6 enc Try.prog Try.f3 Rows.namesRow.domain false) (Rows.namesSpec.post enc Try.prog Try.f3 false true false false) := by
  refine lift_law started _ _ Rows.namesSpec Try.func3 (by kernel_rfl) rfl rfl (by kernel_rfl) ?_
    (ChangeSpec.witness6 (enc := enc) (C := Try.checked) false ⟨#[], #[], []⟩ 8 (by kernel_rfl) (by kernel_rfl) (by kernel_rfl) (by kernel_rfl)) ?_
  · intro ds hds
    match ds, hds with
    | [], _ => rfl
  · intro W base args ds p hA hval hlt hsz
    rw [Try.params3] at hA hval hsz
    obtain ⟨l⟩ := args
    cases l with
    | nil => exact names_walk _
    | cons v vs => exact absurd hA (by simp [DataW.TrodAll])

/-- Names: the statement. -/
theorem names_holds : Rows.NamesSaid :=
  OpenClaim.holds_of_wide 3 Try.f3 rfl rfl rfl rfl rfl rfl rfl ⟨rfl, rfl, rfl, rfl, rfl⟩ rfl rfl rfl rfl rfl (by kernel_rfl) Try.func3 (by kernel_rfl)
    (of_decide_eq_true (by kernel_rfl)) (by unfold Func.isWrapper; rw [if_neg (of_decide_eq_false (by kernel_rfl))]; exact ⟨rfl, rfl⟩)
    (fun os started H enc _ => names_lifted os started H enc)

end Go.Proofs.Ytdldmlekjhmaaaa
