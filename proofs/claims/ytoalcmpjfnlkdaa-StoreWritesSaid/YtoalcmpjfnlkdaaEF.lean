/- THE MACHINE OF READINGS, part F: slices of slices and of strings; structs that are built. -/
import Derived.Test.YtoalcmpjfnlkdaaEE
namespace Go.Proofs.Ytoalcmpjfnlkdaa
open Go.RowKit

section
variable {E : Env} {w0 : World} {X Z : Blk} {a : Act} {w : World} {s : St} {ρ : Nat → Pl} {N : Blk} {m : Mem}

theorem Rd.sub {t : Ty} {A : Option Addr} {n c : Nat} {xs : List t.den} (h : Rd (.sl t) w N [.slice A n c] xs) {l u : Nat} (hlu : l ≤ u) (hu : u ≤ xs.length) :
    Rd (.sl t) w N [.slice (if c = l then A else A.map (·.add (l * t.size))) (u - l) (c - l)] (pSub xs l u) := by
  obtain ⟨A', n', c', hv, hl, hc, hr⟩ := h
  simp only [List.cons.injEq, Value.slice.injEq, and_true] at hv
  obtain ⟨rfl, rfl, rfl⟩ := hv
  refine ⟨_, _, _, rfl, ?_, by omega, fun h0 => ?_⟩
  · unfold pSub; simp; omega
  · obtain ⟨b, off, rfl, hN, hk⟩ := hr (by omega)
    refine ⟨b, off + l * t.size, by rw [if_neg (by omega)]; simp [addr_add], hN, fun k hk' => ?_⟩
    have hk2 : k < u - l := by unfold pSub at hk'; simp at hk'; omega
    obtain ⟨us, h1, h2, h3⟩ := hk (l + k) (by omega)
    refine ⟨us, ?_, h2, fun j v hj => ?_⟩
    · have : (pSub xs l u)[k] = xs[l + k]'(by omega) := by
        apply Option.some.inj
        rw [← List.getElem?_eq_getElem, ← List.getElem?_eq_getElem]
        unfold pSub
        rw [List.getElem?_drop, List.getElem?_take, if_pos (by omega)]
      rw [this]; exact h1
    · have e : off + l * t.size + k * t.size + j = off + (l + k) * t.size + j := by rw [Nat.add_mul]; omega
      rw [e]; exact h3 j v hj

theorem slice_ok (h : Rel E w0 X Z a w s ρ N) {o : Oper} {T : TypeId} {x : Operand} {lo hi mx : Option Operand} (ho : o.op = .slice T x lo hi mx) {obs : List Prop} {e : Eff}
    (he : aSlice E T (s.get x) (lo.map s.get) (hi.map s.get) (mx.map s.get) = some (obs, e)) (hob : ∀ p ∈ obs, p) : PureR E a o w N ρ s.obj e := by
  have hx := h.get x
  have bnd : ∀ {y : Option Operand}, bound (y.map s.get) = some none → y.map a.eval = none := by
    intro y hy
    cases y with
    | none => rfl
    | some z =>
      exfalso
      simp only [Option.map_some] at hy
      unfold bound at hy
      split at hy
      · rename_i heq; cases heq
      · simp at hy
      · cases hy
  have bnd' : ∀ {y : Option Operand} {i : Int}, bound (y.map s.get) = some (some i) → ∃ k, y.map a.eval = some (.int k i) := by
    intro y i hy
    cases y with
    | none => simp [bound] at hy
    | some z =>
      simp only [Option.map_some] at hy ⊢
      unfold bound at hy
      split at hy
      · rename_i heq; cases heq
      · rename_i k n heq
        simp only [Option.some.injEq] at heq hy
        subst hy
        have hz := h.get z
        rw [heq] at hz
        exact ⟨k, by rw [(vr1 hz : _ = _)]⟩
      · cases hy
  unfold aSlice at he
  split at he
  · rename_i t xs hg hlo hhi hmx
    rw [hg] at hx
    obtain ⟨A, n, c, hv, hl, hc, _⟩ := (vr1 hx : Rd _ _ _ _ _)
    simp only [List.cons.injEq, and_true] at hv
    obtain ⟨k1, e1⟩ := bnd' hlo
    obtain ⟨k2, e2⟩ := bnd' hhi
    obtain ⟨k3, e3⟩ := bnd' hmx
    cases hel : elemT E.P T with
    | none => simp [hel] at he
    | some el =>
      cases hes : esizeT E.P T with
      | none => simp [hes] at he
      | some z =>
        simp only [hel, hes, Option.isSome_some, Bool.and_self, cond_true] at he
        obtain ⟨e', i, hu, hi, hz⟩ := esizeT_some hes
        refine pure_ret (c := .nil) (v := .slice (if 0 = 0 then A else A.map (·.add (0 * i.size))) 0 0) ?_ ⟨_, rfl⟩ he
        simp [execOp, ho, e1, e2, e3, hv, Instr.sliceAt, run_underlying hu, Instr.slice, Instr.sliceBounds, run_sliceBound, sizeOf, typeInfo, hi]
  · rename_i hg hlo hhi hmx
    rw [hg] at hx
    obtain ⟨A, hv⟩ := vr1 hx
    obtain ⟨k1, e1⟩ := bnd' hlo
    obtain ⟨k2, e2⟩ := bnd' hhi
    obtain ⟨k3, e3⟩ := bnd' hmx
    cases hel : elemT E.P T with
    | none => simp [hel] at he
    | some el =>
      cases hes : esizeT E.P T with
      | none => simp [hes] at he
      | some z =>
        simp only [hel, hes, Option.isSome_some, Bool.and_self, cond_true] at he
        obtain ⟨e', i, hu, hi, hz⟩ := esizeT_some hes
        refine pure_ret (c := .nil) (v := .slice (if 0 = 0 then A else A.map (·.add (0 * i.size))) 0 0) ?_ ⟨_, rfl⟩ he
        simp [execOp, ho, e1, e2, e3, hv, Instr.sliceAt, run_underlying hu, Instr.slice, Instr.sliceBounds, run_sliceBound, sizeOf, typeInfo, hi]
  · rename_i t xs l u hg hlo hhi hmx
    rw [hg] at hx
    have hrd : Rd (.sl t) w N [a.eval x] xs := vr1 hx
    have hrd' := hrd
    obtain ⟨A, n, c, hv, hl, hc, _⟩ := hrd'
    simp only [List.cons.injEq, and_true] at hv
    rw [hv] at hrd
    have e3 := bnd hmx
    split at he
    · rename_i hes
      obtain ⟨e', i, hu', hi', hz⟩ := esizeT_some hes
      have run : ∀ (l' u' : Nat), l' ≤ u' → u' ≤ n → (Instr.sliceBounds true n c (lo.map a.eval) (hi.map a.eval) none).run E.P w = .ok (l', u', c) w →
          (execOp a.eval o).run E.P w = .ok (.value (.slice (if c = l' then A else A.map (·.add (l' * t.size))) (u' - l') (c - l'))) w := by
        intro l' u' _ _ hb
        simp [execOp, ho, e3, hv, Instr.sliceAt, run_underlying hu', Instr.slice, hb, sizeOf, typeInfo, hi', hz]
      split at he
      · have e1 := bnd hlo
        have e2 := bnd hhi
        refine pure_ret (c := .sl t xs) (run 0 n (by omega) (by omega) (by simp [e1, e2, Instr.sliceBounds])) ?_ he
        have := hrd.sub (l := 0) (u := n) (by omega) (by omega)
        have es : pSub xs 0 n = xs := by unfold pSub; rw [List.drop_zero, List.take_of_length_le (by omega)]
        rw [es] at this
        exact this
      · rename_i i0
        obtain ⟨k1, e1⟩ := bnd' hlo
        have e2 := bnd hhi
        have hb : pTo i0 (pLen xs) := by
          simp only [Option.some.injEq, Prod.mk.injEq] at he
          exact hob _ (by rw [← he.1]; simp)
        unfold pTo pLen at hb
        refine pure_one (c := .sl t (pSub xs (pNat i0) (pLen xs))) (run i0.toNat n (by omega) (by omega) (by simp [e1, e2, Instr.sliceBounds, run_sliceBound w k1 i0 n _ hb.1 (by omega)])) ?_ he
        have := hrd.sub (l := i0.toNat) (u := n) (by omega) (by omega)
        rw [← hl] at this
        rw [← hl]
        exact this
      · rename_i i0
        have e1 := bnd hlo
        obtain ⟨k2, e2⟩ := bnd' hhi
        have hb : pTo i0 (pLen xs) := by
          simp only [Option.some.injEq, Prod.mk.injEq] at he
          exact hob _ (by rw [← he.1]; simp)
        unfold pTo pLen at hb
        exact pure_one (c := .sl t (pSub xs 0 (pNat i0))) (run 0 i0.toNat (by omega) (by omega) (by simp [e1, e2, Instr.sliceBounds, run_sliceBound w k2 i0 c _ hb.1 (by omega)])) (hrd.sub (l := 0) (u := i0.toNat) (by omega) (by omega)) he
      · rename_i i0 i1
        obtain ⟨k1, e1⟩ := bnd' hlo
        obtain ⟨k2, e2⟩ := bnd' hhi
        have hb : pTo i1 (pLen xs) ∧ pTo i0 (pNat i1) := by
          simp only [Option.some.injEq, Prod.mk.injEq] at he
          exact ⟨hob _ (by rw [← he.1]; simp), hob _ (by rw [← he.1]; simp)⟩
        unfold pTo pLen pNat at hb
        exact pure_one (c := .sl t (pSub xs (pNat i0) (pNat i1))) (run i0.toNat i1.toNat (by omega) (by omega) (by simp [e1, e2, Instr.sliceBounds, run_sliceBound w k2 i1 c _ hb.1.1 (by omega), run_sliceBound w k1 i0 i1.toNat _ hb.2.1 hb.2.2])) (hrd.sub (l := i0.toNat) (u := i1.toNat) (by omega) (by omega)) he
    · cases he
  · rename_i b l u hg hlo hhi hmx
    rw [hg] at hx
    have hv : _ = _ := vr1 hx
    have e3 := bnd hmx
    split at he
    · rename_i hu
      have run : ∀ (l' u' : Nat), (Instr.sliceBounds false b.size b.size (lo.map a.eval) (hi.map a.eval) none).run E.P w = .ok (l', u', b.size) w →
          (execOp a.eval o).run E.P w = .ok (.value (.string (b.extract l' u'))) w := by
        intro l' u' hb
        simp [execOp, ho, e3, hv, Instr.sliceAt, run_underlying hu, Instr.slice, hb]
      split at he
      · have e1 := bnd hlo
        have e2 := bnd hhi
        have es : b.extract 0 b.size = b := by simp
        exact pure_ret (c := .str b) (run 0 b.size (by simp [e1, e2, Instr.sliceBounds])) (by rw [es]; rfl) he
      · rename_i i0
        obtain ⟨k1, e1⟩ := bnd' hlo
        have e2 := bnd hhi
        have hb : pTo i0 (pStrLen b) := by
          simp only [Option.some.injEq, Prod.mk.injEq] at he
          exact hob _ (by rw [← he.1]; simp)
        unfold pTo pStrLen at hb
        exact pure_one (c := .str (pStrSub b (pNat i0) (pStrLen b))) (run i0.toNat b.size (by simp [e1, e2, Instr.sliceBounds, run_sliceBound w k1 i0 b.size _ hb.1 hb.2])) rfl he
      · rename_i i0
        have e1 := bnd hlo
        obtain ⟨k2, e2⟩ := bnd' hhi
        have hb : pTo i0 (pStrLen b) := by
          simp only [Option.some.injEq, Prod.mk.injEq] at he
          exact hob _ (by rw [← he.1]; simp)
        unfold pTo pStrLen at hb
        exact pure_one (c := .str (pStrSub b 0 (pNat i0))) (run 0 i0.toNat (by simp [e1, e2, Instr.sliceBounds, run_sliceBound w k2 i0 b.size _ hb.1 hb.2])) rfl he
      · rename_i i0 i1
        obtain ⟨k1, e1⟩ := bnd' hlo
        obtain ⟨k2, e2⟩ := bnd' hhi
        have hb : pTo i1 (pStrLen b) ∧ pTo i0 (pNat i1) := by
          simp only [Option.some.injEq, Prod.mk.injEq] at he
          exact ⟨hob _ (by rw [← he.1]; simp), hob _ (by rw [← he.1]; simp)⟩
        unfold pTo pStrLen pNat at hb
        exact pure_one (c := .str (pStrSub b (pNat i0) (pNat i1))) (run i0.toNat i1.toNat (by simp [e1, e2, Instr.sliceBounds, run_sliceBound w k2 i1 b.size _ hb.1.1 hb.1.2, run_sliceBound w k1 i0 i1.toNat _ hb.2.1 hb.2.2])) rfl he
    · cases he
  · cases he

end
end Go.Proofs.Ytoalcmpjfnlkdaa
