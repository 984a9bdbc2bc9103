/- THE MACHINE OF READINGS, part G: what is built out of parts. -/
import Derived.Test.YtoalcmpjfnlkdaaEF
import Derived.Laws.CopyRow
namespace Go.Proofs.Ytoalcmpjfnlkdaa
open Go.RowKit

theorem foldl_put (off : Nat) : ∀ (vs : List Value) (k : Nat) (cells : Array Value), off + k + vs.length ≤ cells.size →
    ((vs.zipIdx k).foldl (fun (cs : Array Value) (p : Value × Nat) => cs.setIfInBounds (off + p.2) p.1) cells).toList = cells.toList.take (off + k) ++ vs ++ cells.toList.drop (off + k + vs.length)
  | [], k, cells, _ => by simp
  | v :: vs, k, cells, h => by
    simp only [List.zipIdx_cons, List.foldl_cons]
    rw [foldl_put off vs (k + 1) _ (by simp at h ⊢; omega)]
    have e := list_seg_step cells.toList (off + k) v vs (by simp at h ⊢; omega)
    simpa [Array.toList_setIfInBounds, Nat.add_assoc] using e

section
variable {E : Env} {w0 : World} {X Z : Blk} {a : Act} {w : World} {s : St} {ρ : Nat → Pl} {N : Blk} {m : Mem}

/-- the parts of a literal -/
def PartR (w : World) (N : Blk) (ρ : Nat → Pl) (m : Mem) (p : Nat × List C) (q : Nat × Value) : Prop := p.1 = q.1 ∧ All2 (CR w N ρ m) p.2 q.2.cells.toList

theorem putAt_some {cs vs r : List C} {off : Nat} (h : putAt cs off vs = some r) : off + vs.length ≤ cs.length ∧ r = cs.take off ++ vs ++ cs.drop (off + vs.length) := by
  unfold putAt at h
  split at h
  · rename_i hl; exact ⟨hl, by simpa using h.symm⟩
  · cases h

theorem fill_ok {place : Nat → Option (Nat × Nat)} : ∀ {ps : List (Nat × List C)} {qs : List (Nat × Value)} {cs r : List C} {cells : Array Value}, fillC place cs ps = some r → All2 (PartR w N ρ m) ps qs → All2 (CR w N ρ m) cs cells.toList →
    ∃ cells', Instr.fill place cells qs = some cells' ∧ All2 (CR w N ρ m) r cells'.toList
  | [], _, cs, r, cells, he, h, hc => by
    cases h
    simp only [fillC, Option.some.injEq] at he
    subst he
    exact ⟨cells, rfl, hc⟩
  | (i, c) :: ps, _, cs, r, cells, he, h, hc => by
    cases h with
    | @cons _ q _ qs h1 h2 =>
      obtain ⟨j, v⟩ := q
      obtain ⟨hij, hv⟩ := h1
      simp only at hij hv
      subst hij
      simp only [fillC] at he
      cases hp : place i with
      | none => simp [hp] at he
      | some os =>
        obtain ⟨off, size⟩ := os
        simp only [hp] at he
        split at he
        · rename_i hsz
          cases hput : putAt cs off c with
          | none => simp [hput] at he
          | some cs' =>
            simp only [hput] at he
            obtain ⟨hl, rfl⟩ := putAt_some hput
            have hvl : v.cells.size = size := by rw [← hsz, hv.len]; simp
            have hcl := hc.len
            simp only [Array.length_toList] at hcl
            have hvl' := hv.len
            simp only [Array.length_toList] at hvl'
            have hfit : off + v.cells.size ≤ cells.size := by omega
            have hfold : (v.cells.zipIdx.foldl (fun (cs : Array Value) (p : Value × Nat) => cs.setIfInBounds (off + p.2) p.1) cells).toList = cells.toList.take off ++ v.cells.toList ++ cells.toList.drop (off + v.cells.size) := by
              rw [← Array.foldl_toList, Array.toList_zipIdx]
              have := foldl_put off v.cells.toList 0 cells (by simpa using hfit)
              simpa using this
            have hnew : All2 (CR w N ρ m) (cs.take off ++ c ++ cs.drop (off + c.length)) (v.cells.zipIdx.foldl (fun (cs : Array Value) (p : Value × Nat) => cs.setIfInBounds (off + p.2) p.1) cells).toList := by
              rw [hfold]
              refine ((hc.take off).append hv).append ?_
              rw [show v.cells.size = c.length by omega]
              exact hc.drop _
            obtain ⟨cells', hf, hr⟩ := fill_ok he h2 hnew
            refine ⟨cells', ?_, hr⟩
            have hno : ¬ (v.cells.size ≠ size ∨ cells.size < off + v.cells.size) := by omega
            simp only [Instr.fill, hp]
            rw [if_neg (by simpa using hno)]
            exact hf
        · cases he

theorem zeroT_some {P : Program} {T : TypeId} {z : List C} (h : zeroT P T = some z) : ∃ i v, P.info? T = some i ∧ i.zero = some v ∧ ∀ (w : World) (N : Blk) (ρ : Nat → Pl) (m : Mem), All2 (CR w N ρ m) z v.cells.toList := by
  unfold zeroT at h
  split at h
  · rename_i v hv
    cases hi : P.info? T with
    | none => simp [hi] at hv
    | some i =>
      simp only [hi, Option.bind_some] at hv
      cases hall : v.cells.toList.all (·.oneCell') with
      | false => rw [hall] at h; cases h
      | true =>
        rw [hall] at h
        simp only [cond_true, Option.some.injEq] at h
        subst h
        exact ⟨i, v, rfl, hv, fun w N ρ m => cOfValues_ok _ hall⟩
  · cases h

theorem run_zeroT {P : Program} {T : TypeId} {i : TypeInfo} {v : Value} (w : World) (hi : P.info? T = some i) (hv : i.zero = some v) : (zeroValue T).run P w = .ok v w := by
  simp [zeroValue, typeInfo, hi, hv]

theorem partsC_ok (h : Rel E w0 X Z a w s ρ N) : ∀ {ps : List (Nat × Operand)} {l : List (Nat × List C)}, partsC s.get ps = some l → All2 (PartR w N ρ s.obj) l (ps.map fun p => (p.1, a.eval p.2))
  | [], l, he => by
    simp only [partsC, Option.some.injEq] at he
    subst he; exact .nil
  | (i, x) :: ps, l, he => by
    simp only [partsC] at he
    split at he
    · rename_i b cs l' hg hl
      simp only [Option.some.injEq] at he
      subst he
      have hx := h.get x
      rw [hg] at hx
      exact .cons ⟨rfl, VR.cells hx⟩ (partsC_ok h hl)
    · cases he

theorem run_places {P : Program} {w : World} : ∀ {fs : List Field} {l : List (Nat × Nat)}, placesT P fs = some l → (fs.mapM (m := Sem) fun f => do pure (f.offset, ← sizeOf f.type)).run P w = .ok l w
  | [], l, h => by
    simp only [placesT, Option.some.injEq] at h
    subst h; simp
  | f :: fs, l, h => by
    simp only [placesT] at h
    split at h
    · rename_i n l' hn hl
      simp only [Option.some.injEq] at h
      subst h
      have ih := run_places (w := w) hl
      simp only [bind_pure_comp] at ih
      simp [List.mapM_cons, run_sizeT w hn, ih]
    · cases h

theorem build_ok (h : Rel E w0 X Z a w s ρ N) {o : Oper} {T : TypeId} {ps : Array (Nat × Operand)} (ho : o.op = .build T ps) {obs : List Prop} {e : Eff}
    (he : aBuild E T (partsC s.get ps.toList) = some (obs, e)) : PureR E a o w N ρ s.obj e := by
  have hparts : (ps.map fun (p : Nat × Operand) => (p.1, a.eval p.2)).toList = ps.toList.map fun p => (p.1, a.eval p.2) := by simp
  unfold aBuild at he
  split at he
  · rename_i fs z l hu hz hl
    obtain ⟨i, v, hi, hv, hzr⟩ := zeroT_some hz
    split at he
    · rename_i pl hpl
      cases hf : fillC (fun i => pl[i]?) z l with
      | none => simp [hf] at he
      | some cs =>
        simp only [hf, Option.map_some, Option.some.injEq, Prod.mk.injEq] at he
        obtain ⟨_, rfl⟩ := he
        obtain ⟨cells', hfl, hr⟩ := fill_ok hf (partsC_ok h hl) (hzr w N ρ s.obj)
        refine ⟨.agg cells', ?_, ⟨cells'.toList, by simp, hr⟩, rfl⟩
        have hm := run_places (w := w) hpl
        have hm2 : (fs.mapM (m := Sem) fun f => do pure (f.offset, ← sizeOf f.type)).run E.P w = .ok pl.toArray w := by
          rw [Array.mapM_eq_mapM_toList]
          simp only [Sem.run_map, hm]
          rfl
        have hfl' : Instr.fill (fun i => pl.toArray[i]?) v.cells (ps.map fun (p : Nat × Operand) => (p.1, a.eval p.2)).toList = some cells' := by
          rw [hparts]
          simpa using hfl
        simp only [execOp, ho, Instr.build, Sem.run_bind, run_zeroT w hi hv, Result.andThen_ok, run_underlying hu]
        rw [hm2]
        simp only [Result.andThen_ok, hfl']
        rfl
    · cases he
  · rename_i len el z l hu hz hl
    obtain ⟨i, v, hi, hv, hzr⟩ := zeroT_some hz
    split at he
    · rename_i n hn
      cases hf : fillC (fun i => some (i * n, n)) z l with
      | none => simp [hf] at he
      | some cs =>
        simp only [hf, Option.map_some, Option.some.injEq, Prod.mk.injEq] at he
        obtain ⟨_, rfl⟩ := he
        obtain ⟨cells', hfl, hr⟩ := fill_ok hf (partsC_ok h hl) (hzr w N ρ s.obj)
        refine ⟨.agg cells', ?_, ⟨cells'.toList, by simp, hr⟩, rfl⟩
        have hfl' : Instr.fill (fun i => some (i * n, n)) v.cells (ps.map fun (p : Nat × Operand) => (p.1, a.eval p.2)).toList = some cells' := by
          rw [hparts]; exact hfl
        simp only [execOp, ho, Instr.build, Sem.run_bind, run_zeroT w hi hv, Result.andThen_ok, run_underlying hu, run_sizeT w hn, hfl']
        rfl
    · cases he
  · cases he

end
end Go.Proofs.Ytoalcmpjfnlkdaa
