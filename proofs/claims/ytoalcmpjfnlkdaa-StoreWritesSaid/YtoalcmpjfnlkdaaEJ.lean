/- THE MACHINE OF READINGS, part J: slices that are built, stores. -/
import Derived.Test.YtoalcmpjfnlkdaaEI
namespace Go.Proofs.Ytoalcmpjfnlkdaa
open Go.RowKit

def repV (z : List Value) : Nat → List Value
  | 0 => []
  | n + 1 => z ++ repV z n

theorem range_rep (zv : Array Value) : ∀ (len : Nat), (List.range (len * zv.size)).map (fun i => zv[i % zv.size]!) = repV zv.toList len
  | 0 => by simp [repV]
  | n + 1 => by
    rw [show (n + 1) * zv.size = zv.size + n * zv.size by rw [Nat.add_mul]; omega, List.range_add, List.map_append, repV, ← range_rep zv n]
    congr 1
    · apply List.ext_getElem?
      intro j
      by_cases hj : j < zv.size
      · simp [hj, Nat.mod_eq_of_lt hj]
      · simp [hj]
    · rw [List.map_map]
      apply List.map_congr_left
      intro i _
      simp

section
variable {E : Env} {w0 : World} {X Z : Blk} {a : Act} {w w' : World} {s : St} {ρ ρ' : Nat → Pl} {N N' : Blk} {m m' : Mem}

theorem repC_ok {z : List C} {zv : List Value} (h : All2 (CR w N ρ m) z zv) : ∀ n, All2 (CR w N ρ m) (repC z n) (repV zv n)
  | 0 => .nil
  | n + 1 => h.append (repC_ok h n)

theorem rowOf_ok {t : Ty} : ∀ {n : Nat} {cs : List C} {us : List Value} {xs : List t.den}, rowOf t n cs = some xs → All2 (CR w N ρ m) cs us →
    xs.length = n ∧ us.length = n * t.size ∧ ∀ (k : Nat) (h : k < xs.length), ∃ vs : List Value, Rd t w N vs xs[k] ∧ ∀ (j : Nat) (u : Value), vs[j]? = some u → us[k * t.size + j]? = some u
  | 0, cs, us, xs, he, h => by
    cases h with
    | nil =>
      simp only [rowOf, Option.some.injEq] at he
      subst he
      exact ⟨rfl, by simp, fun k hk => absurd hk (by simp)⟩
    | cons _ _ => simp [rowOf] at he
  | n + 1, cs, us, xs, he, h => by
    simp only [rowOf] at he
    split at he
    · rename_i x cs' e1
      cases hr : rowOf t n cs' with
      | none => simp [hr] at he
      | some ys =>
        simp only [hr, Option.map_some, Option.some.injEq] at he
        subst he
        obtain ⟨u1, u2, rfl, r1, h2⟩ := ofCells_rd e1 h
        obtain ⟨hl, hlen, hk⟩ := rowOf_ok hr h2
        have hu1 := r1.len
        refine ⟨by simp [hl], by rw [List.length_append, hu1, hlen, Nat.add_mul]; omega, fun k hk' => ?_⟩
        cases k with
        | zero => exact ⟨u1, r1, fun j u hj => by
            have : j < u1.length := (List.getElem?_eq_some_iff.1 hj).1
            simp only [Nat.zero_mul, Nat.zero_add]
            rw [List.getElem?_append_left this]; exact hj⟩
        | succ k =>
          obtain ⟨vs, h3, h4⟩ := hk k (by simp at hk'; omega)
          refine ⟨vs, by simpa using h3, fun j u hj => ?_⟩
          rw [List.getElem?_append_right (by rw [hu1, Nat.add_mul]; omega)]
          have e : (k + 1) * t.size + j - u1.length = k * t.size + j := by rw [hu1, Nat.add_mul]; omega
          rw [e]; exact h4 j u hj
    · cases he

theorem buildSlice_ok (h : Rel E w0 X Z a w s ρ N) (hm : ∀ id ob, m id = some ob → s.obj id = some ob) {o : Oper} (hd : ∀ d, o.dst = some d → d < a.tmps.size) {nx : Nat} (hf : Fresh s nx) {T : TypeId} {len : Nat} {ps : Array (Nat × Operand)} (ho : o.op = .buildSlice T len ps)
    {obs : List Prop} {e : Eff} (he : aBuildSlice E m nx T len (partsC s.get ps.toList) = some (obs, e)) : Good E w0 X Z a o w s ρ N e (· = nx) := by
  have hparts : (ps.map fun (p : Nat × Operand) => (p.1, a.eval p.2)).toList = ps.toList.map fun p => (p.1, a.eval p.2) := by simp
  unfold aBuildSlice at he
  split at he
  · rename_i el l hel hl
    split at he
    · rename_i z n hz hn
      split at he
      · rename_i hcond
        obtain ⟨hzn, htn, hn0, hlen0, hlim⟩ := hcond
        split at he
        · rename_i cs hfc
          cases hrow : rowOf (tyT E.P 8 el) len (roCells m cs) with
          | none => simp [hrow] at he
          | some xs =>
            simp only [hrow, Option.map_some, Option.some.injEq, Prod.mk.injEq] at he
            obtain ⟨_, rfl⟩ := he
            obtain ⟨i, zv, hi, hv, hzr⟩ := zeroT_some hz
            have hu : E.P.underlying T = some (.slice el) := by
              unfold elemT at hel
              split at hel
              · rename_i e' hu'; simp only [Option.some.injEq] at hel; subst hel; exact hu'
              · cases hel
            have hzsz : zv.cells.size = n := by have := (hzr w N ρ s.obj).len; simp at this; omega
            have hrep : ((Array.range (len * n)).map (fun i => zv.cells[i % zv.cells.size]!)).toList = repV zv.cells.toList len := by
              rw [← hzsz]; simpa using range_rep zv.cells len
            obtain ⟨cells', hfl, hcr⟩ := fill_ok hfc (partsC_ok h hl) (cells := (Array.range (len * n)).map (fun i => zv.cells[i % zv.cells.size]!)) (by rw [hrep]; exact repC_ok (hzr w N ρ s.obj) len)
            have hids : nx ∉ idsCs cs := by
              intro hin
              -- the cells come from the parts and from zero: none of them names nx
              have key : ∀ {place : Nat → Option (Nat × Nat)} {ps : List (Nat × List C)} {c0 r : List C}, fillC place c0 ps = some r → (∀ p ∈ ps, nx ∉ idsCs p.2) → nx ∉ idsCs c0 → nx ∉ idsCs r := by
                intro place ps
                induction ps with
                | nil => intro c0 r he _ h0; simp only [fillC, Option.some.injEq] at he; subst he; exact h0
                | cons p ps ih =>
                  intro c0 r he hp h0
                  obtain ⟨i, c⟩ := p
                  simp only [fillC] at he
                  split at he
                  · cases he
                  · split at he
                    · split at he
                      · rename_i c1 hput
                        obtain ⟨_, rfl⟩ := putAt_some hput
                        refine ih he (fun p hp' => hp p (by simp [hp'])) ?_
                        have h2 := hp (i, c) (by simp)
                        simp only [idsCs, List.flatMap_append, List.mem_append, not_or] at h0 h2 ⊢
                        refine ⟨⟨fun hx => h0 ?_, h2⟩, fun hx => h0 ?_⟩
                        · obtain ⟨c', hc', hi'⟩ := List.mem_flatMap.1 hx
                          exact List.mem_flatMap.2 ⟨c', List.mem_of_mem_take hc', hi'⟩
                        · obtain ⟨c', hc', hi'⟩ := List.mem_flatMap.1 hx
                          exact List.mem_flatMap.2 ⟨c', List.mem_of_mem_drop hc', hi'⟩
                      · cases he
                    · cases he
              have hpl : ∀ {qs : List (Nat × Operand)} {l : List (Nat × List C)}, partsC s.get qs = some l → ∀ p ∈ l, nx ∉ idsCs p.2 := by
                intro qs
                induction qs with
                | nil => intro l he p hp; simp only [partsC, Option.some.injEq] at he; subst he; cases hp
                | cons q qs ih =>
                  intro l he p hp
                  obtain ⟨i, x⟩ := q
                  simp only [partsC] at he
                  split at he
                  · rename_i b c l' hg hl'
                    simp only [Option.some.injEq] at he
                    subst he
                    rcases List.mem_cons.1 hp with rfl | hp
                    · have := fresh_get hf x; rw [hg] at this; exact this
                    · exact ih hl' p hp
                  · cases he
              have hz0 : nx ∉ idsCs (repC z len) := by
                have hzc : nx ∉ idsCs z := by
                  have hc : ∀ v : Value, idsC (cOfValue v) = [] := by
                    intro v; unfold cOfValue; split
                    · rfl
                    · rfl
                    · rfl
                    · rfl
                    · split <;> rfl
                    · rfl
                  unfold zeroT at hz
                  split at hz
                  · rename_i v' _
                    cases hall : v'.cells.toList.all (·.oneCell') with
                    | false => rw [hall] at hz; cases hz
                    | true =>
                      rw [hall] at hz
                      simp only [cond_true, Option.some.injEq] at hz
                      subst hz
                      simp [idsCs, hc]
                  · cases hz
                clear hrow hfc hrep hfl hcr hin hlim ho hlen0
                induction len with
                | zero => simp [repC, idsCs]
                | succ k ih =>
                  simp only [repC, idsCs, List.flatMap_append, List.mem_append, not_or] at ih ⊢
                  exact ⟨hzc, ih⟩
              exact key hfc (hpl hl) hz0 hin
            refine new_good (D := cs.flatMap hsC) (cap := len) (c := .hs nx) (v := .slice (some ⟨w.heap.size, 0, none⟩) len len) (w' := { w with heap := w.heap.push (.cells cells' el) }) h hd hf ?_ rfl rfl rfl rfl fun ρ' m' N' hρ ht hm' hN hG hs hgs => ?_
            · have hfl' : Instr.fill (fun i => some (i * n, n)) ((Array.range (len * n)).map (fun i => zv.cells[i % zv.cells.size]!)) (ps.map fun (p : Nat × Operand) => (p.1, a.eval p.2)).toList = some cells' := by
                rw [hparts]; exact hfl
              have hfin : ¬ (16777216 < len * n) := by omega
              obtain ⟨i2, hi2, hs2⟩ := sizeT_some hn
              rw [hi] at hi2
              simp only [Option.some.injEq] at hi2
              subst hi2
              have h0 : ¬ len * n = 0 := fun h0 => by rcases Nat.mul_eq_zero.1 h0 with h0 | h0 <;> omega
              simp only [execOp, ho, Instr.buildSlice, Sem.run_bind, run_underlying hu, Result.andThen_ok, run_sizeT w hn, gt_iff_lt, Nat.reducePow, if_neg hfin, if_neg h0, Sem.run_pure, run_zeroT w hi hv, hfl']
              rfl
            · have hp : ρ' nx = ⟨some ⟨w.heap.size, 0, none⟩, len⟩ := by rw [hρ, if_pos rfl]
              have hro : All2 (CR w N' ρ s.obj) (roCells m cs) cells'.toList := roCells_ok h.mr hcr hN hm fun b hb => hG b hb
              obtain ⟨hxl, hul, hk⟩ := rowOf_ok hrow hro
              refine ⟨⟨by rw [hp]; show xs.length ≤ len; omega, fun _ => ⟨w.heap.size, cells', el, by rw [hp], push_new rfl, by rw [hp]; simpa using hul, fun k hk' => ?_⟩⟩, ⟨_, _, _, rfl⟩, fun t ys hy => ?_⟩
              · obtain ⟨vs, h3, h4⟩ := hk k hk'
                exact ⟨vs, h3.mono (fun _ h => h) hgs, fun j u hj => by simpa using h4 j u hj⟩
              · rw [hm'] at hy
                simp only [Option.some.injEq, Obj.row.injEq] at hy
                obtain ⟨rfl, hy⟩ := hy
                have hy := eq_of_heq hy
                subst hy
                rw [hp, hxl]
        · cases he
      · cases he
    · cases he
  · cases he

theorem empty_ok (h : Rel E w0 X Z a w s ρ N) {o : Oper} (hd : ∀ d, o.dst = some d → d < a.tmps.size) {nx : Nat} (hf : Fresh s nx) {T : TypeId} {ps : Array (Nat × Operand)} (ho : o.op = .buildSlice T 0 ps)
    {obs : List Prop} {e : Eff} (he : aEmpty E nx T ps = some (obs, e)) : Good E w0 X Z a o w s ρ N e (· = nx) := by
  unfold aEmpty at he
  split at he
  · rename_i el hel hps
    split at he
    · rename_i n hn
      simp only [Option.some.injEq, Prod.mk.injEq] at he
      obtain ⟨_, rfl⟩ := he
      have hu : E.P.underlying T = some (.slice el) := by
        unfold elemT at hel
        split at hel
        · rename_i e' hu'; simp only [Option.some.injEq] at hel; subst hel; exact hu'
        · cases hel
      have hps' : ps = #[] := by cases ps; simpa using hps
      subst hps'
      refine new_good (D := []) (cap := 0) (c := .hs nx) (v := .slice (some ⟨w.heap.size, 0, none⟩) 0 0) (w' := { w with heap := w.heap.push (.cells #[] el) }) h hd hf ?_ rfl rfl rfl rfl fun ρ' m' N' hρ ht hm' hN hG hs hgs => ?_
      · simp only [execOp, ho, Instr.buildSlice, Sem.run_bind, run_underlying hu, Result.andThen_ok, run_sizeT w hn, Nat.zero_mul, gt_iff_lt, Nat.reducePow, Nat.not_lt_zero, if_false, if_true, Sem.run_pure]
        simp [Instr.fill, newRow]
        congr 2
        apply Array.ext'
        simp
      · have hp : ρ' nx = ⟨some ⟨w.heap.size, 0, none⟩, 0⟩ := by rw [hρ, if_pos rfl]
        refine ⟨⟨Nat.zero_le _, fun h0 => by rw [hp] at h0; exact absurd h0 (Nat.lt_irrefl _)⟩, ⟨_, _, _, rfl⟩, fun t ys hy => ?_⟩
        rw [hm'] at hy
        simp only [Option.some.injEq, Obj.row.injEq] at hy
        obtain ⟨rfl, hy⟩ := hy
        have hy := eq_of_heq hy
        subst hy
        rw [hp]
        rfl
    · cases he
  · cases he

end
end Go.Proofs.Ytoalcmpjfnlkdaa
