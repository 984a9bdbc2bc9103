/- THE MACHINE OF READINGS, part C: the relation of states; operations that only compute or read. -/
import Derived.Test.YtoalcmpjfnlkdaaEB
namespace Go.Proofs.Ytoalcmpjfnlkdaa
open Go.RowKit

/-- a variable of a package that nobody writes -/
def GlobR (w : World) (N : Blk) (g : Nat) (cs : List C) : Prop :=
  N g ∧ ∃ vals T fz, w.heap[g]? = some (.cells vals T fz) ∧ All2 (CR w N (fun _ => ⟨none, 0⟩) (fun _ => none)) cs vals.toList ∧ idsCs cs = []

structure Rel (E : Env) (w0 : World) (X Z : Blk) (a : Act) (w : World) (s : St) (ρ : Nat → Pl) (N : Blk) : Prop where
  slots : ∀ t sv, look s.slots t = some sv → SVR w N ρ s.obj sv (a.tmps.getD t undef)
  mr : MR w N ρ s.obj
  defers : a.defers = []
  since : Since w0 X w
  own : ∀ b, Own ρ s.obj b → X b ∨ w0.heap.size ≤ b
  glob : ∀ g cs, E.glob g = some cs → GlobR w N g cs
  nn : ∀ b, N b → Z b ∨ w0.heap.size ≤ b ∨ X b

section
variable {E : Env} {w0 : World} {X Z : Blk} {a : Act} {w : World} {s : St} {ρ : Nat → Pl} {N : Blk} {m : Mem}

theorem cOfValue_ok (v : Value) (h : v.oneCell' = true) : CR w N ρ m (cOfValue v) v := by
  generalize hc : cOfValue v = c
  unfold cOfValue at hc
  split at hc <;> subst hc
  · exact rfl
  · exact rfl
  · exact rfl
  · exact ⟨_, rfl⟩
  · rename_i f x y
    split
    · rename_i hx hy
      obtain rfl : x = #[] := by simpa using hx
      obtain rfl : y = #[] := by simpa using hy
      exact ⟨[], rfl, .nil⟩
    · exact h
  · exact h

theorem cOfValues_ok : ∀ (vs : List Value), vs.all (·.oneCell') = true → All2 (CR w N ρ m) (vs.map cOfValue) vs
  | [], _ => .nil
  | v :: vs, h => by
    simp only [List.all_cons, Bool.and_eq_true] at h
    exact .cons (cOfValue_ok v h.1) (cOfValues_ok vs h.2)

theorem svOfValue_ok (v : Value) : SVR w N ρ m (svOfValue v) v := by
  generalize hs : svOfValue v = sv
  unfold svOfValue at hs
  split at hs
  · rename_i cs
    cases h : cs.toList.all (·.oneCell') with
    | true => rw [h] at hs; subst hs; exact ⟨cs.toList, rfl, cOfValues_ok _ h⟩
    | false => rw [h] at hs; subst hs; trivial
  · rename_i vs
    subst hs
    split
    · rename_i hv
      obtain rfl : vs = #[] := by simpa using hv
      exact ⟨[], rfl, .nil⟩
    · trivial
  · rename_i h1 h3
    subst hs
    refine ⟨_, rfl, cOfValue_ok v ?_⟩
    cases v <;> first
      | rfl
      | exact absurd rfl (h1 _)
      | exact absurd rfl (h3 _)

theorem Rel.get (h : Rel E w0 X Z a w s ρ N) (x : Operand) : SVR w N ρ s.obj (s.get x) (a.eval x) := by
  cases x with
  | tmp t =>
    show SVR w N ρ s.obj ((look s.slots t).getD .un) (a.tmps.getD t undef)
    cases hl : look s.slots t with
    | none => trivial
    | some sv => exact h.slots t sv hl
  | const v => exact svOfValue_ok v
  | global g => exact ⟨_, rfl, rfl⟩
  | func f => exact ⟨_, rfl, [], rfl, .nil⟩

/-- cells of a datum -/
theorem Rd.cells : ∀ {t : Ty} {us : List Value} {x : t.den}, Rd t w N us x → All2 (CR w N ρ m) (cellsOf t x) us
  | .unit, _, _, h => by have h : _ = _ := h; subst h; exact .nil
  | .int _, _, _, h => by have h : _ = _ := h; subst h; exact .cons rfl .nil
  | .bool, _, _, h => by have h : _ = _ := h; subst h; exact .cons rfl .nil
  | .str, _, _, h => by have h : _ = _ := h; subst h; exact .cons rfl .nil
  | .sl _, _, _, h => by
    have h' := h
    obtain ⟨A, n, c, rfl, _⟩ := h'
    exact .cons h .nil
  | .pair _ _, _, _, h => by
    obtain ⟨v1, v2, rfl, h1, h2⟩ := h
    exact h1.cells.append h2.cells

/-- … and back: cells that are taken for a datum -/
theorem ofCells_rd : ∀ {t : Ty} {cs : List C} {us : List Value} {x : t.den} {r : List C}, ofCells t cs = some (x, r) → All2 (CR w N ρ m) cs us → ∃ u1 u2, us = u1 ++ u2 ∧ Rd t w N u1 x ∧ All2 (CR w N ρ m) r u2
  | .unit, cs, us, x, r, he, h => by
    simp only [ofCells, Option.some.injEq, Prod.mk.injEq] at he
    obtain ⟨_, rfl⟩ := he
    exact ⟨[], us, rfl, rfl, h⟩
  | .int k, cs, us, x, r, he, h => by
    cases h with
    | nil => simp [ofCells] at he
    | @cons c v cs' us' h1 h2 =>
      cases c <;> simp only [ofCells, reduceCtorEq] at he
      rename_i k' n
      split at he
      · rename_i hk; subst hk
        simp only [Option.some.injEq, Prod.mk.injEq] at he
        obtain ⟨rfl, rfl⟩ := he
        have h1 : _ = _ := h1
        subst h1
        exact ⟨[_], _, rfl, rfl, h2⟩
      · cases he
  | .bool, cs, us, x, r, he, h => by
    cases h with
    | nil => simp [ofCells] at he
    | @cons c v cs' us' h1 h2 =>
      cases c <;> simp only [ofCells, reduceCtorEq, Option.some.injEq, Prod.mk.injEq] at he
      obtain ⟨rfl, rfl⟩ := he
      have h1 : _ = _ := h1
      subst h1
      exact ⟨[_], _, rfl, rfl, h2⟩
  | .str, cs, us, x, r, he, h => by
    cases h with
    | nil => simp [ofCells] at he
    | @cons c v cs' us' h1 h2 =>
      cases c <;> simp only [ofCells, reduceCtorEq, Option.some.injEq, Prod.mk.injEq] at he
      obtain ⟨rfl, rfl⟩ := he
      have h1 : _ = _ := h1
      subst h1
      exact ⟨[_], _, rfl, rfl, h2⟩
  | .sl t, cs, us, x, r, he, h => by
    cases h with
    | nil => simp [ofCells] at he
    | @cons c v cs' us' h1 h2 =>
      cases c <;> simp only [ofCells, reduceCtorEq] at he
      · simp only [Option.some.injEq, Prod.mk.injEq] at he
        obtain ⟨rfl, rfl⟩ := he
        obtain ⟨A, rfl⟩ := h1
        exact ⟨[_], _, rfl, ⟨A, 0, 0, rfl, rfl, Nat.le_refl _, fun h => absurd h (by omega)⟩, h2⟩
      · rename_i t' xs
        split at he
        · rename_i ht; subst ht
          simp only [Option.some.injEq, Prod.mk.injEq] at he
          obtain ⟨rfl, rfl⟩ := he
          exact ⟨[v], _, rfl, h1, h2⟩
        · cases he
  | .pair ta tb, cs, us, x, r, he, h => by
    simp only [ofCells] at he
    split at he
    · cases he
    · rename_i x1 c1 e1
      split at he
      · cases he
      · rename_i x2 c2 e2
        simp only [Option.some.injEq, Prod.mk.injEq] at he
        obtain ⟨rfl, rfl⟩ := he
        obtain ⟨u1, u2, rfl, r1, h1⟩ := ofCells_rd e1 h
        obtain ⟨u3, u4, rfl, r2, h2⟩ := ofCells_rd e2 h1
        exact ⟨u1 ++ u3, u4, by simp, ⟨u1, u3, rfl, r1, r2⟩, h2⟩

theorem asD_rd {t : Ty} {cs : List C} {us : List Value} {x : t.den} (he : asD t cs = some x) (h : All2 (CR w N ρ m) cs us) : Rd t w N us x := by
  unfold asD at he
  split at he
  · rename_i y e
    simp only [Option.some.injEq] at he
    subst he
    obtain ⟨u1, u2, rfl, r1, h1⟩ := ofCells_rd e h
    cases h1
    simpa using r1
  · cases he

theorem sizeT_some {P : Program} {T : TypeId} {n : Nat} (h : sizeT P T = some n) : ∃ i, P.info? T = some i ∧ i.size = n := by
  unfold sizeT at h
  cases hi : P.info? T with
  | none => simp [hi] at h
  | some i => exact ⟨i, rfl, by simpa [hi] using h⟩

theorem run_sizeT {P : Program} {T : TypeId} {n : Nat} (w : World) (h : sizeT P T = some n) : (sizeOf T).run P w = .ok n w := by
  obtain ⟨i, hi, rfl⟩ := sizeT_some h
  simp [sizeOf, typeInfo, hi]

theorem run_isAggD {P : Program} {T : TypeId} {d : TypeDesc} (w : World) (h : P.underlying T = some d) : (isAgg T).run P w = .ok (isAggD d) w := by
  unfold isAgg
  simp only [Sem.run_bind, run_underlying h, Result.andThen_ok]
  cases d <;> rfl

theorem cut_some {cs vs : List C} {off n : Nat} (h : cut cs off n = some vs) : off + n ≤ cs.length ∧ vs = (cs.drop off).take n := by
  unfold cut at h
  split at h
  · rename_i hl; exact ⟨hl, by simpa using h.symm⟩
  · cases h

theorem addr_add (b o n : Nat) : (⟨b, o, none⟩ : Addr).add n = ⟨b, o + n, none⟩ := by unfold Addr.add; split <;> simp_all

/-- a load out of cells that are known -/
theorem load_part {T : TypeId} {cs : List C} {us : List Value} {b o off : Nat} {sv : SV} (hp : part E T cs off = some sv) (h : All2 (CR w N ρ m) cs us)
    (hc : ∀ (j : Nat) (u : Value), us[j]? = some u → w.cell? ⟨b, o + j, none⟩ = some u) : ∃ v, (loadVar T ⟨b, o + off, none⟩).run E.P w = .ok v w ∧ SVR w N ρ m sv v := by
  unfold part at hp
  split at hp
  · cases hp
  · rename_i d hd
    cases ha : isAggD d with
    | true =>
      simp only [ha, cond_true] at hp
      split at hp
      · rename_i n hn
        cases hcut : cut cs off n with
        | none => simp [hcut] at hp
        | some vs =>
          simp only [hcut, Option.map_some, Option.some.injEq] at hp
          subst hp
          obtain ⟨hl, rfl⟩ := cut_some hcut
          have hlen : ((us.drop off).take n).length = n := by
            have := h.len
            simp only [List.length_take, List.length_drop]; omega
          refine ⟨.agg ((us.drop off).take n).toArray, ?_, _, rfl, (h.drop off).take n⟩
          have hr := run_loadCells_list (P := E.P) w ⟨b, o + off, none⟩ ((us.drop off).take n) (fun j v hj => by
            rw [addr_add, Nat.add_assoc]
            refine hc _ _ ?_
            rw [List.getElem?_take] at hj
            split at hj
            · simpa using hj
            · cases hj)
          rw [hlen] at hr
          simp [loadVar, run_isAggD w hd, ha, run_sizeT w hn, hr]
      · cases hp
    | false =>
      simp only [ha, cond_false] at hp
      cases hg : cs[off]? with
      | none => simp [hg] at hp
      | some c =>
        simp only [hg, Option.map_some, Option.some.injEq] at hp
        subst hp
        obtain ⟨u, hu, hr⟩ := h.get off hg
        refine ⟨u, ?_, c, rfl, hr⟩
        have := hc off u hu
        simp [loadVar, run_isAggD w hd, ha, this]

/-- what an operation that only computes or reads comes to -/
def PureR (E : Env) (a : Act) (o : Oper) (w : World) (N : Blk) (ρ : Nat → Pl) (m : Mem) (e : Eff) : Prop :=
  ∃ v, (execOp a.eval o).run E.P w = .ok (.value v) w ∧ SVR w N ρ m e.res v ∧ e.upd = []

theorem vr1 {c : C} {v : Value} (h : SVR w N ρ m (.v false [c]) v) : CR w N ρ m c v := by
  obtain ⟨c', hc, h⟩ := h
  simp only [List.cons.injEq, and_true] at hc
  subst hc; exact h

theorem box_cells {id : Nat} {cs : List C} (h : ObjR w N ρ m id (.box cs)) : ∃ b, ∃ us : List Value, (ρ id).A = some ⟨b, 0, none⟩ ∧ All2 (CR w N ρ m) cs us ∧ ∀ (j : Nat) (u : Value), us[j]? = some u → w.cell? ⟨b, j, none⟩ = some u := by
  obtain ⟨b, vals, T, hA, hh, ha⟩ := h
  exact ⟨b, vals.toList, hA, ha, fun j u hj => by simp [World.cell?, hh]; simpa using hj⟩

theorem row_cells {id : Nat} {t : Ty} {xs : List t.den} (h : ObjR w N ρ m id (.row t xs)) {i : Nat} (hi : i < xs.length) : ∃ b, ∃ us : List Value, (ρ id).A = some ⟨b, 0, none⟩ ∧ Rd t w N us (pGet t xs i) ∧ ∀ (j : Nat) (u : Value), us[j]? = some u → w.cell? ⟨b, i * t.size + j, none⟩ = some u := by
  obtain ⟨hl, hr⟩ := h
  obtain ⟨b, vals, T, hA, hh, hs, hx⟩ := hr (by omega)
  obtain ⟨us, h1, h2⟩ := hx i hi
  refine ⟨b, us, hA, ?_, fun j u hj => by simp [World.cell?, hh]; exact h2 j u hj⟩
  have : pGet t xs i = xs[i] := by unfold pGet; simp [List.getD, hi]
  rw [this]; exact h1

theorem load_ok (h : Rel E w0 X Z a w s ρ N) (hm : ∀ id ob, m id = some ob → s.obj id = some ob) {o : Oper} {T : TypeId} {x : Operand} (ho : o.op = .load T x) {obs : List Prop} {e : Eff}
    (he : aLoad E m T (s.get x) = some (obs, e)) : PureR E a o w N ρ s.obj e := by
  have hx := h.get x
  have fin : ∀ {cs : List C} {us : List Value} {b o' off : Nat} {obs : List Prop}, a.eval x = .pointer (some ⟨b, o' + off, none⟩) → All2 (CR w N ρ s.obj) cs us →
      (∀ (j : Nat) (u : Value), us[j]? = some u → w.cell? ⟨b, o' + j, none⟩ = some u) → (part E T cs off).map (fun s => (([] : List Prop), (⟨s, []⟩ : Eff))) = some (obs, e) → PureR E a o w N ρ s.obj e := by
    intro cs us b o' off obs hev ha hc hp
    cases hq : part E T cs off with
    | none => simp [hq] at hp
    | some sv =>
      simp only [hq, Option.map_some, Option.some.injEq, Prod.mk.injEq] at hp
      obtain ⟨_, rfl⟩ := hp
      obtain ⟨v, hr, hv⟩ := load_part hq ha hc
      refine ⟨v, ?_, hv, rfl⟩
      simp [execOp, ho, Instr.loadAt, Instr.sureAddr, hev, hr]
  unfold aLoad at he
  split at he
  · rename_i id off hg
    split at he
    · rename_i cs hmem
      rw [hg] at hx
      obtain ⟨b, hA, hv⟩ := vr1 hx
      obtain ⟨b', us, hA', ha, hc⟩ := box_cells (h.mr.obj id _ (hm id _ hmem))
      rw [hA] at hA'
      simp only [Option.some.injEq, Addr.mk.injEq, and_true] at hA'
      subst hA'
      exact fin (b := b) (o' := 0) (off := off) (by simpa using hv) ha (by simpa using hc) he
    · cases he
  · rename_i t xs i off hg
    rw [hg] at hx
    obtain ⟨b, o', hv, _, hi, us, hr, hc⟩ := vr1 hx
    exact fin hv (Rd.cells hr) hc he
  · rename_i id i off hg
    split at he
    · rename_i t xs hmem
      rw [hg] at hx
      have hso := hm id _ hmem
      obtain ⟨hi, b, hA, hv⟩ := (vr1 hx).2 t xs hso
      obtain ⟨b', us, hA', hr, hc⟩ := row_cells (h.mr.obj id _ hso) hi
      rw [hA] at hA'
      simp only [Option.some.injEq, Addr.mk.injEq, and_true] at hA'
      subst hA'
      exact fin hv (Rd.cells hr) hc he
    · cases he
  · rename_i g off hg
    split at he
    · rename_i cs hgl
      rw [hg] at hx
      have hv : _ = _ := vr1 hx
      obtain ⟨_, vals, T', fz, hh, ha, hids⟩ := h.glob g cs hgl
      have ha' : All2 (CR w N ρ s.obj) cs vals.toList := ha.turn (F := fun _ => True) ⟨fun id hid => absurd trivial hid, fun id _ _ hid => absurd trivial hid⟩ (fun _ h => h) (fun _ _ => rfl) (by rw [hids]; simp)
      exact fin (b := g) (o' := 0) (off := off) (by simpa using hv) ha' (fun j u hj => by simp [World.cell?, hh]; simpa using hj) he
    · cases he
  · cases he

end
end Go.Proofs.Ytoalcmpjfnlkdaa
