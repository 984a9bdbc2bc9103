/- THE MACHINE OF READINGS, texts EI to EQ as one. -/
import Derived.Test.YtkhnakdmkhidbaaDoorM1
import Derived.Laws.BytesArg
import Derived.Laws.MakeOwn
import Derived.Lib.AppendZerosOnto
/- THE MACHINE OF READINGS, part I: operations that make or turn objects. -/
namespace Go.Proofs.YtkhnakdmkhidbaaDoor
open Go.RowKit

section
variable {E : Env} {w0 : World} {X Z : Blk} {a : Act} {w w' : World} {s : St} {ρ ρ' : Nat → Pl} {N N' : Blk} {m m' : Mem}

/-- what an operation that is no call comes to -/
def Good (E : Env) (w0 : World) (X Z : Blk) (a : Act) (o : Oper) (w : World) (s : St) (ρ : Nat → Pl) (N : Blk) (e : Eff) (F : Nat → Prop) : Prop :=
  ∃ v w' ρ' N', ((execOp a.eval o).run E.P w = .ok (.value v) w' ∨ ((execOp a.eval o).run E.P w = .ok .skip w' ∧ v = undef)) ∧ (∀ id, ¬ F id → ρ' id = ρ id) ∧
    (∀ b, N b → N' b) ∧ SameOn N w w' ∧ Rel E w0 X Z (a.put o.dst v) w' (s.put o.dst e) ρ' N'

theorem PureR.good {o : Oper} {e : Eff} (hp : PureR E a o w N ρ s.obj e) (h : Rel E w0 X Z a w s ρ N) (hd : ∀ d, o.dst = some d → d < a.tmps.size) (F : Nat → Prop) : Good E w0 X Z a o w s ρ N e F := by
  obtain ⟨v, hr, hv, hu⟩ := hp
  exact ⟨v, w, ρ, N, .inl hr, fun _ _ => rfl, fun _ h => h, fun _ _ => rfl, h.pure hd hu hv⟩

theorem push_old {w' : World} {ob : Go.Obj} (hw : w'.heap = w.heap.push ob) {b : Nat} (hb : b < w.heap.size) : w'.heap[b]? = w.heap[b]? := by
  rw [hw, Array.getElem?_push, if_neg (by omega)]
theorem push_new {w' : World} {ob : Go.Obj} (hw : w'.heap = w.heap.push ob) : w'.heap[w.heap.size]? = some ob := by
  rw [hw, Array.getElem?_push, if_pos rfl]

theorem own_lt (h : MR w N ρ m) {b : Nat} (ho : Own ρ m b) : b < w.heap.size := by
  obtain ⟨id, o, hm, hh, hA⟩ := ho
  cases o with
  | box cs =>
    obtain ⟨b', vals, T, hA', he, _⟩ := h.obj id _ hm
    rw [hA] at hA'
    simp only [Option.some.injEq, Addr.mk.injEq, and_true] at hA'
    subst hA'
    exact (Array.getElem?_eq_some_iff.1 he).1
  | row t xs =>
    obtain ⟨_, hr⟩ := h.obj id _ hm
    obtain ⟨b', vals, T, hA', he, _⟩ := hr hh
    rw [hA] at hA'
    simp only [Option.some.injEq, Addr.mk.injEq, and_true] at hA'
    subst hA'
    exact (Array.getElem?_eq_some_iff.1 he).1

/-- The relation of objects behind a new one, where some rows are let go. -/
theorem MR.new (h : MR w N ρ m) {nx cap : Nat} {o : Obj} {D : List Nat} {ob : Go.Obj} (hw : w'.heap = w.heap.push ob) (hnx : m nx = none) (hnm : ∀ id o', m id = some o' → nx ∉ idsO o')
    (hm' : ∀ id, m' id = if id = nx then some o else if id ∈ D then none else m id) (hρ' : ∀ id, ρ' id = if id = nx then ⟨some ⟨w.heap.size, 0, none⟩, cap⟩ else ρ id)
    (hN' : ∀ b, N' b ↔ N b ∨ Gone ρ m D b) (hobj : ObjR w' N' ρ' m' nx o) :
    Turn ρ m ρ' m' (· = nx) ∧ (∀ b, N b → N' b) ∧ SameOn N w w' ∧ MR w' N' ρ' m' ∧ ∀ b, Own ρ' m' b → Own ρ m b ∨ w.heap.size ≤ b := by
  have ht : Turn ρ m ρ' m' (· = nx) := by
    refine ⟨fun id hid => by rw [hρ', if_neg hid], fun id t xs hid hm => ?_⟩
    rw [hm', if_neg hid] at hm
    split at hm
    · cases hm
    · exact ⟨xs, hm, rfl⟩
  have hN : ∀ b, N b → N' b := fun b hb => (hN' b).2 (.inl hb)
  have hs : SameOn N w w' := fun b hb => push_old hw (h.nlt b hb)
  have old : ∀ id o', m' id = some o' → id ≠ nx → m id = some o' ∧ id ∉ D := by
    intro id o' hm hid
    rw [hm', if_neg hid] at hm
    split at hm
    · cases hm
    · rename_i hd; exact ⟨hm, hd⟩
  have hsz : w.heap.size < w'.heap.size := by rw [hw, Array.size_push]; omega
  refine ⟨ht, hN, hs, ⟨fun id o' hm => ?_, fun id id' o1 o2 hm1 hm2 hh1 hh2 hA => ?_, fun b hb ho => ?_, fun b hb => ?_⟩, fun b ho => ?_⟩
  · by_cases hid : id = nx
    · subst hid
      have := hm' id
      rw [if_pos rfl, hm] at this
      simp only [Option.some.injEq] at this
      subst this
      exact hobj
    · obtain ⟨hmo, _⟩ := old id o' hm hid
      exact (h.obj id o' hmo).turn ht hN hs hid (fun i hi hc => hnm id o' hmo (hc ▸ hi)) fun b hA hh => push_old hw (own_lt h ⟨id, o', hmo, hh, hA⟩)
  · rw [hρ', hρ'] at hA
    by_cases h1 : id = nx <;> by_cases h2 : id' = nx
    · rw [h1, h2]
    · exfalso
      rw [if_pos h1, if_neg h2] at hA
      have hl := own_lt h ⟨id', o2, (old id' o2 hm2 h2).1, (by rw [hρ', if_neg h2] at hh2; exact hh2), hA.symm⟩
      omega
    · exfalso
      rw [if_neg h1, if_pos h2] at hA
      have hl := own_lt h ⟨id, o1, (old id o1 hm1 h1).1, (by rw [hρ', if_neg h1] at hh1; exact hh1), hA⟩
      omega
    · rw [if_neg h1, if_neg h2] at hA
      rw [hρ', if_neg h1] at hh1
      rw [hρ', if_neg h2] at hh2
      exact h.inj id id' o1 o2 (old id o1 hm1 h1).1 (old id' o2 hm2 h2).1 hh1 hh2 hA
  · obtain ⟨id, o', hm, hh, hA⟩ := ho
    by_cases hid : id = nx
    · rw [hρ', if_pos hid] at hA
      simp only [Option.some.injEq, Addr.mk.injEq, and_true] at hA
      subst hA
      rcases (hN' _).1 hb with hb | hb
      · exact absurd (h.nlt _ hb) (by omega)
      · exact absurd (gone_lt h hb) (by omega)
    · obtain ⟨hmo, hd⟩ := old id o' hm hid
      rw [hρ', if_neg hid] at hA hh
      rcases (hN' _).1 hb with hb | ⟨id2, hd2, t, xs, hm2, hc2, hA2⟩
      · exact h.nown b hb ⟨id, o', hmo, hh, hA⟩
      · have := h.inj id id2 o' _ hmo hm2 hh hc2 (by rw [hA, hA2])
        subst this
        exact hd hd2
  · rcases (hN' _).1 hb with hb | hb
    · exact Nat.lt_trans (h.nlt _ hb) hsz
    · exact Nat.lt_trans (gone_lt h hb) hsz
  · obtain ⟨id, o', hm, hh, hA⟩ := ho
    by_cases hid : id = nx
    · rw [hρ', if_pos hid] at hA
      simp only [Option.some.injEq, Addr.mk.injEq, and_true] at hA
      exact .inr (by omega)
    · rw [hρ', if_neg hid] at hA hh
      exact .inl ⟨id, o', (old id o' hm hid).1, hh, hA⟩

theorem Since.push (h : Since w0 X w) {ob : Go.Obj} (hw : w'.heap = w.heap.push ob) (h1 : w'.os = w.os) (h2 : w'.tape = w.tape) (h3 : w'.output = w.output) : Since w0 X w' := by
  refine ⟨h1.trans h.os, h2.trans h.tape, h3.trans h.output, ?_, fun b hb hx => (push_old hw (by have := h.size; omega)).trans (h.keep b hb hx)⟩
  rw [hw, Array.size_push]
  have := h.size
  omega

theorem look_dead (D : List Nat) (id : Nat) : look (D.map fun i => (i, (none : Option Obj))) id = if id ∈ D then some none else none := by
  induction D with
  | nil => rfl
  | cons d D ih =>
    rw [List.map_cons, look_cons, ih]
    by_cases h : d = id
    · subst h; simp
    · have : id ≠ d := fun e => h e.symm
      simp [h, this]

theorem obj_new {dst : Option Tmp} {r : SV} {nx : Nat} {o : Obj} {D : List Nat} (id : Nat) : (s.put dst ⟨r, (nx, some o) :: D.map fun i => (i, none)⟩).obj id = if id = nx then some o else if id ∈ D then none else s.obj id := by
  rw [St.obj_put]
  simp only
  rw [look_cons, look_dead]
  by_cases h : nx = id
  · subst h; simp
  · have h' : ¬ id = nx := fun e => h e.symm
    by_cases h2 : id ∈ D
    · simp [h, h', h2]
    · simp [h, h', h2]

/-- a new object -/
theorem new_good (h : Rel E w0 X Z a w s ρ N) {o : Oper} (hd : ∀ d, o.dst = some d → d < a.tmps.size) {nx cap : Nat} (hf : Fresh s nx) {ob : Obj} {D : List Nat} {gob : Go.Obj} {c : C} {v : Value}
    (hr : (execOp a.eval o).run E.P w = .ok (.value v) w') (hw : w'.heap = w.heap.push gob) (h1 : w'.os = w.os) (h2 : w'.tape = w.tape) (h3 : w'.output = w.output)
    (hobj : ∀ ρ' m' N', (∀ id, ρ' id = if id = nx then ⟨some ⟨w.heap.size, 0, none⟩, cap⟩ else ρ id) → Turn ρ s.obj ρ' m' (· = nx) → m' nx = some ob → (∀ b, N b → N' b) → (∀ b, Gone ρ s.obj D b → N' b) → SameOn N w w' → SameOn N' w w' →
      ObjR w' N' ρ' m' nx ob ∧ CR w' N' ρ' m' c v) :
    Good E w0 X Z a o w s ρ N ⟨one c, (nx, some ob) :: D.map fun i => (i, none)⟩ (· = nx) := by
  let ρ' : Nat → Pl := fun id => if id = nx then ⟨some ⟨w.heap.size, 0, none⟩, cap⟩ else ρ id
  let N' : Blk := fun b => N b ∨ Gone ρ s.obj D b
  have hm' := fun id => obj_new (s := s) (dst := o.dst) (r := one c) (nx := nx) (o := ob) (D := D) id
  have ht : Turn ρ s.obj ρ' (s.put o.dst ⟨one c, (nx, some ob) :: D.map fun i => (i, none)⟩).obj (· = nx) := by
    refine ⟨fun id hid => by simp only [ρ', if_neg hid], fun id t xs hid hm => ?_⟩
    rw [hm', if_neg hid] at hm
    split at hm
    · cases hm
    · exact ⟨xs, hm, rfl⟩
  have hs : SameOn N w w' := fun b hb => push_old hw (h.mr.nlt b hb)
  have hob := hobj ρ' _ N' (fun _ => rfl) ht (by rw [hm', if_pos rfl]) (fun b hb => Or.inl hb) (fun b hb => Or.inr hb) hs (fun b hb => push_old hw (hb.elim (h.mr.nlt b) (gone_lt h.mr)))
  obtain ⟨_, hN, _, hmr, hown⟩ := h.mr.new hw hf.2.2 hf.2.1 hm' (fun _ => rfl) (fun _ => Iff.rfl) hob.1
  refine ⟨v, w', ρ', N', .inl hr, fun id hid => by simp only [ρ', if_neg hid], hN, hs, h.put hd (fun id hid => by have hid : id = nx := hid; subst hid; exact hf) ht hN hs ⟨c, rfl, hob.2⟩ hmr (h.since.push hw h1 h2 h3) (fun b hb => ?_) h.nn'⟩
  rcases hown b hb with hb | hb
  · exact h.own b hb
  · exact .inr (by have := h.since.size; omega)

theorem alloc_ok (h : Rel E w0 X Z a w s ρ N) {o : Oper} (hd : ∀ d, o.dst = some d → d < a.tmps.size) {nx : Nat} (hf : Fresh s nx) {T : TypeId} (ho : o.op = .alloc T) {cs : List C} (hz : zeroT E.P T = some cs) :
    Good E w0 X Z a o w s ρ N ⟨one (.pt nx 0), [(nx, some (.box cs))]⟩ (· = nx) := by
  obtain ⟨i, z, hi, hv, hzr⟩ := zeroT_some hz
  refine new_good (D := []) (cap := 0) (c := .pt nx 0) (v := .pointer (some ⟨w.heap.size, 0, none⟩)) (w' := { w with heap := w.heap.push (.cells z.cells T) }) h hd hf ?_ rfl rfl rfl rfl fun ρ' m' N' hρ ht hm hN hG hs _ => ?_
  · simp [execOp, ho, Instr.alloc, run_zeroT w hi hv, newVar, newRow]
  · have hp : ρ' nx = ⟨some ⟨w.heap.size, 0, none⟩, 0⟩ := by rw [hρ, if_pos rfl]
    exact ⟨⟨w.heap.size, z.cells, T, by rw [hp], push_new rfl, hzr _ _ _ _⟩, ⟨w.heap.size, by rw [hp], rfl⟩⟩

theorem fresh_get {nx : Nat} (hf : Fresh s nx) (x : Operand) : nx ∉ idsS (s.get x) := by
  cases x with
  | tmp t =>
    show nx ∉ idsS ((look s.slots t).getD .un)
    cases hl : look s.slots t with
    | none => simp [idsS]
    | some sv => exact hf.1 t sv hl
  | const v =>
    have hc : ∀ v : Value, idsC (cOfValue v) = [] := by
      intro v
      unfold cOfValue
      split
      · rfl
      · rfl
      · rfl
      · rfl
      · split <;> rfl
      · rfl
    show nx ∉ idsS (svOfValue v)
    unfold svOfValue
    split
    · rename_i cs
      cases cs.toList.all (·.oneCell') with
      | true => simp [idsS, idsCs, hc]
      | false => simp [idsS]
    · split <;> simp [idsS]
    · simp [idsS, idsCs, hc]
  | global g => simp [St.get, one, idsS, idsCs, idsC]
  | func f => simp [St.get, one, idsS, idsCs, idsC]

theorem box_ok (h : Rel E w0 X Z a w s ρ N) {o : Oper} (hd : ∀ d, o.dst = some d → d < a.tmps.size) {nx : Nat} (hf : Fresh s nx) {T : TypeId} {x : Operand} (ho : o.op = .box T x) {b : Bool} {cs : List C} (hg : s.get x = .v b cs) :
    Good E w0 X Z a o w s ρ N ⟨one (.pt nx 0), [(nx, some (.box cs))]⟩ (· = nx) := by
  have hx := h.get x
  have hx' : nx ∉ idsCs cs := by have := fresh_get hf x; rw [hg] at this; exact this
  rw [hg] at hx
  have hc := VR.cells hx
  refine new_good (D := []) (cap := 0) (c := .pt nx 0) (v := .pointer (some ⟨w.heap.size, 0, none⟩)) (w' := { w with heap := w.heap.push (.cells (a.eval x).cells T) }) h hd hf ?_ rfl rfl rfl rfl fun ρ' m' N' hρ ht hm hN hG hs _ => ?_
  · simp [execOp, ho, Instr.box, newVar, newRow]
  · have hp : ρ' nx = ⟨some ⟨w.heap.size, 0, none⟩, 0⟩ := by rw [hρ, if_pos rfl]
    exact ⟨⟨w.heap.size, (a.eval x).cells, T, by rw [hp], push_new rfl, hc.turn ht hN hs fun id hid e => hx' (e ▸ hid)⟩, ⟨w.heap.size, by rw [hp], rfl⟩⟩

end
end Go.Proofs.YtkhnakdmkhidbaaDoor

/- THE MACHINE OF READINGS, part J: slices that are built, stores. -/
namespace Go.Proofs.YtkhnakdmkhidbaaDoor
open Go.RowKit

def repV (z : List Value) : Nat → List Value
  | 0 => []
  | n + 1 => z ++ repV z n

theorem range_rep (zv : Array Value) : ∀ (len : Nat), (List.range (len * zv.size)).map (fun i => zv[i % zv.size]!) = repV zv.toList len
  | 0 => by simp [repV]
  | n + 1 => by
    rw [show (n + 1) * zv.size = zv.size + n * zv.size by rw [Nat.add_mul]; omega, List.range_add, List.map_append, repV, ← range_rep zv n]
    congr 1
    · apply List.ext_getElem?
      intro j
      by_cases hj : j < zv.size
      · simp [hj, Nat.mod_eq_of_lt hj]
      · simp [hj]
    · rw [List.map_map]
      apply List.map_congr_left
      intro i _
      simp

section
variable {E : Env} {w0 : World} {X Z : Blk} {a : Act} {w w' : World} {s : St} {ρ ρ' : Nat → Pl} {N N' : Blk} {m m' : Mem}

theorem repC_ok {z : List C} {zv : List Value} (h : All2 (CR w N ρ m) z zv) : ∀ n, All2 (CR w N ρ m) (repC z n) (repV zv n)
  | 0 => .nil
  | n + 1 => h.append (repC_ok h n)

theorem rowOf_ok {t : Ty} : ∀ {n : Nat} {cs : List C} {us : List Value} {xs : List t.den}, rowOf t n cs = some xs → All2 (CR w N ρ m) cs us →
    xs.length = n ∧ us.length = n * t.size ∧ ∀ (k : Nat) (h : k < xs.length), ∃ vs : List Value, Rd t w N vs xs[k] ∧ ∀ (j : Nat) (u : Value), vs[j]? = some u → us[k * t.size + j]? = some u
  | 0, cs, us, xs, he, h => by
    cases h with
    | nil =>
      simp only [rowOf, Option.some.injEq] at he
      subst he
      exact ⟨rfl, by simp, fun k hk => absurd hk (by simp)⟩
    | cons _ _ => simp [rowOf] at he
  | n + 1, cs, us, xs, he, h => by
    simp only [rowOf] at he
    split at he
    · rename_i x cs' e1
      cases hr : rowOf t n cs' with
      | none => simp [hr] at he
      | some ys =>
        simp only [hr, Option.map_some, Option.some.injEq] at he
        subst he
        obtain ⟨u1, u2, rfl, r1, h2⟩ := ofCells_rd e1 h
        obtain ⟨hl, hlen, hk⟩ := rowOf_ok hr h2
        have hu1 := r1.len
        refine ⟨by simp [hl], by rw [List.length_append, hu1, hlen, Nat.add_mul]; omega, fun k hk' => ?_⟩
        cases k with
        | zero => exact ⟨u1, r1, fun j u hj => by
            have : j < u1.length := (List.getElem?_eq_some_iff.1 hj).1
            simp only [Nat.zero_mul, Nat.zero_add]
            rw [List.getElem?_append_left this]; exact hj⟩
        | succ k =>
          obtain ⟨vs, h3, h4⟩ := hk k (by simp at hk'; omega)
          refine ⟨vs, by simpa using h3, fun j u hj => ?_⟩
          rw [List.getElem?_append_right (by rw [hu1, Nat.add_mul]; omega)]
          have e : (k + 1) * t.size + j - u1.length = k * t.size + j := by rw [hu1, Nat.add_mul]; omega
          rw [e]; exact h4 j u hj
    · cases he

theorem buildSlice_ok (h : Rel E w0 X Z a w s ρ N) (hm : ∀ id ob, m id = some ob → s.obj id = some ob) {o : Oper} (hd : ∀ d, o.dst = some d → d < a.tmps.size) {nx : Nat} (hf : Fresh s nx) {T : TypeId} {len : Nat} {ps : Array (Nat × Operand)} (ho : o.op = .buildSlice T len ps)
    {obs : List Prop} {e : Eff} (he : aBuildSlice E m nx T len (partsC s.get ps.toList) = some (obs, e)) : Good E w0 X Z a o w s ρ N e (· = nx) := by
  have hparts : (ps.map fun (p : Nat × Operand) => (p.1, a.eval p.2)).toList = ps.toList.map fun p => (p.1, a.eval p.2) := by simp
  unfold aBuildSlice at he
  split at he
  · rename_i el l hel hl
    split at he
    · rename_i z n hz hn
      split at he
      · rename_i hcond
        obtain ⟨hzn, htn, hn0, hlen0, hlim⟩ := hcond
        split at he
        · rename_i cs hfc
          cases hrow : rowOf (tyT E.P 8 el) len (roCells m cs) with
          | none => simp [hrow] at he
          | some xs =>
            simp only [hrow, Option.map_some, Option.some.injEq, Prod.mk.injEq] at he
            obtain ⟨_, rfl⟩ := he
            obtain ⟨i, zv, hi, hv, hzr⟩ := zeroT_some hz
            have hu : E.P.underlying T = some (.slice el) := by
              unfold elemT at hel
              split at hel
              · rename_i e' hu'; simp only [Option.some.injEq] at hel; subst hel; exact hu'
              · cases hel
            have hzsz : zv.cells.size = n := by have := (hzr w N ρ s.obj).len; simp at this; omega
            have hrep : ((Array.range (len * n)).map (fun i => zv.cells[i % zv.cells.size]!)).toList = repV zv.cells.toList len := by
              rw [← hzsz]; simpa using range_rep zv.cells len
            obtain ⟨cells', hfl, hcr⟩ := fill_ok hfc (partsC_ok h hl) (cells := (Array.range (len * n)).map (fun i => zv.cells[i % zv.cells.size]!)) (by rw [hrep]; exact repC_ok (hzr w N ρ s.obj) len)
            have hids : nx ∉ idsCs cs := by
              intro hin
              -- the cells come from the parts and from zero: none of them names nx
              have key : ∀ {place : Nat → Option (Nat × Nat)} {ps : List (Nat × List C)} {c0 r : List C}, fillC place c0 ps = some r → (∀ p ∈ ps, nx ∉ idsCs p.2) → nx ∉ idsCs c0 → nx ∉ idsCs r := by
                intro place ps
                induction ps with
                | nil => intro c0 r he _ h0; simp only [fillC, Option.some.injEq] at he; subst he; exact h0
                | cons p ps ih =>
                  intro c0 r he hp h0
                  obtain ⟨i, c⟩ := p
                  simp only [fillC] at he
                  split at he
                  · cases he
                  · split at he
                    · split at he
                      · rename_i c1 hput
                        obtain ⟨_, rfl⟩ := putAt_some hput
                        refine ih he (fun p hp' => hp p (by simp [hp'])) ?_
                        have h2 := hp (i, c) (by simp)
                        simp only [idsCs, List.flatMap_append, List.mem_append, not_or] at h0 h2 ⊢
                        refine ⟨⟨fun hx => h0 ?_, h2⟩, fun hx => h0 ?_⟩
                        · obtain ⟨c', hc', hi'⟩ := List.mem_flatMap.1 hx
                          exact List.mem_flatMap.2 ⟨c', List.mem_of_mem_take hc', hi'⟩
                        · obtain ⟨c', hc', hi'⟩ := List.mem_flatMap.1 hx
                          exact List.mem_flatMap.2 ⟨c', List.mem_of_mem_drop hc', hi'⟩
                      · cases he
                    · cases he
              have hpl : ∀ {qs : List (Nat × Operand)} {l : List (Nat × List C)}, partsC s.get qs = some l → ∀ p ∈ l, nx ∉ idsCs p.2 := by
                intro qs
                induction qs with
                | nil => intro l he p hp; simp only [partsC, Option.some.injEq] at he; subst he; cases hp
                | cons q qs ih =>
                  intro l he p hp
                  obtain ⟨i, x⟩ := q
                  simp only [partsC] at he
                  split at he
                  · rename_i b c l' hg hl'
                    simp only [Option.some.injEq] at he
                    subst he
                    rcases List.mem_cons.1 hp with rfl | hp
                    · have := fresh_get hf x; rw [hg] at this; exact this
                    · exact ih hl' p hp
                  · cases he
              have hz0 : nx ∉ idsCs (repC z len) := by
                have hzc : nx ∉ idsCs z := by
                  have hc : ∀ v : Value, idsC (cOfValue v) = [] := by
                    intro v; unfold cOfValue; split
                    · rfl
                    · rfl
                    · rfl
                    · rfl
                    · split <;> rfl
                    · rfl
                  unfold zeroT at hz
                  split at hz
                  · rename_i v' _
                    cases hall : v'.cells.toList.all (·.oneCell') with
                    | false => rw [hall] at hz; cases hz
                    | true =>
                      rw [hall] at hz
                      simp only [cond_true, Option.some.injEq] at hz
                      subst hz
                      simp [idsCs, hc]
                  · cases hz
                clear hrow hfc hrep hfl hcr hin hlim ho hlen0
                induction len with
                | zero => simp [repC, idsCs]
                | succ k ih =>
                  simp only [repC, idsCs, List.flatMap_append, List.mem_append, not_or] at ih ⊢
                  exact ⟨hzc, ih⟩
              exact key hfc (hpl hl) hz0 hin
            refine new_good (D := cs.flatMap hsC) (cap := len) (c := .hs nx) (v := .slice (some ⟨w.heap.size, 0, none⟩) len len) (w' := { w with heap := w.heap.push (.cells cells' el) }) h hd hf ?_ rfl rfl rfl rfl fun ρ' m' N' hρ ht hm' hN hG hs hgs => ?_
            · have hfl' : Instr.fill (fun i => some (i * n, n)) ((Array.range (len * n)).map (fun i => zv.cells[i % zv.cells.size]!)) (ps.map fun (p : Nat × Operand) => (p.1, a.eval p.2)).toList = some cells' := by
                rw [hparts]; exact hfl
              have hfin : ¬ (16777216 < len * n) := by omega
              obtain ⟨i2, hi2, hs2⟩ := sizeT_some hn
              rw [hi] at hi2
              simp only [Option.some.injEq] at hi2
              subst hi2
              have h0 : ¬ len * n = 0 := fun h0 => by rcases Nat.mul_eq_zero.1 h0 with h0 | h0 <;> omega
              simp only [execOp, ho, Instr.buildSlice, Sem.run_bind, run_underlying hu, Result.andThen_ok, run_sizeT w hn, gt_iff_lt, Nat.reducePow, if_neg hfin, if_neg h0, Sem.run_pure, run_zeroT w hi hv, hfl']
              rfl
            · have hp : ρ' nx = ⟨some ⟨w.heap.size, 0, none⟩, len⟩ := by rw [hρ, if_pos rfl]
              have hro : All2 (CR w N' ρ s.obj) (roCells m cs) cells'.toList := roCells_ok h.mr hcr hN hm fun b hb => hG b hb
              obtain ⟨hxl, hul, hk⟩ := rowOf_ok hrow hro
              refine ⟨⟨by rw [hp]; exact ⟨by show xs.length ≤ len; omega, Nat.le_trans (Nat.le_mul_of_pos_right len (show 0 < n by omega)) (by omega)⟩, fun _ => ⟨w.heap.size, cells', el, by rw [hp], push_new rfl, by rw [hp]; simpa using hul, fun k hk' => ?_⟩⟩, ⟨_, _, _, rfl⟩, fun t ys hy => ?_⟩
              · obtain ⟨vs, h3, h4⟩ := hk k hk'
                exact ⟨vs, h3.mono (fun _ h => h) hgs, fun j u hj => by simpa using h4 j u hj⟩
              · rw [hm'] at hy
                simp only [Option.some.injEq, Obj.row.injEq] at hy
                obtain ⟨rfl, hy⟩ := hy
                have hy := eq_of_heq hy
                subst hy
                rw [hp, hxl]
        · cases he
      · cases he
    · cases he
  · cases he

theorem empty_ok (h : Rel E w0 X Z a w s ρ N) {o : Oper} (hd : ∀ d, o.dst = some d → d < a.tmps.size) {nx : Nat} (hf : Fresh s nx) {T : TypeId} {ps : Array (Nat × Operand)} (ho : o.op = .buildSlice T 0 ps)
    {obs : List Prop} {e : Eff} (he : aEmpty E nx T ps = some (obs, e)) : Good E w0 X Z a o w s ρ N e (· = nx) := by
  unfold aEmpty at he
  split at he
  · rename_i el hel hps
    split at he
    · rename_i n hn
      simp only [Option.some.injEq, Prod.mk.injEq] at he
      obtain ⟨_, rfl⟩ := he
      have hu : E.P.underlying T = some (.slice el) := by
        unfold elemT at hel
        split at hel
        · rename_i e' hu'; simp only [Option.some.injEq] at hel; subst hel; exact hu'
        · cases hel
      have hps' : ps = #[] := by cases ps; simpa using hps
      subst hps'
      refine new_good (D := []) (cap := 0) (c := .hs nx) (v := .slice (some ⟨w.heap.size, 0, none⟩) 0 0) (w' := { w with heap := w.heap.push (.cells #[] el) }) h hd hf ?_ rfl rfl rfl rfl fun ρ' m' N' hρ ht hm' hN hG hs hgs => ?_
      · simp only [execOp, ho, Instr.buildSlice, Sem.run_bind, run_underlying hu, Result.andThen_ok, run_sizeT w hn, Nat.zero_mul, gt_iff_lt, Nat.reducePow, Nat.not_lt_zero, if_false, if_true, Sem.run_pure]
        simp [Instr.fill, newRow]
        congr 2
        apply Array.ext'
        simp
      · have hp : ρ' nx = ⟨some ⟨w.heap.size, 0, none⟩, 0⟩ := by rw [hρ, if_pos rfl]
        refine ⟨⟨⟨Nat.zero_le _, by rw [hp]; exact Nat.zero_le _⟩, fun h0 => by rw [hp] at h0; exact absurd h0 (Nat.lt_irrefl _)⟩, ⟨_, _, _, rfl⟩, fun t ys hy => ?_⟩
        rw [hm'] at hy
        simp only [Option.some.injEq, Obj.row.injEq] at hy
        obtain ⟨rfl, hy⟩ := hy
        have hy := eq_of_heq hy
        subst hy
        rw [hp]
        rfl
    · cases he
  · cases he

end
end Go.Proofs.YtkhnakdmkhidbaaDoor

/- THE MACHINE OF READINGS, part K: stores. -/
namespace Go.Proofs.YtkhnakdmkhidbaaDoor
open Go.RowKit

section
variable {E : Env} {w0 : World} {X Z : Blk} {a : Act} {w w' : World} {s : St} {ρ ρ' : Nat → Pl} {N N' : Blk} {m m' : Mem}

/-- The relation of objects behind a store into one of them, where some rows are let go. -/
theorem MR.set (h : MR w N ρ m) {id b : Nat} {o o' : Obj} {D : List Nat} (hm : m id = some o) (hho : Holds (ρ id) o) (hA : (ρ id).A = some ⟨b, 0, none⟩) (hD : id ∉ D)
    (hheap : ∀ k, k ≠ b → w'.heap[k]? = w.heap[k]?) (hsize : w'.heap.size = w.heap.size)
    (hm' : ∀ i, m' i = if i = id then some o' else if i ∈ D then none else m i) (hN' : ∀ b, N' b ↔ N b ∨ Gone ρ m D b)
    (hrow : ∀ t xs, o' = .row t xs → ∃ ys, o = .row t ys ∧ ys.length = xs.length)
    (hobj : (∀ b, N b → N' b) → SameOn N' w w' → Turn ρ m ρ m' (fun _ => False) → ObjR w' N' ρ m' id o') :
    Turn ρ m ρ m' (fun _ => False) ∧ (∀ b, N b → N' b) ∧ SameOn N' w w' ∧ MR w' N' ρ m' ∧ ∀ b, Own ρ m' b → Own ρ m b := by
  have hN : ∀ b, N b → N' b := fun b hb => (hN' b).2 (.inl hb)
  have hs : SameOn N' w w' := by
    intro k hk
    refine hheap k fun e => ?_
    subst e
    rcases (hN' _).1 hk with hk | ⟨i, hi, t, xs, hmi, hci, hAi⟩
    · exact h.nown _ hk ⟨id, o, hm, hho, hA⟩
    · have := h.inj id i o _ hm hmi hho hci (by rw [hA, hAi])
      subst this
      exact hD hi
  have ht : Turn ρ m ρ m' (fun _ => False) := by
    refine ⟨fun _ _ => rfl, fun i t xs _ hmi => ?_⟩
    rw [hm'] at hmi
    split at hmi
    · rename_i he
      simp only [Option.some.injEq] at hmi
      obtain ⟨ys, hy, hl⟩ := hrow t xs hmi
      subst he
      exact ⟨ys, by rw [hm, hy], hl⟩
    · split at hmi
      · cases hmi
      · exact ⟨xs, hmi, rfl⟩
  have hh' : ∀ {i o1}, m' i = some o1 → Holds (ρ i) o1 → ∃ o2, m i = some o2 ∧ Holds (ρ i) o2 := by
    intro i o1 hmi hho1
    rw [hm'] at hmi
    split at hmi
    · rename_i he
      subst he
      exact ⟨o, hm, hho⟩
    · split at hmi
      · cases hmi
      · exact ⟨o1, hmi, hho1⟩
  have hown : ∀ b, Own ρ m' b → Own ρ m b := by
    rintro b ⟨i, o1, hmi, hho1, hAi⟩
    obtain ⟨o2, hm2, hho2⟩ := hh' hmi hho1
    exact ⟨i, o2, hm2, hho2, hAi⟩
  refine ⟨ht, hN, hs, ⟨fun i o1 hmi => ?_, fun i i' o1 o2 h1 h2 hh1 hh2 hAA => ?_, fun k hk ho => ?_, fun k hk => ?_⟩, hown⟩
  · by_cases he : i = id
    · subst he
      have := hm' i
      rw [if_pos rfl, hmi] at this
      simp only [Option.some.injEq] at this
      subst this
      exact hobj hN hs ht
    · have hmo : m i = some o1 := by
        rw [hm', if_neg he] at hmi
        split at hmi
        · cases hmi
        · exact hmi
      refine (h.obj i o1 hmo).turn ht hN (fun k hk => hs k (hN k hk)) (fun h => h) (fun _ _ h => h) fun k hAk hhk => hheap k fun e => ?_
      subst e
      exact he (h.inj i id o1 o hmo hm hhk hho (by rw [hAk, hA]))
  · obtain ⟨o3, h3, hh3⟩ := hh' h1 hh1
    obtain ⟨o4, h4, hh4⟩ := hh' h2 hh2
    exact h.inj i i' o3 o4 h3 h4 hh3 hh4 hAA
  · rcases (hN' _).1 hk with hk | ⟨i, hi, t, xs, hmi, hci, hAi⟩
    · exact h.nown _ hk (hown k ho)
    · obtain ⟨j, o1, hmj, hhj, hAj⟩ := ho
      obtain ⟨o2, hm2, hh2⟩ := hh' hmj hhj
      have := h.inj i j _ o2 hmi hm2 hci hh2 (by rw [hAi, hAj])
      subst this
      have hne : i ≠ id := fun e => hD (e ▸ hi)
      rw [hm', if_neg hne, if_pos hi] at hmj
      cases hmj
  · rw [hsize]
    rcases (hN' _).1 hk with hk | hk
    · exact h.nlt _ hk
    · exact gone_lt h hk

theorem obj_set {dst : Option Tmp} {r : SV} {id : Nat} {o : Obj} {D : List Nat} (i : Nat) : (s.put dst ⟨r, (id, some o) :: D.map fun i => (i, none)⟩).obj i = if i = id then some o else if i ∈ D then none else s.obj i := obj_new i

theorem setRow_size (w : World) (g : Nat) (cs : Array Value) : (w.setRow g cs).heap.size = w.heap.size := by simp [World.setRow]

/-- a store into an object -/
theorem set_good (h : Rel E w0 X Z a w s ρ N) {o : Oper} (hd : ∀ d, o.dst = some d → d < a.tmps.size) {id b : Nat} {ob ob' : Obj} {D : List Nat} {cells' : Array Value} (hm : s.obj id = some ob) (hho : Holds (ρ id) ob) (hA : (ρ id).A = some ⟨b, 0, none⟩) (hD : id ∉ D)
    (hr : (execOp a.eval o).run E.P w = .ok .skip (w.setRow b cells'))
    (hrow : ∀ t xs, ob' = .row t xs → ∃ ys, ob = .row t ys ∧ ys.length = xs.length)
    (hobj : ∀ m' N', (∀ b, N b → N' b) → (∀ b, Gone ρ s.obj D b → N' b) → SameOn N' w (w.setRow b cells') → Turn ρ s.obj ρ m' (fun _ => False) → ObjR (w.setRow b cells') N' ρ m' id ob') :
    Good E w0 X Z a o w s ρ N ⟨.tup [], (id, some ob') :: D.map fun i => (i, none)⟩ (fun _ => False) := by
  let N' : Blk := fun b => N b ∨ Gone ρ s.obj D b
  have hown0 := h.own b ⟨id, ob, hm, hho, hA⟩
  obtain ⟨ht, hN, hs, hmr, hown⟩ := h.mr.set (w' := w.setRow b cells') (N' := N') hm hho hA hD (fun k hk => setRow_other w b k cells' hk) (setRow_size w b cells') (fun i => obj_set (s := s) (dst := o.dst) (r := .tup []) i) (fun _ => Iff.rfl) hrow
    fun hN hs ht => hobj _ N' hN (fun b hb => Or.inr hb) hs ht
  refine ⟨undef, w.setRow b cells', ρ, N', .inr ⟨hr, rfl⟩, fun _ _ => rfl, hN, fun k hk => hs k (hN k hk), h.put hd (fun _ hf => hf.elim) ht hN (fun k hk => hs k (hN k hk)) ⟨[], rfl, .nil⟩ hmr ?_ (fun k hk => h.own k (hown k hk)) h.nn'⟩
  refine ⟨h.since.os, h.since.tape, h.since.output, by rw [setRow_size]; exact h.since.size, fun k hk hx => ?_⟩
  rw [setRow_other w b k cells' fun e => ?_]
  · exact h.since.keep k hk hx
  · subst e
    rcases hown0 with h1 | h1
    · exact hx h1
    · omega

theorem run_storeVar {P : Program} {T : TypeId} {v : Value} {b off : Nat} {cur : Array Value} {T' : TypeId} (hsz : sizeT P T = some v.cells.size) (hg : w.heap[b]? = some (.cells cur T' (0, 0))) (hfit : off + v.cells.size ≤ cur.size) (h1 : ∀ u ∈ v.cells.toList, u.oneCell' = true) :
    (Instr.storeAt T (.pointer (some ⟨b, off, none⟩)) v).run P w = .ok () (w.setRow b (cur.toList.take off ++ v.cells.toList ++ cur.toList.drop (off + v.cells.size)).toArray) := by
  have hst := run_storeCells_at P b off T' v.cells.toList 0 cur w hg (by simpa using hfit) h1
  simp only [Nat.add_zero, Array.length_toList] at hst
  simp [Instr.storeAt, Instr.sureAddr, storeVar, run_sizeT w hsz, hst]

theorem all_one {cs : List C} {us : List Value} (h : All2 (CR w N ρ m) cs us) : ∀ u ∈ us, u.oneCell' = true := by
  induction h with
  | nil => simp
  | cons h1 _ ih => exact fun u hu => (List.mem_cons.1 hu).elim (fun e => e ▸ h1.one) (ih u)

theorem store_ok (h : Rel E w0 X Z a w s ρ N) (hm : ∀ id ob, m id = some ob → s.obj id = some ob) {o : Oper} (hd : ∀ d, o.dst = some d → d < a.tmps.size) {T : TypeId} {x y : Operand} (ho : o.op = .store T x y) {obs : List Prop} {e : Eff}
    (he : aStore E m T (s.get y) (s.get x) = some (obs, e)) : Good E w0 X Z a o w s ρ N e (fun _ => False) := by
  have hx := h.get x
  have hy := h.get y
  unfold aStore at he
  split at he
  · rename_i id off hgx
    rw [hgx] at hx
    obtain ⟨b, hA, hv⟩ := vr1 hx
    split at he
    · rename_i cs ag vs hmem hgy
      rw [hgy] at hy
      have hyc := VR.cells hy
      split at he
      · rename_i hsz
        cases hput : putAt cs off vs with
        | none => simp [hput] at he
        | some cs' =>
          simp only [hput, Option.map_some, Option.some.injEq, Prod.mk.injEq] at he
          obtain ⟨_, rfl⟩ := he
          obtain ⟨hl, rfl⟩ := putAt_some hput
          have hso := hm id _ hmem
          obtain ⟨b', vals, T', hA', hh, hc⟩ := h.mr.obj id _ hso
          rw [hA] at hA'
          simp only [Option.some.injEq, Addr.mk.injEq, and_true] at hA'
          subst hA'
          have hlen : (a.eval y).cells.size = vs.length := by have := hyc.len; simp at this; omega
          have hcl : cs.length = vals.size := by have := hc.len; simpa using this
          refine set_good (D := []) (cells' := (vals.toList.take off ++ (a.eval y).cells.toList ++ vals.toList.drop (off + (a.eval y).cells.size)).toArray) h hd hso trivial hA (by simp) ?_ (fun t xs e => by cases e) fun m' N' hN _ hs ht => ?_
          · have := run_storeVar (P := E.P) (w := w) (T := T) (v := a.eval y) (b := b) (off := off) (by rw [hlen]; exact hsz) hh (by omega) (all_one hyc)
            simp only [execOp, ho, hv, Sem.run_bind, this, Result.andThen_ok]
            rfl
          · refine ⟨b, _, T', hA, setRow_heap w b vals _ T' (0, 0) hh, ?_⟩
            have key : All2 (CR w N ρ s.obj) (cs.take off ++ vs ++ cs.drop (off + vs.length)) (vals.toList.take off ++ (a.eval y).cells.toList ++ vals.toList.drop (off + (a.eval y).cells.size)) := by
              rw [hlen]
              exact ((hc.take off).append hyc).append (hc.drop _)
            simpa using key.turn ht hN (fun k hk => hs k (hN k hk)) (fun _ _ h => h)
      · cases he
    · cases he
  · rename_i id i off hgx
    rw [hgx] at hx
    split at he
    · rename_i t xs ag vs hmem hgy
      rw [hgy] at hy
      have hyc := VR.cells hy
      split at he
      · rename_i hsz
        split at he
        · rename_i cs' hput
          cases hin : (vs.flatMap hsC).contains id with
          | true => rw [hin] at he; cases he
          | false =>
            rw [hin] at he
            cases hz : asD t cs' with
            | none => simp [hz] at he
            | some z =>
              simp only [hz, Option.map_some, cond_false, Option.some.injEq, Prod.mk.injEq] at he
              obtain ⟨_, rfl⟩ := he
              obtain ⟨hl, rfl⟩ := putAt_some hput
              have hso := hm id _ hmem
              obtain ⟨hi, b, hA, hv⟩ := (vr1 hx).2 t xs hso
              obtain ⟨hxl, hr⟩ := h.mr.obj id _ hso
              obtain ⟨b', vals, T', hA', hh, hvs, hel⟩ := hr (by omega)
              rw [hA] at hA'
              simp only [Option.some.injEq, Addr.mk.injEq, and_true] at hA'
              subst hA'
              have hlen : (a.eval y).cells.size = vs.length := by have := hyc.len; simp at this; omega
              obtain ⟨us, hrd, hcell⟩ := hel i hi
              have hpg : pGet t xs i = xs[i] := by unfold pGet; simp [List.getD, hi]
              rw [hpg] at hput hl hz
              have hcel : (cellsOf t xs[i]).length = t.size := by have := (hrd.cells (ρ := ρ) (m := s.obj)).len; rw [this]; exact hrd.len
              have hrol : (roCells m vs).length = vs.length := by simp [roCells]
              have hcap : xs.length * t.size ≤ vals.size := by rw [hvs]; exact Nat.mul_le_mul_right _ hxl.1
              have hi1 : i * t.size + t.size ≤ xs.length * t.size := by
                have : (i + 1) * t.size ≤ xs.length * t.size := Nat.mul_le_mul_right _ hi
                rw [Nat.add_mul] at this; omega
              refine set_good (D := vs.flatMap hsC) (cells' := (vals.toList.take (i * t.size + off) ++ (a.eval y).cells.toList ++ vals.toList.drop (i * t.size + off + (a.eval y).cells.size)).toArray) h hd hso (show 0 < (ρ id).cap by omega) hA (by simpa using hin) ?_ (fun t' ys e => ?_) fun m' N' hN hG hs ht => ?_
              · have := run_storeVar (P := E.P) (w := w) (T := T) (v := a.eval y) (b := b) (off := i * t.size + off) (by rw [hlen]; exact hsz) hh (by omega) (all_one hyc)
                simp only [execOp, ho, hv, Sem.run_bind, this, Result.andThen_ok]
                rfl
              · simp only [Obj.row.injEq] at e
                obtain ⟨rfl, e⟩ := e
                have e := eq_of_heq e
                subst e
                exact ⟨xs, rfl, by simp [pSet]⟩
              · refine ⟨by simpa [pSet] using hxl, fun _ => ⟨b, _, T', hA, setRow_heap w b vals _ T' (0, 0) hh, ?_, fun k hk => ?_⟩⟩
                · simp only [List.size_toArray, List.length_append, List.length_take, List.length_drop, Array.length_toList]
                  omega
                · have hk' : k < xs.length := by simpa [pSet] using hk
                  by_cases hki : k = i
                  · subst hki
                    have hnew : All2 (CR w N' ρ s.obj) ((cellsOf t xs[k]).take off ++ roCells m vs ++ (cellsOf t xs[k]).drop (off + (roCells m vs).length)) (us.take off ++ (a.eval y).cells.toList ++ us.drop (off + vs.length)) := by
                      have hu : All2 (CR w N' ρ s.obj) (cellsOf t xs[k]) us := (hrd.mono hN (fun _ _ => rfl)).cells
                      rw [hrol]
                      exact ((hu.take off).append (roCells_ok h.mr hyc hN hm fun b hb => hG b hb)).append (hu.drop _)
                    have hzr := asD_rd hz hnew
                    refine ⟨us.take off ++ (a.eval y).cells.toList ++ us.drop (off + vs.length), ?_, fun j u hj => ?_⟩
                    · have : (pSet xs k z)[k] = z := by simp [pSet]
                      rw [this]
                      exact hzr.mono (fun _ h => h) hs
                    · have hul : us.length = t.size := hrd.len
                      simp only [List.getElem?_toArray]
                      rw [hlen]
                      simp only [List.getElem?_append, List.getElem?_take, List.getElem?_drop, List.length_take, List.length_append, Array.length_toList, hlen, hul] at hj ⊢
                      by_cases h1 : j < off
                      · have e1 : k * t.size + j < k * t.size + off := by omega
                        rw [if_pos (by omega), if_pos (by omega), if_pos h1] at hj
                        rw [if_pos (by omega), if_pos (by omega), if_pos (by omega)]
                        have := hcell j u hj
                        simpa using this
                      · by_cases h2 : j < off + vs.length
                        · rw [if_pos (by omega), if_neg (by omega)] at hj
                          rw [if_pos (by omega), if_neg (by omega)]
                          rw [show k * t.size + j - min (k * t.size + off) vals.size = j - min off t.size by omega]
                          exact hj
                        · rw [if_neg (by omega)] at hj
                          rw [if_neg (by omega)]
                          have hj2 : us[j]? = some u := by
                            rw [show off + vs.length + (j - (min off t.size + vs.length)) = j by omega] at hj
                            exact hj
                          have := hcell j u hj2
                          rw [show k * t.size + off + vs.length + (k * t.size + j - (min (k * t.size + off) vals.size + vs.length)) = k * t.size + j by omega]
                          simpa using this
                  · obtain ⟨us', hrd', hcell'⟩ := hel k hk'
                    refine ⟨us', ?_, fun j u hj => ?_⟩
                    · have : (pSet xs i z)[k] = xs[k] := by simp only [pSet]; rw [List.getElem_set_ne (fun e => hki e.symm)]
                      rw [this]
                      exact (hrd'.mono hN (fun _ _ => rfl)).mono (fun _ h => h) hs
                    · have hj1 : j < t.size := by rw [← hrd'.len]; exact (List.getElem?_eq_some_iff.1 hj).1
                      have hk1 : k * t.size + t.size ≤ xs.length * t.size := by
                        have : (k + 1) * t.size ≤ xs.length * t.size := Nat.mul_le_mul_right _ hk'
                        rw [Nat.add_mul] at this; omega
                      have hold := hcell' j u hj
                      simp only [List.getElem?_toArray]
                      rw [hlen]
                      simp only [List.getElem?_append, List.getElem?_take, List.getElem?_drop, List.length_take, List.length_append, Array.length_toList, hlen]
                      rcases Nat.lt_or_gt_of_ne hki with hlt | hgt
                      · have hle : k * t.size + t.size ≤ i * t.size := by
                          have : (k + 1) * t.size ≤ i * t.size := Nat.mul_le_mul_right _ hlt
                          rw [Nat.add_mul] at this; omega
                        rw [if_pos (by omega), if_pos (by omega), if_pos (by omega)]
                        simpa using hold
                      · have hle : i * t.size + t.size ≤ k * t.size := by
                          have : (i + 1) * t.size ≤ k * t.size := Nat.mul_le_mul_right _ hgt
                          rw [Nat.add_mul] at this; omega
                        rw [if_neg (by omega)]
                        rw [show i * t.size + off + vs.length + (k * t.size + j - (min (i * t.size + off) vals.size + vs.length)) = k * t.size + j by omega]
                        simpa using hold
        · cases he
      · cases he
    · cases he
  · cases he

end
end Go.Proofs.YtkhnakdmkhidbaaDoor

/- THE MACHINE OF READINGS, part L: append. -/
namespace Go.Proofs.YtkhnakdmkhidbaaDoor
open Go.RowKit

/-- lists of cells, one behind the other -/
theorem gather {P : Nat → List Value → Prop} (sz : Nat) : ∀ (n : Nat), (∀ k, k < n → ∃ us : List Value, P k us ∧ us.length = sz) → ∃ L : List Value, L.length = n * sz ∧ ∀ k, k < n → ∃ us : List Value, P k us ∧ us.length = sz ∧ ∀ j, j < sz → L[k * sz + j]? = us[j]?
  | 0, _ => ⟨[], by simp, fun k hk => absurd hk (by omega)⟩
  | n + 1, h => by
    obtain ⟨L, hl, hk⟩ := gather (P := P) sz n fun k hk => h k (by omega)
    obtain ⟨us, hp, hlen⟩ := h n (by omega)
    refine ⟨L ++ us, by rw [List.length_append, hl, hlen, Nat.add_mul]; omega, fun k hk' => ?_⟩
    by_cases hkn : k = n
    · subst hkn
      refine ⟨us, hp, hlen, fun j hj => ?_⟩
      rw [List.getElem?_append_right (by omega), hl]
      congr 1; omega
    · obtain ⟨vs, h1, h2, h3⟩ := hk k (by omega)
      refine ⟨vs, h1, h2, fun j hj => ?_⟩
      have : (k + 1) * sz ≤ n * sz := Nat.mul_le_mul_right _ (by omega)
      rw [Nat.add_mul] at this
      rw [List.getElem?_append_left (by omega)]
      exact h3 j hj

section
variable {E : Env} {w0 : World} {X Z : Blk} {a : Act} {w w' : World} {s : St} {ρ ρ' : Nat → Pl} {N N' : Blk} {m m' : Mem}

/-- a slice value that reads as ys: its cells, in a list -/
def Cells (w : World) (N : Blk) (t : Ty) (v : Value) (ys : List t.den) (news : List Value) : Prop :=
  ∃ A c, v = .slice A ys.length c ∧ ys.length ≤ c ∧ news.length = ys.length * t.size ∧ (A = none → ys.length = 0) ∧ (∀ ad, A = some ad → ∀ (j : Nat) (u : Value), news[j]? = some u → w.cell? (ad.add j) = some u) ∧ (∀ u ∈ news, u.oneCell' = true) ∧
    ∀ (k : Nat) (h : k < ys.length), ∃ us : List Value, Rd t w N us ys[k] ∧ ∀ (j : Nat) (u : Value), us[j]? = some u → news[k * t.size + j]? = some u

theorem rd_cells {t : Ty} {v : Value} {ys : List t.den} (h : Rd (.sl t) w N [v] ys) : ∃ news, Cells w N t v ys news := by
  obtain ⟨A, n, c, hv, hl, hc, hr⟩ := h
  simp only [List.cons.injEq, and_true] at hv
  subst hv hl
  by_cases h0 : 0 < ys.length
  · obtain ⟨b, off, rfl, hN, hk⟩ := hr h0
    obtain ⟨L, hL, hLk⟩ := gather (P := fun k us => ∃ h : k < ys.length, Rd t w N us ys[k] ∧ ∀ (j : Nat) (u : Value), us[j]? = some u → w.cell? ⟨b, off + k * t.size + j, none⟩ = some u) t.size ys.length
      (fun k hk' => by obtain ⟨us, h1, h2, h3⟩ := hk k hk'; exact ⟨us, ⟨hk', h1, h3⟩, h2⟩)
    have dec : ∀ j u, L[j]? = some u → ∃ k, ∃ hk : k < ys.length, ∃ i us, j = k * t.size + i ∧ Rd t w N us ys[k] ∧ us[i]? = some u ∧ w.cell? ⟨b, off + j, none⟩ = some u := by
      intro j u hj
      have hjl : j < ys.length * t.size := by rw [← hL]; exact (List.getElem?_eq_some_iff.1 hj).1
      have hsz : 0 < t.size := by
        rcases Nat.eq_zero_or_pos t.size with h | h
        · rw [h] at hjl; omega
        · exact h
      have hkq : j / t.size < ys.length := Nat.div_lt_of_lt_mul (by rw [Nat.mul_comm]; exact hjl)
      obtain ⟨us, ⟨hk1, hrd, hcell⟩, hul, hget⟩ := hLk (j / t.size) hkq
      have hdm : j = j / t.size * t.size + j % t.size := by rw [Nat.mul_comm]; exact (Nat.div_add_mod j t.size).symm
      have hm := Nat.mod_lt j hsz
      have hg := hget (j % t.size) hm
      rw [← hdm, hj] at hg
      have hc := hcell (j % t.size) u hg.symm
      exact ⟨j / t.size, hk1, j % t.size, us, hdm, hrd, hg.symm, by rw [Nat.add_assoc, ← hdm] at hc; exact hc⟩
    refine ⟨L, some ⟨b, off, none⟩, c, rfl, hc, hL, (fun h => by cases h), fun ad had j u hj => ?_, fun u hu => ?_, fun k hk' => ?_⟩
    · simp only [Option.some.injEq] at had
      subst had
      rw [addr_add]
      obtain ⟨_, _, _, _, _, _, _, hc⟩ := dec j u hj
      exact hc
    · obtain ⟨j, hj, rfl⟩ := List.getElem_of_mem hu
      obtain ⟨k, hk1, i, us, _, hrd, hi, _⟩ := dec j L[j] (List.getElem?_eq_getElem hj)
      exact hrd.one _ (List.mem_of_getElem? hi)
    · obtain ⟨us, ⟨_, hrd, _⟩, hul, hget⟩ := hLk k hk'
      refine ⟨us, hrd, fun j u hj => ?_⟩
      have : j < t.size := by rw [← hul]; exact (List.getElem?_eq_some_iff.1 hj).1
      rw [hget j this]; exact hj
  · have hys : ys = [] := List.eq_nil_of_length_eq_zero (by omega)
    subst hys
    exact ⟨[], A, c, rfl, hc, by simp, fun _ => rfl, (fun _ _ j u hj => by simp at hj), by simp, fun k hk => absurd hk (by simp)⟩

theorem run_first {P : Program} {t : Ty} {v : Value} {ys : List t.den} {news : List Value} (h : Cells w N t v ys news) {w1 : World} (hc : ∀ p, w1.cell? p = w.cell? p) : (Builtin.firstCells t.size ys.length v).run P w1 = .ok news.toArray w1 := by
  obtain ⟨A, c, rfl, _, hl, hA, hcell, _⟩ := h
  cases A with
  | none =>
    have h0 : news = [] := List.eq_nil_of_length_eq_zero (by rw [hl, hA rfl]; simp)
    subst h0
    simp [Builtin.firstCells]
  | some ad => exact run_firstCells_some w1 t.size ys.length ad ys.length c news hl fun j u hj => (hc _).trans (hcell ad rfl j u hj)

theorem elems_cells (h : MR w N ρ m) {m1 : Mem} (h1 : ∀ id ob, m1 id = some ob → m id = some ob) {t : Ty} {c : C} {v : Value} {ys : List t.den} (hc : CR w N ρ m c v) (he : aElems m1 t c = some ys) : ∃ news, Cells w N t v ys news := by
  unfold aElems at he
  split at he
  · simp only [Option.some.injEq] at he
    subst he
    obtain ⟨A, rfl⟩ := hc
    exact ⟨[], A, 0, rfl, Nat.le_refl _, by simp, fun _ => rfl, (fun _ _ j u hj => by simp at hj), by simp, fun k hk => absurd hk (by simp)⟩
  · split at he
    · rename_i ht; subst ht
      simp only [Option.some.injEq] at he
      subst he
      exact rd_cells hc
    · cases he
  · rename_i id
    split at he
    · rename_i t' xs hm
      split at he
      · rename_i ht; subst ht
        simp only [Option.some.injEq] at he
        subst he
        have hm' := h1 id _ hm
        have hv := hc.2 t' xs hm'
        subst hv
        obtain ⟨hl, hr⟩ := h.obj id _ hm'
        by_cases h0 : 0 < xs.length
        · obtain ⟨b, vals, T, hA, hh, hsz, hx⟩ := hr (by omega)
          -- a row of its own: its cells, as a list
          have hbig : xs.length * t'.size ≤ vals.size := by rw [hsz]; exact Nat.mul_le_mul_right _ hl.1
          refine ⟨vals.toList.take (xs.length * t'.size), (ρ id).A, (ρ id).cap, rfl, hl.1, by simp; omega, (fun e => by rw [hA] at e; cases e), fun ad had j u hj => ?_, fun u hu => ?_, fun k hk => ?_⟩
          · rw [hA] at had
            simp only [Option.some.injEq] at had
            subst had
            rw [List.getElem?_take] at hj
            split at hj
            · rw [addr_add]; simp [World.cell?, hh]; simpa using hj
            · cases hj
          · obtain ⟨j, hj, rfl⟩ := List.getElem_of_mem hu
            have hjl : j < xs.length * t'.size := by simp at hj; omega
            have hs0 : 0 < t'.size := by
              rcases Nat.eq_zero_or_pos t'.size with h | h
              · rw [h] at hjl; omega
              · exact h
            have hkq : j / t'.size < xs.length := Nat.div_lt_of_lt_mul (by rw [Nat.mul_comm]; exact hjl)
            obtain ⟨us, hrd, hcell⟩ := hx (j / t'.size) hkq
            have hdm : j = j / t'.size * t'.size + j % t'.size := by rw [Nat.mul_comm]; exact (Nat.div_add_mod j t'.size).symm
            have hul : j % t'.size < us.length := by rw [hrd.len]; exact Nat.mod_lt j hs0
            have hc1 := hcell (j % t'.size) us[j % t'.size] (List.getElem?_eq_getElem hul)
            rw [← hdm] at hc1
            have hjv : j < vals.size := by omega
            have : vals[j] = us[j % t'.size] := by rw [Array.getElem?_eq_getElem hjv] at hc1; exact Option.some.inj hc1
            rw [List.getElem_take]
            simp only [Array.getElem_toList, this]
            exact hrd.one _ (List.getElem_mem hul)
          · obtain ⟨us, hrd, hcell⟩ := hx k hk
            refine ⟨us, hrd, fun j u hj => ?_⟩
            have hj1 : j < t'.size := by rw [← hrd.len]; exact (List.getElem?_eq_some_iff.1 hj).1
            have hk1 : k * t'.size + t'.size ≤ xs.length * t'.size := by
              have : (k + 1) * t'.size ≤ xs.length * t'.size := Nat.mul_le_mul_right _ hk
              rw [Nat.add_mul] at this; omega
            rw [List.getElem?_take, if_pos (by omega)]
            simpa using hcell j u hj
        · have hys : xs = [] := List.eq_nil_of_length_eq_zero (by omega)
          subst hys
          exact ⟨[], (ρ id).A, (ρ id).cap, rfl, hl.1, by simp, fun _ => rfl, (fun _ _ j u hj => by simp at hj), by simp, fun k hk => absurd hk (by simp)⟩
      · cases he
    · cases he
  · cases he

variable {P : Program}

theorem run_append_in {T ty e : TypeId} {i : TypeInfo} (ht : P.underlying T = some (.slice e)) (hi : P.info? e = some i) {t : Ty} (hts : t.size = i.size) {A : Option Addr} {n cap : Nat} {v : Value} {ys : List t.den} {news : List Value} (hc : Cells w N t v ys news)
    (hroom : n + ys.length ≤ cap) {w1 : World} (hst : (match A with | some ad => storeCells (ad.add (n * i.size)) news | none => Pure.pure ()).run P w = .ok () w1) :
    (Builtin.append_ #[T, T] ty #[.slice A n cap, v]).run P w = .ok (.slice A (n + ys.length) cap) w1 := by
  have hf := run_first (P := P) hc (w1 := w) (fun _ => rfl)
  rw [hts] at hf
  obtain ⟨B, c, rfl, _⟩ := hc
  cases A with
  | none =>
    simp only [Sem.run_pure, Result.ok.injEq, true_and] at hst
    subst hst
    simp [Builtin.append_, run_underlying ht, sizeOf, typeInfo, hi, Builtin.lenOf, hroom, hf]
  | some ad =>
    simp only at hst
    simp [Builtin.append_, run_underlying ht, sizeOf, typeInfo, hi, Builtin.lenOf, hroom, hf, hst]

theorem run_append_new {T ty e : TypeId} {i : TypeInfo} {z : Value} (ht : P.underlying T = some (.slice e)) (hi : P.info? e = some i) (hz : i.zero = some z) {t : Ty} (hts : t.size = i.size) {S v : Value} {xs ys : List t.den} {olds news : List Value} {A : Option Addr} {cap : Nat} (hS : S = .slice A xs.length cap) (ho : Cells w N t S xs olds) (hc : Cells w N t v ys news)
    (hroom : cap < xs.length + ys.length) (hb : (xs.length + ys.length) * i.bytes ≤ 140737488355328) (h63 : xs.length + ys.length ≤ 9223372036854775807) :
    (Builtin.append_ #[T, T] ty #[S, v]).run P w = .ok (.slice (some ⟨w.heap.size, 0, none⟩) (xs.length + ys.length) (grownCap w (xs.length + ys.length) cap e))
      (w.drew.alloc (.cells (olds.toArray ++ news.toArray ++ Builtin.zeroCells z.cells (grownCap w (xs.length + ys.length) cap e - (xs.length + ys.length))) e)) := by
  have hf := run_first (P := P) hc (w1 := w.drew) (fun _ => rfl)
  have hfo := run_first (P := P) ho (w1 := w.drew) (fun _ => rfl)
  rw [hts] at hf hfo
  subst hS
  obtain ⟨B, c, rfl, _⟩ := hc
  have hfit := growslice_fits hroom hb
  have hn : ¬ (xs.length + ys.length ≤ cap) := by omega
  have h63' : ¬ (9223372036854775807 < ((xs.length : Int) + (ys.length : Int))) := by omega
  have h48' : ¬ (281474976710656 < Builtin.nextslicecap (xs.length + ys.length) cap * i.bytes) := by omega
  simp [Builtin.append_, run_underlying ht, sizeOf, typeInfo, zeroValue, hi, hz, Builtin.lenOf, hn, h63', h48', Question.forced, hf, hfo, newRow, grownCap]
  congr 2
  apply Array.ext'
  simp [List.append_assoc]

end
end Go.Proofs.YtkhnakdmkhidbaaDoor

/- THE MACHINE OF READINGS, part M: append, as an operation. -/
namespace Go.Proofs.YtkhnakdmkhidbaaDoor
open Go.RowKit

section
variable {E : Env} {w0 : World} {X Z : Blk} {a : Act} {w w' : World} {s : St} {ρ ρ' : Nat → Pl} {N N' : Blk} {m m' : Mem}

/-- The relation of objects where a new one takes over the block of one that is let go. -/
theorem MR.take (h : MR w N ρ m) {nx : Nat} {p : Pl} {t : Ty} {zs : List t.den} {D : List Nat} (hnx : m nx = none) (hnm : ∀ id o', m id = some o' → nx ∉ idsO o')
    (hp : 0 < p.cap → ∃ id ∈ D, ∃ t', ∃ ys : List (Ty.den t'), m id = some (.row t' ys) ∧ 0 < (ρ id).cap ∧ (ρ id).A = p.A)
    (hheap : ∀ k, ¬ Gone ρ m D k → w'.heap[k]? = w.heap[k]?) (hsize : w'.heap.size = w.heap.size)
    (hm' : ∀ id, m' id = if id = nx then some (.row t zs) else if id ∈ D then none else m id) (hρ' : ∀ id, ρ' id = if id = nx then p else ρ id)
    (hobj : SameOn N w w' → Turn ρ m ρ' m' (· = nx) → ObjR w' N ρ' m' nx (.row t zs)) :
    Turn ρ m ρ' m' (· = nx) ∧ SameOn N w w' ∧ MR w' N ρ' m' ∧ ∀ b, Own ρ' m' b → Own ρ m b := by
  have ht : Turn ρ m ρ' m' (· = nx) := by
    refine ⟨fun id hid => by rw [hρ', if_neg hid], fun id t xs hid hm => ?_⟩
    rw [hm', if_neg hid] at hm
    split at hm
    · cases hm
    · exact ⟨xs, hm, rfl⟩
  have hs : SameOn N w w' := fun b hb => hheap b fun hg => h.nown b hb (gone_own hg)
  have old : ∀ id o', m' id = some o' → id ≠ nx → m id = some o' ∧ id ∉ D := by
    intro id o' hm hid
    rw [hm', if_neg hid] at hm
    split at hm
    · cases hm
    · rename_i hd; exact ⟨hm, hd⟩
  have hnxo : ∀ o', m' nx = some o' → o' = .row t zs := by
    intro o' ho
    rw [hm', if_pos rfl] at ho
    exact (Option.some.inj ho).symm
  -- what a held place is
  have held : ∀ id o', m' id = some o' → Holds (ρ' id) o' → ∃ i o2, m i = some o2 ∧ Holds (ρ i) o2 ∧ (ρ i).A = (ρ' id).A ∧ (id ≠ nx → i = id ∧ id ∉ D) ∧ (id = nx → i ∈ D) := by
    intro id o' hm hh
    by_cases hid : id = nx
    · subst hid
      have := hnxo o' hm
      subst this
      rw [hρ', if_pos rfl] at hh ⊢
      obtain ⟨i, hi, t', ys, hmi, hci, hAi⟩ := hp hh
      exact ⟨i, _, hmi, hci, hAi, fun h => absurd rfl h, fun _ => hi⟩
    · obtain ⟨hmo, hd⟩ := old id o' hm hid
      rw [hρ', if_neg hid] at hh ⊢
      exact ⟨id, o', hmo, hh, rfl, fun _ => ⟨rfl, hd⟩, fun h => absurd h hid⟩
  have hown : ∀ b, Own ρ' m' b → Own ρ m b := by
    rintro b ⟨id, o', hm, hh, hA⟩
    obtain ⟨i, o2, h1, h2, h3, _⟩ := held id o' hm hh
    exact ⟨i, o2, h1, h2, by rw [h3]; exact hA⟩
  refine ⟨ht, hs, ⟨fun id o' hm => ?_, fun id id' o1 o2 hm1 hm2 hh1 hh2 hA => ?_, fun b hb ho => h.nown b hb (hown b ho), fun b hb => by rw [hsize]; exact h.nlt b hb⟩, hown⟩
  · by_cases hid : id = nx
    · subst hid
      have := hnxo o' hm
      subst this
      exact hobj hs ht
    · obtain ⟨hmo, hd⟩ := old id o' hm hid
      refine (h.obj id o' hmo).turn ht (fun _ h => h) hs hid (fun i hi hc => hnm id o' hmo (hc ▸ hi)) fun b hA hh => hheap b ?_
      rintro ⟨i, hi, t', ys, hmi, hci, hAi⟩
      have := h.inj i id _ o' hmi hmo hci hh (by rw [hAi, hA])
      subst this
      exact hd hi
  · obtain ⟨i1, q1, ha, hb, hc, hn1, hx1⟩ := held id o1 hm1 hh1
    obtain ⟨i2, q2, ha', hb', hc', hn2, hx2⟩ := held id' o2 hm2 hh2
    have e := h.inj i1 i2 q1 q2 ha ha' hb hb' (by rw [hc, hc', hA])
    by_cases h1 : id = nx <;> by_cases h2 : id' = nx
    · rw [h1, h2]
    · obtain ⟨e2, hd2⟩ := hn2 h2
      have := hx1 h1
      rw [e, e2] at this
      exact absurd this hd2
    · obtain ⟨e1, hd1⟩ := hn1 h1
      have := hx2 h2
      rw [← e, e1] at this
      exact absurd this hd1
    · rw [← (hn1 h1).1, ← (hn2 h2).1, e]

/-- a new row in the place of one that is let go -/
theorem take_good (h : Rel E w0 X Z a w s ρ N) {o : Oper} (hd : ∀ d, o.dst = some d → d < a.tmps.size) {nx : Nat} (hf : Fresh s nx) {p : Pl} {t : Ty} {zs : List t.den} {D : List Nat}
    (hr : (execOp a.eval o).run E.P w = .ok (.value (.slice p.A zs.length p.cap)) w')
    (hp : 0 < p.cap → ∃ id ∈ D, ∃ t', ∃ ys : List (Ty.den t'), s.obj id = some (.row t' ys) ∧ 0 < (ρ id).cap ∧ (ρ id).A = p.A)
    (hheap : ∀ k, ¬ Gone ρ s.obj D k → w'.heap[k]? = w.heap[k]?) (hsize : w'.heap.size = w.heap.size) (h1 : w'.os = w.os) (h2 : w'.tape = w.tape) (h3 : w'.output = w.output)
    (hobj : ∀ ρ' m', (∀ id, ρ' id = if id = nx then p else ρ id) → SameOn N w w' → Turn ρ s.obj ρ' m' (· = nx) → ObjR w' N ρ' m' nx (.row t zs)) :
    Good E w0 X Z a o w s ρ N ⟨one (.hs nx), (nx, some (.row t zs)) :: D.map fun i => (i, none)⟩ (· = nx) := by
  let ρ' : Nat → Pl := fun id => if id = nx then p else ρ id
  have hm' := fun id => obj_new (s := s) (dst := o.dst) (r := one (.hs nx)) (nx := nx) (o := .row t zs) (D := D) id
  obtain ⟨ht, hs, hmr, hown⟩ := h.mr.take (ρ' := ρ') hf.2.2 hf.2.1 hp hheap hsize hm' (fun _ => rfl) fun hs ht => hobj ρ' _ (fun _ => rfl) hs ht
  refine ⟨_, w', ρ', N, .inl hr, fun id hid => by simp only [ρ', if_neg hid], fun _ h => h, hs, h.put hd (fun id hid => by have hid : id = nx := hid; subst hid; exact hf) ht (fun _ h => h) hs ⟨_, rfl, ⟨_, _, _, rfl⟩, fun t' xs hy => ?_⟩ hmr ?_ (fun b hb => h.own b (hown b hb)) h.nn⟩
  · rw [hm', if_pos rfl] at hy
    simp only [Option.some.injEq, Obj.row.injEq] at hy
    obtain ⟨rfl, hy⟩ := hy
    have hy := eq_of_heq hy
    subst hy
    simp only [ρ', if_pos]
  · refine ⟨h1.trans h.since.os, h2.trans h.since.tape, h3.trans h.since.output, by rw [hsize]; exact h.since.size, fun k hk hx => (hheap k fun hg => ?_).trans (h.since.keep k hk hx)⟩
    rcases h.own k (gone_own hg) with h4 | h4
    · exact hx h4
    · omega

theorem append_ok (h : Rel E w0 X Z a w s ρ N) (hm : ∀ id ob, m id = some ob → s.obj id = some ob) {o : Oper} (hd : ∀ d, o.dst = some d → d < a.tmps.size) {nx : Nat} (hf : Fresh s nx) {c : Call} {T : TypeId} {x y : Operand} (ho : o.op = .call c) (hc : c.callee = .builtin .append) (ha : c.args.toList = [x, y]) (hT : c.argTypes.toList = [T, T])
    {obs : List Prop} {e : Eff} (he : aAppend E m nx T (s.get x) (s.get y) = some (obs, e)) (hob : ∀ p ∈ obs, p) : Good E w0 X Z a o w s ρ N e (· = nx) := by
  have hx := h.get x
  have hy := h.get y
  have hargs : c.args.map a.eval = #[a.eval x, a.eval y] := by apply Array.ext'; simp [ha]
  have hT' : c.argTypes = #[T, T] := by apply Array.ext'; simp [hT]
  have run : ∀ {v : Value} {w1 : World}, (Builtin.append_ #[T, T] o.type #[a.eval x, a.eval y]).run E.P w = .ok v w1 → (execOp a.eval o).run E.P w = .ok (.value v) w1 := by
    intro v w1 hr
    simp [execOp, ho, resolve, hc, invoke, builtin, hargs, hT', hr]
  unfold aAppend at he
  split at he
  · rename_i sc xc hgx hgy
    rw [hgx] at hx; rw [hgy] at hy
    replace hx := vr1 hx
    replace hy := vr1 hy
    split at he
    · rename_i el hel
      have ht : E.P.underlying T = some (.slice el) := by
        unfold elemT at hel
        split at hel
        · rename_i e' hu'; simp only [Option.some.injEq] at hel; subst hel; exact hu'
        · cases hel
      split at he
      · rename_i i hi
        split at he
        · rename_i hcond
          obtain ⟨hts, hsz0, hby0, hzero⟩ := hcond
          obtain ⟨z, hz, hzs⟩ : ∃ z, i.zero = some z ∧ z.cells.size = i.size := by
            cases hz : i.zero with
            | none => simp [hz] at hzero
            | some z => exact ⟨z, rfl, by simpa [hz] using hzero⟩
          split at he
          · rename_i xs ys hbx hey
            simp only [Option.some.injEq, Prod.mk.injEq] at he
            obtain ⟨rfl, rfl⟩ := he
            have hroom : pRoom (pLen xs + pLen ys) i.bytes := hob (pRoom (pPlus (pLen xs) (pLen ys)) i.bytes) (by simp)
            unfold pRoom pLen at hroom
            obtain ⟨news, hnews⟩ := elems_cells h.mr hm hy hey
            have hexs : aElems m (tyT E.P 8 el) sc = some xs := by
              unfold aBase at hbx
              split at hbx
              · exact hbx
              · exact hbx
              · cases hbx
            obtain ⟨olds, holds⟩ := elems_cells h.mr hm hx hexs
            have holds' := holds
            obtain ⟨A, cap, hS, hcap, hol, hA0, hoc, ho1, hoe⟩ := holds'
            have hnews' := hnews
            obtain ⟨B, c', hv, hmc, hnl, hB0, hnc, hn1, hne⟩ := hnews'
            have h63 : xs.length + ys.length ≤ 9223372036854775807 := by
              have : (xs.length + ys.length) * 1 ≤ (xs.length + ys.length) * i.bytes := Nat.mul_le_mul_left _ hby0
              omega
            by_cases hfit : xs.length + ys.length ≤ cap
            · -- there is room: the row's own block, or nothing at all
              have hplace : (cap = 0 ∨ ∃ id, sc = .hs id ∧ s.obj id = some (.row (tyT E.P 8 el) xs) ∧ (ρ id).A = A ∧ (ρ id).cap = cap) := by
                unfold aBase at hbx
                split at hbx
                · obtain ⟨A', hA'⟩ := hx
                  rw [hS] at hA'
                  simp only [Value.slice.injEq] at hA'
                  exact .inl hA'.2.2
                · rename_i id
                  right
                  unfold aElems at hbx
                  simp only at hbx
                  split at hbx
                  · rename_i t' zs hmem
                    split at hbx
                    · rename_i htt; subst htt
                      simp only [Option.some.injEq] at hbx
                      subst hbx
                      have hso := hm id _ hmem
                      have := hx.2 _ _ hso
                      rw [hS] at this
                      simp only [Value.slice.injEq] at this
                      exact ⟨id, rfl, hso, this.1.symm, this.2.2.symm⟩
                    · cases hbx
                  · cases hbx
                · cases hbx
              rcases hplace with hc0 | ⟨id, rfl, hso, hAid, hcapid⟩
              · -- nothing was there, nothing comes
                subst hc0
                have hx0 : xs = [] := List.eq_nil_of_length_eq_zero (by omega)
                have hy0 : ys = [] := List.eq_nil_of_length_eq_zero (by omega)
                subst hx0 hy0
                have hn0 : news = [] := List.eq_nil_of_length_eq_zero (by rw [hnl]; simp)
                subst hn0
                have hr := run_append_in (P := E.P) (ty := o.type) ht hi hts (A := A) (n := 0) (cap := 0) hnews (by simp) (w1 := w) (by cases A <;> rfl)
                refine take_good (p := ⟨A, 0⟩) (D := [sc].flatMap hsC) (w' := w) h hd hf ?_ (fun h0 => absurd h0 (by simp)) (fun _ _ => rfl) rfl rfl rfl rfl fun ρ' m' hρ hs htn => ?_
                · refine run ?_
                  rw [hS]
                  simpa [pApp] using hr
                · have hp : ρ' nx = ⟨A, 0⟩ := by rw [hρ, if_pos rfl]
                  exact ⟨by rw [hp]; exact ⟨by simp [pApp], Nat.zero_le _⟩, fun h0 => by rw [hp] at h0; exact absurd h0 (by simp)⟩
              · by_cases hc0 : cap = 0
                · subst hc0
                  have hx0 : xs = [] := List.eq_nil_of_length_eq_zero (by omega)
                  have hy0 : ys = [] := List.eq_nil_of_length_eq_zero (by omega)
                  subst hx0 hy0
                  have hn0 : news = [] := List.eq_nil_of_length_eq_zero (by rw [hnl]; simp)
                  subst hn0
                  have hr := run_append_in (P := E.P) (ty := o.type) ht hi hts (A := A) (n := 0) (cap := 0) hnews (by simp) (w1 := w) (by cases A <;> rfl)
                  refine take_good (p := ⟨A, 0⟩) (D := [C.hs id].flatMap hsC) (w' := w) h hd hf ?_ (fun h0 => absurd h0 (by simp)) (fun _ _ => rfl) rfl rfl rfl rfl fun ρ' m' hρ hs htn => ?_
                  · refine run ?_
                    rw [hS]
                    simpa [pApp] using hr
                  · have hp : ρ' nx = ⟨A, 0⟩ := by rw [hρ, if_pos rfl]
                    exact ⟨by rw [hp]; exact ⟨by simp [pApp], Nat.zero_le _⟩, fun h0 => by rw [hp] at h0; exact absurd h0 (by simp)⟩
                · obtain ⟨hl, hrr⟩ := h.mr.obj id _ hso
                  obtain ⟨b, vals, T', hA, hh, hvs, hel2⟩ := hrr (by omega)
                  rw [hAid] at hA
                  subst hA
                  have hgone : Gone ρ s.obj ([C.hs id].flatMap hsC) b := ⟨id, by simp [hsC], _, xs, hso, by omega, hAid⟩
                  have hfitv : xs.length * (tyT E.P 8 el).size + news.length ≤ vals.size := by
                    rw [hnl, hvs, hcapid, ← Nat.add_mul]; exact Nat.mul_le_mul_right _ hfit
                  have hst := run_storeCells_at E.P b (xs.length * i.size) T' news 0 vals w hh (by rw [← hts]; omega) hn1
                  simp only [Nat.add_zero] at hst
                  have hr := run_append_in (P := E.P) (ty := o.type) ht hi hts (A := some ⟨b, 0, none⟩) (n := xs.length) (cap := cap) hnews hfit (w1 := w.setRow b (vals.toList.take (xs.length * i.size) ++ news ++ vals.toList.drop (xs.length * i.size + news.length)).toArray)
                    (by simp only [addr_add, Nat.zero_add]; exact hst)
                  refine take_good (p := ⟨some ⟨b, 0, none⟩, cap⟩) (D := [C.hs id].flatMap hsC) (w' := w.setRow b (vals.toList.take (xs.length * i.size) ++ news ++ vals.toList.drop (xs.length * i.size + news.length)).toArray) h hd hf ?_ (fun _ => ⟨id, by simp [hsC], _, xs, hso, by omega, hAid⟩) (fun k hk => setRow_other w b k _ fun e => hk (e ▸ hgone)) (setRow_size _ _ _) rfl rfl rfl fun ρ' m' hρ hs htn => ?_
                  · refine run ?_
                    rw [hS]
                    simpa [pApp] using hr
                  · have hp : ρ' nx = ⟨some ⟨b, 0, none⟩, cap⟩ := by rw [hρ, if_pos rfl]
                    refine ⟨by rw [hp]; exact ⟨by simpa [pApp] using hfit, by show cap ≤ _; rw [← hcapid]; exact hl.2⟩, fun _ => ⟨b, _, T', by rw [hp], setRow_heap w b vals _ T' (0, 0) hh, ?_, fun k hk => ?_⟩⟩
                    · rw [hp]
                      simp only [List.size_toArray, List.length_append, List.length_take, List.length_drop, Array.length_toList]
                      rw [← hcapid, ← hvs, ← hts]
                      omega
                    · simp only [pApp, List.length_append] at hk
                      by_cases hkx : k < xs.length
                      · obtain ⟨us, hrd, hcell⟩ := hel2 k hkx
                        refine ⟨us, ?_, fun j u hj => ?_⟩
                        · have : (pApp xs ys)[k] = xs[k] := by simp only [pApp]; exact List.getElem_append_left hkx
                          rw [this]; exact hrd.mono (fun _ h => h) hs
                        · have hj1 : j < (tyT E.P 8 el).size := by rw [← hrd.len]; exact (List.getElem?_eq_some_iff.1 hj).1
                          have hk1 : k * (tyT E.P 8 el).size + (tyT E.P 8 el).size ≤ xs.length * (tyT E.P 8 el).size := by
                            have : (k + 1) * (tyT E.P 8 el).size ≤ xs.length * (tyT E.P 8 el).size := Nat.mul_le_mul_right _ hkx
                            rw [Nat.add_mul] at this; omega
                          simp only [List.getElem?_toArray, ← hts]
                          rw [List.getElem?_append_left (by simp; omega), List.getElem?_append_left (by simp; omega), List.getElem?_take, if_pos (by omega)]
                          simpa using hcell j u hj
                      · obtain ⟨us, hrd, hcell⟩ := hne (k - xs.length) (by omega)
                        refine ⟨us, ?_, fun j u hj => ?_⟩
                        · have : (pApp xs ys)[k] = ys[k - xs.length] := by simp only [pApp]; exact List.getElem_append_right (by omega)
                          rw [this]; exact hrd.mono (fun _ h => h) hs
                        · have hj1 : j < (tyT E.P 8 el).size := by rw [← hrd.len]; exact (List.getElem?_eq_some_iff.1 hj).1
                          have hk1 : (k - xs.length) * (tyT E.P 8 el).size + (tyT E.P 8 el).size ≤ ys.length * (tyT E.P 8 el).size := by
                            have : (k - xs.length + 1) * (tyT E.P 8 el).size ≤ ys.length * (tyT E.P 8 el).size := Nat.mul_le_mul_right _ (by omega)
                            rw [Nat.add_mul] at this; omega
                          have hk2 : k * (tyT E.P 8 el).size = xs.length * (tyT E.P 8 el).size + (k - xs.length) * (tyT E.P 8 el).size := by rw [← Nat.add_mul]; congr 1; omega
                          simp only [List.getElem?_toArray, ← hts]
                          rw [List.getElem?_append_left (by simp; omega), List.getElem?_append_right (by simp; omega)]
                          have e1 : k * (tyT E.P 8 el).size + j - (vals.toList.take (xs.length * (tyT E.P 8 el).size)).length = (k - xs.length) * (tyT E.P 8 el).size + j := by
                            simp only [List.length_take, Array.length_toList]; omega
                          rw [e1]
                          exact hcell j u hj
            · -- a new block
              have hr := run_append_new (P := E.P) (ty := o.type) ht hi hz hts hS holds hnews (by omega) (by omega) h63
              have hge := grownCap_ge w (xs.length + ys.length) cap el
              refine new_good (D := [sc].flatMap hsC) (cap := grownCap w (xs.length + ys.length) cap el) (c := .hs nx) h hd hf (run hr) rfl rfl rfl rfl fun ρ' m' N' hρ htn hm' hN hG hs hsN => ?_
              have hp : ρ' nx = ⟨some ⟨w.heap.size, 0, none⟩, grownCap w (xs.length + ys.length) cap el⟩ := by rw [hρ, if_pos rfl]
              refine ⟨⟨by rw [hp]; exact ⟨by simpa [pApp] using hge, grownCap_le_maxLen w _ cap el (by unfold maxLen; omega)⟩, fun _ => ⟨w.heap.size, _, el, by rw [hp], push_new rfl, ?_, fun k hk => ?_⟩⟩, ⟨_, _, _, rfl⟩, fun t' zs hy => ?_⟩
              · rw [hp]
                simp only [Array.size_append, List.size_toArray, size_zeroCells, hol, hnl, hzs, hts, ← Nat.add_mul]
                congr 1; omega
              · simp only [pApp, List.length_append] at hk
                have hcat : ∀ q, q < (xs.length + ys.length) * (tyT E.P 8 el).size → (olds.toArray ++ news.toArray ++ Builtin.zeroCells z.cells (grownCap w (xs.length + ys.length) cap el - (xs.length + ys.length)))[q]? = (olds ++ news)[q]? := by
                  intro q hq
                  rw [Nat.add_mul] at hq
                  rw [Array.getElem?_append_left (by simp; omega)]
                  simp
                have hkk : k * (tyT E.P 8 el).size + (tyT E.P 8 el).size ≤ (xs.length + ys.length) * (tyT E.P 8 el).size := by
                  have : (k + 1) * (tyT E.P 8 el).size ≤ (xs.length + ys.length) * (tyT E.P 8 el).size := Nat.mul_le_mul_right _ hk
                  rw [Nat.add_mul] at this; omega
                by_cases hkx : k < xs.length
                · obtain ⟨us, hrd, hcell⟩ := hoe k hkx
                  refine ⟨us, ?_, fun j u hj => ?_⟩
                  · have : (pApp xs ys)[k] = xs[k] := by simp only [pApp]; exact List.getElem_append_left hkx
                    rw [this]; exact hrd.mono hN hs
                  · have hj1 : j < (tyT E.P 8 el).size := by rw [← hrd.len]; exact (List.getElem?_eq_some_iff.1 hj).1
                    have hjj := hcell j u hj
                    rw [hcat _ (by omega), List.getElem?_append_left (List.getElem?_eq_some_iff.1 hjj).1]
                    exact hjj
                · obtain ⟨us, hrd, hcell⟩ := hne (k - xs.length) (by omega)
                  refine ⟨us, ?_, fun j u hj => ?_⟩
                  · have : (pApp xs ys)[k] = ys[k - xs.length] := by simp only [pApp]; exact List.getElem_append_right (by omega)
                    rw [this]; exact hrd.mono hN hs
                  · have hj1 : j < (tyT E.P 8 el).size := by rw [← hrd.len]; exact (List.getElem?_eq_some_iff.1 hj).1
                    have hk2 : k * (tyT E.P 8 el).size = xs.length * (tyT E.P 8 el).size + (k - xs.length) * (tyT E.P 8 el).size := by rw [← Nat.add_mul]; congr 1; omega
                    rw [hcat _ (by omega), List.getElem?_append_right (by omega)]
                    have e1 : k * (tyT E.P 8 el).size + j - olds.length = (k - xs.length) * (tyT E.P 8 el).size + j := by omega
                    rw [e1]
                    exact hcell j u hj
              · rw [hm'] at hy
                simp only [Option.some.injEq, Obj.row.injEq] at hy
                obtain ⟨rfl, hy⟩ := hy
                have hy := eq_of_heq hy
                subst hy
                rw [hp]
                simp [pApp]
          · cases he
        · cases he
      · cases he
    · cases he
  · cases he

theorem sliceOwn_ok (h : Rel E w0 X Z a w s ρ N) (hm : ∀ id ob, m id = some ob → s.obj id = some ob) {o : Oper} (hd : ∀ d, o.dst = some d → d < a.tmps.size) {nx : Nat} (hf : Fresh s nx) {T : TypeId} {x : Operand} {lo hi mx : Option Operand} (ho : o.op = .slice T x lo hi mx) {id : Nat}
    (hg : s.get x = .v false [.hs id]) {obs : List Prop} {e : Eff} (he : aSliceOwn E m nx T id (lo.map s.get) (hi.map s.get) (mx.map s.get) = some (obs, e)) (hob : ∀ p ∈ obs, p) : Good E w0 X Z a o w s ρ N e (· = nx) := by
  have hx := h.get x
  rw [hg] at hx
  have bnd : ∀ {y : Option Operand}, bound (y.map s.get) = some none → y.map a.eval = none := by
    intro y hy
    cases y with
    | none => rfl
    | some z =>
      exfalso
      simp only [Option.map_some] at hy
      unfold bound at hy
      split at hy
      · rename_i heq; cases heq
      · simp at hy
      · cases hy
  have bnd' : ∀ {y : Option Operand} {i : Int}, bound (y.map s.get) = some (some i) → ∃ k, y.map a.eval = some (.int k i) := by
    intro y i hy
    cases y with
    | none => simp [bound] at hy
    | some z =>
      simp only [Option.map_some] at hy ⊢
      unfold bound at hy
      split at hy
      · rename_i heq; cases heq
      · rename_i k n heq
        simp only [Option.some.injEq] at heq hy
        subst hy
        have hz := h.get z
        rw [heq] at hz
        exact ⟨k, by rw [(vr1 hz : _ = _)]⟩
      · cases hy
  unfold aSliceOwn at he
  split at he
  · rename_i t xs l u hmem hlo hhi hmx
    have hso := hm id _ hmem
    have hv : a.eval x = _ := (vr1 hx).2 t xs hso
    obtain ⟨hxl, hrr⟩ := h.mr.obj id _ hso
    have e3 := bnd hmx
    split at he
    · rename_i hes
      obtain ⟨e', i, hu', hi', hz⟩ := esizeT_some hes
      have run : ∀ (l' u' : Nat), (Instr.sliceBounds true xs.length (ρ id).cap (lo.map a.eval) (hi.map a.eval) none).run E.P w = .ok (l', u', (ρ id).cap) w →
          (execOp a.eval o).run E.P w = .ok (.value (.slice (if (ρ id).cap = l' then (ρ id).A else (ρ id).A.map (·.add (l' * t.size))) (u' - l') ((ρ id).cap - l'))) w := by
        intro l' u' hb
        simp [execOp, ho, e3, hv, Instr.sliceAt, run_underlying hu', Instr.slice, hb, sizeOf, typeInfo, hi', hz]
      split at he
      · rename_i i0
        obtain ⟨k1, e1⟩ := bnd' hlo
        have e2 := bnd hhi
        have hb : pTo i0 (pLen xs) := by
          simp only [Option.some.injEq, Prod.mk.injEq] at he
          exact hob _ (by rw [← he.1]; simp)
        unfold pTo pLen at hb
        refine (pure_one (c := .ht id (pNat i0)) (run i0.toNat xs.length (by simp [e1, e2, Instr.sliceBounds, run_sliceBound w k1 i0 xs.length _ hb.1 hb.2])) ?_ he).good h hd _
        refine ⟨⟨_, _, _, rfl⟩, fun t' ys hy => ?_⟩
        rw [hso] at hy
        simp only [Option.some.injEq, Obj.row.injEq] at hy
        obtain ⟨rfl, hy⟩ := hy
        have hy := eq_of_heq hy
        subst hy
        exact ⟨by unfold pNat; omega, rfl⟩
      · rename_i i0
        have e1 := bnd hlo
        obtain ⟨k2, e2⟩ := bnd' hhi
        simp only [Option.some.injEq, Prod.mk.injEq] at he
        obtain ⟨he1, rfl⟩ := he
        have hb : pTo i0 (pLen xs) := hob _ (by rw [← he1]; simp)
        unfold pTo pLen at hb
        have hr := run 0 i0.toNat (by simp [e1, e2, Instr.sliceBounds, run_sliceBound w k2 i0 (ρ id).cap _ hb.1 (by omega)])
        have hAA : (if (ρ id).cap = 0 then (ρ id).A else (ρ id).A.map (·.add (0 * t.size))) = (ρ id).A := by
          by_cases h0 : (ρ id).cap = 0
          · rw [if_pos h0]
          · obtain ⟨b, _, _, hA, _⟩ := hrr (by omega)
            rw [if_neg h0, hA]; simp [addr_add]
        rw [hAA] at hr
        have hzl : (pSub xs 0 (pNat i0)).length = i0.toNat := by unfold pSub pNat; simp; omega
        refine take_good (p := ρ id) (D := [C.hs id].flatMap hsC) (w' := w) h hd hf (by rw [hzl]; simpa using hr) (fun h0 => ⟨id, by simp [hsC], t, xs, hso, h0, rfl⟩) (fun _ _ => rfl) rfl rfl rfl rfl fun ρ' m' hρ hs htn => ?_
        have hp : ρ' nx = ρ id := by rw [hρ, if_pos rfl]
        refine ⟨by rw [hp, hzl]; omega, fun h0 => ?_⟩
        rw [hp] at h0 ⊢
        obtain ⟨b, vals, T', hA, hh, hvs, hel⟩ := hrr h0
        refine ⟨b, vals, T', hA, hh, hvs, fun k hk => ?_⟩
        have hk2 : k < xs.length := by rw [hzl] at hk; omega
        obtain ⟨us, hrd, hcell⟩ := hel k hk2
        refine ⟨us, ?_, hcell⟩
        have : (pSub xs 0 (pNat i0))[k] = xs[k] := by unfold pSub; simp
        rw [this]; exact hrd
      · cases he
    · cases he
  · cases he

/-- a store into an object, by a call -/
theorem set_goodV (h : Rel E w0 X Z a w s ρ N) {o : Oper} (hd : ∀ d, o.dst = some d → d < a.tmps.size) {id b : Nat} {ob ob' : Obj} {D : List Nat} {cells' : Array Value} (hm : s.obj id = some ob) (hho : Holds (ρ id) ob) (hA : (ρ id).A = some ⟨b, 0, none⟩) (hD : id ∉ D)
    (hr : (execOp a.eval o).run E.P w = .ok (.value undef) (w.setRow b cells'))
    (hrow : ∀ t xs, ob' = .row t xs → ∃ ys, ob = .row t ys ∧ ys.length = xs.length)
    (hobj : ∀ m' N', (∀ b, N b → N' b) → (∀ b, Gone ρ s.obj D b → N' b) → SameOn N' w (w.setRow b cells') → Turn ρ s.obj ρ m' (fun _ => False) → ObjR (w.setRow b cells') N' ρ m' id ob') :
    Good E w0 X Z a o w s ρ N ⟨.tup [], (id, some ob') :: D.map fun i => (i, none)⟩ (fun _ => False) := by
  let N' : Blk := fun b => N b ∨ Gone ρ s.obj D b
  have hown0 := h.own b ⟨id, ob, hm, hho, hA⟩
  obtain ⟨ht, hN, hs, hmr, hown⟩ := h.mr.set (w' := w.setRow b cells') (N' := N') hm hho hA hD (fun k hk => setRow_other w b k cells' hk) (setRow_size w b cells') (fun i => obj_set (s := s) (dst := o.dst) (r := .tup []) i) (fun _ => Iff.rfl) hrow
    fun hN hs ht => hobj _ N' hN (fun b hb => Or.inr hb) hs ht
  refine ⟨undef, w.setRow b cells', ρ, N', .inl hr, fun _ _ => rfl, hN, fun k hk => hs k (hN k hk), h.put hd (fun _ hf => hf.elim) ht hN (fun k hk => hs k (hN k hk)) ⟨[], rfl, .nil⟩ hmr ?_ (fun k hk => h.own k (hown k hk)) h.nn'⟩
  refine ⟨h.since.os, h.since.tape, h.since.output, by rw [setRow_size]; exact h.since.size, fun k hk hx => ?_⟩
  rw [setRow_other w b k cells' fun e => ?_]
  · exact h.since.keep k hk hx
  · subst e
    rcases hown0 with h1 | h1
    · exact hx h1
    · omega

theorem repV_len (z : List Value) : ∀ n, (repV z n).length = n * z.length
  | 0 => by simp [repV]
  | n + 1 => by rw [repV, List.length_append, repV_len z n, Nat.add_mul]; omega
theorem repV_get (z : List Value) : ∀ {n q j : Nat} {u : Value}, q < n → z[j]? = some u → (repV z n)[q * z.length + j]? = some u
  | 0, q, _, _, hq, _ => absurd hq (by omega)
  | n + 1, 0, j, u, _, hj => by
    rw [repV, Nat.zero_mul, Nat.zero_add, List.getElem?_append_left (List.getElem?_eq_some_iff.1 hj).1]; exact hj
  | n + 1, q + 1, j, u, hq, hj => by
    rw [repV, Nat.add_mul, Nat.one_mul, show q * z.length + z.length + j = z.length + (q * z.length + j) by omega, List.getElem?_append_right (by omega), Nat.add_sub_cancel_left]
    exact repV_get z (by omega) hj
theorem repV_mem (z : List Value) : ∀ {n : Nat} {u : Value}, u ∈ repV z n → u ∈ z
  | 0, _, h => by simp [repV] at h
  | n + 1, u, h => by
    rw [repV] at h
    rcases List.mem_append.1 h with h | h
    · exact h
    · exact repV_mem z h

theorem clear_ok (h : Rel E w0 X Z a w s ρ N) (hm : ∀ id ob, m id = some ob → s.obj id = some ob) {o : Oper} (hd : ∀ d, o.dst = some d → d < a.tmps.size) {c : Call} {T : TypeId} {x : Operand} (ho : o.op = .call c) (hc : c.callee = .builtin .clear) (ha : c.args.toList = [x]) (hT : c.argTypes.toList = [T])
    {obs : List Prop} {e : Eff} (he : aClear E m T (s.get x) = some (obs, e)) (hob : ∀ p ∈ obs, p) : Good E w0 X Z a o w s ρ N e (fun _ => False) := by
  have hx := h.get x
  have hargs : c.args.map a.eval = #[a.eval x] := by apply Array.ext'; simp [ha]
  have hT' : c.argTypes = #[T] := by apply Array.ext'; simp [hT]
  unfold aClear at he
  split at he
  · rename_i id lo hgx
    rw [hgx] at hx
    split at he
    · rename_i t xs el hmem hel
      split at he
      · rename_i z n hzero hes
        split at he
        · rename_i hn
          cases hz : asD t z with
          | none => simp [hz] at he
          | some d =>
            simp only [hz, Option.map_some, Option.some.injEq, Prod.mk.injEq] at he
            obtain ⟨rfl, rfl⟩ := he
            have hlt : pBelow lo (pLen xs) := hob _ (by simp)
            unfold pBelow pLen at hlt
            have hso := hm id _ hmem
            obtain ⟨_, hv⟩ := (vr1 hx).2 t xs hso
            obtain ⟨hxl, hrr⟩ := h.mr.obj id _ hso
            obtain ⟨b, vals, T', hA, hh, hvs, hcell⟩ := hrr (by omega)
            rw [if_neg (by omega), hA] at hv
            simp only [Option.map_some, addr_add, Nat.zero_add] at hv
            have ht : E.P.underlying T = some (.slice el) := by
              unfold elemT at hel
              split at hel
              · rename_i e' hu'; simp only [Option.some.injEq] at hel; subst hel; exact hu'
              · cases hel
            obtain ⟨i, zv, hi, hzv, hzc⟩ := zeroT_some hzero
            have hzc0 := hzc w N ρ s.obj
            have hrd0 := asD_rd hz hzc0
            have hzl : zv.cells.toList.length = t.size := hrd0.len
            have hrep : (Builtin.zeroCells zv.cells (xs.length - lo)).toList = repV zv.cells.toList (xs.length - lo) := by
              unfold Builtin.zeroCells
              simpa using range_rep zv.cells (xs.length - lo)
            have hrl : (repV zv.cells.toList (xs.length - lo)).length = (xs.length - lo) * t.size := by rw [repV_len, hzl]
            have hbig : xs.length * t.size ≤ vals.size := by rw [hvs]; exact Nat.mul_le_mul_right _ hxl.1
            have hsum : lo * t.size + (xs.length - lo) * t.size = xs.length * t.size := by rw [← Nat.add_mul]; congr 1; omega
            have hst := run_storeCells_at E.P b (lo * t.size) T' (repV zv.cells.toList (xs.length - lo)) 0 vals w hh (by omega) (fun u hu => hrd0.one u (repV_mem _ hu))
            simp only [Nat.add_zero] at hst
            refine set_goodV (D := []) h hd hso (show 0 < (ρ id).cap by omega) hA (by simp) (cells' := (vals.toList.take (lo * t.size) ++ repV zv.cells.toList (xs.length - lo) ++ vals.toList.drop (lo * t.size + (repV zv.cells.toList (xs.length - lo)).length)).toArray) ?_ (fun t' ys e => ?_) fun m' N' hN hG hs htn => ?_
            · have hcl : (Builtin.clear_ #[T] o.type #[a.eval x]).run E.P w = .ok (.tuple #[]) (w.setRow b (vals.toList.take (lo * t.size) ++ repV zv.cells.toList (xs.length - lo) ++ vals.toList.drop (lo * t.size + (repV zv.cells.toList (xs.length - lo)).length)).toArray) := by
                obtain ⟨q, hq⟩ : ∃ q, xs.length - lo = q + 1 := ⟨xs.length - lo - 1, by omega⟩
                rw [hv]
                simp only [hq] at hrep hst ⊢
                simp [Builtin.clear_, run_underlying ht, run_zeroT w hi hzv, hrep, hst]
              simp [execOp, ho, resolve, hc, invoke, builtin, hargs, hT', hcl, undef]
            · simp only [Obj.row.injEq] at e
              obtain ⟨rfl, e⟩ := e
              have e := eq_of_heq e
              subst e
              exact ⟨xs, rfl, by unfold pClr; simp; omega⟩
            · have hpl : (pClr xs lo d).length = xs.length := by unfold pClr; simp; omega
              refine ⟨by rw [hpl]; exact hxl, fun _ => ⟨b, _, T', hA, setRow_heap w b vals _ T' (0, 0) hh, ?_, fun k hk => ?_⟩⟩
              · simp only [List.size_toArray, List.length_append, List.length_take, List.length_drop, Array.length_toList, hrl]
                omega
              · rw [hpl] at hk
                by_cases hkl : k < lo
                · obtain ⟨us, hrd, hcl⟩ := hcell k hk
                  refine ⟨us, ?_, fun j u hj => ?_⟩
                  · have : (pClr xs lo d)[k]'(by rw [hpl]; exact hk) = xs[k] := by unfold pClr; rw [List.getElem_append_left (by simp; omega)]; simp
                    rw [this]; exact hrd.mono hN (fun b hb => hs b (hN b hb))
                  · have hj1 : j < t.size := by rw [← hrd.len]; exact (List.getElem?_eq_some_iff.1 hj).1
                    have hk1 : k * t.size + t.size ≤ lo * t.size := by
                      have : (k + 1) * t.size ≤ lo * t.size := Nat.mul_le_mul_right _ hkl
                      rw [Nat.add_mul] at this; omega
                    simp only [List.getElem?_toArray]
                    rw [List.append_assoc, List.getElem?_append_left (by simp; omega), List.getElem?_take, if_pos (by omega)]
                    simpa using hcl j u hj
                · refine ⟨zv.cells.toList, ?_, fun j u hj => ?_⟩
                  · have : (pClr xs lo d)[k]'(by rw [hpl]; exact hk) = d := by unfold pClr; rw [List.getElem_append_right (by simp; omega)]; simp
                    rw [this]; exact (asD_rd hz (hzc w N' ρ s.obj)).mono (fun _ h => h) hs
                  · have hj1 : j < t.size := by rw [← hzl]; exact (List.getElem?_eq_some_iff.1 hj).1
                    have hk2 : k * t.size = lo * t.size + (k - lo) * t.size := by rw [← Nat.add_mul]; congr 1; omega
                    have hk3 : (k - lo) * t.size + t.size ≤ (xs.length - lo) * t.size := by
                      have : (k - lo + 1) * t.size ≤ (xs.length - lo) * t.size := Nat.mul_le_mul_right _ (by omega)
                      rw [Nat.add_mul] at this; omega
                    have htk : (vals.toList.take (lo * t.size)).length = lo * t.size := by simp; omega
                    simp only [List.getElem?_toArray]
                    rw [List.append_assoc, List.getElem?_append_right (by rw [htk]; omega), htk, List.getElem?_append_left (by rw [hrl]; omega), show k * t.size + j - lo * t.size = (k - lo) * t.size + j by omega, ← hzl]
                    exact repV_get _ (by omega) hj
        · cases he
      · cases he
    · cases he
  · cases he

/-- bytes as a string -/
theorem bytesText_ok (h : Rel E w0 X Z a w s ρ N) (hm : ∀ id ob, m id = some ob → s.obj id = some ob) {o : Oper} {S D : TypeId} {x : Operand} (ho : o.op = .convert S D x) (ht : isText E.P S D = true) {obs : List Prop} {e : Eff}
    (he : aText m (s.get x) = some (obs, e)) : PureR E a o w N ρ s.obj e := by
  have hx := h.get x
  unfold aText at he
  split at he
  · rename_i c hg
    rw [hg] at hx
    cases hq : aElems m tyB c with
    | none => simp [hq] at he
    | some xs =>
      simp only [hq, Option.bind_some] at he
      obtain ⟨news, A, cp, hv, _, hl, hA, hcell, _, hk⟩ := elems_cells h.mr hm (vr1 hx) hq
      unfold isText elemT at ht
      split at ht
      · rename_i e0 he0 hD
        split at he0
        · rename_i e1 hS
          simp only [Option.some.injEq] at he0
          subst he0
          split at ht
          · rename_i hu8
            refine pure_ret (c := .str (pBytes xs)) (v := .string (pBytes xs)) ?_ rfl he
            have hr : (convert S D (a.eval x)).run E.P w = .ok (.string (pBytes xs)) w := by
              rw [hv]
              cases A with
              | none =>
                have h0 := List.eq_nil_of_length_eq_zero (hA rfl)
                have := run_convert_bytes_nil (P := E.P) (w := w) S e1 hS hu8 xs.length cp D hD
                rw [this, h0]
                rfl
              | some ad =>
                have hlen : news.length = xs.length := by rw [hl]; simp [tyB, Ty.size]
                have hnews : news = (xs.map (·.1)).map (Value.int .u8) := by
                  apply List.ext_getElem?
                  intro j
                  by_cases hj : j < xs.length
                  · obtain ⟨us, hrd, hget⟩ := hk j hj
                    obtain ⟨v1, v2, rfl, h1, h2⟩ := hrd
                    have h1 : _ = _ := h1
                    have h2 : _ = _ := h2
                    subst h1 h2
                    have h3 := hget 0 _ rfl
                    simp only [tyB, Ty.size, Nat.add_zero, Nat.mul_one] at h3
                    rw [h3]
                    simp [hj]
                    rfl
                  · have hj' : xs.length ≤ j := Nat.le_of_not_lt hj
                    rw [List.getElem?_eq_none (by rw [hlen]; exact hj'), List.getElem?_eq_none (by simpa using hj')]
                have hld := run_loadCells_list (P := E.P) w ad news (fun j v hj => hcell ad rfl j v hj)
                rw [hlen, hnews] at hld
                rw [run_convert_bytes_string w S D e1 _ _ cp hS hu8 hD, run_bytesToString w ad xs.length cp _ hld, foldl_push_bytes]
                simp [pBytes, ByteArray.empty, ByteArray.emptyWithCapacity]
                rfl
            simp [execOp, ho, hr]
          · cases ht
        · cases he0
      · cases ht
  · cases he

/-- a slice of zeros -/
theorem make_ok (h : Rel E w0 X Z a w s ρ N) {o : Oper} (hd : ∀ d, o.dst = some d → d < a.tmps.size) {nx : Nat} (hf : Fresh s nx) {T : TypeId} {x y : Operand} (ho : o.op = .makeSlice T x y) {obs : List Prop} {e : Eff}
    (he : aMake E nx T (s.get x) (s.get y) = some (obs, e)) (hob : ∀ p ∈ obs, p) : Good E w0 X Z a o w s ρ N e (· = nx) := by
  have hx := h.get x
  have hy := h.get y
  unfold aMake at he
  split at he
  · rename_i k l k' c hgx hgy
    rw [hgx] at hx; rw [hgy] at hy
    have hxv : _ = _ := vr1 hx
    have hyv : _ = _ := vr1 hy
    split at he
    · rename_i el hel
      have hu : E.P.underlying T = some (.slice el) := by
        unfold elemT at hel
        split at hel
        · rename_i e' hu'; simp only [Option.some.injEq] at hel; subst hel; exact hu'
        · cases hel
      split at he
      · rename_i i z hi hz
        split at he
        · rename_i hsz
          obtain ⟨hsz, hzl⟩ := hsz
          cases hd' : asD (tyT E.P 8 el) z with
          | none => simp [hd'] at he
          | some d =>
            simp only [hd', Option.map_some, Option.some.injEq, Prod.mk.injEq] at he
            obtain ⟨rfl, rfl⟩ := he
            have h0 : pGe0 l := hob _ (by simp)
            have hlc : c = l := hob _ (by simp)
            have hrm : pRoom (pNat l) i.bytes := hob _ (by simp)
            have h62 : pNat l ≤ 4611686018427387904 := hob _ (by simp)
            subst hlc
            unfold pGe0 at h0
            unfold pRoom pNat at hrm
            unfold pNat at h62
            obtain ⟨i2, zv, hi2, hzv, hzr⟩ := zeroT_some hz
            rw [hi] at hi2
            simp only [Option.some.injEq] at hi2
            subst hi2
            have hzsz : zv.cells.size = i.size := by have := (hzr w N ρ s.obj).len; simp at this; omega
            have hbytes : (i.bytes : Int) * c ≤ 281474976710656 := by
              have e1 : (c.toNat : Int) = c := Int.toNat_of_nonneg h0
              have : ((c.toNat * i.bytes : Nat) : Int) ≤ 140737488351232 := by omega
              rw [Int.natCast_mul, e1] at this
              rw [Int.mul_comm]; omega
            have hmk := run_make (P := E.P) w T el i zv hu hi hzv k k' c c h0 (Int.le_refl _) hbytes (by omega)
            refine new_good (D := []) (cap := c.toNat) (c := .hs nx) (v := .slice (some ⟨w.heap.size, 0, none⟩) c.toNat c.toNat) (w' := w.alloc (.cells (madeCells zv.cells (c.toNat * i.size)) el)) h hd hf ?_ rfl rfl rfl rfl fun ρ' m' N' hρ ht hm' hN hG hs hgs => ?_
            · simp [execOp, ho, hxv, hyv, hmk]
            · have hp : ρ' nx = ⟨some ⟨w.heap.size, 0, none⟩, c.toNat⟩ := by rw [hρ, if_pos rfl]
              have hlen : (pRep (pNat c) d).length = c.toNat := by simp [pRep, pNat]
              refine ⟨⟨by rw [hp, hlen]; exact ⟨Nat.le_refl _, Nat.le_trans h62 (by decide)⟩, fun _ => ⟨w.heap.size, madeCells zv.cells (c.toNat * i.size), el, by rw [hp], push_new rfl, by rw [hp, size_madeCells, hsz], fun q hq => ⟨zv.cells.toList, ?_, fun j u hj => ?_⟩⟩⟩, ⟨_, _, _, rfl⟩, fun t ys hy => ?_⟩
              · have : (pRep (pNat c) d)[q] = d := by simp [pRep]
                rw [this]
                exact (asD_rd hd' (hzr w N ρ s.obj)).mono hN hs
              · have hjz : j < zv.cells.size := by simpa using (List.getElem?_eq_some_iff.1 hj).1
                rw [hlen] at hq
                have hin : q * i.size + j < c.toNat * i.size := by
                  have h1 : (q + 1) * i.size ≤ c.toNat * i.size := Nat.mul_le_mul_right _ hq
                  rw [Nat.add_mul] at h1; omega
                rw [hsz]
                unfold madeCells
                rw [Array.getElem?_map, Array.getElem?_range, if_pos hin]
                simp only [Option.map_some]
                have hmod : (q * i.size + j) % zv.cells.size = j := by
                  rw [← hzsz, Nat.mul_comm, Nat.mul_add_mod, Nat.mod_eq_of_lt hjz]
                rw [hmod, ← hj]
                simp [hjz]
              · rw [hm'] at hy
                simp only [Option.some.injEq, Obj.row.injEq] at hy
                obtain ⟨rfl, hy⟩ := hy
                have hy := eq_of_heq hy
                subst hy
                rw [hp, hlen]
        · cases he
      · cases he
    · cases he
  · cases he

/-- zeros behind nothing -/
theorem appendZ_ok (h : Rel E w0 X Z a w s ρ N) {o : Oper} (hd : ∀ d, o.dst = some d → d < a.tmps.size) {nx : Nat} (hf : Fresh s nx) {c : Call} {T T' : TypeId} {x y : Operand} (ho : o.op = .call c) (hc : c.callee = .builtin .append) (ha : c.args.toList = [x, y]) (hT : c.argTypes.toList = [T, T'])
    {obs : List Prop} {e : Eff} (he : aAppendZ E nx T T' (s.get x) (s.get y) = some (obs, e)) (hob : ∀ p ∈ obs, p) : Good E w0 X Z a o w s ρ N e (· = nx) := by
  have hx := h.get x
  have hy := h.get y
  have hargs : c.args.map a.eval = #[a.eval x, a.eval y] := by apply Array.ext'; simp [ha]
  have hT' : c.argTypes = #[T, T'] := by apply Array.ext'; simp [hT]
  unfold aAppendZ at he
  split at he
  · rename_i k n hgx hgy
    rw [hgx] at hx; rw [hgy] at hy
    have hxv := vr1 hx
    have hyv : _ = _ := vr1 hy
    split at he
    · rename_i el kn hel hun
      have hu : E.P.underlying T = some (.slice el) := by
        unfold elemT at hel
        split at hel
        · rename_i e' hu'; simp only [Option.some.injEq] at hel; subst hel; exact hu'
        · cases hel
      split at he
      · rename_i i z hi hz
        split at he
        · rename_i hsz
          obtain ⟨hsz, hzl, hpos⟩ := hsz
          cases hd' : asD (tyT E.P 8 el) z with
          | none => simp [hd'] at he
          | some d =>
            simp only [hd', Option.map_some, Option.some.injEq, Prod.mk.injEq] at he
            obtain ⟨rfl, rfl⟩ := he
            have h0 : pLt 0 n = true := hob _ (by simp)
            have hrm : pRoom (pNat n) i.bytes := hob _ (by simp)
            have h62 : pNat n ≤ 4611686018427387904 := hob _ (by simp)
            have h0 : 0 < n := of_decide_eq_true h0
            unfold pRoom at hrm
            obtain ⟨i2, zv, hi2, hzv, hzr⟩ := zeroT_some hz
            rw [hi] at hi2
            simp only [Option.some.injEq] at hi2
            subst hi2
            have hzsz : zv.cells.size = i.size := by have := (hzr w N ρ s.obj).len; simp at this; omega
            have hn : n = ((pNat n : Nat) : Int) := by unfold pNat; omega
            obtain ⟨K, hK⟩ : ∃ K, K = pNat n := ⟨_, rfl⟩
            rw [← hK] at hrm h62 hn
            obtain ⟨A, hA⟩ : ∃ A, a.eval x = .slice A 0 0 := hxv
            have hK0 : 0 < K := by omega
            have hz62 : i.size ≠ 0 := by omega
            have hold : (Builtin.firstCells i.size 0 (.slice A 0 0)).run E.P w.drew = .ok ([] : List Value).toArray w.drew := by
              cases A with
              | none => rfl
              | some ad => exact run_firstCells_some w.drew i.size 0 ad 0 0 [] (by simp) (fun j v hj => by simp at hj)
            have hfit : Builtin.nextslicecap (0 + K) 0 * i.bytes ≤ 281474976710656 := growslice_fits (by omega) (by simpa using Nat.le_trans hrm (by decide))
            have hr := Lib.run_append_grow_zeros w T T' o.type el i zv k kn hu hun hi hzv A 0 0 [] hold K hK0 hpos (by omega) (by omega) (by omega) hfit
            have run : (execOp a.eval o).run E.P w = .ok (.value (.slice (some ⟨w.heap.size, 0, none⟩) (0 + K) (grownCap w (0 + K) 0 el))) (w.drew.alloc (.cells (([] : List Value).toArray ++ Builtin.zeroCells zv.cells K ++ Builtin.zeroCells zv.cells (grownCap w (0 + K) 0 el - (0 + K))) el)) := by
              rw [← hn] at hr
              simp [execOp, ho, resolve, hc, invoke, builtin, hargs, hT', hA, hyv]
              rw [hr]
              simp
            have hge := grownCap_ge w (0 + K) 0 el
            have hlen : (pRep K d).length = K := by simp [pRep]
            rw [← hK]
            refine new_good (D := []) (cap := grownCap w (0 + K) 0 el) (c := .hs nx) h hd hf run rfl rfl rfl rfl fun ρ' m' N' hρ ht hm' hN hG hs hgs => ?_
            have hp : ρ' nx = ⟨some ⟨w.heap.size, 0, none⟩, grownCap w (0 + K) 0 el⟩ := by rw [hρ, if_pos rfl]
            refine ⟨⟨by rw [hp, hlen]; exact ⟨by simpa using hge, grownCap_le_maxLen w _ 0 el (by unfold maxLen; omega)⟩, fun _ => ⟨w.heap.size, _, el, by rw [hp], push_new rfl, ?_, fun q hq => ⟨zv.cells.toList, ?_, fun j u hj => ?_⟩⟩⟩, ⟨_, _, _, rfl⟩, fun t ys hy => ?_⟩
            · rw [hp]
              simp only [Array.size_append, List.size_toArray, List.length_nil, size_zeroCells, hzsz, hsz, Nat.zero_add]
              simp only [Nat.zero_add] at hge
              rw [← Nat.add_mul, Nat.add_sub_cancel' hge]
            · have : (pRep K d)[q] = d := by simp [pRep]
              rw [this]
              exact (asD_rd hd' (hzr w N ρ s.obj)).mono hN hs
            · have hjz : j < zv.cells.size := by simpa using (List.getElem?_eq_some_iff.1 hj).1
              rw [hlen] at hq
              have hin : q * i.size + j < K * i.size := by
                have h1 : (q + 1) * i.size ≤ K * i.size := Nat.mul_le_mul_right _ hq
                rw [Nat.add_mul] at h1; omega
              rw [hsz, Array.getElem?_append_left (by rw [Array.size_append, size_zeroCells, hzsz]; simp only [List.size_toArray, List.length_nil, Nat.zero_add]; exact hin)]
              rw [Array.getElem?_append_right (by simp)]
              simp only [List.size_toArray, List.length_nil, Nat.sub_zero]
              unfold Builtin.zeroCells
              rw [Array.getElem?_map, Array.getElem?_range, if_pos (by rw [hzsz]; exact hin)]
              simp only [Option.map_some]
              have hmod : (q * i.size + j) % zv.cells.size = j := by
                rw [← hzsz, Nat.mul_comm, Nat.mul_add_mod, Nat.mod_eq_of_lt hjz]
              rw [hmod, ← hj]
              simp [hjz]
            · rw [hm'] at hy
              simp only [Option.some.injEq, Obj.row.injEq] at hy
              obtain ⟨rfl, hy⟩ := hy
              have hy := eq_of_heq hy
              subst hy
              rw [hp, hlen]
              simp
        · cases he
      · cases he
    · cases he
  · cases he

end
end Go.Proofs.YtkhnakdmkhidbaaDoor

/- THE MACHINE OF READINGS, part N: numbers of objects, renamed. -/
namespace Go.Proofs.YtkhnakdmkhidbaaDoor
open Go.RowKit

section
variable {w w' : World} {ρ ρ' : Nat → Pl} {N N' : Blk} {m m' : Mem} {f : Nat → Option Nat}

/-- what a renaming asks of places and rows -/
def RenOk (f : Nat → Option Nat) (ρ : Nat → Pl) (m : Mem) (ρ' : Nat → Pl) (m' : Mem) : Prop :=
  ∀ i j, f i = some j → ρ' j = ρ i ∧ ∀ t xs, m' j = some (.row t xs) → m i = some (.row t xs)

theorem renCaps_ok (hr : RenOk f ρ m ρ' m') : ∀ {caps caps' : List (Nat × Nat)} {vs : List Value}, renCaps f caps = some caps' → All2 (fun (p : Nat × Nat) u => ∃ b, (ρ p.1).A = some ⟨b, 0, none⟩ ∧ u = .pointer (some ⟨b, p.2, none⟩)) caps vs →
    All2 (fun (p : Nat × Nat) u => ∃ b, (ρ' p.1).A = some ⟨b, 0, none⟩ ∧ u = .pointer (some ⟨b, p.2, none⟩)) caps' vs
  | [], _, _, he, h => by
    cases h
    simp only [renCaps, Option.some.injEq] at he
    subst he; exact .nil
  | (id, off) :: caps, _, _, he, h => by
    cases h with
    | cons h1 h2 =>
      simp only [renCaps] at he
      split at he
      · rename_i i l e1 e2
        simp only [Option.some.injEq] at he
        subst he
        obtain ⟨b, hb, hu⟩ := h1
        exact .cons ⟨b, by rw [(hr id i e1).1]; exact hb, hu⟩ (renCaps_ok hr e2 h2)
      · cases he

theorem CR.ren (hr : RenOk f ρ m ρ' m') {c c' : C} {v : Value} (he : renC f c = some c') (h : CR w N ρ m c v) : CR w N ρ' m' c' v := by
  cases c with
  | hs id =>
    simp only [renC] at he
    cases hf : f id with
    | none => simp [hf] at he
    | some j =>
      simp only [hf, Option.map_some, Option.some.injEq] at he
      subst he
      refine ⟨h.1, fun t xs hm => ?_⟩
      obtain ⟨h1, h2⟩ := hr id j hf
      rw [h1]
      exact h.2 t xs (h2 t xs hm)
  | pt id off =>
    simp only [renC] at he
    cases hf : f id with
    | none => simp [hf] at he
    | some j =>
      simp only [hf, Option.map_some, Option.some.injEq] at he
      subst he
      obtain ⟨b, hb, hv⟩ := h
      exact ⟨b, by rw [(hr id j hf).1]; exact hb, hv⟩
  | pr id i off =>
    simp only [renC] at he
    cases hf : f id with
    | none => simp [hf] at he
    | some j =>
      simp only [hf, Option.map_some, Option.some.injEq] at he
      subst he
      refine ⟨h.1, fun t xs hm => ?_⟩
      obtain ⟨h1, h2⟩ := hr id j hf
      rw [h1]
      exact h.2 t xs (h2 t xs hm)
  | ht id lo =>
    simp only [renC] at he
    cases hf : f id with
    | none => simp [hf] at he
    | some j =>
      simp only [hf, Option.map_some, Option.some.injEq] at he
      subst he
      refine ⟨h.1, fun t xs hm => ?_⟩
      obtain ⟨h1, h2⟩ := hr id j hf
      rw [h1]
      exact h.2 t xs (h2 t xs hm)
  | fn g caps =>
    simp only [renC] at he
    cases hf : renCaps f caps with
    | none => simp [hf] at he
    | some l =>
      simp only [hf, Option.map_some, Option.some.injEq] at he
      subst he
      obtain ⟨vs, hv, ha⟩ := h
      exact ⟨vs, hv, renCaps_ok hr hf ha⟩
  | _ =>
    simp only [renC, Option.some.injEq] at he
    subst he
    exact h

theorem renCs_ok (hr : RenOk f ρ m ρ' m') : ∀ {cs cs' : List C} {vs : List Value}, renCs f cs = some cs' → All2 (CR w N ρ m) cs vs → All2 (CR w N ρ' m') cs' vs
  | [], _, _, he, h => by
    cases h
    simp only [renCs, Option.some.injEq] at he
    subst he; exact .nil
  | c :: cs, _, _, he, h => by
    cases h with
    | cons h1 h2 =>
      simp only [renCs] at he
      split at he
      · rename_i c' l e1 e2
        simp only [Option.some.injEq] at he
        subst he
        exact .cons (h1.ren hr e1) (renCs_ok hr e2 h2)
      · cases he

theorem VR.ren (hr : RenOk f ρ m ρ' m') {ag : Bool} {cs cs' : List C} {v : Value} (he : renCs f cs = some cs') (h : VR w N ρ m ag cs v) : VR w N ρ' m' ag cs' v := by
  cases ag with
  | true => obtain ⟨vs, hv, ha⟩ := h; exact ⟨vs, hv, renCs_ok hr he ha⟩
  | false =>
    obtain ⟨c, rfl, hc⟩ := h
    have := renCs_ok (vs := [v]) hr he (.cons hc .nil)
    cases this with
    | cons h1 h2 => cases h2; exact ⟨_, rfl, h1⟩

theorem renVs_ok (hr : RenOk f ρ m ρ' m') : ∀ {l l' : List (Bool × List C)} {vs : List Value}, renVs f l = some l' → All2 (fun (p : Bool × List C) u => VR w N ρ m p.1 p.2 u) l vs → All2 (fun (p : Bool × List C) u => VR w N ρ' m' p.1 p.2 u) l' vs
  | [], _, _, he, h => by
    cases h
    simp only [renVs, Option.some.injEq] at he
    subst he; exact .nil
  | (ag, cs) :: l, _, _, he, h => by
    cases h with
    | cons h1 h2 =>
      simp only [renVs] at he
      split at he
      · rename_i c' l e1 e2
        simp only [Option.some.injEq] at he
        subst he
        exact .cons (VR.ren hr e1 h1) (renVs_ok hr e2 h2)
      · cases he

theorem SVR.ren (hr : RenOk f ρ m ρ' m') {s s' : SV} {v : Value} (he : renS f s = some s') (h : SVR w N ρ m s v) : SVR w N ρ' m' s' v := by
  cases s with
  | un => simp only [renS, Option.some.injEq] at he; subst he; trivial
  | v ag cs =>
    simp only [renS] at he
    cases hc : renCs f cs with
    | none => simp [hc] at he
    | some cs' =>
      simp only [hc, Option.map_some, Option.some.injEq] at he
      subst he
      exact VR.ren hr hc h
  | tup l =>
    simp only [renS] at he
    cases hc : renVs f l with
    | none => simp [hc] at he
    | some l' =>
      simp only [hc, Option.map_some, Option.some.injEq] at he
      subst he
      obtain ⟨vs, hv, ha⟩ := h
      exact ⟨vs, hv, renVs_ok hr hc ha⟩

theorem renSs_ok (hr : RenOk f ρ m ρ' m') : ∀ {l l' : List SV} {vs : List Value}, renSs f l = some l' → All2 (SVR w N ρ m) l vs → All2 (SVR w N ρ' m') l' vs
  | [], _, _, he, h => by
    cases h
    simp only [renSs, Option.some.injEq] at he
    subst he; exact .nil
  | s :: l, _, _, he, h => by
    cases h with
    | cons h1 h2 =>
      simp only [renSs] at he
      split at he
      · rename_i c' l e1 e2
        simp only [Option.some.injEq] at he
        subst he
        exact .cons (h1.ren hr e1) (renSs_ok hr e2 h2)
      · cases he

theorem ObjR.ren (hr : RenOk f ρ m ρ' m') {i j : Nat} (hf : f i = some j) {o o' : Obj} (he : renO f o = some o') (h : ObjR w N ρ m i o) : ObjR w N ρ' m' j o' := by
  have hp := (hr i j hf).1
  cases o with
  | box cs =>
    simp only [renO] at he
    cases hc : renCs f cs with
    | none => simp [hc] at he
    | some cs' =>
      simp only [hc, Option.map_some, Option.some.injEq] at he
      subst he
      obtain ⟨b, vals, T, hA, hh, ha⟩ := h
      exact ⟨b, vals, T, by rw [hp]; exact hA, hh, renCs_ok hr hc ha⟩
  | row t xs =>
    simp only [renO, Option.some.injEq] at he
    subst he
    unfold ObjR at h ⊢
    simp only [hp]
    exact h

/- the numbers that a renaming leaves -/
theorem renCaps_ids {L : Nat} (hL : ∀ i j, f i = some j → j < L) : ∀ {caps caps' : List (Nat × Nat)}, renCaps f caps = some caps' → ∀ id ∈ caps'.map (·.1), id < L
  | [], _, he, id, hid => by
    simp only [renCaps, Option.some.injEq] at he
    subst he; cases hid
  | (i, off) :: caps, _, he, id, hid => by
    simp only [renCaps] at he
    split at he
    · rename_i j l e1 e2
      simp only [Option.some.injEq] at he
      subst he
      rcases List.mem_cons.1 hid with rfl | hid
      · exact hL i _ e1
      · exact renCaps_ids hL e2 id hid
    · cases he
theorem renC_ids {L : Nat} (hL : ∀ i j, f i = some j → j < L) {c c' : C} (he : renC f c = some c') : ∀ id ∈ idsC c', id < L := by
  intro id hid
  cases c with
  | hs i =>
    simp only [renC] at he
    cases hf : f i with
    | none => simp [hf] at he
    | some j =>
      simp only [hf, Option.map_some, Option.some.injEq] at he
      subst he
      simp only [idsC, List.mem_singleton] at hid
      subst hid; exact hL i _ hf
  | pt i off =>
    simp only [renC] at he
    cases hf : f i with
    | none => simp [hf] at he
    | some j =>
      simp only [hf, Option.map_some, Option.some.injEq] at he
      subst he
      simp only [idsC, List.mem_singleton] at hid
      subst hid; exact hL i _ hf
  | pr i k off =>
    simp only [renC] at he
    cases hf : f i with
    | none => simp [hf] at he
    | some j =>
      simp only [hf, Option.map_some, Option.some.injEq] at he
      subst he
      simp only [idsC, List.mem_singleton] at hid
      subst hid; exact hL i _ hf
  | ht i lo =>
    simp only [renC] at he
    cases hf : f i with
    | none => simp [hf] at he
    | some j =>
      simp only [hf, Option.map_some, Option.some.injEq] at he
      subst he
      simp only [idsC, List.mem_singleton] at hid
      subst hid; exact hL i _ hf
  | fn g caps =>
    simp only [renC] at he
    cases hf : renCaps f caps with
    | none => simp [hf] at he
    | some l =>
      simp only [hf, Option.map_some, Option.some.injEq] at he
      subst he
      exact renCaps_ids hL hf id hid
  | _ =>
    simp only [renC, Option.some.injEq] at he
    subst he
    simp [idsC] at hid
theorem renCs_ids {L : Nat} (hL : ∀ i j, f i = some j → j < L) : ∀ {cs cs' : List C}, renCs f cs = some cs' → ∀ id ∈ idsCs cs', id < L
  | [], _, he, id, hid => by
    simp only [renCs, Option.some.injEq] at he
    subst he; simp [idsCs] at hid
  | c :: cs, _, he, id, hid => by
    simp only [renCs] at he
    split at he
    · rename_i c' l e1 e2
      simp only [Option.some.injEq] at he
      subst he
      simp only [idsCs, List.flatMap_cons, List.mem_append] at hid
      rcases hid with hid | hid
      · exact renC_ids hL e1 id hid
      · exact renCs_ids hL e2 id hid
    · cases he
theorem renS_ids {L : Nat} (hL : ∀ i j, f i = some j → j < L) {s s' : SV} (hs : ∀ l, s ≠ .tup l) (he : renS f s = some s') : ∀ id ∈ idsS s', id < L := by
  cases s with
  | un => simp only [renS, Option.some.injEq] at he; subst he; simp [idsS]
  | v ag cs =>
    simp only [renS] at he
    cases hc : renCs f cs with
    | none => simp [hc] at he
    | some cs' =>
      simp only [hc, Option.map_some, Option.some.injEq] at he
      subst he
      exact renCs_ids hL hc
  | tup l => exact absurd rfl (hs l)
theorem renO_ids {L : Nat} (hL : ∀ i j, f i = some j → j < L) {o o' : Obj} (he : renO f o = some o') : ∀ id ∈ idsO o', id < L := by
  cases o with
  | box cs =>
    simp only [renO] at he
    cases hc : renCs f cs with
    | none => simp [hc] at he
    | some cs' =>
      simp only [hc, Option.map_some, Option.some.injEq] at he
      subst he
      exact renCs_ids hL hc
  | row t xs => simp only [renO, Option.some.injEq] at he; subst he; simp [idsO]

/- what reads so whatever is stable -/
theorem Rd.flat : ∀ {t : Ty} {us : List Value} {x : t.den}, flatT t = true → Rd t w N us x → Rd t w N' us x
  | .unit, _, _, _, h => h
  | .int _, _, _, _, h => h
  | .bool, _, _, _, h => h
  | .str, _, _, _, h => h
  | .sl _, _, _, hf, _ => by simp [flatT] at hf
  | .pair _ _, _, _, hf, h => by
    simp only [flatT, Bool.and_eq_true] at hf
    obtain ⟨v1, v2, rfl, h1, h2⟩ := h
    exact ⟨v1, v2, rfl, h1.flat hf.1, h2.flat hf.2⟩
theorem CR.flat {c : C} {v : Value} (hf : flatC c = true) (h : CR w N ρ m c v) : CR w N' ρ m c v := by
  cases c <;> first
    | exact h
    | (simp [flatC] at hf; done)
theorem All2.flat {cs : List C} {vs : List Value} (hf : cs.all flatC = true) (h : All2 (CR w N ρ m) cs vs) : All2 (CR w N' ρ m) cs vs :=
  h.mono' fun c hc _ hv => hv.flat (List.all_eq_true.1 hf c hc)
theorem VR.flat {ag : Bool} {cs : List C} {v : Value} (hf : cs.all flatC = true) (h : VR w N ρ m ag cs v) : VR w N' ρ m ag cs v := by
  cases ag with
  | true => obtain ⟨vs, hv, ha⟩ := h; exact ⟨vs, hv, ha.flat hf⟩
  | false => obtain ⟨c, rfl, hc⟩ := h; exact ⟨c, rfl, hc.flat (List.all_eq_true.1 hf c (by simp))⟩
theorem SVR.flat {s : SV} {v : Value} (hf : flatS s = true) (h : SVR w N ρ m s v) : SVR w N' ρ m s v := by
  cases s with
  | un => trivial
  | v ag cs => exact VR.flat hf h
  | tup l =>
    obtain ⟨vs, hv, ha⟩ := h
    exact ⟨vs, hv, ha.mono' fun p hp u hu => VR.flat (List.all_eq_true.1 hf p hp) hu⟩
theorem ObjR.flat {id : Nat} {o : Obj} (hf : flatO (some o) = true) (h : ObjR w N ρ m id o) : ObjR w N' ρ m id o := by
  cases o with
  | box cs => obtain ⟨b, vals, T, hA, hh, ha⟩ := h; exact ⟨b, vals, T, hA, hh, ha.flat hf⟩
  | row t xs =>
    obtain ⟨hl, hr⟩ := h
    refine ⟨hl, fun hc => ?_⟩
    obtain ⟨b, vals, T, hA, hh, hs, hx⟩ := hr hc
    exact ⟨b, vals, T, hA, hh, hs, fun k hk => let ⟨us, h1, h2⟩ := hx k hk; ⟨us, h1.flat hf, h2⟩⟩

/- numbers -/
theorem numAt_some {id : Nat} : ∀ {l : List Nat} {k n : Nat}, numAt id k l = some n → k ≤ n ∧ l[n - k]? = some id
  | [], _, _, h => by simp [numAt] at h
  | a :: r, k, n, h => by
    simp only [numAt] at h
    cases hb : Nat.beq a id with
    | true =>
      rw [hb] at h
      simp only [cond_true, Option.some.injEq] at h
      subst h
      have := Nat.eq_of_beq_eq_true hb
      subst this
      simp
    | false =>
      rw [hb] at h
      simp only [cond_false] at h
      obtain ⟨h1, h2⟩ := numAt_some h
      refine ⟨by omega, ?_⟩
      rw [show n - k = (n - (k + 1)) + 1 by omega]
      simpa using h2
theorem numAt_get {id : Nat} {l : List Nat} {n : Nat} (h : numAt id 0 l = some n) : l[n]? = some id := by
  have := (numAt_some h).2
  simpa using this
theorem distinct_inj : ∀ {l : List Nat}, distinct l = true → ∀ {i j x : Nat}, l[i]? = some x → l[j]? = some x → i = j
  | [], _, i, j, x, h1, _ => by simp at h1
  | a :: r, hd, i, j, x, h1, h2 => by
    simp only [distinct, Bool.and_eq_true, Bool.not_eq_true'] at hd
    have hna : ∀ k, r[k]? = some a → False := fun k hk => by
      have := List.mem_of_getElem? hk
      have h3 : r.contains a = true := by simpa using this
      rw [hd.1] at h3; cases h3
    cases i with
    | zero =>
      cases j with
      | zero => rfl
      | succ j =>
        simp at h1 h2
        subst h1
        exact (hna j h2).elim
    | succ i =>
      cases j with
      | zero =>
        simp at h1 h2
        subst h2
        exact (hna i h1).elim
      | succ j =>
        simp at h1 h2
        have := distinct_inj hd.2 h1 h2
        omega

/-- the objects that go into a call -/
theorem memFor_look {ids : List Nat} : ∀ {r : List Nat} {k : Nat} {m0 : List (Nat × Option Obj)}, memFor m f r k = some m0 → m0.length = r.length ∧ ∀ n, (∀ o', look m0 n = some o' → k ≤ n ∧ ∃ id o o1, r[n - k]? = some id ∧ m id = some o ∧ renO f o = some o1 ∧ o' = some o1) ∧ (k ≤ n → n < k + r.length → ∃ o1, look m0 n = some (some o1))
  | [], k, m0, h => by
    simp only [memFor, Option.some.injEq] at h
    subst h
    exact ⟨rfl, fun n => ⟨fun o' h => by simp [look] at h, fun h1 h2 => by simp at h2; omega⟩⟩
  | id :: r, k, m0, h => by
    simp only [memFor] at h
    split at h
    · rename_i o l e1 e2
      split at h
      · rename_i o1 e3
        simp only [Option.some.injEq] at h
        subst h
        obtain ⟨hl, ih⟩ := memFor_look (ids := ids) e2
        refine ⟨by simp [hl], fun n => ⟨fun o' h => ?_, fun h1 h2 => ?_⟩⟩
        · rw [look_cons] at h
          split at h
          · rename_i hk
            subst hk
            simp only [Option.some.injEq] at h
            subst h
            exact ⟨Nat.le_refl _, id, o, o1, by simp, e1, e3, rfl⟩
          · obtain ⟨h1, id', o2, o3, h3, h4, h5, h6⟩ := (ih n).1 o' h
            refine ⟨by omega, id', o2, o3, ?_, h4, h5, h6⟩
            rw [show n - k = (n - (k + 1)) + 1 by omega]
            simpa using h3
        · rw [look_cons]
          by_cases hk : k = n
          · subst hk; exact ⟨o1, by simp⟩
          · rw [if_neg hk]
            exact (ih n).2 (by omega) (by simp at h2; omega)
      · cases h
    · cases h

theorem memBack_look : ∀ {m1 u : List (Nat × Option Obj)}, memBack f m1 = some u → (∀ i j k, f i = some k → f j = some k → i = j) → ∀ n id, f n = some id → (look m1 n = none → look u id = none) ∧ (look m1 n = some none → look u id = some none) ∧ ∀ o, look m1 n = some (some o) → ∃ o', renO f o = some o' ∧ look u id = some (some o')
  | [], u, h, _, n, id, _ => by
    simp only [memBack, Option.some.injEq] at h
    subst h
    refine ⟨fun _ => rfl, fun h => by simp [look] at h, fun o h => by simp [look] at h⟩
  | (n0, o0) :: m1, u, h, hinj, n, id, hf => by
    simp only [memBack] at h
    split at h
    · rename_i id0 l e1 e2
      have ih := memBack_look e2 hinj n id hf
      have hiff : (n0 = n) ↔ (id0 = id) := ⟨fun e => by subst e; rw [e1] at hf; exact Option.some.inj hf, fun e => by subst e; exact hinj n0 n id0 e1 hf⟩
      split at h
      · simp only [Option.some.injEq] at h
        subst h
        rw [look_cons, look_cons]
        by_cases hn : n0 = n
        · rw [if_pos hn, if_pos (hiff.1 hn)]
          exact ⟨(fun h => by cases h), fun _ => rfl, (fun o h => by simp at h)⟩
        · rw [if_neg hn, if_neg (fun e => hn (hiff.2 e))]
          exact ih
      · rename_i o
        split at h
        · rename_i o1 e3
          simp only [Option.some.injEq] at h
          subst h
          rw [look_cons, look_cons]
          by_cases hn : n0 = n
          · rw [if_pos hn, if_pos (hiff.1 hn)]
            refine ⟨(fun h => by cases h), (fun h => by simp at h), fun o' h => ?_⟩
            simp only [Option.some.injEq] at h
            subst h
            exact ⟨o1, e3, rfl⟩
          · rw [if_neg hn, if_neg (fun e => hn (hiff.2 e))]
            exact ih
        · cases h
    · cases h

theorem memBack_keys : ∀ {m1 u : List (Nat × Option Obj)}, memBack f m1 = some u → ∀ id o, look u id = some o → ∃ n, f n = some id
  | [], u, h, id, o, hl => by
    simp only [memBack, Option.some.injEq] at h
    subst h; simp [look] at hl
  | (n0, o0) :: m1, u, h, id, o, hl => by
    simp only [memBack] at h
    split at h
    · rename_i id0 l e1 e2
      have ih := memBack_keys e2 id o
      have key : ∀ {x}, look ((id0, x) :: l) id = some o → ∃ n, f n = some id := by
        intro x hx
        rw [look_cons] at hx
        split at hx
        · rename_i e; subst e; exact ⟨n0, e1⟩
        · exact ih hx
      split at h
      · simp only [Option.some.injEq] at h
        subst h; exact key hl
      · split at h
        · simp only [Option.some.injEq] at h
          subst h; exact key hl
        · cases h
    · cases h

end
end Go.Proofs.YtkhnakdmkhidbaaDoor

/- THE MACHINE OF READINGS, part O: calls by contract. -/
namespace Go.Proofs.YtkhnakdmkhidbaaDoor
open Go.RowKit

/-- WHAT A CALL COMES TO: of arguments and objects by their numbers, 0, 1, .. -/
def SpecR (P : Program) (glob : Nat → Option Gl) (K : FuncId) (args : List SV) (m0 : List (Nat × Option Obj)) (r : SV) (m1 : List (Nat × Option Obj)) : Prop :=
  ∀ (w : World) (N : Blk) (ρ : Nat → Pl) (vs : List Value), (∀ g cs, glob g = some cs → GlobR w N g cs) → MR w N ρ (memOf m0) → All2 (SVR w N ρ (memOf m0)) args vs →
    (∀ s ∈ args, ∀ id ∈ idsS s, id < m0.length) → (∀ n o, memOf m0 n = some o → n < m0.length ∧ ∀ id ∈ idsO o, id < m0.length) →
    Calls P K vs.toArray w fun e w' => ∃ v ρ' N', e = .returned v ∧ (∀ n, n < m0.length → ρ' n = ρ n) ∧ (∀ b, N b → N' b) ∧ MR w' N' ρ' (memOf (m1 ++ m0)) ∧ SVR w' N' ρ' (memOf (m1 ++ m0)) r v ∧
      Since w (Own ρ (memOf m0)) w' ∧ (∀ b, Own ρ' (memOf (m1 ++ m0)) b → Own ρ (memOf m0) b ∨ w.heap.size ≤ b) ∧ ∀ b, N' b → N b ∨ w.heap.size ≤ b ∨ Own ρ (memOf m0) b

/-- A function meets a contract. -/
def Meets (P : Program) (glob : Nat → Option Gl) (K : FuncId) (c : Ctr) : Prop :=
  (∃ fn, P.funcs[K]? = some fn ∧ fn.body.isSome = true ∧ (fn.name == "runtime.NumGoroutine") = false) ∧
    ∀ args m0 obs r m1, c args m0 = some (obs, r, m1) → (∀ p ∈ obs, p) → SpecR P glob K args m0 r m1

/-- The environment is sound. -/
structure Env.Ok (E : Env) : Prop where
  ctr : ∀ K keep c, E.ctr K = some (keep, c) → Meets E.P E.glob K c
  eqs : ∀ T, T ∈ E.eqs → EqT E.P T

section
variable {E : Env} {w0 : World} {X Z : Blk} {a : Act} {w w' : World} {s : St} {ρ ρ' : Nat → Pl} {N N' : Blk} {m m' : Mem}

/-- what an operation comes to, calls among them -/
def OpGood (E : Env) (w0 : World) (X Z : Blk) (a : Act) (o : Oper) (w : World) (s : St) (ρ : Nat → Pl) (N : Blk) (e : Eff) (F : Nat → Prop) : Prop :=
  ∀ (K : Act → World → Prop) (Q : Exit → Act → World → Prop),
    (∀ v w' ρ' N', (∀ id, ¬ F id → ρ' id = ρ id) → (∀ b, N b → N' b) → SameOn N w w' → Rel E w0 X Z (a.put o.dst v) w' (s.put o.dst e) ρ' N' → K (a.put o.dst v) w') → o.wp E.P a w K Q

theorem Good.op {o : Oper} {e : Eff} {F F' : Nat → Prop} (h : Good E w0 X Z a o w s ρ N e F) (hF : ∀ id, F id → F' id) : OpGood E w0 X Z a o w s ρ N e F' := by
  intro K Q hK
  obtain ⟨v, w', ρ', N', hr, hp, hN, hs, hrel⟩ := h
  have := hK v w' ρ' N' (fun id hid => hp id fun h => hid (hF id h)) hN hs hrel
  unfold Oper.wp
  rcases hr with hr | ⟨hr, rfl⟩
  · rw [hr]; exact this
  · rw [hr]; exact this

theorem roS_ok (h : MR w N ρ m) {m1 : Mem} (h1 : ∀ id ob, m1 id = some ob → m id = some ob) {sv : SV} {v : Value} (hv : SVR w N ρ m sv v) {D : List Nat} (hD : ∀ id ∈ hsS sv, id ∈ D) : SVR w (fun b => N b ∨ Gone ρ m D b) ρ m (roS m1 sv) v := by
  cases sv with
  | un => trivial
  | v ag cs =>
    have hG : ∀ b, Gone ρ m (cs.flatMap hsC) b → N b ∨ Gone ρ m D b := fun b ⟨id, hid, r⟩ => .inr ⟨id, hD id hid, r⟩
    cases ag with
    | true => obtain ⟨vs, hv, ha⟩ := hv; exact ⟨vs, hv, roCells_ok h ha (fun b hb => .inl hb) h1 hG⟩
    | false =>
      obtain ⟨c, rfl, hc⟩ := hv
      have := roCells_ok (N' := fun b => N b ∨ Gone ρ m D b) h (All2.cons hc .nil) (fun b hb => .inl hb) h1 hG
      cases this with
      | cons h2 _ => exact ⟨_, rfl, h2⟩
  | tup l =>
    obtain ⟨vs, hv, ha⟩ := hv
    exact ⟨vs, hv, ha.mono fun p u hu => VR.turn (F := fun _ => False) (.same rfl rfl) (fun b hb => Or.inl hb) (fun _ _ => rfl) (fun _ _ h => h) hu⟩

theorem roSs_ok (h : MR w N ρ m) {m1 : Mem} (h1 : ∀ id ob, m1 id = some ob → m id = some ob) {svs : List SV} {vs : List Value} (hv : All2 (SVR w N ρ m) svs vs) {D : List Nat} (hD : ∀ id ∈ svs.flatMap hsS, id ∈ D) : All2 (SVR w (fun b => N b ∨ Gone ρ m D b) ρ m) (svs.map (roS m1)) vs := by
  induction hv with
  | nil => exact .nil
  | @cons sv v svs vs h2 _ ih =>
    exact .cons (roS_ok h h1 h2 fun id hid => hD id (by simp only [List.flatMap_cons, List.mem_append]; exact Or.inl hid)) (ih fun id hid => hD id (by simp only [List.flatMap_cons, List.mem_append]; exact Or.inr hid))

theorem back_inj {ids : List Nat} {nx : Nat} (hd : distinct ids = true) (hlt : ∀ id ∈ ids, id < nx ∨ nx + 8 ≤ id) : ∀ i j k, back ids nx i = some k → back ids nx j = some k → i = j := by
  intro i j k h1 h2
  unfold back at h1 h2
  split at h1
  · rename_i hi
    have hk : k ∈ ids := List.mem_of_getElem? h1
    split at h2
    · exact distinct_inj hd h1 h2
    · split at h2
      · simp only [Option.some.injEq] at h2
        have := hlt k hk
        omega
      · cases h2
  · split at h1
    · simp only [Option.some.injEq] at h1
      split at h2
      · have := hlt k (List.mem_of_getElem? h2)
        omega
      · split at h2
        · simp only [Option.some.injEq] at h2; omega
        · cases h2
    · cases h1

theorem turnAll_look {m1 : List (Nat × Option Obj)} : ∀ {m0 : List (Nat × Option Obj)} {obs : List Prop}, turnAll m1 m0 = some obs → (∀ p ∈ obs, p) → ∀ n o, look m0 n = some (some o) → ∀ o', look m1 n = some o' → match o, o' with
    | _, none => True
    | .box _, some (.box _) => True
    | .row t xs, some (.row t' ys) => t = t' ∧ ys.length = xs.length
    | _, _ => False
  | [], _, _, _, n, o, hl => by simp [look] at hl
  | (n0, some o0) :: m0, obs, he, hob, n, o, hl => by
    intro o' ho'
    simp only [turnAll] at he
    split at he
    · rename_i l e2
      rw [look_cons] at hl
      split at hl
      · rename_i hn
        subst hn
        simp only [Option.some.injEq] at hl
        subst hl
        rw [ho'] at he
        simp only at he
        split at he
        · rename_i l' e3
          simp only [Option.some.injEq] at he
          subst he
          cases o0 with
          | box cs =>
            cases o' with
            | none => trivial
            | some o1 => cases o1 with
              | box _ => trivial
              | row _ _ => simp [turnO] at e3
          | row t xs =>
            cases o' with
            | none => trivial
            | some o1 => cases o1 with
              | box _ => simp [turnO] at e3
              | row t' ys =>
                simp only [turnO] at e3
                split at e3
                · rename_i ht
                  simp only [Option.some.injEq] at e3
                  subst e3
                  exact ⟨ht, hob (pLen ys = pLen xs) (by simp)⟩
                · cases e3
        · cases he
      · have hob2 : ∀ p ∈ l, p := by
          split at he
          · simp only [Option.some.injEq] at he; subst he; exact hob
          · split at he
            · simp only [Option.some.injEq] at he; subst he; exact fun p hp => hob p (by simp [hp])
            · cases he
        exact turnAll_look e2 hob2 n o hl o' ho'
    · cases he
  | (n0, none) :: m0, obs, he, _, n, o, _ => by simp [turnAll] at he

end
end Go.Proofs.YtkhnakdmkhidbaaDoor

/- THE MACHINE OF READINGS, part P: a call by contract, proved. -/
namespace Go.Proofs.YtkhnakdmkhidbaaDoor
open Go.RowKit

section
variable {E : Env} {w0 : World} {X Z : Blk} {a : Act} {w w' : World} {s : St} {ρ ρ' : Nat → Pl} {N N' : Blk} {m m' : Mem}

theorem memOf_some {l : List (Nat × Option Obj)} {n : Nat} {o : Obj} (h : memOf l n = some o) : look l n = some (some o) := by
  unfold memOf at h
  cases hl : look l n with
  | none => simp [hl] at h
  | some x => simp [hl] at h; rw [h]

theorem memOf_append {l r : List (Nat × Option Obj)} {n : Nat} {o : Option Obj} (h : look l n = some o) : memOf (l ++ r) n = o := by
  unfold memOf
  rw [look_append, h]
  rfl

theorem renO_row {f : Nat → Option Nat} {o : Obj} {t : Ty} {xs : List t.den} (h : renO f o = some (.row t xs)) : o = .row t xs := by
  cases o with
  | box cs =>
    simp only [renO] at h
    cases hc : renCs f cs with
    | none => simp [hc] at h
    | some x => simp [hc] at h
  | row t' ys => simpa [renO] using h

theorem renO_holds {f : Nat → Option Nat} {o o' : Obj} {p : Pl} (h : renO f o = some o') : Holds p o ↔ Holds p o' := by
  cases o with
  | box cs =>
    simp only [renO] at h
    cases hc : renCs f cs with
    | none => simp [hc] at h
    | some x => simp only [hc, Option.map_some, Option.some.injEq] at h; subst h; exact Iff.rfl
  | row t' ys => simp only [renO, Option.some.injEq] at h; subst h; exact Iff.rfl

theorem ObjR.sub {id : Nat} {o : Obj} (h : ObjR w N ρ m id o) (hN : ∀ b, N b → N' b) : ObjR w N' ρ m id o :=
  h.turn (F := fun _ => False) (.same rfl rfl) hN (fun _ _ => rfl) (fun h => h) (fun _ _ h => h) fun _ _ _ => rfl

theorem SVR.sub {sv : SV} {v : Value} (h : SVR w N ρ m sv v) (hN : ∀ b, N b → N' b) : SVR w N' ρ m sv v :=
  h.turn (F := fun _ => False) (.same rfl rfl) hN (fun _ _ => rfl) (fun _ _ h => h)

/-- there and back -/
theorem renCaps_back {f g : Nat → Option Nat} (hfg : ∀ i j, f i = some j → g j = some i) : ∀ {l l' : List (Nat × Nat)}, renCaps f l = some l' → renCaps g l' = some l
  | [], l', h => by simp only [renCaps, Option.some.injEq] at h; subst h; rfl
  | (id, off) :: l, l', h => by
    simp only [renCaps] at h
    split at h
    · rename_i i r e1 e2
      simp only [Option.some.injEq] at h
      subst h
      simp only [renCaps, hfg _ _ e1, renCaps_back hfg e2]
    · cases h
theorem renC_back {f g : Nat → Option Nat} (hfg : ∀ i j, f i = some j → g j = some i) {c c' : C} (h : renC f c = some c') : renC g c' = some c := by
  cases c with
  | hs id =>
    simp only [renC] at h
    cases hf : f id with
    | none => simp [hf] at h
    | some j => simp only [hf, Option.map_some, Option.some.injEq] at h; subst h; simp [renC, hfg _ _ hf]
  | pt id off =>
    simp only [renC] at h
    cases hf : f id with
    | none => simp [hf] at h
    | some j => simp only [hf, Option.map_some, Option.some.injEq] at h; subst h; simp [renC, hfg _ _ hf]
  | pr id i off =>
    simp only [renC] at h
    cases hf : f id with
    | none => simp [hf] at h
    | some j => simp only [hf, Option.map_some, Option.some.injEq] at h; subst h; simp [renC, hfg _ _ hf]
  | ht id lo =>
    simp only [renC] at h
    cases hf : f id with
    | none => simp [hf] at h
    | some j => simp only [hf, Option.map_some, Option.some.injEq] at h; subst h; simp [renC, hfg _ _ hf]
  | fn k caps =>
    simp only [renC] at h
    cases hf : renCaps f caps with
    | none => simp [hf] at h
    | some j => simp only [hf, Option.map_some, Option.some.injEq] at h; subst h; simp [renC, renCaps_back hfg hf]
  | _ => simp only [renC, Option.some.injEq] at h; subst h; rfl
theorem renCs_back {f g : Nat → Option Nat} (hfg : ∀ i j, f i = some j → g j = some i) : ∀ {l l' : List C}, renCs f l = some l' → renCs g l' = some l
  | [], l', h => by simp only [renCs, Option.some.injEq] at h; subst h; rfl
  | c :: l, l', h => by
    simp only [renCs] at h
    split at h
    · rename_i c' r e1 e2
      simp only [Option.some.injEq] at h
      subst h
      simp only [renCs, renC_back hfg e1, renCs_back hfg e2]
    · cases h
theorem renO_back {f g : Nat → Option Nat} (hfg : ∀ i j, f i = some j → g j = some i) {o o' : Obj} (h : renO f o = some o') : renO g o' = some o := by
  cases o with
  | box cs =>
    simp only [renO] at h
    cases hf : renCs f cs with
    | none => simp [hf] at h
    | some j => simp only [hf, Option.map_some, Option.some.injEq] at h; subst h; simp [renO, renCs_back hfg hf]
  | row t xs => simp only [renO, Option.some.injEq] at h; subst h; rfl

/-- The heart: behind the contract the caller's relation goes on. -/
theorem call_back (h : Rel E w0 X Z a w s ρ N) (hm : ∀ id ob, m id = some ob → s.obj id = some ob) {dst : Option Tmp} (hd : ∀ d, dst = some d → d < a.tmps.size) {nx : Nat} (hf : ∀ k, k < 8 → Fresh s (nx + k))
    {ids lent : List Nat} {m0 m1 u : List (Nat × Option Obj)} {r r' : SV} {obs' : List Prop} (hids : distinct ids = true)
    (hm0 : memFor m (fun id => numAt id 0 ids) ids 0 = some m0) (hta : turnAll m1 m0 = some obs') (hob' : ∀ p ∈ obs', p) (hr' : renS (back ids nx) r = some r') (hu : memBack (back ids nx) m1 = some u)
    (hflat : lent = [] ∨ (flatS r = true ∧ (∀ n o, look m1 n = some o → flatO o = true) ∧ ∀ n o, look m0 n = some o → flatO o = true))
    {ρc : Nat → Pl} (hρc : ∀ n id, ids[n]? = some id → ρc n = ρ id) {v : Value} {ρ2 : Nat → Pl} {N2 : Blk}
    (h1 : ∀ n, n < m0.length → ρ2 n = ρc n) (h2 : ∀ b, (N b ∨ Gone ρ s.obj lent b) → N2 b) (h3 : MR w' N2 ρ2 (memOf (m1 ++ m0))) (h4 : SVR w' N2 ρ2 (memOf (m1 ++ m0)) r v) (h5 : Since w (Own ρc (memOf m0)) w')
    (h6 : ∀ b, Own ρ2 (memOf (m1 ++ m0)) b → Own ρc (memOf m0) b ∨ w.heap.size ≤ b) (h7 : ∀ b, N2 b → (N b ∨ Gone ρ s.obj lent b) ∨ w.heap.size ≤ b ∨ Own ρc (memOf m0) b) :
    ∃ ρ' N', (∀ id, ¬ (nx ≤ id ∧ id < nx + 8) → ρ' id = ρ id) ∧ (∀ b, N b → N' b) ∧ SameOn N w w' ∧ Rel E w0 X Z (a.put dst v) w' (s.put dst ⟨r', u⟩) ρ' N' := by
  obtain ⟨hlen, hlook⟩ := memFor_look (ids := ids) hm0
  have hobj : ∀ id ∈ ids, ∃ o, s.obj id = some o := by
    intro id hid
    obtain ⟨n, hn, rfl⟩ := List.getElem_of_mem hid
    obtain ⟨o1, ho1⟩ := (hlook n).2 (by omega) (by omega)
    obtain ⟨_, id', o, o2, e1, e2, _⟩ := (hlook n).1 _ ho1
    simp only [Nat.sub_zero, List.getElem?_eq_getElem hn, Option.some.injEq] at e1
    subst e1
    exact ⟨o, hm _ o e2⟩
  have hnF : ∀ id, (nx ≤ id ∧ id < nx + 8) → Fresh s id := by
    intro id hid
    have := hf (id - nx) (by omega)
    rw [show nx + (id - nx) = id by omega] at this
    exact this
  have hidsF : ∀ id ∈ ids, ¬ (nx ≤ id ∧ id < nx + 8) := by
    intro id hid hF
    obtain ⟨o, ho⟩ := hobj id hid
    rw [(hnF id hF).2.2] at ho
    cases ho
  have hinj := back_inj (nx := nx) hids fun id hid => by have := hidsF id hid; omega
  let ρ' : Nat → Pl := fun id => if nx ≤ id ∧ id < nx + 8 then ρ2 (ids.length + (id - nx)) else ρ id
  let N' : Blk := fun b => N b ∨ (N2 b ∧ (w.heap.size ≤ b ∨ Own ρc (memOf m0) b))
  let m' := (s.put dst ⟨r', u⟩).obj
  have hm' : ∀ id, m' id = match look u id with
    | some o => o
    | none => s.obj id := fun id => St.obj_put s dst ⟨r', u⟩ id
  -- what goes in, by its number
  have hin : ∀ n o1, look m0 n = some (some o1) → ∃ id o, ids[n]? = some id ∧ s.obj id = some o ∧ renO (fun id => numAt id 0 ids) o = some o1 := by
    intro n o1 hn
    obtain ⟨_, id, o, o2, e1, e2, e3, e4⟩ := (hlook n).1 _ hn
    simp only [Option.some.injEq] at e4
    subst e4
    exact ⟨id, o, by simpa using e1, hm id o e2, e3⟩
  have hback : ∀ n id, back ids nx n = some id → (n < ids.length ∧ ids[n]? = some id) ∨ (ids.length ≤ n ∧ n < ids.length + 8 ∧ id = nx + (n - ids.length)) := by
    intro n id hb
    unfold back at hb
    split at hb
    · rename_i hn; exact .inl ⟨hn, hb⟩
    · split at hb
      · simp only [Option.some.injEq] at hb; exact .inr ⟨by omega, by omega, hb.symm⟩
      · cases hb
  have hpl : ∀ n id, back ids nx n = some id → ρ' id = ρ2 n := by
    intro n id hb
    rcases hback n id hb with ⟨hn, e⟩ | ⟨hn, hn2, rfl⟩
    · have := hidsF id (List.mem_of_getElem? e)
      simp only [ρ', if_neg this]
      rw [h1 n (by omega), hρc n id e]
    · simp only [ρ']
      rw [if_pos (by omega)]
      congr 1; omega
  -- the objects behind the call
  have hnb : ∀ i j, numAt i 0 ids = some j → back ids nx j = some i := by
    intro i j hij
    have hg := numAt_get hij
    have := (List.getElem?_eq_some_iff.1 hg).1
    unfold back
    rw [if_pos this]; exact hg
  have hcase : ∀ id o, m' id = some o → (∃ n o2, back ids nx n = some id ∧ memOf (m1 ++ m0) n = some o2 ∧ (look m1 n = some (some o2) ∨ (look m1 n = none ∧ look m0 n = some (some o2))) ∧ renO (back ids nx) o2 = some o) ∨ (s.obj id = some o ∧ id ∉ ids ∧ ¬ (nx ≤ id ∧ id < nx + 8)) := by
    intro id o hmo
    rw [hm'] at hmo
    cases hl : look u id with
    | some x =>
      rw [hl] at hmo
      simp only at hmo
      subst hmo
      obtain ⟨n, hn⟩ := memBack_keys hu id _ hl
      obtain ⟨g1, g2, g3⟩ := memBack_look hu hinj n id hn
      left
      cases hl1 : look m1 n with
      | none => rw [g1 hl1] at hl; cases hl
      | some y =>
        cases y with
        | none => rw [g2 hl1] at hl; cases hl
        | some o2 =>
          obtain ⟨o', e1, e2⟩ := g3 o2 hl1
          rw [e2] at hl
          simp only [Option.some.injEq] at hl
          subst hl
          exact ⟨n, o2, hn, memOf_append hl1, .inl hl1, e1⟩
    | none =>
      rw [hl] at hmo
      simp only at hmo
      by_cases hid : id ∈ ids
      · left
        obtain ⟨n, hn, rfl⟩ := List.getElem_of_mem hid
        have hb : back ids nx n = some ids[n] := by unfold back; rw [if_pos hn, List.getElem?_eq_getElem hn]
        obtain ⟨o1, ho1⟩ := (hlook n).2 (by omega) (by omega)
        obtain ⟨g1, g2, g3⟩ := memBack_look hu hinj n _ hb
        have hl1 : look m1 n = none := by
          cases hl1 : look m1 n with
          | none => rfl
          | some o' => cases o' with
            | none => rw [g2 hl1] at hl; cases hl
            | some o' => obtain ⟨_, _, e⟩ := g3 o' hl1; rw [e] at hl; cases hl
        obtain ⟨id2, o3, e1, e2, e3⟩ := hin n o1 ho1
        rw [List.getElem?_eq_getElem hn] at e1
        simp only [Option.some.injEq] at e1
        subst e1
        rw [hmo] at e2
        simp only [Option.some.injEq] at e2
        subst e2
        refine ⟨n, o1, hb, ?_, .inr ⟨hl1, ho1⟩, renO_back hnb e3⟩
        unfold memOf
        rw [look_append, hl1, ho1]
        rfl
      · refine .inr ⟨hmo, hid, fun hF => ?_⟩
        rw [(hnF id hF).2.2] at hmo; cases hmo
  have hren : RenOk (back ids nx) ρ2 (memOf (m1 ++ m0)) ρ' m' := by
    intro n id hb
    refine ⟨hpl n id hb, fun t xs hmo => ?_⟩
    rcases hcase id _ hmo with ⟨n2, o2, hb2, hl2, _, hr2⟩ | ⟨hso, hni, hnf⟩
    · have := hinj n n2 id hb hb2
      subst this
      have := renO_row hr2
      subst this
      exact hl2
    · rcases hback n id hb with ⟨hn, e⟩ | ⟨hn, hn2, rfl⟩
      · exact absurd (List.mem_of_getElem? e) hni
      · exact absurd (by omega) hnf
  -- blocks that went in
  have hownc : ∀ b, Own ρc (memOf m0) b → ∃ id ∈ ids, ∃ o, s.obj id = some o ∧ Holds (ρ id) o ∧ (ρ id).A = some ⟨b, 0, none⟩ := by
    rintro b ⟨n, o1, hmo, hh, hA⟩
    obtain ⟨id, o, e1, e2, e3⟩ := hin n o1 (memOf_some hmo)
    rw [hρc n id e1] at hh hA
    exact ⟨id, List.mem_of_getElem? e1, o, e2, (renO_holds e3).2 hh, hA⟩
  have hownc' : ∀ b, Own ρc (memOf m0) b → Own ρ s.obj b := fun b hb => let ⟨id, _, o, h1, h2, h3⟩ := hownc b hb; ⟨id, o, h1, h2, h3⟩
  have hout : ∀ id o b, s.obj id = some o → id ∉ ids → Holds (ρ id) o → (ρ id).A = some ⟨b, 0, none⟩ → ¬ Own ρc (memOf m0) b := by
    intro id o b hso hni hh hA hb
    obtain ⟨id2, hi2, o2, e1, e2, e3⟩ := hownc b hb
    have := h.mr.inj id id2 o o2 hso e1 hh e2 (by rw [hA, e3])
    subst this
    exact hni hi2
  have hheld : ∀ id o b, m' id = some o → Holds (ρ' id) o → (ρ' id).A = some ⟨b, 0, none⟩ → (∃ n o2, back ids nx n = some id ∧ memOf (m1 ++ m0) n = some o2 ∧ Holds (ρ2 n) o2 ∧ (ρ2 n).A = some ⟨b, 0, none⟩) ∨ (s.obj id = some o ∧ id ∉ ids ∧ Holds (ρ id) o ∧ (ρ id).A = some ⟨b, 0, none⟩) := by
    intro id o b hmo hh hA
    rcases hcase id o hmo with ⟨n, o2, hb, hl, _, hro⟩ | ⟨hso, hni, hnf⟩
    · rw [hpl n id hb] at hh hA
      exact .inl ⟨n, o2, hb, hl, (renO_holds hro).2 hh, hA⟩
    · simp only [ρ', if_neg hnf] at hh hA
      exact .inr ⟨hso, hni, hh, hA⟩
  have hNN : ∀ b, N b → N' b := fun b hb => .inl hb
  have hkeep : ∀ b, b < w.heap.size → ¬ Own ρc (memOf m0) b → w'.heap[b]? = w.heap[b]? := fun b hb ho => h5.keep b hb ho
  have hs : SameOn N w w' := fun b hb => hkeep b (h.mr.nlt b hb) fun ho => h.mr.nown b hb (hownc' b ho)
  have hsub : lent = [] → ∀ b, N2 b → N' b := by
    intro hl b hb
    rcases h7 b hb with (h8 | ⟨id, hid, _⟩) | h8
    · exact .inl h8
    · rw [hl] at hid; cases hid
    · exact .inr ⟨hb, h8⟩
  have ht : Turn ρ s.obj ρ' m' (fun id => nx ≤ id ∧ id < nx + 8) := by
    refine ⟨fun id hid => by simp only [ρ', if_neg hid], fun id t xs hid hmo => ?_⟩
    rcases hcase id _ hmo with ⟨n, o2, hb, _, hl, hro⟩ | ⟨hso, _, _⟩
    · have := renO_row hro
      subst this
      rcases hback n id hb with ⟨hn, e⟩ | ⟨hn, hn2, rfl⟩
      · obtain ⟨o1, ho1⟩ := (hlook n).2 (by omega) (by omega)
        obtain ⟨id2, o3, e1, e2, e3⟩ := hin n o1 ho1
        rw [e] at e1
        simp only [Option.some.injEq] at e1
        subst e1
        rcases hl with hl | ⟨_, hl⟩
        · have hk := turnAll_look hta hob' n o1 ho1 _ hl
          cases o1 with
          | box _ => exact hk.elim
          | row t2 ys =>
            have := renO_row e3
            subst this
            obtain ⟨rfl, hle⟩ := hk
            exact ⟨ys, e2, hle.symm⟩
        · rw [ho1] at hl
          simp only [Option.some.injEq] at hl
          subst hl
          have := renO_row e3
          subst this
          exact ⟨xs, e2, rfl⟩
      · exact absurd (by omega) hid
    · exact ⟨xs, hso, rfl⟩
  have hmr : MR w' N' ρ' m' := by
    refine ⟨fun id o hmo => ?_, fun id id' o1 o2 e1 e2 hh1 hh2 hA => ?_, fun b hb ho => ?_, fun b hb => ?_⟩
    · rcases hcase id o hmo with ⟨n, o2, hb, hl, hl2, hro⟩ | ⟨hso, hni, hnf⟩
      · have ho2 := h3.obj n o2 hl
        have ho3 : ObjR w' N' ρ2 (memOf (m1 ++ m0)) n o2 := by
          rcases hflat with hl0 | ⟨_, hfl, hfl0⟩
          · exact ho2.sub (hsub hl0)
          · rcases hl2 with hl2 | ⟨_, hl2⟩
            · exact ho2.flat (hfl n _ hl2)
            · exact ho2.flat (hfl0 n _ hl2)
        exact ho3.ren hren hb hro
      · refine (h.mr.obj id o hso).turn ht hNN hs hnf (fun i hi hF => (hnF i hF).2.1 id o hso hi) fun b hA hh => ?_
        exact hkeep b (own_lt h.mr ⟨id, o, hso, hh, hA⟩) (hout id o b hso hni hh hA)
    · have hA1 : ∃ b, (ρ' id).A = some ⟨b, 0, none⟩ := by
        have place : ∀ {n : Nat} {o : Obj} {w : World} {N : Blk} {ρ : Nat → Pl} {m : Mem}, ObjR w N ρ m n o → Holds (ρ n) o → ∃ b, (ρ n).A = some ⟨b, 0, none⟩ := by
          intro n o w N ρ m ho hh
          cases o with
          | box cs => obtain ⟨b, _, _, hb, _⟩ := ho; exact ⟨b, hb⟩
          | row t xs => obtain ⟨b, _, _, hb, _⟩ := ho.2 hh; exact ⟨b, hb⟩
        rcases hcase id o1 e1 with ⟨n, o3, hb, hl, _, hro⟩ | ⟨hso, hni, hnf⟩
        · rw [hpl n id hb] at hh1 ⊢
          exact place (h3.obj n o3 hl) ((renO_holds hro).2 hh1)
        · simp only [ρ', if_neg hnf] at hh1 ⊢
          exact place (h.mr.obj id o1 hso) hh1
      obtain ⟨b, hb⟩ := hA1
      have hb2 : (ρ' id').A = some ⟨b, 0, none⟩ := by rw [← hA]; exact hb
      rcases hheld id o1 b e1 hh1 hb with ⟨n, q, g1, g2, g3, g4⟩ | ⟨g1, g2, g3, g4⟩ <;> rcases hheld id' o2 b e2 hh2 hb2 with ⟨n', q', g1', g2', g3', g4'⟩ | ⟨g1', g2', g3', g4'⟩
      · have := h3.inj n n' q q' g2 g2' g3 g3' (by rw [g4, g4'])
        subst this
        rw [g1] at g1'
        exact Option.some.inj g1'
      · exfalso
        rcases h6 b ⟨n, q, g2, g3, g4⟩ with h8 | h8
        · exact hout id' o2 b g1' g2' g3' g4' h8
        · have := own_lt h.mr ⟨id', o2, g1', g3', g4'⟩; omega
      · exfalso
        rcases h6 b ⟨n', q', g2', g3', g4'⟩ with h8 | h8
        · exact hout id o1 b g1 g2 g3 g4 h8
        · have := own_lt h.mr ⟨id, o1, g1, g3, g4⟩; omega
      · exact h.mr.inj id id' o1 o2 g1 g1' g3 g3' (by rw [g4, g4'])
    · obtain ⟨id, o, hmo, hh, hA⟩ := ho
      rcases hheld id o b hmo hh hA with ⟨n, q, g1, g2, g3, g4⟩ | ⟨g1, g2, g3, g4⟩
      · have hn2 : N2 b := by
          rcases hb with hb | hb
          · exact h2 b (.inl hb)
          · exact hb.1
        exact h3.nown b hn2 ⟨n, q, g2, g3, g4⟩
      · rcases hb with hb | ⟨_, hb | hb⟩
        · exact h.mr.nown b hb ⟨id, o, g1, g3, g4⟩
        · have := own_lt h.mr ⟨id, o, g1, g3, g4⟩; omega
        · exact hout id o b g1 g2 g3 g4 hb
    · rcases hb with hb | hb
      · have := h.mr.nlt b hb; have := h5.size; omega
      · exact h3.nlt b hb.1
  have hres : SVR w' N' ρ' m' r' v := by
    have : SVR w' N' ρ2 (memOf (m1 ++ m0)) r v := by
      rcases hflat with hl0 | ⟨hfr, _⟩
      · exact h4.sub (hsub hl0)
      · exact h4.flat hfr
    exact this.ren hren hr'
  refine ⟨ρ', N', fun id hid => by simp only [ρ', if_neg hid], hNN, hs, h.put hd hnF ht hNN hs hres hmr ?_ (fun b hb => ?_) fun b hb => ?_⟩
  · refine ⟨h5.os.trans h.since.os, h5.tape.trans h.since.tape, h5.output.trans h.since.output, Nat.le_trans h.since.size h5.size, fun b hb hx => ?_⟩
    rw [hkeep b (by have := h.since.size; omega) fun ho => ?_]
    · exact h.since.keep b hb hx
    · rcases h.own b (hownc' b ho) with h8 | h8
      · exact hx h8
      · omega
  · obtain ⟨id, o, hmo, hh, hA⟩ := hb
    rcases hheld id o b hmo hh hA with ⟨n, q, g1, g2, g3, g4⟩ | ⟨g1, g2, g3, g4⟩
    · rcases h6 b ⟨n, q, g2, g3, g4⟩ with h8 | h8
      · exact h.own b (hownc' b h8)
      · exact .inr (by have := h.since.size; omega)
    · exact h.own b ⟨id, o, g1, g3, g4⟩
  · rcases hb with hb | ⟨_, hb | hb⟩
    · exact h.nn b hb
    · exact .inr (.inl (by have := h.since.size; omega))
    · rcases h.own b (hownc' b hb) with h8 | h8
      · exact .inr (.inr h8)
      · exact .inr (.inl h8)

end
end Go.Proofs.YtkhnakdmkhidbaaDoor

/- THE MACHINE OF READINGS, part Q: every operation. -/
namespace Go.Proofs.YtkhnakdmkhidbaaDoor
open Go.RowKit

section
variable {E : Env} {w0 : World} {X Z : Blk} {a : Act} {w w' : World} {s : St} {ρ ρ' : Nat → Pl} {N N' : Blk} {m m' : Mem}

theorem renSs_ids {f : Nat → Option Nat} {L : Nat} (hL : ∀ i j, f i = some j → j < L) : ∀ {l l' : List SV}, renSs f l = some l' → ∀ s ∈ l', ∀ id ∈ idsS s, id < L
  | [], _, he, s, hs, _, _ => by
    simp only [renSs, Option.some.injEq] at he
    subst he; cases hs
  | x :: l, _, he, s, hs, id, hid => by
    simp only [renSs] at he
    split at he
    · rename_i x' l' e1 e2
      simp only [Option.some.injEq] at he
      subst he
      rcases List.mem_cons.1 hs with rfl | hs
      · cases x with
        | un => exact renS_ids hL (by simp) e1 id hid
        | v ag cs => exact renS_ids hL (by simp) e1 id hid
        | tup vs =>
          simp only [renS] at e1
          cases hv : renVs f vs with
          | none => simp [hv] at e1
          | some vs' =>
            simp only [hv, Option.map_some, Option.some.injEq] at e1
            subst e1
            have key : ∀ {vs vs' : List (Bool × List C)}, renVs f vs = some vs' → ∀ id ∈ vs'.flatMap (fun p => idsCs p.2), id < L := by
              intro vs
              induction vs with
              | nil => intro vs' he id hid; simp only [renVs, Option.some.injEq] at he; subst he; cases hid
              | cons p vs ih =>
                intro vs' he id hid
                obtain ⟨ag, cs⟩ := p
                simp only [renVs] at he
                split at he
                · rename_i c' l e1 e2
                  simp only [Option.some.injEq] at he
                  subst he
                  simp only [List.flatMap_cons, List.mem_append] at hid
                  rcases hid with hid | hid
                  · exact renCs_ids hL e1 id hid
                  · exact ih e2 id hid
                · cases he
            exact key hv id hid
      · exact renSs_ids hL e2 s hs id hid
    · cases he

theorem caps_ok {caps : List (Nat × Nat)} {cv : List Value} (h : All2 (fun (p : Nat × Nat) u => ∃ b, (ρ p.1).A = some ⟨b, 0, none⟩ ∧ u = .pointer (some ⟨b, p.2, none⟩)) caps cv) : All2 (SVR w N ρ m) (caps.map fun (p : Nat × Nat) => one (.pt p.1 p.2)) cv := by
  induction h with
  | nil => exact .nil
  | cons h1 _ ih =>
    obtain ⟨b, hb, hu⟩ := h1
    exact .cons ⟨_, rfl, b, hb, hu⟩ ih

theorem memFor_eq {m' : Mem} {f : Nat → Option Nat} : ∀ {ids : List Nat} {n : Nat}, (∀ id ∈ ids, m' id = m id) → memFor m' f ids n = memFor m f ids n
  | [], _, _ => rfl
  | id :: r, n, h => by
    simp only [memFor]
    rw [h id (by simp), memFor_eq fun i hi => h i (by simp [hi])]

/-- own rows that are given away: they are stable from now on -/
def St.freeze (s : St) (D : List Nat) : St := { s with mem := (D.map fun id => (id, none)) ++ s.mem, tch := D ++ s.tch }
theorem freeze_obj (s : St) (D : List Nat) (id : Nat) : (s.freeze D).obj id = if id ∈ D then none else s.obj id := by
  unfold St.obj St.freeze memOf
  simp only [look_append, look_dead]
  by_cases h : id ∈ D <;> simp [h]
theorem freeze_some {s : St} {D : List Nat} {id : Nat} {o : Obj} (h : (s.freeze D).obj id = some o) : id ∉ D ∧ s.obj id = some o := by
  rw [freeze_obj] at h
  split at h
  · cases h
  · rename_i hd; exact ⟨hd, h⟩
theorem freeze_turn (s : St) (D : List Nat) : Turn ρ s.obj ρ (s.freeze D).obj (fun _ => False) :=
  ⟨fun _ _ => rfl, fun _ _ xs _ hm => ⟨xs, (freeze_some hm).2, rfl⟩⟩
theorem Rel.freeze (h : Rel E w0 X Z a w s ρ N) (D : List Nat) : Rel E w0 X Z a w (s.freeze D) ρ (fun b => N b ∨ Gone ρ s.obj D b) := by
  have hN : ∀ b, N b → (fun b => N b ∨ Gone ρ s.obj D b) b := fun b hb => .inl hb
  have hs : SameOn N w w := fun _ _ => rfl
  have hown : ∀ b, Own ρ (s.freeze D).obj b → Own ρ s.obj b := fun b ⟨id, o, ho, hh, hA⟩ => ⟨id, o, (freeze_some ho).2, hh, hA⟩
  refine ⟨fun t sv hl => (h.slots t sv hl).turn (freeze_turn s D) hN hs fun _ _ hf => hf, ⟨fun id o ho => ?_, fun id id' o o' ho ho' hh hh' hA => ?_, fun b hb ho => ?_, fun b hb => ?_⟩, h.defers, h.since, fun b hb => h.own b (hown b hb), fun g cs hg => (h.glob g cs hg).step hN hs, h.nn'⟩
  · exact (h.mr.obj id o (freeze_some ho).2).turn (freeze_turn s D) hN hs (fun hf => hf) (fun _ _ hf => hf) fun _ _ _ => rfl
  · exact h.mr.inj id id' o o' (freeze_some ho).2 (freeze_some ho').2 hh hh' hA
  · rcases hb with hb | ⟨id2, hd2, t, xs, hm2, hc2, hA2⟩
    · exact h.mr.nown b hb (hown b ho)
    · obtain ⟨id, o, ho, hh, hA⟩ := ho
      have := h.mr.inj id id2 o _ (freeze_some ho).2 hm2 hh hc2 (by rw [hA, hA2])
      subst this
      exact (freeze_some ho).1 hd2
  · rcases hb with hb | hb
    · exact h.mr.nlt b hb
    · exact gone_lt h.mr hb

theorem call_gen (h : Rel E w0 X Z a w s ρ N) (hE : E.Ok) (hm : ∀ id ob, m id = some ob → s.obj id = some ob) {o : Oper} (hd : ∀ d, o.dst = some d → d < a.tmps.size) {nx : Nat} (hf : ∀ k, k < 8 → Fresh s (nx + k)) {c : Call} {g : Operand} {f : FuncId} (ho : o.op = .call c) (hc : c.callee = .value g) {cv : List Value} (hcv : a.eval g = .func (.func f) #[] cv.toArray)
    {keep : Bool} {ct : Ctr} (hct : E.ctr f = some (keep, ct)) {lent ids : List Nat} {args1 args' : List SV} {m0 m1 : List (Nat × Option Obj)} {obs1 obs' : List Prop} {r r' : SV} {u : List (Nat × Option Obj)}
    (hra : renSs (fun id => numAt id 0 ids) args1 = some args') (hm0 : memFor m (fun id => numAt id 0 ids) ids 0 = some m0) (hctr : ct args' m0 = some (obs1, r, m1)) (hta : turnAll m1 m0 = some obs') (hr' : renS (back ids nx) r = some r') (hu : memBack (back ids nx) m1 = some u)
    (hids : distinct ids = true) (hln' : ∀ id ∈ lent, id ∉ ids) (hflat : lent = [] ∨ (flatS r = true ∧ (∀ n o, look m1 n = some o → flatO o = true) ∧ ∀ n o, look m0 n = some o → flatO o = true))
    (hargs2 : All2 (SVR w (fun b => N b ∨ Gone ρ s.obj lent b) ρ s.obj) args1 (c.args.toList.map a.eval ++ cv)) (hob : ∀ p ∈ obs1 ++ obs', p) : OpGood E w0 X Z a o w s ρ N ⟨r', u⟩ (fun id => nx ≤ id ∧ id < nx + 8) := by
  obtain ⟨⟨fn, hfn, hbody, hname⟩, hmeets⟩ := hE.ctr f keep ct hct
  let Nc : Blk := fun b => N b ∨ Gone ρ s.obj lent b
  let ρc : Nat → Pl := fun n => match ids[n]? with
    | some id => ρ id
    | none => ⟨none, 0⟩
  have hρc : ∀ n id, ids[n]? = some id → ρc n = ρ id := fun n id hn => by simp only [ρc, hn]
  obtain ⟨hlen, hlook⟩ := memFor_look (ids := ids) hm0
  have hin : ∀ n o1, memOf m0 n = some o1 → ∃ id o, ids[n]? = some id ∧ s.obj id = some o ∧ renO (fun id => numAt id 0 ids) o = some o1 := by
    intro n o1 hn
    obtain ⟨_, id, o, o2, e1, e2, e3, e4⟩ := (hlook n).1 _ (memOf_some hn)
    simp only [Option.some.injEq] at e4
    subst e4
    exact ⟨id, o, by simpa using e1, hm id o e2, e3⟩
  have hnum : ∀ i j, numAt i 0 ids = some j → j < m0.length := fun i j hij => by rw [hlen]; exact (List.getElem?_eq_some_iff.1 (numAt_get hij)).1
  have hren : RenOk (fun id => numAt id 0 ids) ρ s.obj ρc (memOf m0) := by
    intro id n hn
    have hg := numAt_get hn
    refine ⟨hρc n id hg, fun t xs hmo => ?_⟩
    obtain ⟨id', o, e1, e2, e3⟩ := hin n _ hmo
    rw [hg] at e1
    simp only [Option.some.injEq] at e1
    subst e1
    rw [renO_row e3] at e2
    exact e2
  have hNc : ∀ b, N b → Nc b := fun b hb => .inl hb
  have hmr : MR w Nc ρc (memOf m0) := by
    refine ⟨fun n o1 hn => ?_, fun n n' o1 o2 e1 e2 hh1 hh2 hA => ?_, fun b hb ho => ?_, fun b hb => ?_⟩
    · obtain ⟨id, o, e1, e2, e3⟩ := hin n o1 hn
      have hnn : numAt id 0 ids = some n := by
        have hmem : id ∈ ids := List.mem_of_getElem? e1
        cases hq : numAt id 0 ids with
        | none =>
          exfalso
          have : ∀ {l : List Nat} {k : Nat}, id ∈ l → numAt id k l ≠ none := by
            intro l
            induction l with
            | nil => intro k h; cases h
            | cons x l ih =>
              intro k h
              simp only [numAt]
              cases hb : Nat.beq x id with
              | true => simp
              | false =>
                simp only [cond_false]
                rcases List.mem_cons.1 h with rfl | h
                · simp at hb
                · exact ih h
          exact this hmem hq
        | some n2 =>
          have := distinct_inj hids (numAt_get hq) e1
          rw [this]
      exact ((h.mr.obj id o e2).sub hNc).ren hren hnn e3
    · obtain ⟨i1, q1, a1, a2, a3⟩ := hin n o1 e1
      obtain ⟨i2, q2, b1, b2, b3⟩ := hin n' o2 e2
      rw [hρc n i1 a1] at hh1 hA
      rw [hρc n' i2 b1] at hh2 hA
      have := h.mr.inj i1 i2 q1 q2 a2 b2 ((renO_holds a3).2 hh1) ((renO_holds b3).2 hh2) hA
      subst this
      exact distinct_inj hids a1 b1
    · obtain ⟨n, o1, e1, hh, hA⟩ := ho
      obtain ⟨i1, q1, a1, a2, a3⟩ := hin n o1 e1
      rw [hρc n i1 a1] at hh hA
      have hh' := (renO_holds a3).2 hh
      rcases hb with hb | ⟨i2, hi2, t, xs, b1, b2, b3⟩
      · exact h.mr.nown b hb ⟨i1, q1, a2, hh', hA⟩
      · have := h.mr.inj i1 i2 q1 _ a2 b1 hh' b2 (by rw [hA, b3])
        subst this
        exact hln' i1 hi2 (List.mem_of_getElem? a1)
    · rcases hb with hb | hb
      · exact h.mr.nlt b hb
      · exact gone_lt h.mr hb
  have hspec := hmeets args' m0 obs1 r m1 hctr (fun p hp => hob p (by simp [hp])) w Nc ρc (c.args.toList.map a.eval ++ cv)
    (fun gl cs hgl => (h.glob gl cs hgl).step hNc (fun _ _ => rfl)) hmr (renSs_ok hren hra hargs2) (renSs_ids hnum hra)
    (fun n o1 hn => by
      obtain ⟨id, o, e1, e2, e3⟩ := hin n o1 hn
      exact ⟨by rw [hlen]; exact (List.getElem?_eq_some_iff.1 e1).1, renO_ids hnum e3⟩)
  intro K Q hK
  have hrun : (execOp a.eval o).run E.P w = .ok (.enter f (c.args.toList.map a.eval ++ cv).toArray) w := by
    have hcf : (callFunc f (c.args.toList.map a.eval ++ cv).toArray).run E.P w = .ok (.enter f (c.args.toList.map a.eval ++ cv).toArray) w := by
      have hb : fn.body.isNone = false := by cases hx : fn.body <;> simp_all
      simp only [callFunc, Sem.run_bind, run_program, Result.andThen_ok, hfn, hname, hb, Bool.false_eq_true, if_false]
      rfl
    have e1 : c.args.map a.eval ++ cv.toArray = (c.args.toList.map a.eval ++ cv).toArray := by apply Array.ext'; simp
    simp only [execOp, ho, resolve, hc, hcv, Deferred.ofValue, Sem.run_bind, Sem.run_pure, Result.andThen_ok, invoke, Array.empty_append]
    rw [e1]; exact hcf
  unfold Oper.wp
  rw [hrun]
  refine hspec.mono fun en w1 hpost => ?_
  obtain ⟨v, ρ2, N2, rfl, p1, p2, p3, p4, p5, p6, p7⟩ := hpost
  obtain ⟨ρ', N', q1, q2, q3, q4⟩ := call_back h hm (dst := o.dst) hd hf hids hm0 hta (fun p hp => hob p (by simp [hp])) hr' hu hflat hρc p1 p2 p3 p4 p5 p6 p7
  exact hK v w1 ρ' N' q1 q2 q3 q4

theorem call_ok (h : Rel E w0 X Z a w s ρ N) (hE : E.Ok) (hm : ∀ id ob, m id = some ob → s.obj id = some ob) {o : Oper} (hd : ∀ d, o.dst = some d → d < a.tmps.size) {nx : Nat} (hf : ∀ k, k < 8 → Fresh s (nx + k)) {c : Call} {g : Operand} {f : FuncId} {caps : List (Nat × Nat)} (ho : o.op = .call c) (hc : c.callee = .value g) (hg : s.get g = .v false [.fn f caps])
    {obs : List Prop} {e : Eff} (he : aCall E m nx f (c.args.toList.map s.get ++ caps.map fun (p : Nat × Nat) => one (.pt p.1 p.2)) = some (obs, e)) (hob : ∀ p ∈ obs, p) : OpGood E w0 X Z a o w s ρ N e (fun id => nx ≤ id ∧ id < nx + 8) := by
  have hgv := h.get g
  rw [hg] at hgv
  obtain ⟨cv, hcv, hcr⟩ := vr1 hgv
  -- the arguments
  have hargs : All2 (SVR w N ρ s.obj) (c.args.toList.map s.get ++ caps.map fun (p : Nat × Nat) => one (.pt p.1 p.2)) (c.args.toList.map a.eval ++ cv) := by
    exact (h.gets _).append (caps_ok hcr)
  generalize c.args.toList.map s.get ++ caps.map (fun (p : Nat × Nat) => one (.pt p.1 p.2)) = args at he hargs
  unfold aCall at he
  split at he
  · cases he
  · rename_i keep ct hct
    simp only at he
    generalize hlent : (if keep then [] else args.flatMap hsS) = lent at he
    generalize hargs1 : (if keep then args else args.map (roS m)) = args1 at he
    generalize reach m 3 (addNew [] (args1.flatMap (metS true))) = ids at he
    split at he
    · rename_i args' m0 hra hm0
      split at he
      · rename_i obs1 r m1 hctr
        split at he
        · rename_i obs' r' u hta hr' hu
          cases hcond : (distinct ids && lent.all (fun id => !ids.contains id)) with
          | false => rw [hcond] at he; cases he
          | true =>
            rw [hcond] at he
            simp only [cond_true, Option.some.injEq, Prod.mk.injEq] at he
            obtain ⟨rfl, rfl⟩ := he
            simp only [Bool.and_eq_true] at hcond
            obtain ⟨hids, hln⟩ := hcond
            have hln' : ∀ id ∈ lent, id ∉ ids := by
              intro id hid
              have := List.all_eq_true.1 hln id hid
              simpa using this
            have hargs2 : All2 (SVR w (fun b => N b ∨ Gone ρ s.obj lent b) ρ s.obj) args1 (c.args.toList.map a.eval ++ cv) := by
              subst hargs1 hlent
              cases keep with
              | true => exact hargs.mono fun sv v hv => hv.sub fun b hb => .inl hb
              | false => exact roSs_ok h.mr hm hargs fun id hid => hid
            cases hfl : (lent.isEmpty || (flatS r && (m1.all (fun x => flatO x.2) && m0.all fun x => flatO x.2))) with
            | true =>
              have hflat : lent = [] ∨ (flatS r = true ∧ (∀ n o, look m1 n = some o → flatO o = true) ∧ ∀ n o, look m0 n = some o → flatO o = true) := by
                rcases Bool.or_eq_true _ _ ▸ hfl with hl | hl
                · left; simpa using hl
                · right
                  simp only [Bool.and_eq_true] at hl
                  have key : ∀ {l : List (Nat × Option Obj)} (n : Nat) (o : Option Obj), (l.all fun x => flatO x.2) = true → look l n = some o → flatO o = true := by
                    intro l n o
                    induction l with
                    | nil => intro _ h; simp [look] at h
                    | cons p l ih =>
                      intro ha hk
                      obtain ⟨k, x⟩ := p
                      simp only [List.all_cons, Bool.and_eq_true] at ha
                      rw [look_cons] at hk
                      split at hk
                      · simp only [Option.some.injEq] at hk; subst hk; exact ha.1
                      · exact ih ha.2 hk
                  exact ⟨hl.1, fun n o hlk => key n o hl.2.1 hlk, fun n o hlk => key n o hl.2.2 hlk⟩
              rw [cond_true, List.append_nil]
              exact call_gen h hE hm hd hf ho hc hcv hct hra hm0 hctr hta hr' hu hids hln' hflat hargs2 hob
            | false =>
              rw [cond_false]
              have hmf : ∀ id ∈ ids, (fun id => if id ∈ lent then none else m id) id = m id := fun id hid => by
                simp only
                rw [if_neg fun hl => hln' id hl hid]
              have hgood := call_gen (h.freeze lent) hE (m := fun id => if id ∈ lent then none else m id) (fun id ob hq => by
                  split at hq
                  · cases hq
                  · rename_i hl; rw [freeze_obj, if_neg hl]; exact hm id ob hq) hd
                (fun k hk => ⟨(hf k hk).1, fun id' o' ho' => (hf k hk).2.1 id' o' (freeze_some ho').2, by rw [freeze_obj]; split <;> first | rfl | exact (hf k hk).2.2⟩) ho hc hcv hct hra (by rw [memFor_eq hmf]; exact hm0) hctr hta hr' hu hids (lent := []) (fun _ h => by cases h) (.inl rfl)
                (hargs2.mono fun sv v hv => hv.turn (freeze_turn s lent) (fun b hb => .inl hb) (fun _ _ => rfl) fun _ _ hf => hf) hob
              intro K Q hK
              refine hgood K Q fun v w' ρ' N' q1 q2 q3 q4 => hK v w' ρ' N' q1 (fun b hb => q2 b (.inl hb)) (fun b hb => q3 b (.inl hb)) ?_
              have : s.put o.dst ⟨r', u ++ lent.map fun id => (id, none)⟩ = (s.freeze lent).put o.dst ⟨r', u⟩ := by
                unfold St.put St.freeze
                simp [Function.comp_def]
              rw [this]
              exact q4
        · cases he
      · cases he
    · cases he

theorem out_map {β : Type} {x : Option β} {g : β → List Prop × Eff} {y : List Prop × Eff} (h : x.map g = some y) : ∃ z, x = some z ∧ g z = y := by
  cases x with
  | none => simp at h
  | some z => exact ⟨z, rfl, by simpa using h⟩

/-- EVERY OPERATION OF THE EVALUATOR is the model's. -/
theorem aop_ok (h : Rel E w0 X Z a w s ρ N) (hE : E.Ok) (hm : ∀ id ob, m id = some ob → s.obj id = some ob) {o : Oper} (hd : ∀ d, o.dst = some d → d < a.tmps.size) {nx : Nat} (hf : ∀ k, k < 8 → Fresh s (nx + k))
    {obs : List Prop} {e : Eff} (he : aop E m nx s.get o.op = some (obs, e)) (hob : ∀ p ∈ obs, p) : OpGood E w0 X Z a o w s ρ N e (fun id => nx ≤ id ∧ id < nx + 8) := by
  have pure : PureR E a o w N ρ s.obj e → OpGood E w0 X Z a o w s ρ N e (fun id => nx ≤ id ∧ id < nx + 8) := fun hp => (hp.good h hd (fun _ => False)).op fun _ hf => hf.elim
  have new : Good E w0 X Z a o w s ρ N e (· = nx) → OpGood E w0 X Z a o w s ρ N e (fun id => nx ≤ id ∧ id < nx + 8) := fun hg => hg.op fun id hid => by have hid : id = nx := hid; omega
  have hf0 : Fresh s nx := by simpa using hf 0 (by omega)
  unfold aop at he
  split at he
  · rename_i x ho
    simp only [Option.some.injEq, Prod.mk.injEq] at he
    obtain ⟨_, rfl⟩ := he
    exact pure (move_ok h (.inl ho))
  · rename_i x ho
    simp only [Option.some.injEq, Prod.mk.injEq] at he
    obtain ⟨_, rfl⟩ := he
    exact pure (move_ok h (.inr ho))
  · rename_i T ho
    obtain ⟨cs, hz, hy⟩ := out_map he
    simp only [Prod.mk.injEq] at hy
    obtain ⟨_, rfl⟩ := hy
    exact new (alloc_ok h hd hf0 ho hz)
  · rename_i T x ho
    split at he
    · rename_i b cs hg
      simp only [Option.some.injEq, Prod.mk.injEq] at he
      obtain ⟨_, rfl⟩ := he
      exact new (box_ok h hd hf0 ho hg)
    · cases he
  · rename_i T ps ho; exact pure (build_ok h ho he)
  · rename_i T n ps ho
    cases hz : Nat.beq n 0 with
    | true =>
      rw [hz] at he
      have := Nat.eq_of_beq_eq_true hz
      subst this
      exact new (empty_ok h hd hf0 ho he)
    | false =>
      rw [hz] at he
      exact new (buildSlice_ok h hm hd hf0 ho he)
  · rename_i T x ho; exact pure (load_ok h hm ho he)
  · rename_i T x y ho; exact (store_ok h hm hd ho he).op fun _ hf => hf.elim
  · rename_i x ho
    split at he
    · rename_i id off hg
      simp only [ret, Option.some.injEq, Prod.mk.injEq] at he
      obtain ⟨_, rfl⟩ := he
      exact pure (nilCheck_ok h ho hg fun v hv => by obtain ⟨b, _, rfl⟩ := hv; exact ⟨_, rfl⟩)
    · rename_i t xs i off hg
      simp only [ret, Option.some.injEq, Prod.mk.injEq] at he
      obtain ⟨_, rfl⟩ := he
      exact pure (nilCheck_ok h ho hg fun v hv => by obtain ⟨b, o, rfl, _⟩ := hv; exact ⟨_, rfl⟩)
    · rename_i id i off hg
      simp only [ret, Option.some.injEq, Prod.mk.injEq] at he
      obtain ⟨_, rfl⟩ := he
      exact pure (nilCheck_ok h ho hg fun v hv => hv.1)
    · rename_i g off hg
      simp only [ret, Option.some.injEq, Prod.mk.injEq] at he
      obtain ⟨_, rfl⟩ := he
      exact pure (nilCheck_ok h ho hg fun v hv => ⟨_, hv⟩)
    · cases he
  · rename_i op T x y T' ho; exact pure (bin_ok h hE.eqs ho he hob)
  · rename_i T x ho
    split at he
    · rename_i b hg
      simp only [ret, Option.some.injEq, Prod.mk.injEq] at he
      obtain ⟨_, rfl⟩ := he
      exact pure (not_ok h ho hg)
    · cases he
  · rename_i T x ho
    split at he
    · rename_i k n hg
      simp only [ret, Option.some.injEq, Prod.mk.injEq] at he
      obtain ⟨_, rfl⟩ := he
      exact pure (neg_ok h ho hg)
    · cases he
  · rename_i S D x ho
    cases ht : isText E.P S D with
    | true => rw [ht] at he; exact pure (bytesText_ok h hm ho ht he)
    | false => rw [ht] at he; exact pure (convert_ok h ho he)
  · rename_i T l c ho; exact new (make_ok h hd hf0 ho he hob)
  · rename_i f first cs ho
    split at he
    · rename_i hfi
      obtain ⟨l, hl, hy⟩ := out_map he
      simp only [Prod.mk.injEq] at hy
      obtain ⟨_, rfl⟩ := hy
      exact pure (makeFunc_ok h ho hfi hl)
    · cases he
  · rename_i T x lo hi mx ho
    split at he
    · rename_i id hg; exact new (sliceOwn_ok h hm hd hf0 ho hg he hob)
    · rename_i hg; exact pure (sliceNil_ok h ho hg he)
    · exact pure (slice_ok h ho he hob)
  · rename_i T x f ho; exact pure (fieldAddr_ok h ho he)
  · rename_i T x f ho; exact pure (field_ok h ho he)
  · rename_i T x i ho; exact pure (indexAddr_ok h hm ho he hob)
  · rename_i T x i ho; exact pure (index_ok h ho he hob)
  · rename_i x i ho
    split at he
    · rename_i vs hg
      split at he
      · rename_i b cs hi
        simp only [Option.some.injEq, Prod.mk.injEq] at he
        obtain ⟨_, rfl⟩ := he
        exact pure (extract_ok h ho hg hi)
      · cases he
    · cases he
  · rename_i c ho
    split at he
    · rename_i hc
      split at he
      · rename_i x T Ts ha hT; exact pure (len_ok h hm ho hc ha hT he)
      · cases he
    · rename_i hc
      split at he
      · rename_i x y T T' ha hT
        split at he
        · rename_i hTT
          subst hTT
          exact new (append_ok h hm hd hf0 ho hc ha hT he hob)
        · exact new (appendZ_ok h hd hf0 ho hc ha hT he hob)
      · cases he
    · rename_i hc
      split at he
      · rename_i x T ha hT; exact (clear_ok h hm hd ho hc ha hT he hob).op fun _ hf => hf.elim
      · cases he
    · rename_i hc
      split at he
      · rename_i x T Ts ha hT; exact pure (cap_ok h ho hc ha hT he)
      · cases he
    · rename_i hc
      split at he
      · rename_i k n k' n' ha
        simp only [ret, Option.some.injEq, Prod.mk.injEq] at he
        obtain ⟨_, rfl⟩ := he
        exact pure (min_ok h ho hc ha)
      · cases he
    · rename_i hc
      split at he
      · rename_i k n k' n' ha
        simp only [ret, Option.some.injEq, Prod.mk.injEq] at he
        obtain ⟨_, rfl⟩ := he
        exact pure (max_ok h ho hc ha)
      · cases he
    · rename_i g hc
      split at he
      · rename_i f caps hg; exact call_ok h hE hm hd hf ho hc hg he hob
      · cases he
    · cases he
  · cases he

end
end Go.Proofs.YtkhnakdmkhidbaaDoor

