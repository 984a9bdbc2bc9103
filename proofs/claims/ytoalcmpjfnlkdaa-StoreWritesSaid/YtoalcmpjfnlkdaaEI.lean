/- THE MACHINE OF READINGS, part I: operations that make or turn objects. -/
import Derived.Test.YtoalcmpjfnlkdaaEH
namespace Go.Proofs.Ytoalcmpjfnlkdaa
open Go.RowKit

section
variable {E : Env} {w0 : World} {X Z : Blk} {a : Act} {w w' : World} {s : St} {ρ ρ' : Nat → Pl} {N N' : Blk} {m m' : Mem}

/-- what an operation that is no call comes to -/
def Good (E : Env) (w0 : World) (X Z : Blk) (a : Act) (o : Oper) (w : World) (s : St) (ρ : Nat → Pl) (N : Blk) (e : Eff) (F : Nat → Prop) : Prop :=
  ∃ v w' ρ' N', ((execOp a.eval o).run E.P w = .ok (.value v) w' ∨ ((execOp a.eval o).run E.P w = .ok .skip w' ∧ v = undef)) ∧ (∀ id, ¬ F id → ρ' id = ρ id) ∧
    (∀ b, N b → N' b) ∧ SameOn N w w' ∧ Rel E w0 X Z (a.put o.dst v) w' (s.put o.dst e) ρ' N'

theorem PureR.good {o : Oper} {e : Eff} (hp : PureR E a o w N ρ s.obj e) (h : Rel E w0 X Z a w s ρ N) (hd : ∀ d, o.dst = some d → d < a.tmps.size) (F : Nat → Prop) : Good E w0 X Z a o w s ρ N e F := by
  obtain ⟨v, hr, hv, hu⟩ := hp
  exact ⟨v, w, ρ, N, .inl hr, fun _ _ => rfl, fun _ h => h, fun _ _ => rfl, h.pure hd hu hv⟩

theorem push_old {w' : World} {ob : Go.Obj} (hw : w'.heap = w.heap.push ob) {b : Nat} (hb : b < w.heap.size) : w'.heap[b]? = w.heap[b]? := by
  rw [hw, Array.getElem?_push, if_neg (by omega)]
theorem push_new {w' : World} {ob : Go.Obj} (hw : w'.heap = w.heap.push ob) : w'.heap[w.heap.size]? = some ob := by
  rw [hw, Array.getElem?_push, if_pos rfl]

theorem own_lt (h : MR w N ρ m) {b : Nat} (ho : Own ρ m b) : b < w.heap.size := by
  obtain ⟨id, o, hm, hh, hA⟩ := ho
  cases o with
  | box cs =>
    obtain ⟨b', vals, T, hA', he, _⟩ := h.obj id _ hm
    rw [hA] at hA'
    simp only [Option.some.injEq, Addr.mk.injEq, and_true] at hA'
    subst hA'
    exact (Array.getElem?_eq_some_iff.1 he).1
  | row t xs =>
    obtain ⟨_, hr⟩ := h.obj id _ hm
    obtain ⟨b', vals, T, hA', he, _⟩ := hr hh
    rw [hA] at hA'
    simp only [Option.some.injEq, Addr.mk.injEq, and_true] at hA'
    subst hA'
    exact (Array.getElem?_eq_some_iff.1 he).1

/-- The relation of objects behind a new one, where some rows are let go. -/
theorem MR.new (h : MR w N ρ m) {nx cap : Nat} {o : Obj} {D : List Nat} {ob : Go.Obj} (hw : w'.heap = w.heap.push ob) (hnx : m nx = none) (hnm : ∀ id o', m id = some o' → nx ∉ idsO o')
    (hm' : ∀ id, m' id = if id = nx then some o else if id ∈ D then none else m id) (hρ' : ∀ id, ρ' id = if id = nx then ⟨some ⟨w.heap.size, 0, none⟩, cap⟩ else ρ id)
    (hN' : ∀ b, N' b ↔ N b ∨ Gone ρ m D b) (hobj : ObjR w' N' ρ' m' nx o) :
    Turn ρ m ρ' m' (· = nx) ∧ (∀ b, N b → N' b) ∧ SameOn N w w' ∧ MR w' N' ρ' m' ∧ ∀ b, Own ρ' m' b → Own ρ m b ∨ w.heap.size ≤ b := by
  have ht : Turn ρ m ρ' m' (· = nx) := by
    refine ⟨fun id hid => by rw [hρ', if_neg hid], fun id t xs hid hm => ?_⟩
    rw [hm', if_neg hid] at hm
    split at hm
    · cases hm
    · exact ⟨xs, hm, rfl⟩
  have hN : ∀ b, N b → N' b := fun b hb => (hN' b).2 (.inl hb)
  have hs : SameOn N w w' := fun b hb => push_old hw (h.nlt b hb)
  have old : ∀ id o', m' id = some o' → id ≠ nx → m id = some o' ∧ id ∉ D := by
    intro id o' hm hid
    rw [hm', if_neg hid] at hm
    split at hm
    · cases hm
    · rename_i hd; exact ⟨hm, hd⟩
  have hsz : w.heap.size < w'.heap.size := by rw [hw, Array.size_push]; omega
  refine ⟨ht, hN, hs, ⟨fun id o' hm => ?_, fun id id' o1 o2 hm1 hm2 hh1 hh2 hA => ?_, fun b hb ho => ?_, fun b hb => ?_⟩, fun b ho => ?_⟩
  · by_cases hid : id = nx
    · subst hid
      have := hm' id
      rw [if_pos rfl, hm] at this
      simp only [Option.some.injEq] at this
      subst this
      exact hobj
    · obtain ⟨hmo, _⟩ := old id o' hm hid
      exact (h.obj id o' hmo).turn ht hN hs hid (fun i hi hc => hnm id o' hmo (hc ▸ hi)) fun b hA hh => push_old hw (own_lt h ⟨id, o', hmo, hh, hA⟩)
  · rw [hρ', hρ'] at hA
    by_cases h1 : id = nx <;> by_cases h2 : id' = nx
    · rw [h1, h2]
    · exfalso
      rw [if_pos h1, if_neg h2] at hA
      have hl := own_lt h ⟨id', o2, (old id' o2 hm2 h2).1, (by rw [hρ', if_neg h2] at hh2; exact hh2), hA.symm⟩
      omega
    · exfalso
      rw [if_neg h1, if_pos h2] at hA
      have hl := own_lt h ⟨id, o1, (old id o1 hm1 h1).1, (by rw [hρ', if_neg h1] at hh1; exact hh1), hA⟩
      omega
    · rw [if_neg h1, if_neg h2] at hA
      rw [hρ', if_neg h1] at hh1
      rw [hρ', if_neg h2] at hh2
      exact h.inj id id' o1 o2 (old id o1 hm1 h1).1 (old id' o2 hm2 h2).1 hh1 hh2 hA
  · obtain ⟨id, o', hm, hh, hA⟩ := ho
    by_cases hid : id = nx
    · rw [hρ', if_pos hid] at hA
      simp only [Option.some.injEq, Addr.mk.injEq, and_true] at hA
      subst hA
      rcases (hN' _).1 hb with hb | hb
      · exact absurd (h.nlt _ hb) (by omega)
      · exact absurd (gone_lt h hb) (by omega)
    · obtain ⟨hmo, hd⟩ := old id o' hm hid
      rw [hρ', if_neg hid] at hA hh
      rcases (hN' _).1 hb with hb | ⟨id2, hd2, t, xs, hm2, hc2, hA2⟩
      · exact h.nown b hb ⟨id, o', hmo, hh, hA⟩
      · have := h.inj id id2 o' _ hmo hm2 hh hc2 (by rw [hA, hA2])
        subst this
        exact hd hd2
  · rcases (hN' _).1 hb with hb | hb
    · exact Nat.lt_trans (h.nlt _ hb) hsz
    · exact Nat.lt_trans (gone_lt h hb) hsz
  · obtain ⟨id, o', hm, hh, hA⟩ := ho
    by_cases hid : id = nx
    · rw [hρ', if_pos hid] at hA
      simp only [Option.some.injEq, Addr.mk.injEq, and_true] at hA
      exact .inr (by omega)
    · rw [hρ', if_neg hid] at hA hh
      exact .inl ⟨id, o', (old id o' hm hid).1, hh, hA⟩

theorem Since.push (h : Since w0 X w) {ob : Go.Obj} (hw : w'.heap = w.heap.push ob) (h1 : w'.os = w.os) (h2 : w'.tape = w.tape) (h3 : w'.output = w.output) : Since w0 X w' := by
  refine ⟨h1.trans h.os, h2.trans h.tape, h3.trans h.output, ?_, fun b hb hx => (push_old hw (by have := h.size; omega)).trans (h.keep b hb hx)⟩
  rw [hw, Array.size_push]
  have := h.size
  omega

theorem look_dead (D : List Nat) (id : Nat) : look (D.map fun i => (i, (none : Option Obj))) id = if id ∈ D then some none else none := by
  induction D with
  | nil => rfl
  | cons d D ih =>
    rw [List.map_cons, look_cons, ih]
    by_cases h : d = id
    · subst h; simp
    · have : id ≠ d := fun e => h e.symm
      simp [h, this]

theorem obj_new {dst : Option Tmp} {r : SV} {nx : Nat} {o : Obj} {D : List Nat} (id : Nat) : (s.put dst ⟨r, (nx, some o) :: D.map fun i => (i, none)⟩).obj id = if id = nx then some o else if id ∈ D then none else s.obj id := by
  rw [St.obj_put]
  simp only
  rw [look_cons, look_dead]
  by_cases h : nx = id
  · subst h; simp
  · have h' : ¬ id = nx := fun e => h e.symm
    by_cases h2 : id ∈ D
    · simp [h, h', h2]
    · simp [h, h', h2]

/-- a new object -/
theorem new_good (h : Rel E w0 X Z a w s ρ N) {o : Oper} (hd : ∀ d, o.dst = some d → d < a.tmps.size) {nx cap : Nat} (hf : Fresh s nx) {ob : Obj} {D : List Nat} {gob : Go.Obj} {c : C} {v : Value}
    (hr : (execOp a.eval o).run E.P w = .ok (.value v) w') (hw : w'.heap = w.heap.push gob) (h1 : w'.os = w.os) (h2 : w'.tape = w.tape) (h3 : w'.output = w.output)
    (hobj : ∀ ρ' m' N', (∀ id, ρ' id = if id = nx then ⟨some ⟨w.heap.size, 0, none⟩, cap⟩ else ρ id) → Turn ρ s.obj ρ' m' (· = nx) → m' nx = some ob → (∀ b, N b → N' b) → (∀ b, Gone ρ s.obj D b → N' b) → SameOn N w w' → SameOn N' w w' →
      ObjR w' N' ρ' m' nx ob ∧ CR w' N' ρ' m' c v) :
    Good E w0 X Z a o w s ρ N ⟨one c, (nx, some ob) :: D.map fun i => (i, none)⟩ (· = nx) := by
  let ρ' : Nat → Pl := fun id => if id = nx then ⟨some ⟨w.heap.size, 0, none⟩, cap⟩ else ρ id
  let N' : Blk := fun b => N b ∨ Gone ρ s.obj D b
  have hm' := fun id => obj_new (s := s) (dst := o.dst) (r := one c) (nx := nx) (o := ob) (D := D) id
  have ht : Turn ρ s.obj ρ' (s.put o.dst ⟨one c, (nx, some ob) :: D.map fun i => (i, none)⟩).obj (· = nx) := by
    refine ⟨fun id hid => by simp only [ρ', if_neg hid], fun id t xs hid hm => ?_⟩
    rw [hm', if_neg hid] at hm
    split at hm
    · cases hm
    · exact ⟨xs, hm, rfl⟩
  have hs : SameOn N w w' := fun b hb => push_old hw (h.mr.nlt b hb)
  have hob := hobj ρ' _ N' (fun _ => rfl) ht (by rw [hm', if_pos rfl]) (fun b hb => Or.inl hb) (fun b hb => Or.inr hb) hs (fun b hb => push_old hw (hb.elim (h.mr.nlt b) (gone_lt h.mr)))
  obtain ⟨_, hN, _, hmr, hown⟩ := h.mr.new hw hf.2.2 hf.2.1 hm' (fun _ => rfl) (fun _ => Iff.rfl) hob.1
  refine ⟨v, w', ρ', N', .inl hr, fun id hid => by simp only [ρ', if_neg hid], hN, hs, h.put hd (fun id hid => by have hid : id = nx := hid; subst hid; exact hf) ht hN hs ⟨c, rfl, hob.2⟩ hmr (h.since.push hw h1 h2 h3) (fun b hb => ?_) h.nn'⟩
  rcases hown b hb with hb | hb
  · exact h.own b hb
  · exact .inr (by have := h.since.size; omega)

theorem alloc_ok (h : Rel E w0 X Z a w s ρ N) {o : Oper} (hd : ∀ d, o.dst = some d → d < a.tmps.size) {nx : Nat} (hf : Fresh s nx) {T : TypeId} (ho : o.op = .alloc T) {cs : List C} (hz : zeroT E.P T = some cs) :
    Good E w0 X Z a o w s ρ N ⟨one (.pt nx 0), [(nx, some (.box cs))]⟩ (· = nx) := by
  obtain ⟨i, z, hi, hv, hzr⟩ := zeroT_some hz
  refine new_good (D := []) (cap := 0) (c := .pt nx 0) (v := .pointer (some ⟨w.heap.size, 0, none⟩)) (w' := { w with heap := w.heap.push (.cells z.cells T) }) h hd hf ?_ rfl rfl rfl rfl fun ρ' m' N' hρ ht hm hN hG hs _ => ?_
  · simp [execOp, ho, Instr.alloc, run_zeroT w hi hv, newVar, newRow]
  · have hp : ρ' nx = ⟨some ⟨w.heap.size, 0, none⟩, 0⟩ := by rw [hρ, if_pos rfl]
    exact ⟨⟨w.heap.size, z.cells, T, by rw [hp], push_new rfl, hzr _ _ _ _⟩, ⟨w.heap.size, by rw [hp], rfl⟩⟩

theorem fresh_get {nx : Nat} (hf : Fresh s nx) (x : Operand) : nx ∉ idsS (s.get x) := by
  cases x with
  | tmp t =>
    show nx ∉ idsS ((look s.slots t).getD .un)
    cases hl : look s.slots t with
    | none => simp [idsS]
    | some sv => exact hf.1 t sv hl
  | const v =>
    have hc : ∀ v : Value, idsC (cOfValue v) = [] := by
      intro v
      unfold cOfValue
      split
      · rfl
      · rfl
      · rfl
      · rfl
      · split <;> rfl
      · rfl
    show nx ∉ idsS (svOfValue v)
    unfold svOfValue
    split
    · rename_i cs
      cases cs.toList.all (·.oneCell') with
      | true => simp [idsS, idsCs, hc]
      | false => simp [idsS]
    · split <;> simp [idsS]
    · simp [idsS, idsCs, hc]
  | global g => simp [St.get, one, idsS, idsCs, idsC]
  | func f => simp [St.get, one, idsS, idsCs, idsC]

theorem box_ok (h : Rel E w0 X Z a w s ρ N) {o : Oper} (hd : ∀ d, o.dst = some d → d < a.tmps.size) {nx : Nat} (hf : Fresh s nx) {T : TypeId} {x : Operand} (ho : o.op = .box T x) {b : Bool} {cs : List C} (hg : s.get x = .v b cs) :
    Good E w0 X Z a o w s ρ N ⟨one (.pt nx 0), [(nx, some (.box cs))]⟩ (· = nx) := by
  have hx := h.get x
  have hx' : nx ∉ idsCs cs := by have := fresh_get hf x; rw [hg] at this; exact this
  rw [hg] at hx
  have hc := VR.cells hx
  refine new_good (D := []) (cap := 0) (c := .pt nx 0) (v := .pointer (some ⟨w.heap.size, 0, none⟩)) (w' := { w with heap := w.heap.push (.cells (a.eval x).cells T) }) h hd hf ?_ rfl rfl rfl rfl fun ρ' m' N' hρ ht hm hN hG hs _ => ?_
  · simp [execOp, ho, Instr.box, newVar, newRow]
  · have hp : ρ' nx = ⟨some ⟨w.heap.size, 0, none⟩, 0⟩ := by rw [hρ, if_pos rfl]
    exact ⟨⟨w.heap.size, (a.eval x).cells, T, by rw [hp], push_new rfl, hc.turn ht hN hs fun id hid e => hx' (e ▸ hid)⟩, ⟨w.heap.size, by rw [hp], rfl⟩⟩

end
end Go.Proofs.Ytoalcmpjfnlkdaa
