/- THE MACHINE OF READINGS, part H: how the relation of states goes on behind an effect. -/
import Derived.Test.YtoalcmpjfnlkdaaEG
namespace Go.Proofs.Ytoalcmpjfnlkdaa
open Go.RowKit

theorem look_append {α : Type} : ∀ (l r : List (Nat × α)) (i : Nat), look (l ++ r) i = match look l i with
    | some x => some x
    | none => look r i
  | [], _, _ => rfl
  | (k, v) :: l, r, i => by
    simp only [List.cons_append, look]
    cases Nat.beq k i with
    | true => rfl
    | false => exact look_append l r i

theorem look_cons {α : Type} (k : Nat) (v : α) (r : List (Nat × α)) (i : Nat) : look ((k, v) :: r) i = if k = i then some v else look r i := by
  simp only [look]
  by_cases h : k = i
  · subst h; simp
  · have : Nat.beq k i = false := by
      cases hb : Nat.beq k i with
      | true => exact absurd (Nat.eq_of_beq_eq_true hb) h
      | false => rfl
    simp [this, h]

theorem St.obj_put (s : St) (dst : Option Tmp) (e : Eff) (id : Nat) : (s.put dst e).obj id = match look e.upd id with
    | some o => o
    | none => s.obj id := by
  show (look (e.upd ++ s.mem) id).getD none = _
  rw [look_append]
  cases look e.upd id <;> rfl

/-- a number that nothing names -/
def Fresh (s : St) (id : Nat) : Prop := (∀ t sv, look s.slots t = some sv → id ∉ idsS sv) ∧ (∀ id' o, s.obj id' = some o → id ∉ idsO o) ∧ s.obj id = none

section
variable {E : Env} {w0 : World} {X Z : Blk} {a : Act} {w w' : World} {s : St} {ρ ρ' : Nat → Pl} {N N' : Blk} {m m' : Mem} {F : Nat → Prop}

theorem GlobR.step {g : Nat} {cs : List C} (h : GlobR w N g cs) (hN : ∀ b, N b → N' b) (hs : SameOn N w w') : GlobR w' N' g cs := by
  obtain ⟨hg, vals, T, fz, hh, ha, hi⟩ := h
  refine ⟨hN g hg, vals, T, fz, (hs g hg).trans hh, ?_, hi⟩
  exact ha.turn (F := fun _ => True) ⟨fun id hid => absurd trivial hid, fun id _ _ hid => absurd trivial hid⟩ hN hs (by rw [hi]; simp)

theorem act_put_get {d t : Nat} {v : Value} (hd : d < a.tmps.size) : (a.put (some d) v).tmps.getD t undef = if d = t then v else a.tmps.getD t undef := by
  simp only [Act.put, Array.getD_eq_getD_getElem?]
  by_cases h : d = t
  · subst h; simp [hd]
  · simp [h, Array.getElem?_setIfInBounds_ne h]

theorem Rel.put {dst : Option Tmp} {e : Eff} {v : Value} (h : Rel E w0 X Z a w s ρ N) (hd : ∀ d, dst = some d → d < a.tmps.size) (hf : ∀ id, F id → Fresh s id)
    (ht : Turn ρ s.obj ρ' (s.put dst e).obj F) (hN : ∀ b, N b → N' b) (hs : SameOn N w w') (hv : SVR w' N' ρ' (s.put dst e).obj e.res v)
    (hmr : MR w' N' ρ' (s.put dst e).obj) (hsince : Since w0 X w') (hown : ∀ b, Own ρ' (s.put dst e).obj b → X b ∨ w0.heap.size ≤ b) (hnn : ∀ b, N' b → Z b ∨ w0.heap.size ≤ b ∨ X b) :
    Rel E w0 X Z (a.put dst v) w' (s.put dst e) ρ' N' := by
  have old : ∀ t sv, look s.slots t = some sv → SVR w' N' ρ' (s.put dst e).obj sv (a.tmps.getD t undef) := fun t sv hl =>
    (h.slots t sv hl).turn ht hN hs fun id hid hF => (hf id hF).1 t sv hl hid
  refine ⟨fun t sv hl => ?_, hmr, ?_, hsince, hown, fun g cs hg => (h.glob g cs hg).step hN hs, hnn⟩
  · cases dst with
    | none => exact old t sv hl
    | some d =>
      rw [act_put_get (hd d rfl)]
      have hl' : look ((d, e.res) :: s.slots) t = some sv := hl
      rw [look_cons] at hl'
      split at hl'
      · rename_i hdt
        simp only [Option.some.injEq] at hl'
        subst hl' hdt
        simpa using hv
      · rename_i hdt
        rw [if_neg hdt]
        exact old t sv hl'
  · cases dst <;> exact h.defers

theorem Turn.same (hρ : ρ' = ρ) (hm : m' = m) : Turn ρ m ρ' m' F := ⟨fun _ _ => by rw [hρ], fun id t xs _ h => ⟨xs, by rw [← hm]; exact h, rfl⟩⟩

theorem Rel.pure {dst : Option Tmp} {e : Eff} {v : Value} (h : Rel E w0 X Z a w s ρ N) (hd : ∀ d, dst = some d → d < a.tmps.size) (hu : e.upd = []) (hv : SVR w N ρ s.obj e.res v) :
    Rel E w0 X Z (a.put dst v) w (s.put dst e) ρ N := by
  have ho : (s.put dst e).obj = s.obj := funext fun id => by rw [St.obj_put, hu]; rfl
  exact h.put (F := fun _ => False) hd (fun _ hf => hf.elim) (.same rfl ho) (fun _ h => h) (fun _ _ => rfl) (by rw [ho]; exact hv) (by rw [ho]; exact h.mr) h.since (by rw [ho]; exact h.own) h.nn

theorem ObjR.turn {id : Nat} {o : Obj} (h : ObjR w N ρ m id o) (ht : Turn ρ m ρ' m' F) (hN : ∀ b, N b → N' b) (hs : SameOn N w w') (hid : ¬ F id) (hids : ∀ i ∈ idsO o, ¬ F i)
    (hb : ∀ b, (ρ id).A = some ⟨b, 0, none⟩ → Holds (ρ id) o → w'.heap[b]? = w.heap[b]?) : ObjR w' N' ρ' m' id o := by
  have hp := ht.pl id hid
  cases o with
  | box cs =>
    obtain ⟨b, vals, T, hA, hh, ha⟩ := h
    exact ⟨b, vals, T, by rw [hp]; exact hA, (hb b hA trivial).trans hh, ha.turn ht hN hs hids⟩
  | row t xs =>
    obtain ⟨hl, hr⟩ := h
    refine ⟨by rw [hp]; exact hl, fun hc => ?_⟩
    rw [hp] at hc ⊢
    obtain ⟨b, vals, T, hA, hh, hsz, hx⟩ := hr hc
    refine ⟨b, vals, T, hA, (hb b hA hc).trans hh, hsz, fun k hk => ?_⟩
    obtain ⟨us, h1, h2⟩ := hx k hk
    exact ⟨us, h1.mono hN hs, h2⟩

/-- the blocks of objects that are let go -/
def Gone (ρ : Nat → Pl) (m : Mem) (D : List Nat) (b : Nat) : Prop := ∃ id ∈ D, ∃ t, ∃ xs : List (Ty.den t), m id = some (.row t xs) ∧ 0 < (ρ id).cap ∧ (ρ id).A = some ⟨b, 0, none⟩

theorem gone_lt (h : MR w N ρ m) {D : List Nat} {b : Nat} (hg : Gone ρ m D b) : b < w.heap.size := by
  obtain ⟨id, _, t, xs, hm, hc, hA⟩ := hg
  obtain ⟨_, hr⟩ := h.obj id _ hm
  obtain ⟨b', vals, T, hA', hh, _⟩ := hr hc
  rw [hA] at hA'
  simp only [Option.some.injEq, Addr.mk.injEq, and_true] at hA'
  subst hA'
  exact (Array.getElem?_eq_some_iff.1 hh).1

theorem gone_own {D : List Nat} {b : Nat} (hg : Gone ρ m D b) : Own ρ m b := by
  obtain ⟨id, _, t, xs, hm, hc, hA⟩ := hg
  exact ⟨id, _, hm, hc, hA⟩

/-- An own row reads as its elements, once it is let go. -/
theorem row_rd (h : MR w N ρ m) {id : Nat} {t : Ty} {xs : List t.den} (hm : m id = some (.row t xs)) (hN : ∀ b, N b → N' b) (hD : ∀ b, 0 < (ρ id).cap → (ρ id).A = some ⟨b, 0, none⟩ → N' b) :
    Rd (.sl t) w N' [.slice (ρ id).A xs.length (ρ id).cap] xs := by
  obtain ⟨hl, hr⟩ := h.obj id _ hm
  refine ⟨_, _, _, rfl, rfl, hl, fun h0 => ?_⟩
  obtain ⟨b, vals, T, hA, hh, _, hx⟩ := hr (by omega)
  refine ⟨b, 0, hA, hD b (by omega) hA, fun k hk => ?_⟩
  obtain ⟨us, h1, h2⟩ := hx k hk
  exact ⟨us, h1.mono hN (fun _ _ => rfl), h1.len, fun j u hj => by simp [World.cell?, hh]; simpa using h2 j u hj⟩

theorem roCell_ok (h : MR w N ρ m) {c : C} {v : Value} (hc : CR w N ρ m c v) (hN : ∀ b, N b → N' b) {m1 : Mem} (h1 : ∀ id ob, m1 id = some ob → m id = some ob) (hD : ∀ id, c = .hs id → ∀ b, Gone ρ m [id] b → N' b) : CR w N' ρ m (roCell m1 c) v := by
  cases c with
  | hs id =>
    simp only [roCell]
    split
    · rename_i t xs hm
      have hm' := h1 id _ hm
      rw [hc.2 t xs hm']
      exact row_rd h hm' hN fun b hcap hA => hD id rfl b ⟨id, by simp, t, xs, hm', hcap, hA⟩
    · exact hc.one
  | _ => exact CR.turn (F := fun _ => False) (.same rfl rfl) hN (fun _ _ => rfl) (fun _ _ h => h) hc

theorem roCells_ok (h : MR w N ρ m) {cs : List C} {vs : List Value} (hc : All2 (CR w N ρ m) cs vs) (hN : ∀ b, N b → N' b) {m1 : Mem} (h1 : ∀ id ob, m1 id = some ob → m id = some ob) (hD : ∀ b, Gone ρ m (cs.flatMap hsC) b → N' b) : All2 (CR w N' ρ m) (roCells m1 cs) vs := by
  induction hc with
  | nil => exact .nil
  | @cons c v cs vs hcv _ ih =>
    refine .cons (roCell_ok h hcv hN h1 fun id hid b hb => hD b ?_) (ih fun b hb => hD b ?_)
    · subst hid
      obtain ⟨i, hi, r⟩ := hb
      simp only [List.mem_singleton] at hi
      subst hi
      exact ⟨i, by simp [hsC], r⟩
    · obtain ⟨i, hi, r⟩ := hb
      exact ⟨i, by simp only [List.flatMap_cons, List.mem_append]; exact Or.inr hi, r⟩

theorem Rel.nn' (h : Rel E w0 X Z a w s ρ N) {D : List Nat} : ∀ b, (N b ∨ Gone ρ s.obj D b) → Z b ∨ w0.heap.size ≤ b ∨ X b := by
  intro b hb
  rcases hb with hb | hb
  · exact h.nn b hb
  · rcases h.own b (gone_own hb) with h1 | h1
    · exact .inr (.inr h1)
    · exact .inr (.inl h1)

end
end Go.Proofs.Ytoalcmpjfnlkdaa
