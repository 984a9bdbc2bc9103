/- THE MACHINE OF READINGS, contracts whose own results are taken as read only, all of them. -/
import Derived.Test.YtedjlbcclhgfmaaDoorFF
namespace Go.Proofs.YtedjlbcclhgfmaaDoor
open Go.RowKit

def roR (m : Mem) : SV → SV
  | .v a cs => .v a (roCells m cs)
  | .tup vs => .tup (vs.map fun p => (p.1, roCells m p.2))
  | .un => .un
def hsR : SV → List Nat
  | .v _ cs => cs.flatMap hsC
  | .tup vs => vs.flatMap fun p => p.2.flatMap hsC
  | .un => []

section
variable {w : World} {ρ : Nat → Pl} {N N' : Blk} {m m' : Mem}

theorem roVR (h : MR w N ρ m) {a : Bool} {cs : List C} {v : Value} (hv : VR w N ρ m a cs v) (hN : ∀ b, N b → N' b) (hD : ∀ b, Gone ρ m (cs.flatMap hsC) b → N' b) : VR w N' ρ m a (roCells m cs) v := by
  cases a with
  | false =>
    obtain ⟨c, rfl, hc⟩ := hv
    refine ⟨roCell m c, rfl, roCell_ok h hc hN (fun _ _ h => h) fun id hid b hb => hD b ?_⟩
    subst hid
    simpa [hsC] using hb
  | true =>
    obtain ⟨us, rfl, hc⟩ := hv
    exact ⟨us, rfl, roCells_ok h hc hN (fun _ _ h => h) hD⟩
theorem Gone.mono {D D' : List Nat} (h : ∀ id ∈ D, id ∈ D') {b : Nat} (hb : Gone ρ m D b) : Gone ρ m D' b := by
  obtain ⟨id, hi, r⟩ := hb
  exact ⟨id, h id hi, r⟩
theorem roR_ok (h : MR w N ρ m) {sv : SV} {v : Value} (hv : SVR w N ρ m sv v) (hN : ∀ b, N b → N' b) (hD : ∀ b, Gone ρ m (hsR sv) b → N' b) : SVR w N' ρ m (roR m sv) v := by
  cases sv with
  | un => trivial
  | v a cs => exact roVR h hv hN hD
  | tup vs =>
    obtain ⟨us, rfl, ha⟩ := hv
    refine ⟨us, rfl, ?_⟩
    have key : ∀ {l : List (Bool × List C)} {us : List Value}, All2 (fun (p : Bool × List C) u => VR w N ρ m p.1 p.2 u) l us → (∀ p ∈ l, p ∈ vs) → All2 (fun (p : Bool × List C) u => VR w N' ρ m p.1 p.2 u) (l.map fun p => (p.1, roCells m p.2)) us := by
      intro l us ha
      induction ha with
      | nil => intro _; exact .nil
      | @cons p u l us h1 h2 ih =>
        intro hl
        refine .cons (roVR h h1 hN fun b hb => hD b (hb.mono fun id hid => ?_)) (ih fun q hq => hl q (by simp [hq]))
        exact List.mem_flatMap.2 ⟨p, hl p (by simp), hid⟩
    exact key ha fun _ h => h
end

/-- the results of a call, own rows, taken as read only -/
theorem SpecR.freezeAll {P : Program} {g : Nat → Option Gl} {K : FuncId} {args : List SV} {m0 m1 m1' : List (Nat × Option Obj)} {r : SV} {D : List Nat} (hrD : ∀ id ∈ hsR r, id ∈ D) (hD : ∀ id ∈ D, m0.length ≤ id)
    (hm1 : ∀ id, id ∉ D → look m1' id = look m1 id) (hm2 : ∀ id, id ∈ D → look m1' id = none ∨ look m1' id = some none)
    (h : SpecR P g K args m0 r m1) : SpecR P g K args m0 (roR (memOf (m1 ++ m0)) r) m1' := by
  intro w N ρ vs hg hmr ha h1 h2
  refine (h w N ρ vs hg hmr ha h1 h2).mono fun e w' hq => ?_
  obtain ⟨v, ρ', N', he, hρ, hN, hmr', hv, hsince, hown, hnn⟩ := hq
  have hm0n : ∀ id, m0.length ≤ id → look m0 id = none ∨ look m0 id = some none := by
    intro n hn
    cases hl : look m0 n with
    | none => exact .inl rfl
    | some x =>
      cases x with
      | none => exact .inr rfl
      | some o =>
        have := (h2 n o (by unfold memOf; rw [hl]; rfl)).1
        omega
  have hmem : ∀ id, memOf (m1' ++ m0) id = if id ∈ D then none else memOf (m1 ++ m0) id := by
    intro id
    split
    · rename_i hid
      unfold memOf
      rw [look_append]
      rcases hm2 id hid with hq | hq
      · rw [hq]
        rcases hm0n id (hD id hid) with hq2 | hq2 <;> rw [hq2] <;> rfl
      · rw [hq]; rfl
    · rename_i hid
      unfold memOf
      rw [look_append, look_append, hm1 id hid]
  obtain ⟨hmr2, hown2, ht⟩ := hmr'.freeze hmem
  refine ⟨v, ρ', _, he, hρ, fun b hb => .inl (hN b hb), hmr2, ?_, hsince, fun b hb => hown b (hown2 b hb), fun b hb => ?_⟩
  · exact SVR.turn ht (fun _ h => h) (fun _ _ => rfl) (fun _ _ h => h) (roR_ok hmr' hv (fun b hb => .inl hb) fun b hb => .inr (hb.mono hrD))
  · rcases hb with hb | hb
    · exact hnn b hb
    · rcases hown b (gone_own hb) with h3 | h3
      · exact .inr (.inr h3)
      · exact .inr (.inl h3)

def frzK : Bool × Ty → Bool × Ty
  | (true, t) => (false, .sl t)
  | p => p
def frzV : Var → Var
  | .slot s true t => .slot s false (.sl t)
  | .agg s ks => .agg s (ks.map frzK)
  | v => v
def noMk : Ty → Bool
  | .mark _ _ => false
  | _ => true
theorem kObj_row {t : Ty} (h : noMk t = true) (x : List t.den) : kObj t x = .row t x := by cases t <;> first | rfl | cases h
def noMks : List (Bool × Ty) → Bool
  | [] => true
  | (true, t) :: r => noMk t && noMks r
  | (false, t) :: r => noMk t && noMks r
def noBox : List Var → Bool
  | [] => true
  | .slot _ true t :: r => noMk t && noBox r
  | .slot _ false t :: r => noMk t && noBox r
  | .agg _ ks :: r => noMks ks && noBox r
  | _ => false
def frzCs : (ks : List (Bool × Ty)) → denCells ks → denCells (ks.map frzK)
  | [], _ => ()
  | (true, _) :: r, x => (x.1, frzCs r x.2)
  | (false, _) :: r, x => (x.1, frzCs r x.2)
def frzVs : (vs : List Var) → denVars vs → denVars (vs.map frzV)
  | [], _ => ()
  | .slot _ true _ :: r, x => (x.1, frzVs r x.2)
  | .slot _ false _ :: r, x => (x.1, frzVs r x.2)
  | .agg _ ks :: r, x => (frzCs ks x.1, frzVs r x.2)
  | .box _ _ :: r, x => (x.1, frzVs r x.2)
  | .row _ _ :: r, x => (x.1, frzVs r x.2)

theorem roCell_hs {m : Mem} {n : Nat} {t : Ty} {xs : List t.den} (h : m n = some (.row t xs)) : roCell m (.hs n) = .sl t xs := by unfold roCell; simp only [h]
theorem roCell1 (m : Mem) (t : Ty) (x : t.den) : roCell m (cell1 t x) = cell1 t x := by cases t <;> rfl
theorem kPut0_plain {t : Ty} (h : noMk t = true) (x : t.den) : kPut0 t x = cell1 t x := by cases t <;> first | rfl | cases h
theorem hsCell1 (t : Ty) (x : t.den) : hsC (cell1 t x) = [] := by cases t <;> rfl

theorem putCells_next : ∀ {ks : List (Bool × Ty)} {x : denCells ks} {n : Nat}, n ≤ (putCells ks x n).2.2 ∧ ∀ id, id < n → look (putCells ks x n).2.1 id = none
  | [], _, n => ⟨Nat.le_refl _, fun _ _ => rfl⟩
  | (true, t) :: r, x, n => by
    obtain ⟨h1, h2⟩ := putCells_next (ks := r) (x := x.2) (n := n + 1)
    refine ⟨Nat.le_trans (Nat.le_succ n) h1, fun id hid => ?_⟩
    show look ((n, some (kObj t x.1)) :: (putCells r x.2 (n + 1)).2.1) id = none
    rw [look_cons, if_neg (by omega)]
    exact h2 id (by omega)
  | (false, t) :: r, x, n => putCells_next (ks := r) (x := x.2) (n := n)

/-- cells that are put, and what they are as read only -/
theorem frz_cells : ∀ {ks : List (Bool × Ty)} {x : denCells ks} {n n' : Nat} {M : Mem}, noMks ks = true → (∀ id o, look (putCells ks x n).2.1 id = some (some o) → M id = some o) →
    (putCells (ks.map frzK) (frzCs ks x) n').1 = roCells M (putCells ks x n).1 ∧ (putCells (ks.map frzK) (frzCs ks x) n').2 = ([], n') ∧
    (∀ id, (id ∈ (putCells ks x n).1.flatMap hsC ↔ n ≤ id ∧ id < (putCells ks x n).2.2)) ∧ (∀ id, look (putCells ks x n).2.1 id ≠ some none) ∧ (∀ id, (n ≤ id ∧ id < (putCells ks x n).2.2) ∨ look (putCells ks x n).2.1 id = none)
  | [], _, n, n', M, _, _ => ⟨rfl, rfl, fun id => ⟨fun h => (by cases h), fun h => absurd h.2 (Nat.not_lt.2 h.1)⟩, fun _ h => (by cases h), fun _ => .inr rfl⟩
  | (true, t) :: r, x, n, n', M, hk, hM => by
    have hk : noMk t = true ∧ noMks r = true := by simpa only [noMks, Bool.and_eq_true] using hk
    have hM' : ∀ id o, look ((n, some (kObj t x.1)) :: (putCells r x.2 (n + 1)).2.1) id = some (some o) → M id = some o := hM
    obtain ⟨hn1, hn2⟩ := putCells_next (ks := r) (x := x.2) (n := n + 1)
    obtain ⟨i1, i2, i3, i4, i5⟩ := frz_cells (ks := r) (x := x.2) (n := n + 1) (n' := n') (M := M) hk.2 (fun id o h => hM' id o (by
      rw [look_cons]
      by_cases hid : n = id
      · subst hid; rw [hn2 n (by omega)] at h; cases h
      · rw [if_neg hid]; exact h))
    have hn := hM' n _ (by rw [look_cons, if_pos rfl])
    rw [kObj_row hk.1] at hn
    refine ⟨?_, ?_, fun id => ?_, fun id => ?_, fun id => ?_⟩
    · show C.sl t x.1 :: (putCells (r.map frzK) (frzCs r x.2) n').1 = roCell M (.hs n) :: roCells M (putCells r x.2 (n + 1)).1
      rw [i1, roCell_hs hn]
    · exact i2
    · show id ∈ n :: (putCells r x.2 (n + 1)).1.flatMap hsC ↔ n ≤ id ∧ id < (putCells r x.2 (n + 1)).2.2
      rw [List.mem_cons, i3 id]
      omega
    · show look ((n, some (kObj t x.1)) :: (putCells r x.2 (n + 1)).2.1) id ≠ some none
      rw [look_cons]
      split
      · simp
      · exact i4 id
    · show (n ≤ id ∧ id < (putCells r x.2 (n + 1)).2.2) ∨ look ((n, some (kObj t x.1)) :: (putCells r x.2 (n + 1)).2.1) id = none
      rw [look_cons]
      split
      · left; omega
      · rcases i5 id with h | h
        · left; omega
        · exact .inr h
  | (false, t) :: r, x, n, n', M, hk, hM => by
    have hk : noMk t = true ∧ noMks r = true := by simpa only [noMks, Bool.and_eq_true] using hk
    obtain ⟨i1, i2, i3, i4, i5⟩ := frz_cells (ks := r) (x := x.2) (n := n) (n' := n') (M := M) hk.2 hM
    refine ⟨?_, i2, fun id => ?_, i4, i5⟩
    · show kPut0 t x.1 :: (putCells (r.map frzK) (frzCs r x.2) n').1 = roCell M (kPut0 t x.1) :: roCells M (putCells r x.2 n).1
      rw [i1, kPut0_plain hk.1, roCell1]
    · show id ∈ hsC (kPut0 t x.1) ++ (putCells r x.2 n).1.flatMap hsC ↔ _
      rw [kPut0_plain hk.1, hsCell1, List.nil_append]
      exact i3 id

/-- what a slot's cells are, as a result -/
def resOfSlot (sl : List (Nat × SV)) (t : Nat) : Bool × List C := match look sl t with
  | some (.v a cs) => (a, cs)
  | _ => (false, [])

theorem putVars_next : ∀ {vs : List Var} {x : denVars vs} {n : Nat}, noBox vs = true → n ≤ (putVars vs x n).next ∧ ∀ id, id < n → look (putVars vs x n).mem id = none
  | [], _, n, _ => ⟨Nat.le_refl _, fun _ _ => rfl⟩
  | .slot s true t :: r, x, n, hb => by
    have hb : noMk t = true ∧ noBox r = true := by simpa only [noBox, Bool.and_eq_true] using hb
    obtain ⟨h1, h2⟩ := putVars_next (vs := r) (x := x.2) (n := n + 1) hb.2
    refine ⟨Nat.le_trans (Nat.le_succ n) h1, fun id hid => ?_⟩
    show look ((n, some (kObj t x.1)) :: (putVars r x.2 (n + 1)).mem) id = none
    rw [look_cons, if_neg (by omega)]
    exact h2 id (by omega)
  | .slot s false t :: r, x, n, hb => putVars_next (vs := r) (x := x.2) (n := n) (by have hb : noMk t = true ∧ noBox r = true := (by simpa only [noBox, Bool.and_eq_true] using hb); exact hb.2)
  | .agg s ks :: r, x, n, hb => by
    have hb : noMks ks = true ∧ noBox r = true := by simpa only [noBox, Bool.and_eq_true] using hb
    obtain ⟨c1, c2⟩ := putCells_next (ks := ks) (x := x.1) (n := n)
    obtain ⟨h1, h2⟩ := putVars_next (vs := r) (x := x.2) (n := (putCells ks x.1 n).2.2) hb.2
    refine ⟨Nat.le_trans c1 h1, fun id hid => ?_⟩
    show look ((putCells ks x.1 n).2.1 ++ (putVars r x.2 (putCells ks x.1 n).2.2).mem) id = none
    rw [look_append, c2 id hid]
    exact h2 id (by omega)
  | .box _ _ :: _, _, _, hb => by cases hb
  | .row _ _ :: _, _, _, hb => by cases hb

theorem frz_vars : ∀ {vs : List Var} {x : denVars vs} {n n' : Nat} {M : Mem}, noBox vs = true → (∀ id o, look (putVars vs x n).mem id = some (some o) → M id = some o) →
    (putVars (vs.map frzV) (frzVs vs x) n').slots = (putVars vs x n).slots.map (fun p => (p.1, roR M p.2)) ∧ (putVars (vs.map frzV) (frzVs vs x) n').mem = [] ∧ slotVars (vs.map frzV) = slotVars vs ∧
    (∀ id, (∃ p ∈ (putVars vs x n).slots, id ∈ hsR p.2) ↔ n ≤ id ∧ id < (putVars vs x n).next) ∧ (∀ id, (n ≤ id ∧ id < (putVars vs x n).next) ∨ look (putVars vs x n).mem id = none)
  | [], _, n, n', M, _, _ => ⟨rfl, rfl, rfl, fun id => ⟨fun ⟨_, h, _⟩ => (by cases h), fun h => absurd h.2 (Nat.not_lt.2 h.1)⟩, fun _ => .inr rfl⟩
  | .slot s true t :: r, x, n, n', M, hb, hM => by
    have hb : noMk t = true ∧ noBox r = true := by simpa only [noBox, Bool.and_eq_true] using hb
    have hM' : ∀ id o, look ((n, some (kObj t x.1)) :: (putVars r x.2 (n + 1)).mem) id = some (some o) → M id = some o := hM
    obtain ⟨hn1, hn2⟩ := putVars_next (vs := r) (x := x.2) (n := n + 1) hb.2
    obtain ⟨i1, i2, i3, i4, i5⟩ := frz_vars (vs := r) (x := x.2) (n := n + 1) (n' := n') (M := M) hb.2 (fun id o h => hM' id o (by
      rw [look_cons]
      by_cases hid : n = id
      · subst hid; rw [hn2 n (by omega)] at h; cases h
      · rw [if_neg hid]; exact h))
    have hn := hM' n _ (by rw [look_cons, if_pos rfl])
    rw [kObj_row hb.1] at hn
    refine ⟨?_, i2, congrArg (s :: ·) i3, fun id => ?_, fun id => ?_⟩
    · show (s, SV.v false [C.sl t x.1]) :: (putVars (r.map frzV) (frzVs r x.2) n').slots = (s, SV.v false [roCell M (.hs n)]) :: (putVars r x.2 (n + 1)).slots.map _
      rw [i1, roCell_hs hn]
    · show (∃ p ∈ (s, SV.v false [C.hs n]) :: (putVars r x.2 (n + 1)).slots, id ∈ hsR p.2) ↔ n ≤ id ∧ id < (putVars r x.2 (n + 1)).next
      simp only [List.mem_cons, exists_eq_or_imp, i4 id]
      show (id ∈ [n] ∨ _) ↔ _
      rw [List.mem_singleton]
      omega
    · show (n ≤ id ∧ id < (putVars r x.2 (n + 1)).next) ∨ look ((n, some (kObj t x.1)) :: (putVars r x.2 (n + 1)).mem) id = none
      rw [look_cons]
      split
      · left; omega
      · rcases i5 id with h | h
        · left; omega
        · exact .inr h
  | .slot s false t :: r, x, n, n', M, hb, hM => by
    have hb : noMk t = true ∧ noBox r = true := by simpa only [noBox, Bool.and_eq_true] using hb
    obtain ⟨i1, i2, i3, i4, i5⟩ := frz_vars (vs := r) (x := x.2) (n := n) (n' := n') (M := M) hb.2 hM
    refine ⟨?_, i2, congrArg (s :: ·) i3, fun id => ?_, i5⟩
    · show (s, SV.v false [kPut0 t x.1]) :: (putVars (r.map frzV) (frzVs r x.2) n').slots = (s, SV.v false [roCell M (kPut0 t x.1)]) :: (putVars r x.2 n).slots.map _
      rw [i1, kPut0_plain hb.1, roCell1]
    · show (∃ p ∈ (s, SV.v false [kPut0 t x.1]) :: (putVars r x.2 n).slots, id ∈ hsR p.2) ↔ _
      simp only [List.mem_cons, exists_eq_or_imp, i4 id]
      have : id ∉ hsR (SV.v false [kPut0 t x.1]) := by show id ∉ hsC (kPut0 t x.1) ++ []; rw [kPut0_plain hb.1, hsCell1]; simp
      simp only [this, false_or]
      exact Iff.rfl
  | .agg s ks :: r, x, n, n', M, hb, hM => by
    have hb : noMks ks = true ∧ noBox r = true := by simpa only [noBox, Bool.and_eq_true] using hb
    have hM' : ∀ id o, look ((putCells ks x.1 n).2.1 ++ (putVars r x.2 (putCells ks x.1 n).2.2).mem) id = some (some o) → M id = some o := hM
    obtain ⟨hn1, hn2⟩ := putVars_next (vs := r) (x := x.2) (n := (putCells ks x.1 n).2.2) hb.2
    obtain ⟨c1, c2, c3, c4, c5⟩ := frz_cells (ks := ks) (x := x.1) (n := n) (n' := n') (M := M) hb.1 (fun id o h => hM' id o (by rw [look_append, h]))
    obtain ⟨i1, i2, i3, i4, i5⟩ := frz_vars (vs := r) (x := x.2) (n := (putCells ks x.1 n).2.2) (n' := n') (M := M) hb.2 (fun id o h => hM' id o (by
      rw [look_append]
      rcases c5 id with hq | hq
      · rw [hn2 id hq.2] at h; cases h
      · rw [hq]; exact h))
    have cn := (putCells_next (ks := ks) (x := x.1) (n := n)).1
    refine ⟨?_, ?_, congrArg (s :: ·) i3, fun id => ?_, fun id => ?_⟩
    · show (s, SV.v true (putCells (ks.map frzK) (frzCs ks x.1) n').1) :: (putVars (r.map frzV) (frzVs r x.2) (putCells (ks.map frzK) (frzCs ks x.1) n').2.2).slots = (s, SV.v true (roCells M (putCells ks x.1 n).1)) :: (putVars r x.2 (putCells ks x.1 n).2.2).slots.map _
      rw [c2, c1, i1]
    · show (putCells (ks.map frzK) (frzCs ks x.1) n').2.1 ++ (putVars (r.map frzV) (frzVs r x.2) (putCells (ks.map frzK) (frzCs ks x.1) n').2.2).mem = []
      rw [c2, i2]; rfl
    · show (∃ p ∈ (s, SV.v true (putCells ks x.1 n).1) :: (putVars r x.2 (putCells ks x.1 n).2.2).slots, id ∈ hsR p.2) ↔ n ≤ id ∧ id < (putVars r x.2 (putCells ks x.1 n).2.2).next
      simp only [List.mem_cons, exists_eq_or_imp, i4 id]
      show (id ∈ (putCells ks x.1 n).1.flatMap hsC ∨ _) ↔ _
      rw [c3 id]
      omega
    · show (n ≤ id ∧ id < (putVars r x.2 (putCells ks x.1 n).2.2).next) ∨ look ((putCells ks x.1 n).2.1 ++ (putVars r x.2 (putCells ks x.1 n).2.2).mem) id = none
      rw [look_append]
      rcases c5 id with hq | hq
      · left; exact ⟨hq.1, Nat.lt_of_lt_of_le hq.2 hn1⟩
      · rw [hq]
        rcases i5 id with h | h
        · left; exact ⟨Nat.le_trans cn h.1, h.2⟩
        · exact .inr h
  | .box _ _ :: _, _, _, _, _, hb, _ => by cases hb
  | .row _ _ :: _, _, _, _, _, hb, _ => by cases hb

/-- A FUNCTION MEETS A CONTRACT, where the condition leaves some of the data alone. -/
theorem meets_vcAt {E : Env} (hE : E.Ok) (S : Shape) {B : Type} (A : B → Nat → St → Option Ann) {K : FuncId} {fn : Func} (hf : E.P.funcs[K]? = some fn) (hb : fn.body.isSome = true) (hn : (fn.name == "runtime.NumGoroutine") = false)
    (pre : S.den → List Prop) (dead : List Nat) (vs : List Var) (f : S.den → denVars vs) (x0 : B → S.den) (VC : B → Prop) (he : ∀ b, afn E (A b) fn (S.args (x0 b)) (S.mem (x0 b)) dead vs (fun y => y = f (x0 b)) = VC b)
    (hx : ∀ x, (∀ p ∈ pre x, p) → ∃ b, x = x0 b) (h : ∀ b, (∀ p ∈ pre (x0 b), p) → VC b) : Meets E.P E.glob K (shCtr S pre dead vs f) := by
  refine ⟨⟨fn, hf, hb, hn⟩, fun args m0 obs r m1 hc hp => ?_⟩
  unfold shCtr at hc
  split at hc
  · rename_i x hx'
    simp only [Option.some.injEq, Prod.mk.injEq] at hc
    obtain ⟨rfl, rfl, rfl⟩ := hc
    obtain ⟨b, rfl⟩ := hx x hp
    exact shape_spec hx' (spec_of hE (A b) hf (by rw [he b]; exact h b hp) fun y hy => hy)
  · cases hc

theorem look_map_ro (M : Mem) : ∀ (l : List (Nat × SV)) (t : Nat), look (l.map fun p => (p.1, roR M p.2)) t = (look l t).map (roR M)
  | [], _ => rfl
  | (k, v) :: r, t => by
    show look ((k, roR M v) :: r.map fun p => (p.1, roR M p.2)) t = _
    rw [look_cons, look_cons]
    split
    · rfl
    · exact look_map_ro M r t

/-- results of slots: their own rows are those of the slots -/
theorem res_hs {l : List (Nat × SV)} {ts : List Nat} {id : Nat} (h : id ∈ hsR (resSV (ts.map (resOfSlot l)))) : ∃ p ∈ l, id ∈ hsR p.2 := by
  have key : ∀ t, id ∈ (resOfSlot l t).2.flatMap hsC → ∃ p ∈ l, id ∈ hsR p.2 := by
    intro t ht
    unfold resOfSlot at ht
    split at ht
    · rename_i a cs hl
      exact ⟨_, look_mem hl, ht⟩
    · cases ht
  have key2 : id ∈ (ts.map (resOfSlot l)).flatMap (fun p => p.2.flatMap hsC) → ∃ p ∈ l, id ∈ hsR p.2 := by
    intro h
    obtain ⟨p, hp, hq⟩ := List.mem_flatMap.1 h
    obtain ⟨t, _, rfl⟩ := List.mem_map.1 hp
    exact key t hq
  refine key2 ?_
  revert h
  generalize ts.map (resOfSlot l) = rs
  intro h
  unfold resSV at h
  split at h
  · rename_i a cs
    show id ∈ cs.flatMap hsC ++ []
    rw [List.append_nil]; exact h
  · exact h
theorem res_ro (M : Mem) (l : List (Nat × SV)) (hv : ∀ t sv, look l t = some sv → ∃ a cs, sv = .v a cs) (ts : List Nat) : resSV (ts.map (resOfSlot (l.map fun p => (p.1, roR M p.2)))) = roR M (resSV (ts.map (resOfSlot l))) := by
  have key : ∀ t, resOfSlot (l.map fun p => (p.1, roR M p.2)) t = ((resOfSlot l t).1, roCells M (resOfSlot l t).2) := by
    intro t
    unfold resOfSlot
    rw [look_map_ro]
    cases hl : look l t with
    | none => rfl
    | some sv =>
      obtain ⟨a, cs, rfl⟩ := hv t sv hl
      rfl
  have key2 : ts.map (resOfSlot (l.map fun p => (p.1, roR M p.2))) = (ts.map (resOfSlot l)).map fun p => (p.1, roCells M p.2) := by
    rw [List.map_map]
    exact List.map_congr_left fun t _ => key t
  rw [key2]
  generalize ts.map (resOfSlot l) = rs
  match rs with
  | [] => rfl
  | [(a, cs)] => rfl
  | _ :: _ :: _ => rfl

theorem out_eq {vs : List Var} {dead : List Nat} {x : denVars vs} {m0 : List (Nat × Option Obj)} : outOf vs dead x m0 = (resSV ((slotVars vs).map (resOfSlot (putVars vs x m0.length).slots)), (putVars vs x m0.length).mem ++ dead.map fun id => (id, none)) := rfl

/-- A contract whose results hold own rows: they may be taken as read only. -/
theorem meets_frz {P : Program} {g : Nat → Option Gl} {K : FuncId} {S : Shape} {pre : S.den → List Prop} {dead : List Nat} {vs : List Var} {f : S.den → denVars vs} {f' : S.den → denVars (vs.map frzV)} (h : Meets P g K (shCtr S pre dead vs f)) (hb : noBox vs = true)
    (hf : ∀ x, f' x = frzVs vs (f x)) : Meets P g K (shCtr S pre dead (vs.map frzV) f') := by
  refine ⟨h.1, fun args m0 obs r m1 hc hp => ?_⟩
  unfold shCtr at hc
  split at hc
  · rename_i x hx
    simp only [Option.some.injEq, Prod.mk.injEq] at hc
    obtain ⟨rfl, hr⟩ := hc
    have h3 : S.mem x = m0 := parseMSs_eq (parse_some hx).2
    have h2 := h.2 args m0 (pre x) _ _ (by unfold shCtr; rw [hx]) hp
    rw [hf x, h3] at hr
    rw [h3] at h2
    have hM : ∀ id o, look (putVars vs (f x) m0.length).mem id = some (some o) → memOf ((outOf vs dead (f x) m0).2 ++ m0) id = some o := by
      intro id o ho
      unfold memOf
      rw [out_eq, look_append, look_append, ho]
      rfl
    obtain ⟨i1, i2, i3, i4, i5⟩ := frz_vars (vs := vs) (x := f x) (n := m0.length) (n' := m0.length) (M := memOf ((outOf vs dead (f x) m0).2 ++ m0)) hb hM
    have hn := putVars_next (vs := vs) (x := f x) (n := m0.length) hb
    have e1 : (outOf (vs.map frzV) dead (frzVs vs (f x)) m0).1 = roR (memOf ((outOf vs dead (f x) m0).2 ++ m0)) (outOf vs dead (f x) m0).1 := by
      rw [out_eq (vs := vs.map frzV), i1, i3]
      exact res_ro _ _ (fun t sv h => slots_v h) _
    have e2 : (outOf (vs.map frzV) dead (frzVs vs (f x)) m0).2 = dead.map fun id => (id, none) := by
      rw [out_eq (vs := vs.map frzV), i2]; rfl
    have hge : ∀ id ∈ hsR (outOf vs dead (f x) m0).1, m0.length ≤ id ∧ id < (putVars vs (f x) m0.length).next := fun id hid => (i4 id).1 (res_hs hid)
    have h5 := SpecR.freezeAll (m1' := dead.map fun id => (id, none)) (D := List.range' m0.length ((putVars vs (f x) m0.length).next - m0.length)) (fun id hid => ?_) (fun id hid => ?_) (fun id hid => ?_) (fun id hid => ?_) h2
    · rw [show r = _ from (congrArg (·.1) hr).symm, show m1 = _ from (congrArg (·.2) hr).symm, e1, e2]
      exact h5
    · have := hge id hid
      rw [List.mem_range'_1]; omega
    · rw [List.mem_range'_1] at hid; exact hid.1
    · rw [out_eq, look_append]
      rcases i5 id with hq | hq
      · exact absurd (by rw [List.mem_range'_1]; omega) hid
      · rw [hq]
    · rw [look_dead]
      split
      · exact .inr rfl
      · exact .inl rfl
  · cases hc

end Go.Proofs.YtedjlbcclhgfmaaDoor
