/- Relations with a footprint: what a value stands for, and in which blocks that lies; slices of the call's own whose elements lead to memory of the call's own. No program is named but by a variable P. -/
import Derived.Test.YtdldmlekjhmaaaaOwn
namespace Go.Proofs.Ytdldmlekjhmaaaa
open Go.RowKit

/-- how an element lies: in a world, with blocks F, its cells, what they read as -/
abbrev FR (α : Type) := World → (Nat → Prop) → List Value → α → Prop

structure FGood {α : Type} (R : FR α) (sz : Nat) : Prop where
  keep : ∀ (w w' : World) (F F' : Nat → Prop) (cs : List Value) (x : α), (∀ b, F b → F' b) → (∀ b, F b → w'.heap[b]? = w.heap[b]?) → R w F cs x → R w' F' cs x
  len : ∀ w F cs x, R w F cs x → cs.length = sz
  one : ∀ w F cs x, R w F cs x → ∀ u ∈ cs, u.oneCell' = true

/-- the blocks of a slice's address -/
def blkOf (A : Option Addr) : Nat → Prop := fun b => ∃ a, A = some a ∧ a.block = b

/-- a slice of flat elements, its cells in blocks of F -/
def FSl {α : Type} (enc : α → List Value) (sz bytes : Nat) (w : World) (F : Nat → Prop) (A : Option Addr) (n c : Nat) (xs : List α) : Prop :=
  xs.length = n ∧ n ≤ c ∧ c ≤ maxLen ∧ n * bytes ≤ 140737488351232 ∧
    (0 < n → ∃ b off, A = some ⟨b, off, none⟩ ∧ F b ∧ ∀ k x, xs[k]? = some x → (enc x).length = sz ∧ ∀ j u, (enc x)[j]? = some u → w.cell? ⟨b, off + k * sz + j, none⟩ = some u)

theorem FSl.keep {α : Type} {enc : α → List Value} {sz bytes : Nat} {w w' : World} {F F' : Nat → Prop} {A : Option Addr} {n c : Nat} {xs : List α} (h : FSl enc sz bytes w F A n c xs) (hF : ∀ b, F b → F' b) (hk : ∀ b, F b → w'.heap[b]? = w.heap[b]?) : FSl enc sz bytes w' F' A n c xs := by
  obtain ⟨h1, h2, h3, h4, h5⟩ := h
  refine ⟨h1, h2, h3, h4, fun hn => ?_⟩
  obtain ⟨b, off, hA, hb, hc⟩ := h5 hn
  refine ⟨b, off, hA, hF b hb, fun k x hx => ⟨(hc k x hx).1, fun j u hu => ?_⟩⟩
  rw [← (hc k x hx).2 j u hu]
  exact World.cell?_of_block (w := w) (a := ⟨b, off + k * sz + j, none⟩) (hk b hb)

theorem FSl.sl {α : Type} {enc : α → List Value} {sz bytes : Nat} {w : World} {F : Nat → Prop} {B : Nat} {A : Option Addr} {n c : Nat} {xs : List α} (h : FSl enc sz bytes w F A n c xs) (hF : ∀ b, F b → b < B) : SlR (Flat enc) sz bytes w B A n c xs := by
  obtain ⟨h1, h2, h3, h4, h5⟩ := h
  refine ⟨h1, h2, h3, h4, fun hn => ?_⟩
  obtain ⟨b, off, hA, hb, hc⟩ := h5 hn
  exact ⟨b, off, hA, hF b hb, fun k x hx => ⟨enc x, (hc k x hx).1, rfl, (hc k x hx).2⟩⟩

theorem FSl.of {α : Type} {enc : α → List Value} {sz bytes : Nat} {w : World} {F : Nat → Prop} {B : Nat} {A : Option Addr} {n c : Nat} {xs : List α} (h : SlR (Flat enc) sz bytes w B A n c xs) (hF : ∀ b, blkOf A b → F b) : FSl enc sz bytes w F A n c xs := by
  obtain ⟨h1, h2, h3, h4, h5⟩ := h
  refine ⟨h1, h2, h3, h4, fun hn => ?_⟩
  obtain ⟨b, off, hA, hb, hc⟩ := h5 hn
  refine ⟨b, off, hA, hF b ⟨_, hA, rfl⟩, fun k x hx => ?_⟩
  obtain ⟨cs, hl, hr, hcell⟩ := hc k x hx
  obtain rfl : cs = enc x := hr
  exact ⟨hl, hcell⟩

abbrev FCells {α : Type} (R : FR α) (w : World) (F : Nat → Prop) (css : List (List Value)) (xs : List α) : Prop := CellsOf (fun w _ => R w F) w 0 css xs

theorem FCells.lens {α : Type} {R : FR α} {sz : Nat} {w : World} {F : Nat → Prop} {css : List (List Value)} {xs : List α} (hR : FGood R sz) (h : FCells R w F css xs) : ∀ cs ∈ css, cs.length = sz := by
  intro cs hcs
  obtain ⟨k, hk, rfl⟩ := List.getElem_of_mem hcs
  have hx : k < xs.length := by rw [← h.1]; exact hk
  exact hR.len _ _ _ _ (h.2 k _ _ (List.getElem?_eq_getElem hk) (List.getElem?_eq_getElem hx))

theorem FCells.keep {α : Type} {R : FR α} {sz : Nat} {w w' : World} {F F' : Nat → Prop} {css : List (List Value)} {xs : List α} (hR : FGood R sz) (h : FCells R w F css xs) (hF : ∀ b, F b → F' b) (hk : ∀ b, F b → w'.heap[b]? = w.heap[b]?) : FCells R w' F' css xs :=
  ⟨h.1, fun k cs x h1 h2 => hR.keep _ _ _ _ _ _ hF hk (h.2 k cs x h1 h2)⟩

/-- The slice value v is the call's own (its block from 'base' on) and holds xs; what its elements lead to lies in the blocks F, of which the slice's own block is none. -/
def FOwn {α : Type} (R : FR α) (e : TypeId) (sz : Nat) (w : World) (base : Nat) (F : Nat → Prop) (v : Value) (xs : List α) : Prop :=
  (∀ b, F b → b < w.heap.size) ∧ (∀ g, v.ownBlock = some g → ¬ F g) ∧ ∃ css, FCells R w F css xs ∧ w.ownsRow base e sz v xs.length css.flatten

theorem FOwn.nil {α : Type} {R : FR α} {e : TypeId} {sz : Nat} {w : World} {base : Nat} : FOwn R e sz w base (fun _ => False) (.slice none 0 0) [] :=
  ⟨fun _ h => h.elim, fun _ _ h => h, [], CellsOf.nil, World.ownsRow_nil _ _ _ _⟩

theorem FOwn.lt {α : Type} {R : FR α} {e : TypeId} {sz : Nat} {w : World} {base : Nat} {F : Nat → Prop} {v : Value} {xs : List α} (h : FOwn R e sz w base F v xs) : ∀ k, v.ownBlock = some k → base ≤ k ∧ k < w.heap.size := by
  obtain ⟨_, _, _, _, h⟩ := h
  exact h.lt

theorem FOwn.kept {α : Type} {R : FR α} {e : TypeId} {sz : Nat} {w w' : World} {base : Nat} {F : Nat → Prop} {v : Value} {xs : List α} (hR : FGood R sz) (h : FOwn R e sz w base F v xs) {row : Option Nat} (hg : w.grownBy w' row)
    (hne : v.ownBlock = none ∨ v.ownBlock ≠ row) (hrow : ∀ g, row = some g → ¬ F g) : FOwn R e sz w' base F v xs := by
  obtain ⟨h1, h2, css, h3, h4⟩ := h
  exact ⟨fun b hb => Nat.lt_of_lt_of_le (h1 b hb) hg.size, h2, css, h3.keep hR (fun _ hb => hb) (fun b hb => hg.block b (h1 b hb) (fun e => hrow _ e.symm hb)), h4.kept hg hne⟩

theorem grownBy_of_below {w w' : World} (hb : Below w.heap.size w w') : w.grownBy w' none := ⟨hb.os, hb.tape, hb.output, hb.size, fun k hk _ => hb.block k hk⟩

theorem FOwn.below {α : Type} {R : FR α} {e : TypeId} {sz : Nat} {w w' : World} {base : Nat} {F : Nat → Prop} {v : Value} {xs : List α} (hR : FGood R sz) (h : FOwn R e sz w base F v xs) (hb : Below w.heap.size w w') : FOwn R e sz w' base F v xs :=
  h.kept hR (row := none) (grownBy_of_below hb) (by cases hv : v.ownBlock <;> simp) (fun g hg => by cases hg)
theorem FOwn.alloc {α : Type} {R : FR α} {e : TypeId} {sz : Nat} {w : World} {base : Nat} {F : Nat → Prop} {v : Value} {xs : List α} (hR : FGood R sz) (h : FOwn R e sz w base F v xs) (o : Obj) : FOwn R e sz (w.alloc o) base F v xs :=
  h.below hR ((Below.refl _ _).alloc (Nat.le_refl _) o)
theorem FOwn.drewN {α : Type} {R : FR α} {e : TypeId} {sz : Nat} {w : World} {base : Nat} {F : Nat → Prop} {v : Value} {xs : List α} (hR : FGood R sz) (h : FOwn R e sz w base F v xs) (n : Nat) : FOwn R e sz (w.drewN n) base F v xs :=
  h.below hR (below_drewN (Below.refl _ _) n)
theorem FOwn.setCell {α : Type} {R : FR α} {e : TypeId} {sz : Nat} {w : World} {base : Nat} {F : Nat → Prop} {v : Value} {xs : List α} (hR : FGood R sz) (h : FOwn R e sz w base F v xs) {p : Addr} (hp : v.ownBlock ≠ some p.block) (hF : ¬ F p.block) (u : Value) : FOwn R e sz (w.setCell p u) base F v xs :=
  h.kept hR (grownBy_setCell w p u) (.inr hp) (fun g hg => by injection hg with hg; rw [← hg]; exact hF)

theorem FOwn.more {α : Type} {R : FR α} {e : TypeId} {sz : Nat} {w : World} {base : Nat} {F F' : Nat → Prop} {v : Value} {xs : List α} (hR : FGood R sz) (h : FOwn R e sz w base F v xs) (hF : ∀ b, F b → F' b) (hlt : ∀ b, F' b → b < w.heap.size) (hne : ∀ g, v.ownBlock = some g → ¬ F' g) : FOwn R e sz w base F' v xs := by
  obtain ⟨_, _, css, h3, h4⟩ := h
  exact ⟨hlt, hne, css, h3.keep hR hF (fun _ _ => rfl), h4⟩

/-- as an owned slice over the whole memory -/
theorem FOwn.ownL {α : Type} {R : FR α} {R' : ER α} {e : TypeId} {sz : Nat} {w : World} {base : Nat} {F : Nat → Prop} {v : Value} {xs : List α} (h : FOwn R e sz w base F v xs) (hconv : ∀ cs x, R w F cs x → R' w w.heap.size cs x) : OwnL R' e sz w base w.heap.size v xs := by
  obtain ⟨_, _, css, h3, h4⟩ := h
  exact ⟨css, ⟨h3.1, fun k cs x a b => hconv _ _ (h3.2 k cs x a b)⟩, h4⟩

section
variable {P : Program} {w : World} {α : Type} {R : FR α} {t e : TypeId} {sz bytes : Nat} {base : Nat} {F : Nat → Prop}

/-- append(v, y): the one element has been laid into a block of its own -/
theorem run_fpush (hR : FGood R sz) (T : TyE P t e sz bytes) (ty : TypeId) {v : Value} {xs : List α} (hown : FOwn R e sz w base F v xs) {ad : Addr} {c : Nat} {cs : List Value} {y : α} (hy : R w F cs y)
    (hcell : ∀ j u, cs[j]? = some u → w.cell? (ad.add j) = some u)
    (hlen : (xs.length + 1) * bytes ≤ 140737488355328) (h63 : xs.length + 1 ≤ maxLen) (hbase : base ≤ w.heap.size) :
    ∃ v' w', (Builtin.append_ #[t, t] ty #[v, .slice (some ad) 1 c]).run P w = .ok v' w' ∧ FOwn R e sz w' base F v' (xs ++ [y]) ∧ w.grownBy w' v.ownBlock ∧ (v'.ownBlock = v.ownBlock ∨ v'.ownBlock = some w.heap.size) := by
  obtain ⟨i, z, hi, hz, hi1, hi2, hzs⟩ := T.info
  obtain ⟨h1, h2, css, hc, hr⟩ := hown
  have hd : FCells R w F [cs] [y] := CellsOf.one (R := fun w _ => R w F) (B := 0) hy
  obtain ⟨v', w', hrun, h6, h3, _, h5⟩ := run_append_own_at (P := P) w base t ty e i z sz bytes T.und hi hz hi1 hi2 hzs T.pos v xs.length css.flatten hr ad 1 c cs (by rw [hR.len _ _ _ _ hy, Nat.one_mul]) hcell (hR.one _ _ _ _ hy) h63 hlen hbase
  refine ⟨v', w', hrun, ⟨fun b hb => Nat.lt_of_lt_of_le (h1 b hb) h3.size, fun g hg hF => ?_, css ++ [cs], FCells.keep hR (hc.append hd) (fun _ hb => hb) (fun b hb => h3.block b (h1 b hb) (fun e => h2 _ e.symm hb)), ?_⟩, h3, h5⟩
  · rcases h5 with h5 | h5
    · exact h2 g (h5 ▸ hg) hF
    · rw [h5] at hg
      injection hg with hg
      have := h1 g hF
      omega
  · rw [List.length_append, List.flatten_append]
    simpa using h6

theorem wp_fpush {o : Oper} {a : Act} {K : Act → World → Prop} {Q : Exit → Act → World → Prop} (s x : Operand)
    (ho : o.op = .call { callee := .builtin .append, args := #[s, x], argTypes := #[t, t] }) (hR : FGood R sz) (T : TyE P t e sz bytes)
    {v : Value} {xs : List α} (hs : a.eval s = v) (hown : FOwn R e sz w base F v xs) {ad : Addr} {c : Nat} (hx : a.eval x = .slice (some ad) 1 c) {cs : List Value} {y : α} (hy : R w F cs y)
    (hcell : ∀ j u, cs[j]? = some u → w.cell? (ad.add j) = some u)
    (hlen : (xs.length + 1) * bytes ≤ 140737488355328) (h63 : xs.length + 1 ≤ maxLen) (hbase : base ≤ w.heap.size)
    (h : ∀ v' w', FOwn R e sz w' base F v' (xs ++ [y]) → w.grownBy w' v.ownBlock → (v'.ownBlock = v.ownBlock ∨ v'.ownBlock = some w.heap.size) → K (a.put o.dst v') w') : o.wp P a w K Q := by
  obtain ⟨v', w', hrun, h2, h3, h4⟩ := run_fpush hR T o.type hown (ad := ad) (c := c) hy hcell hlen h63 hbase
  unfold Oper.wp execOp
  simp only [ho, resolve, invoke, builtin, Sem.run_bind, Sem.run_pure, Result.andThen_ok, List.map_toArray, List.map_cons, List.map_nil, hs, hx, hrun]
  exact h v' w' h2 h3 h4

/-- 'append(s, y)' in a walk -/
theorem wpList_fpush {ops : Array Oper} {rest : List Oper} {o : Oper} {a : Act} {Q : Exit → Act → World → Prop} (hgd : o.guard = none) (s x : Operand)
    (ho : o.op = .call { callee := .builtin .append, args := #[s, x], argTypes := #[t, t] }) (hR : FGood R sz) (T : TyE P t e sz bytes)
    {v : Value} {xs : List α} (hs : a.eval s = v) (hown : FOwn R e sz w base F v xs) {ad : Addr} {c : Nat} (hx : a.eval x = .slice (some ad) 1 c) {cs : List Value} {y : α} (hy : R w F cs y)
    (hcell : ∀ j u, cs[j]? = some u → w.cell? (ad.add j) = some u)
    (hlen : (xs.length + 1) * bytes ≤ 140737488355328) (h63 : xs.length + 1 ≤ maxLen) (hbase : base ≤ w.heap.size)
    (h : ∀ v' w', FOwn R e sz w' base F v' (xs ++ [y]) → w.grownBy w' v.ownBlock → (v'.ownBlock = v.ownBlock ∨ v'.ownBlock = some w.heap.size) → wpList P ops Q rest (a.put o.dst v') w') : wpList P ops Q (o :: rest) a w :=
  wpList_plain hgd fun _ hK => wp_fpush s x ho hR T hs hown hx hy hcell hlen h63 hbase fun v' w' h2 h3 h4 => hK _ _ (h v' w' h2 h3 h4)
end

/-- an own slice's growth leaves all below its base -/
theorem below_fown {α : Type} {R : FR α} {e : TypeId} {sz : Nat} {B0 base : Nat} {F : Nat → Prop} {a w w' : World} {v : Value} {xs : List α} (h : Below B0 a w) (hown : FOwn R e sz w base F v xs) (hg : w.grownBy w' v.ownBlock) (hB : B0 ≤ w.heap.size) (hb : B0 ≤ base) : Below B0 a w' :=
  h.grown hg hB (fun k hk => Nat.le_trans hb (hown.lt k hk).1)

theorem OwnL.baseLe {α : Type} {R : ER α} {e : TypeId} {sz : Nat} {w : World} {base base' B : Nat} {v : Value} {xs : List α} (h : OwnL R e sz w base B v xs) (hb : base' ≤ base) : OwnL R e sz w base' B v xs := by
  obtain ⟨css, h1, h2, h3⟩ := h
  refine ⟨css, h1, h2, ?_⟩
  rcases h3 with h3 | ⟨g, cap, cur, e1, e2, e3⟩
  · exact .inl h3
  · exact .inr ⟨g, cap, cur, e1, by omega, e3⟩

/-- a store into an own slice of elements of one cell -/
theorem OwnL.store {α : Type} {enc : α → List Value} {e : TypeId} {w : World} {base B : Nat} {g n c : Nat} {xs : List α} (h1 : ∀ x, ∃ u, enc x = [u] ∧ u.oneCell' = true) (h : OwnL (Flat enc) e 1 w base B (.slice (some ⟨g, 0, none⟩) n c) xs) (hn : n = xs.length) (j : Nat) (x : α) (u : Value) (hu : enc x = [u]) :
    OwnL (Flat enc) e 1 (w.setCell ⟨g, j, none⟩ u) base B (.slice (some ⟨g, 0, none⟩) n c) (xs.set j x) := by
  subst hn
  obtain ⟨css, hc, hr⟩ := h
  have hlen : css.length = xs.length := hc.1
  have hcs : css = xs.map enc := by
    apply List.ext_getElem?
    intro k
    rw [List.getElem?_map]
    rcases Nat.lt_or_ge k xs.length with hk | hk
    · rw [List.getElem?_eq_getElem hk, List.getElem?_eq_getElem (by omega)]
      have := hc.2 k _ _ (List.getElem?_eq_getElem (by omega)) (List.getElem?_eq_getElem hk)
      exact congrArg some this
    · rw [List.getElem?_eq_none hk, List.getElem?_eq_none (by omega)]
      rfl
  subst hcs
  have hfl : ∀ l : List α, (l.map enc).flatten = l.map (fun x => (enc x).headD default) := by
    intro l
    induction l with
    | nil => rfl
    | cons a l ih =>
      obtain ⟨v, hv, _⟩ := h1 a
      rw [List.map_cons, List.flatten_cons, ih, List.map_cons, hv]
      rfl
  refine ⟨(xs.set j x).map enc, ⟨by simp, fun k cs y ha hb => ?_⟩, ?_⟩
  · rw [List.getElem?_map, hb] at ha
    injection ha with ha
    exact ha.symm
  · have := World.ownsRow.stored hr j u
    rw [hfl] at this ⊢
    rw [List.length_set]
    rw [List.map_set, hu]
    exact this.1

end Go.Proofs.Ytdldmlekjhmaaaa
