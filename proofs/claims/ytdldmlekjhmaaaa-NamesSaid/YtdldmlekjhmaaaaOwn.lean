/- Slices that the call itself makes, as lists of plain values: 'OwnL'; append of one element, append of a whole slice; from an owned slice to one that is read. No program is named but by a variable P. -/
import Derived.Test.YtdldmlekjhmaaaaDec
import Derived.Maps.AppendAt
import Derived.Laws.OwnMore
namespace Go.Proofs.Ytdldmlekjhmaaaa
open Go.RowKit

/-- What is asked of an element's relation: it looks only below its bound; sz cells, each of one word. -/
structure Good {α : Type} (R : ER α) (sz : Nat) : Prop where
  stable : Stable R
  len : ∀ w B cs x, R w B cs x → cs.length = sz
  one : ∀ w B cs x, R w B cs x → ∀ u ∈ cs, u.oneCell' = true

theorem Flat.good {α : Type} {enc : α → List Value} {sz : Nat} (hl : ∀ x, (enc x).length = sz) (h1 : ∀ x, ∀ u ∈ enc x, u.oneCell' = true) : Good (Flat enc) sz :=
  ⟨Flat.stable enc, fun _ _ cs x h => by obtain rfl : cs = enc x := h; exact hl x, fun _ _ cs x h => by obtain rfl : cs = enc x := h; exact h1 x⟩

/-- the cells of a list's elements, an entry an element -/
def CellsOf {α : Type} (R : ER α) (w : World) (B : Nat) (css : List (List Value)) (xs : List α) : Prop :=
  css.length = xs.length ∧ ∀ (k : Nat) (cs : List Value) (x : α), css[k]? = some cs → xs[k]? = some x → R w B cs x

theorem CellsOf.nil {α : Type} {R : ER α} {w : World} {B : Nat} : CellsOf R w B [] [] := ⟨rfl, fun _ _ _ h => by simp at h⟩

theorem CellsOf.keep {α : Type} {R : ER α} {w w' : World} {B B' : Nat} {css : List (List Value)} {xs : List α} (hR : Stable R) (h : CellsOf R w B css xs) (hB : B ≤ B') (hk : ∀ p : Addr, p.block < B → w'.cell? p = w.cell? p) : CellsOf R w' B' css xs :=
  ⟨h.1, fun k cs x h1 h2 => hR w w' B B' cs x hB hk (h.2 k cs x h1 h2)⟩

theorem CellsOf.append {α : Type} {R : ER α} {w : World} {B : Nat} {css dss : List (List Value)} {xs ys : List α} (h : CellsOf R w B css xs) (h' : CellsOf R w B dss ys) : CellsOf R w B (css ++ dss) (xs ++ ys) := by
  refine ⟨by simp [h.1, h'.1], fun k cs x h1 h2 => ?_⟩
  by_cases hk : k < xs.length
  · rw [List.getElem?_append_left (by rw [h.1]; exact hk)] at h1
    rw [List.getElem?_append_left hk] at h2
    exact h.2 k cs x h1 h2
  · rw [List.getElem?_append_right (by rw [h.1]; omega)] at h1
    rw [List.getElem?_append_right (by omega)] at h2
    rw [h.1] at h1
    exact h'.2 _ cs x h1 h2

theorem CellsOf.one {α : Type} {R : ER α} {w : World} {B : Nat} {cs : List Value} {x : α} (h : R w B cs x) : CellsOf R w B [cs] [x] := by
  refine ⟨rfl, fun k cs' x' h1 h2 => ?_⟩
  cases k with
  | zero => simp at h1 h2; subst h1; subst h2; exact h
  | succ k => simp at h1

theorem flatten_len {sz : Nat} : ∀ {css : List (List Value)}, (∀ cs ∈ css, cs.length = sz) → css.flatten.length = css.length * sz
  | [], _ => by simp
  | cs :: css, h => by
    rw [List.flatten_cons, List.length_append, h cs (by simp), flatten_len (fun c hc => h c (by simp [hc])), List.length_cons, Nat.add_mul, Nat.one_mul, Nat.add_comm]

theorem flatten_get {sz : Nat} : ∀ {css : List (List Value)}, (∀ cs ∈ css, cs.length = sz) → ∀ {k : Nat} {cs : List Value}, css[k]? = some cs → ∀ {j : Nat}, j < sz → css.flatten[k * sz + j]? = cs[j]?
  | [], _, k, cs, h, _, _ => by simp at h
  | c :: css, hl, k, cs, h, j, hj => by
    have hc := hl c (by simp)
    rw [List.flatten_cons]
    cases k with
    | zero =>
      simp at h; subst h
      rw [Nat.zero_mul, Nat.zero_add, List.getElem?_append_left (by omega)]
    | succ k =>
      rw [List.getElem?_append_right (by rw [hc, Nat.add_mul]; omega), hc, show (k + 1) * sz + j - sz = k * sz + j by rw [Nat.add_mul]; omega]
      exact flatten_get (fun c' hc' => hl c' (by simp [hc'])) (by simpa using h) hj

theorem CellsOf.lens {α : Type} {R : ER α} {sz : Nat} {w : World} {B : Nat} {css : List (List Value)} {xs : List α} (hR : Good R sz) (h : CellsOf R w B css xs) : ∀ cs ∈ css, cs.length = sz := by
  intro cs hcs
  obtain ⟨k, hk, rfl⟩ := List.getElem_of_mem hcs
  have hx : k < xs.length := by rw [← h.1]; exact hk
  exact hR.len _ _ _ _ (h.2 k _ _ (List.getElem?_eq_getElem hk) (List.getElem?_eq_getElem hx))

theorem CellsOf.ones {α : Type} {R : ER α} {sz : Nat} {w : World} {B : Nat} {css : List (List Value)} {xs : List α} (hR : Good R sz) (h : CellsOf R w B css xs) : ∀ u ∈ css.flatten, u.oneCell' = true := by
  intro u hu
  obtain ⟨cs, hcs, hu⟩ := List.mem_flatten.1 hu
  obtain ⟨k, hk, rfl⟩ := List.getElem_of_mem hcs
  have hx : k < xs.length := by rw [← h.1]; exact hk
  exact hR.one _ _ _ _ (h.2 k _ _ (List.getElem?_eq_getElem hk) (List.getElem?_eq_getElem hx)) u hu

/-- The slice value v is the call's own (its block from 'base' on) and holds the list xs. What its elements lead to lies below B. -/
def OwnL {α : Type} (R : ER α) (e : TypeId) (sz : Nat) (w : World) (base B : Nat) (v : Value) (xs : List α) : Prop :=
  ∃ css, CellsOf R w B css xs ∧ w.ownsRow base e sz v xs.length css.flatten

theorem OwnL.nil {α : Type} {R : ER α} {e : TypeId} {sz : Nat} {w : World} {base B : Nat} : OwnL R e sz w base B (.slice none 0 0) [] :=
  ⟨[], CellsOf.nil, World.ownsRow_nil _ _ _ _⟩

theorem OwnL.made {α : Type} {R : ER α} {e : TypeId} {sz : Nat} {w : World} {base B : Nat} (cur : Array Value) (cap : Nat) (hb : base ≤ w.heap.size) (hm : cap ≤ maxLen) (hs : cur.size = cap * sz) :
    OwnL R e sz (w.alloc (.cells cur e)) base B (.slice (some ⟨w.heap.size, 0, none⟩) 0 cap) [] :=
  ⟨[], CellsOf.nil, World.ownsRow_made w cur cap hb hm hs⟩

/-- a block that a composite literal has just filled -/
theorem OwnL.built {α : Type} {R : ER α} {e : TypeId} {sz : Nat} {w : World} {base B : Nat} (hR : Good R sz) {css : List (List Value)} {xs : List α} (h : CellsOf R w B css xs) (hB : B ≤ w.heap.size) (hb : base ≤ w.heap.size) (cells : Array Value) (hc : cells.toList = css.flatten) {n : Nat} (hn : xs.length = n) (hm : n ≤ maxLen) :
    OwnL R e sz (w.alloc (.cells cells e)) base B (.slice (some ⟨w.heap.size, 0, none⟩) n n) xs := by
  subst hn
  have hl : css.flatten.length = xs.length * sz := by
    have : ∀ cs ∈ css, cs.length = sz := by
      intro cs hcs
      obtain ⟨k, hk, rfl⟩ := List.getElem_of_mem hcs
      exact hR.len _ _ _ _ (h.2 k _ _ (List.getElem?_eq_getElem hk) (List.getElem?_eq_getElem (by rw [← h.1]; exact hk)))
    rw [flatten_len this, h.1]
  refine ⟨css, h.keep hR.stable (Nat.le_refl _) (fun p hp => World.cell?_alloc_lt w _ p (by omega)), hl, .inr ⟨w.heap.size, xs.length, cells, rfl, hb, heap_alloc_new w _, Nat.le_refl _, hm, ?_, ?_⟩⟩
  · rw [← hl, ← hc, Array.length_toList]
  · rw [hc, ← hl, List.take_length]

theorem CellsOf.cons {α : Type} {R : ER α} {w : World} {B : Nat} {cs : List Value} {x : α} {css : List (List Value)} {xs : List α} (h : R w B cs x) (h' : CellsOf R w B css xs) : CellsOf R w B (cs :: css) (x :: xs) := by
  refine ⟨by simp [h'.1], fun k cs' x' h1 h2 => ?_⟩
  cases k with
  | zero => simp at h1 h2; subst h1; subst h2; exact h
  | succ k => simp at h1 h2; exact h'.2 k cs' x' h1 h2

theorem RSlice.good {α : Type} {R : ER α} {sz bytes : Nat} (hR : Stable R) : Good (RSlice R sz bytes) 1 :=
  ⟨RSlice.stable hR, fun _ _ _ _ h => by obtain ⟨A, n, c, rfl, _⟩ := h; rfl, fun _ _ _ _ h u hu => by obtain ⟨A, n, c, rfl, _⟩ := h; simp at hu; subst hu; rfl⟩

theorem OwnL.lt {α : Type} {R : ER α} {e : TypeId} {sz : Nat} {w : World} {base B : Nat} {v : Value} {xs : List α} (h : OwnL R e sz w base B v xs) : ∀ k, v.ownBlock = some k → base ≤ k ∧ k < w.heap.size := by
  obtain ⟨_, _, h⟩ := h
  exact h.lt

/-- kept over a step that turns neither the row's own block nor what lies below B -/
theorem OwnL.kept {α : Type} {R : ER α} {e : TypeId} {sz : Nat} {w w' : World} {base B : Nat} {v : Value} {xs : List α} (hR : Stable R) (h : OwnL R e sz w base B v xs) {row : Option Nat} (hg : w.grownBy w' row)
    (hne : v.ownBlock = none ∨ v.ownBlock ≠ row) (hB : B ≤ w.heap.size) (hrow : ∀ g, row = some g → B ≤ g) : OwnL R e sz w' base B v xs := by
  obtain ⟨css, h1, h2⟩ := h
  refine ⟨css, h1.keep hR (Nat.le_refl _) (fun p hp => World.cell?_of_block (hg.block p.block (by omega) (fun e => by have := hrow _ e.symm; omega))), h2.kept hg hne⟩

theorem OwnL.alloc {α : Type} {R : ER α} {e : TypeId} {sz : Nat} {w : World} {base B : Nat} {v : Value} {xs : List α} (hR : Stable R) (h : OwnL R e sz w base B v xs) (hB : B ≤ w.heap.size) (o : Obj) : OwnL R e sz (w.alloc o) base B v xs :=
  h.kept hR (World.grownBy_alloc w o none) (by cases hv : v.ownBlock <;> simp) hB (fun g hg => by cases hg)

/-- kept behind a call that leaves all that was there -/
theorem OwnL.below {α : Type} {R : ER α} {e : TypeId} {sz : Nat} {w w' : World} {base B : Nat} {v : Value} {xs : List α} (hR : Stable R) (h : OwnL R e sz w base B v xs) (hb : Below w.heap.size w w') (hB : B ≤ w.heap.size) : OwnL R e sz w' base B v xs := by
  refine h.kept hR (row := none) ⟨hb.os, hb.tape, hb.output, hb.size, fun k hk _ => hb.block k hk⟩ (by cases hv : v.ownBlock <;> simp) hB (fun g hg => by cases hg)

theorem OwnL.drewN {α : Type} {R : ER α} {e : TypeId} {sz : Nat} {w : World} {base B : Nat} {v : Value} {xs : List α} (hR : Stable R) (h : OwnL R e sz w base B v xs) (hB : B ≤ w.heap.size) (n : Nat) : OwnL R e sz (w.drewN n) base B v xs :=
  h.below hR (below_drewN (Below.refl _ _) n) hB

/-- an owned slice, read -/
theorem OwnL.sl {α : Type} {R : ER α} {e : TypeId} {sz bytes : Nat} {w : World} {base B : Nat} {v : Value} {xs : List α} (hR : Good R sz) (h : OwnL R e sz w base B v xs) (hB : B ≤ w.heap.size) (hb : xs.length * bytes ≤ 140737488351232) :
    ∃ A c, v = .slice A xs.length c ∧ SlR R sz bytes w w.heap.size A xs.length c xs := by
  obtain ⟨css, h1, h2⟩ := h
  have hl := h1.lens hR
  rcases h2.2 with ⟨hv, hn⟩ | ⟨g, cap, cur, hv, _, hg, hnc, hcm, _, htake⟩
  · refine ⟨none, 0, by rw [hv, hn], rfl, by omega, by simp [maxLen], hb, fun h => by omega⟩
  · have hgl : g < w.heap.size := (Array.getElem?_eq_some_iff.1 hg).1
    refine ⟨some ⟨g, 0, none⟩, cap, hv, rfl, hnc, hcm, hb, fun hn => ⟨g, 0, rfl, hgl, fun k x hx => ?_⟩⟩
    have hk : k < xs.length := by
      rcases Nat.lt_or_ge k xs.length with hk | hk
      · exact hk
      · rw [List.getElem?_eq_none hk] at hx; cases hx
    have hkc : k < css.length := by rw [h1.1]; exact hk
    have hc := List.getElem?_eq_getElem hkc
    refine ⟨css[k], hl _ (List.getElem_mem hkc), hR.stable w w B w.heap.size _ x hB (fun _ _ => rfl) (h1.2 k _ x hc hx), fun j u hu => ?_⟩
    have hj : j < sz := by
      rcases Nat.lt_or_ge j sz with hj | hj
      · exact hj
      · rw [List.getElem?_eq_none (by rw [hl _ (List.getElem_mem hkc)]; exact hj)] at hu; cases hu
    have := h2.cells (g := g) (by rw [hv]; rfl) (k * sz + j) u (by rw [flatten_get hl hc hj]; exact hu)
    rw [← this]
    unfold Addr.add
    split
    · rename_i h0; rw [show 0 + k * sz + j = 0 by omega]
    · rw [Nat.zero_add, Nat.zero_add]

/-- a relation that looks at no memory -/
def FreeR {α : Type} (R : ER α) : Prop := ∀ (w w' : World) (B B' : Nat) (cs : List Value) (x : α), R w B cs x → R w' B' cs x
theorem FreeR.flat {α : Type} (enc : α → List Value) : FreeR (Flat enc) := fun _ _ _ _ _ _ h => h
theorem FreeR.stable {α : Type} {R : ER α} (h : FreeR R) : Stable R := fun w w' B B' cs x _ _ hr => h w w' B B' cs x hr
theorem RByte.free : FreeR RByte := fun _ _ _ _ _ _ h => h
theorem RInt.free : FreeR RInt := fun _ _ _ _ _ _ h => h
theorem RByte.good : Good RByte 1 := ⟨RByte.stable, fun _ _ _ _ h => by rw [h.1]; rfl, fun _ _ _ _ h u hu => by rw [h.1] at hu; simp at hu; subst hu; rfl⟩
theorem RInt.good : Good RInt 1 := ⟨RInt.stable, fun _ _ _ _ h => by rw [h.1]; rfl, fun _ _ _ _ h u hu => by rw [h.1] at hu; simp at hu; subst hu; rfl⟩

theorem OwnL.freeB {α : Type} {R : ER α} (hF : FreeR R) {e : TypeId} {sz : Nat} {w : World} {base B : Nat} {v : Value} {xs : List α} (h : OwnL R e sz w base B v xs) (B' : Nat) : OwnL R e sz w base B' v xs := by
  obtain ⟨css, h1, h2⟩ := h
  exact ⟨css, ⟨h1.1, fun k cs x a b => hF _ _ _ _ _ _ (h1.2 k cs x a b)⟩, h2⟩

theorem grownBy_setCell (w : World) (p : Addr) (u : Value) : w.grownBy (w.setCell p u) (some p.block) :=
  ⟨rfl, rfl, rfl, by simp [World.setCell], fun k _ hne => Below.heap_setCell w p u k (fun e => hne (by rw [e]))⟩

/-- a store below the row's base, at or above what the elements lead to -/
theorem OwnL.setCell {α : Type} {R : ER α} {e : TypeId} {sz : Nat} {w : World} {base B : Nat} {v : Value} {xs : List α} (hR : Stable R) (h : OwnL R e sz w base B v xs) {p : Addr} (hp : p.block < base) (hB : B ≤ p.block) (hw : B ≤ w.heap.size) (u : Value) :
    OwnL R e sz (w.setCell p u) base B v xs := by
  refine h.kept hR (grownBy_setCell w p u) (.inr fun e => ?_) hw (fun g hg => by injection hg with hg; omega)
  have := (h.lt _ e).1
  omega

/-- .. where the elements look at no memory -/
theorem OwnL.setFree {α : Type} {R : ER α} (hF : FreeR R) {e : TypeId} {sz : Nat} {w : World} {base B : Nat} {v : Value} {xs : List α} (h : OwnL R e sz w base B v xs) {p : Addr} (hp : p.block < base) (u : Value) :
    OwnL R e sz (w.setCell p u) base B v xs :=
  ((h.freeB hF 0).setCell hF.stable hp (Nat.zero_le _) (Nat.zero_le _) u).freeB hF B

theorem OwnL.form {α : Type} {R : ER α} {e : TypeId} {sz : Nat} {w : World} {base B : Nat} {v : Value} {xs : List α} (h : OwnL R e sz w base B v xs) : ∃ A c, v = .slice A xs.length c := by
  obtain ⟨css, h1, h2⟩ := h
  rcases h2.2 with ⟨hv, hn⟩ | ⟨g, cap, cur, hv, _⟩
  · exact ⟨none, 0, by rw [hv, hn]⟩
  · exact ⟨_, cap, hv⟩

/-- a call that hands back a slice of its own, and leaves all that was there -/
def RetOwn {α : Type} (R : ER α) (t : TypeId) (sz : Nat) (w0 : World) (xs : List α) (e : Ending) (w' : World) : Prop :=
  ∃ A c, e = .returned (.slice A xs.length c) ∧ OwnL R t sz w' w0.heap.size w0.heap.size (.slice A xs.length c) xs ∧ Below w0.heap.size w0 w'
theorem RetOwn.mk {α : Type} {R : ER α} {t : TypeId} {sz : Nat} {w0 : World} {xs : List α} {v : Value} {w' : World} (h : OwnL R t sz w' w0.heap.size w0.heap.size v xs) (hb : Below w0.heap.size w0 w') : RetOwn R t sz w0 xs (.returned v) w' := by
  obtain ⟨A, c, rfl⟩ := h.form
  exact ⟨A, c, rfl, h, hb⟩

theorem OwnL.slOf {α : Type} {R : ER α} {e : TypeId} {sz bytes : Nat} {w : World} {base B : Nat} {A : Option Addr} {n c : Nat} {xs : List α} (hR : Good R sz) (h : OwnL R e sz w base B (.slice A n c) xs) (hB : B ≤ w.heap.size) (hb : xs.length * bytes ≤ 140737488351232) :
    SlR R sz bytes w w.heap.size A n c xs := by
  obtain ⟨A', c', he, hs⟩ := h.sl (bytes := bytes) hR hB hb
  injection he with h1 h2 h3
  subst h1; subst h2; subst h3
  exact hs
theorem OwnL.slF {α : Type} {R : ER α} (hF : FreeR R) {e : TypeId} {sz bytes : Nat} {w : World} {base B : Nat} {A : Option Addr} {n c : Nat} {xs : List α} (hR : Good R sz) (h : OwnL R e sz w base B (.slice A n c) xs) (hb : xs.length * bytes ≤ 140737488351232) :
    SlR R sz bytes w w.heap.size A n c xs := (h.freeB hF 0).slOf hR (Nat.zero_le _) hb

/-- the cells of a slice that is read, in one list -/
theorem SlR.src {α : Type} {R : ER α} {sz bytes : Nat} {w : World} {B : Nat} {A : Option Addr} {n c : Nat} {xs : List α} (hR : Good R sz) (hpos : 0 < sz) (h : SlR R sz bytes w B A n c xs) :
    ∃ css, CellsOf R w B css xs ∧ css.flatten.length = n * sz ∧ (0 < n → ∃ ad, A = some ad ∧ ∀ j u, css.flatten[j]? = some u → w.cell? (ad.add j) = some u) := by
  obtain ⟨hl, _, _, _, h5⟩ := h
  by_cases hn : 0 < n
  · obtain ⟨b, off, hA, hb, hc⟩ := h5 hn
    have hx : ∀ k, k < n → ∃ cs : List Value, ∀ x, xs[k]? = some x → (R w B cs x ∧ ∀ j u, cs[j]? = some u → w.cell? ⟨b, off + k * sz + j, none⟩ = some u) := fun k hk => by
      have hkl : k < xs.length := by omega
      obtain ⟨cs, _, h2, h3⟩ := hc k _ (List.getElem?_eq_getElem hkl)
      refine ⟨cs, fun x hx => ?_⟩
      rw [List.getElem?_eq_getElem hkl] at hx
      injection hx with hx
      subst hx
      exact ⟨h2, h3⟩
    obtain ⟨f, hf⟩ := Go.Deep.choose_lt hx
    have hC : CellsOf R w B ((List.range n).map f) xs := by
      refine ⟨by simp [hl], fun k cs x h1 h2 => ?_⟩
      have hk : k < n := by
        rcases Nat.lt_or_ge k n with hk | hk
        · exact hk
        · rw [List.getElem?_eq_none (by rw [hl]; exact hk)] at h2; cases h2
      simp [hk] at h1
      subst h1
      exact (hf k hk x h2).1
    have hlens := hC.lens hR
    have hfl : ((List.range n).map f).flatten.length = n * sz := by rw [flatten_len hlens]; simp
    refine ⟨_, hC, hfl, fun _ => ⟨⟨b, off, none⟩, hA, fun j u hu => ?_⟩⟩
    have hj : j < n * sz := by
      rcases Nat.lt_or_ge j (n * sz) with hj | hj
      · exact hj
      · rw [List.getElem?_eq_none (by rw [hfl]; exact hj)] at hu; cases hu
    have hk : j / sz < n := by rw [Nat.div_lt_iff_lt_mul hpos]; exact hj
    have hkl : j / sz < xs.length := by omega
    have hjj : j = j / sz * sz + j % sz := by rw [Nat.mul_comm]; exact (Nat.div_add_mod j sz).symm
    have hg : ((List.range n).map f)[j / sz]? = some (f (j / sz)) := by simp [hk]
    rw [hjj, flatten_get hlens hg (Nat.mod_lt _ hpos)] at hu
    have := (hf _ hk _ (List.getElem?_eq_getElem hkl)).2 _ u hu
    rw [← this]
    unfold Addr.add
    split
    · rename_i h0; rw [h0] at hjj ⊢; simp
    · rw [Nat.add_assoc, ← hjj]
  · have h0 : n = 0 := by omega
    subst h0
    have : xs = [] := List.eq_nil_of_length_eq_zero hl
    subst this
    exact ⟨[], CellsOf.nil, by simp, fun h => absurd h hn⟩

/-- what the program's table says of a slice type t: its element type e, that one's cells and bytes -/
structure TyE (P : Program) (t e : TypeId) (sz bytes : Nat) : Prop where
  und : P.underlying t = some (.slice e)
  info : ∃ (i : TypeInfo) (z : Value), P.info? e = some i ∧ i.zero = some z ∧ i.size = sz ∧ i.bytes = bytes ∧ z.cells.size = sz
  pos : 0 < sz

section
variable {P : Program} {w : World} {α : Type} {R : ER α} {t e : TypeId} {sz bytes : Nat} {base B : Nat}

/-- append(v, src...): v the call's own, the source any slice that is read -/
theorem run_app (hR : Good R sz) (T : TyE P t e sz bytes) (ty : TypeId) {v : Value} {xs : List α} (hown : OwnL R e sz w base B v xs) {A : Option Addr} {n c : Nat} {ys : List α} (hs : SlR R sz bytes w B A n c ys)
    (hlen : (xs.length + n) * bytes ≤ 140737488355328) (h63 : xs.length + n ≤ maxLen) (hbase : base ≤ w.heap.size) (hB : B ≤ base) :
    ∃ v' w', (Builtin.append_ #[t, t] ty #[v, .slice A n c]).run P w = .ok v' w' ∧ OwnL R e sz w' base B v' (xs ++ ys) ∧ w.grownBy w' v.ownBlock ∧ (v'.ownBlock = v.ownBlock ∨ v'.ownBlock = some w.heap.size) := by
  obtain ⟨i, z, hi, hz, hi1, hi2, hzs⟩ := T.info
  obtain ⟨css, hc, hr⟩ := hown
  obtain ⟨dss, hd, hdl, hdc⟩ := hs.src hR T.pos
  have hys : ys.length = n := hs.1
  by_cases hn : 0 < n
  · obtain ⟨ad, rfl, hcell⟩ := hdc hn
    obtain ⟨v', w', hrun, h2, h3, _, h5⟩ := run_append_own_at (P := P) w base t ty e i z sz bytes T.und hi hz hi1 hi2 hzs T.pos v xs.length css.flatten hr ad n c dss.flatten hdl hcell (hd.ones hR) h63 hlen hbase
    have hk : ∀ p : Addr, p.block < B → w'.cell? p = w.cell? p := fun p hp => World.cell?_of_block (h3.block p.block (by omega) (fun e => by have := (hr.lt _ e.symm).1; omega))
    refine ⟨v', w', hrun, ⟨css ++ dss, (hc.append hd).keep hR.stable (Nat.le_refl _) hk, ?_⟩, h3, h5⟩
    rw [List.length_append, hys, List.flatten_append]
    exact h2
  · have h0 : n = 0 := by omega
    subst h0
    have hy0 : ys = [] := List.eq_nil_of_length_eq_zero hys
    subst hy0
    refine ⟨v, w, ?_, by simpa using ⟨css, hc, hr⟩, World.grownBy.refl w _, .inl rfl⟩
    rcases A with _ | ad
    · rcases hr.2 with ⟨rfl, _⟩ | ⟨g, cap, cur, rfl, _, _, hnc, _⟩
      · simp [Builtin.append_, run_underlying T.und, sizeOf, typeInfo, hi, Builtin.lenOf, Builtin.firstCells]
      · simp [Builtin.append_, run_underlying T.und, sizeOf, typeInfo, hi, Builtin.lenOf, Builtin.firstCells, hnc, storeCells]
    · rcases hr.2 with ⟨rfl, hx0⟩ | ⟨g, cap, cur, rfl, _, _, hnc, _⟩
      · simp [Builtin.append_, run_underlying T.und, sizeOf, typeInfo, hi, Builtin.lenOf, Builtin.firstCells, loadCells, loadCellsFrom]
      · simp [Builtin.append_, run_underlying T.und, sizeOf, typeInfo, hi, Builtin.lenOf, Builtin.firstCells, hnc, storeCells, loadCells, loadCellsFrom]

theorem wp_app {o : Oper} {a : Act} {K : Act → World → Prop} {Q : Exit → Act → World → Prop} (s x : Operand)
    (ho : o.op = .call { callee := .builtin .append, args := #[s, x], argTypes := #[t, t] }) (hR : Good R sz) (T : TyE P t e sz bytes)
    {v : Value} {xs : List α} (hs : a.eval s = v) (hown : OwnL R e sz w base B v xs) {A : Option Addr} {n c : Nat} {ys : List α} (hx : a.eval x = .slice A n c) (hsl : SlR R sz bytes w B A n c ys)
    (hlen : (xs.length + n) * bytes ≤ 140737488355328) (h63 : xs.length + n ≤ maxLen) (hbase : base ≤ w.heap.size) (hB : B ≤ base)
    (h : ∀ v' w', OwnL R e sz w' base B v' (xs ++ ys) → w.grownBy w' v.ownBlock → (v'.ownBlock = v.ownBlock ∨ v'.ownBlock = some w.heap.size) → K (a.put o.dst v') w') : o.wp P a w K Q := by
  obtain ⟨v', w', hrun, h2, h3, h4⟩ := run_app hR T o.type hown hsl hlen h63 hbase hB
  unfold Oper.wp execOp
  simp only [ho, resolve, invoke, builtin, Sem.run_bind, Sem.run_pure, Result.andThen_ok, List.map_toArray, List.map_cons, List.map_nil, hs, hx, hrun]
  exact h v' w' h2 h3 h4

/-- 'append(s, x...)' in a walk -/
theorem wpList_app {ops : Array Oper} {rest : List Oper} {o : Oper} {a : Act} {Q : Exit → Act → World → Prop} (hgd : o.guard = none) (s x : Operand)
    (ho : o.op = .call { callee := .builtin .append, args := #[s, x], argTypes := #[t, t] }) (hR : Good R sz) (T : TyE P t e sz bytes)
    {v : Value} {xs : List α} (hs : a.eval s = v) (hown : OwnL R e sz w base B v xs) {A : Option Addr} {n c : Nat} {ys : List α} (hx : a.eval x = .slice A n c) (hsl : SlR R sz bytes w B A n c ys)
    (hlen : (xs.length + n) * bytes ≤ 140737488355328) (h63 : xs.length + n ≤ maxLen) (hbase : base ≤ w.heap.size) (hB : B ≤ base)
    (h : ∀ v' w', OwnL R e sz w' base B v' (xs ++ ys) → w.grownBy w' v.ownBlock → (v'.ownBlock = v.ownBlock ∨ v'.ownBlock = some w.heap.size) → wpList P ops Q rest (a.put o.dst v') w') : wpList P ops Q (o :: rest) a w :=
  wpList_plain hgd fun _ hK => wp_app s x ho hR T hs hown hx hsl hlen h63 hbase hB fun v' w' h2 h3 h4 => hK _ _ (h v' w' h2 h3 h4)

/-- append(v, y): the one element has been laid into a block of its own -/
theorem run_push (hR : Good R sz) (T : TyE P t e sz bytes) (ty : TypeId) {v : Value} {xs : List α} (hown : OwnL R e sz w base B v xs) {ad : Addr} {c : Nat} {cs : List Value} {y : α} (hy : R w B cs y)
    (hcell : ∀ j u, cs[j]? = some u → w.cell? (ad.add j) = some u)
    (hlen : (xs.length + 1) * bytes ≤ 140737488355328) (h63 : xs.length + 1 ≤ maxLen) (hbase : base ≤ w.heap.size) (hB : B ≤ base) :
    ∃ v' w', (Builtin.append_ #[t, t] ty #[v, .slice (some ad) 1 c]).run P w = .ok v' w' ∧ OwnL R e sz w' base B v' (xs ++ [y]) ∧ w.grownBy w' v.ownBlock ∧ (v'.ownBlock = v.ownBlock ∨ v'.ownBlock = some w.heap.size) := by
  obtain ⟨i, z, hi, hz, hi1, hi2, hzs⟩ := T.info
  obtain ⟨css, hc, hr⟩ := hown
  have hd : CellsOf R w B [cs] [y] := CellsOf.one hy
  obtain ⟨v', w', hrun, h2, h3, _, h5⟩ := run_append_own_at (P := P) w base t ty e i z sz bytes T.und hi hz hi1 hi2 hzs T.pos v xs.length css.flatten hr ad 1 c cs (by rw [hR.len _ _ _ _ hy, Nat.one_mul]) hcell (hR.one _ _ _ _ hy) h63 hlen hbase
  have hk : ∀ p : Addr, p.block < B → w'.cell? p = w.cell? p := fun p hp => World.cell?_of_block (h3.block p.block (by omega) (fun e => by have := (hr.lt _ e.symm).1; omega))
  refine ⟨v', w', hrun, ⟨css ++ [cs], (hc.append hd).keep hR.stable (Nat.le_refl _) hk, ?_⟩, h3, h5⟩
  rw [List.length_append, List.flatten_append]
  simpa using h2

theorem wp_push {o : Oper} {a : Act} {K : Act → World → Prop} {Q : Exit → Act → World → Prop} (s x : Operand)
    (ho : o.op = .call { callee := .builtin .append, args := #[s, x], argTypes := #[t, t] }) (hR : Good R sz) (T : TyE P t e sz bytes)
    {v : Value} {xs : List α} (hs : a.eval s = v) (hown : OwnL R e sz w base B v xs) {ad : Addr} {c : Nat} (hx : a.eval x = .slice (some ad) 1 c) {cs : List Value} {y : α} (hy : R w B cs y)
    (hcell : ∀ j u, cs[j]? = some u → w.cell? (ad.add j) = some u)
    (hlen : (xs.length + 1) * bytes ≤ 140737488355328) (h63 : xs.length + 1 ≤ maxLen) (hbase : base ≤ w.heap.size) (hB : B ≤ base)
    (h : ∀ v' w', OwnL R e sz w' base B v' (xs ++ [y]) → w.grownBy w' v.ownBlock → (v'.ownBlock = v.ownBlock ∨ v'.ownBlock = some w.heap.size) → K (a.put o.dst v') w') : o.wp P a w K Q := by
  obtain ⟨v', w', hrun, h2, h3, h4⟩ := run_push hR T o.type hown (ad := ad) (c := c) hy hcell hlen h63 hbase hB
  unfold Oper.wp execOp
  simp only [ho, resolve, invoke, builtin, Sem.run_bind, Sem.run_pure, Result.andThen_ok, List.map_toArray, List.map_cons, List.map_nil, hs, hx, hrun]
  exact h v' w' h2 h3 h4

/-- 'append(s, y)' in a walk -/
theorem wpList_push {ops : Array Oper} {rest : List Oper} {o : Oper} {a : Act} {Q : Exit → Act → World → Prop} (hgd : o.guard = none) (s x : Operand)
    (ho : o.op = .call { callee := .builtin .append, args := #[s, x], argTypes := #[t, t] }) (hR : Good R sz) (T : TyE P t e sz bytes)
    {v : Value} {xs : List α} (hs : a.eval s = v) (hown : OwnL R e sz w base B v xs) {ad : Addr} {c : Nat} (hx : a.eval x = .slice (some ad) 1 c) {cs : List Value} {y : α} (hy : R w B cs y)
    (hcell : ∀ j u, cs[j]? = some u → w.cell? (ad.add j) = some u)
    (hlen : (xs.length + 1) * bytes ≤ 140737488355328) (h63 : xs.length + 1 ≤ maxLen) (hbase : base ≤ w.heap.size) (hB : B ≤ base)
    (h : ∀ v' w', OwnL R e sz w' base B v' (xs ++ [y]) → w.grownBy w' v.ownBlock → (v'.ownBlock = v.ownBlock ∨ v'.ownBlock = some w.heap.size) → wpList P ops Q rest (a.put o.dst v') w') : wpList P ops Q (o :: rest) a w :=
  wpList_plain hgd fun _ hK => wp_push s x ho hR T hs hown hx hy hcell hlen h63 hbase hB fun v' w' h2 h3 h4 => hK _ _ (h v' w' h2 h3 h4)
end

/-- the slice's block is not older than lo -/
def Fresh (lo : Nat) (A : Option Addr) : Prop := ∀ a, A = some a → lo ≤ a.block
theorem Fresh.none_ {lo : Nat} : Fresh lo none := fun a h => by cases h
theorem Fresh.mono {lo lo' : Nat} {A : Option Addr} (h : Fresh lo A) (hl : lo' ≤ lo) : Fresh lo' A := fun a ha => Nat.le_trans hl (h a ha)
theorem OwnL.fresh {α : Type} {R : ER α} {e : TypeId} {sz : Nat} {w : World} {base B : Nat} {A : Option Addr} {n c : Nat} {xs : List α} (h : OwnL R e sz w base B (.slice A n c) xs) : Fresh base A := by
  intro a ha
  subst ha
  exact (h.lt a.block rfl).1

/-- a store elsewhere -/
theorem SlR.setFree {α : Type} {R : ER α} (hF : FreeR R) {sz bytes : Nat} {w : World} {B : Nat} {A : Option Addr} {n c : Nat} {xs : List α} (h : SlR R sz bytes w B A n c xs) {p : Addr} (hp : ∀ a, A = some a → a.block ≠ p.block) (u : Value) : SlR R sz bytes (w.setCell p u) B A n c xs := by
  obtain ⟨h1, h2, h3, h4, h5⟩ := h
  refine ⟨h1, h2, h3, h4, fun hn => ?_⟩
  obtain ⟨b, off, hA, hb, hc⟩ := h5 hn
  refine ⟨b, off, hA, hb, fun k x hx => ?_⟩
  obtain ⟨cs, hl, hr, hcell⟩ := hc k x hx
  exact ⟨cs, hl, hF _ _ _ _ _ _ hr, fun j u' hu => (World.cell?_of_block (w := w) (a := ⟨b, off + k * sz + j, none⟩) (Below.heap_setCell w p u b (hp _ hA))).trans (hcell j u' hu)⟩

/-- a slice's head, 's[:m]' or 's[:m:m]' -/
theorem SlR.take {α : Type} {R : ER α} {sz bytes : Nat} {w : World} {B : Nat} {A : Option Addr} {n c m c' : Nat} {xs : List α} (h : SlR R sz bytes w B A n c xs) (hm : m ≤ n) (hmc : m ≤ c') (hc : c' ≤ maxLen) : SlR R sz bytes w B A m c' (xs.take m) := by
  obtain ⟨h1, h2, h3, h4, h5⟩ := h
  refine ⟨by rw [List.length_take]; omega, hmc, hc, Nat.le_trans (Nat.mul_le_mul_right _ hm) h4, fun hn => ?_⟩
  obtain ⟨b, off, hA, hb, hcell⟩ := h5 (by omega)
  refine ⟨b, off, hA, hb, fun k x hx => hcell k x ?_⟩
  rw [List.getElem?_take] at hx
  split at hx
  · exact hx
  · cases hx

theorem SlR.alloc {α : Type} {R : ER α} (hR : Stable R) {sz bytes : Nat} {w : World} {B : Nat} {A : Option Addr} {n c : Nat} {xs : List α} (h : SlR R sz bytes w B A n c xs) (hB : B ≤ w.heap.size) (o : Obj) : SlR R sz bytes (w.alloc o) B A n c xs :=
  h.below hR ((Below.refl B w).alloc hB o) (Nat.le_refl _)
theorem SlR.more {α : Type} {R : ER α} (hR : Stable R) {sz bytes : Nat} {w : World} {B B' : Nat} {A : Option Addr} {n c : Nat} {xs : List α} (h : SlR R sz bytes w B A n c xs) (hB : B ≤ B') : SlR R sz bytes w B' A n c xs :=
  h.below hR (Below.refl B w) hB

/-- the cells of a block that has just been made -/
theorem new_cells (w : World) (cs : List Value) (e : TypeId) : ∀ j u, cs[j]? = some u → (w.alloc (.cells cs.toArray e)).cell? ((⟨w.heap.size, 0, none⟩ : Addr).add j) = some u := by
  intro j u h
  have hadd : (⟨w.heap.size, 0, none⟩ : Addr).add j = ⟨w.heap.size, j, none⟩ := by unfold Addr.add; split <;> simp_all
  rw [hadd, cell_of_row _ _ j cs.toArray e (0, 0) (heap_alloc_new w _)]
  simpa using h

/-- an own slice's growth leaves all below its base -/
theorem below_own {α : Type} {R : ER α} {e : TypeId} {sz : Nat} {B0 base B : Nat} {a w w' : World} {v : Value} {xs : List α} (h : Below B0 a w) (hown : OwnL R e sz w base B v xs) (hg : w.grownBy w' v.ownBlock) (hB : B0 ≤ w.heap.size) (hb : B0 ≤ base) : Below B0 a w' :=
  h.grown hg hB (fun k hk => Nat.le_trans hb (hown.lt k hk).1)

theorem madeCells_flat (z : Value) (n : Nat) : (madeCells #[z] n).toList = (List.replicate n [z]).flatten := by
  rw [toList_madeCells_one]
  induction n with
  | zero => rfl
  | succ n ih => rw [List.replicate_succ, List.replicate_succ, List.flatten_cons, ← ih]; rfl

/-- make([]T, n), n computed by the walk, T of one cell: n times T's zero -/
theorem wpList_makeL {P : Program} {w : World} {α : Type} {R : ER α} {t e : TypeId} {bytes : Nat} {ops : Array Oper} {rest : List Oper} {o : Oper} {a : Act} {Q : Exit → Act → World → Prop}
    (hg : o.guard = none) (l c : Operand) (hop : o.op = Op.makeSlice t l c) (base B : Nat) (z : Value) (x : α) (ht : P.underlying t = some (.slice e)) (hi : (P.info? e).map (fun i => (i.zero, i.size, i.bytes)) = some (some z, 1, bytes))
    (hz : z.cells = #[z]) (hR : ∀ w B, R w B [z] x) (kl kc : IntKind) (L : Int) (hl : a.eval l = .int kl L) (hc : a.eval c = .int kc L) (h0 : 0 ≤ L) (hb : bytes * L.toNat ≤ 281474976710656) (hm : L.toNat ≤ maxLen) (hbase : base ≤ w.heap.size)
    (hK : ∀ w', OwnL R e 1 w' base B (.slice (some ⟨w.heap.size, 0, none⟩) L.toNat L.toNat) (List.replicate L.toNat x) → w.grownBy w' none → wpList P ops Q rest (a.put o.dst (.slice (some ⟨w.heap.size, 0, none⟩) L.toNat L.toNat)) w') :
    wpList P ops Q (o :: rest) a w := by
  obtain ⟨i, h1, h2, h3, h4⟩ := info_parts hi
  refine wpList_make_full w hg l c t hop base e i z 1 ht h1 h2 h3 kl kc L L L.toNat hl hc (by omega) (by omega) (by rw [h4]; exact hb) hm hbase ?_
  intro w' hown hgr
  refine hK w' ⟨List.replicate L.toNat [z], ⟨by simp, fun k cs y hcs hy => ?_⟩, ?_⟩ hgr
  · have h5 := List.eq_of_mem_replicate (List.mem_of_getElem? hcs)
    have h6 := List.eq_of_mem_replicate (List.mem_of_getElem? hy)
    subst h5; subst h6
    exact hR _ _
  · rw [hz, Nat.mul_one, madeCells_flat] at hown
    rw [List.length_replicate]
    exact hown

end Go.Proofs.Ytdldmlekjhmaaaa
