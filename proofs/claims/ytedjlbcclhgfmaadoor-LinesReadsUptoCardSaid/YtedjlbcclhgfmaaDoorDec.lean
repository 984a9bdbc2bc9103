/- From a reading ('trod') to relations on plain Lean values: integers, bools, strings, slices, structs. No program is named but by a variable P. -/
import Derived.Test.YtedjlbcclhgfmaaDoorLib
import Derived.Deep.Slices
namespace Go.Proofs.YtedjlbcclhgfmaaDoor
open Go.RowKit Go.ChangeShapes Go.WideShapes Go.Deep

def okW {H : Type} (P : Program) (t : TypeId) (d : DataW H) : Prop := (d.weights P t).all (· ≤ reachBytes) = true

/-- Whatever reads as a datum of type t, within the reach, is related by R to a plain value. -/
def Dec {α : Type} (P : Program) (t : TypeId) (sz : Nat) (R : ER α) : Prop :=
  P.cellsOf t = sz ∧ ∀ (H : Type) (enc : TypeId × Value → H) (w : World) (held : Bool) (fuel : Nat) (cs : List Value) (y : DataW H × List MemPlace),
    DataW.trod enc P w 0 (fun _ => true) held fuel t cs = some y → okW P t y.1 → cs.length = sz ∧ ∃ x, R w w.heap.size cs x

def RInt : ER Int := fun _ _ cs n => cs = [.int .i64 n] ∧ -9223372036854775808 ≤ n ∧ n ≤ 9223372036854775807
def RByte : ER Int := fun _ _ cs n => cs = [.int .u8 n] ∧ 0 ≤ n ∧ n ≤ 255
def RBool : ER Bool := fun _ _ cs b => cs = [.bool b]
def RStr : ER ByteArray := fun _ _ cs s => cs = [.string s] ∧ s.size ≤ 140737488351232
def RSlice {α : Type} (R : ER α) (sz bytes : Nat) : ER (List α) := fun w B cs xs => ∃ A n c, cs = [.slice A n c] ∧ SlR R sz bytes w B A n c xs
def RNil : ER Unit := fun _ _ cs _ => cs = []
def RCons {α β : Type} (R : ER α) (S : ER β) : ER (α × β) := fun w B cs x => ∃ a b, cs = a ++ b ∧ R w B a x.1 ∧ S w B b x.2

theorem RInt.stable : Stable RInt := fun _ _ _ _ _ _ _ _ h => h
theorem RByte.stable : Stable RByte := fun _ _ _ _ _ _ _ _ h => h
theorem RBool.stable : Stable RBool := fun _ _ _ _ _ _ _ _ h => h
theorem RStr.stable : Stable RStr := fun _ _ _ _ _ _ _ _ h => h
theorem RNil.stable : Stable RNil := fun _ _ _ _ _ _ _ _ h => h
theorem RSlice.stable {α : Type} {R : ER α} {sz bytes : Nat} (hR : Stable R) : Stable (RSlice R sz bytes) := by
  intro w w' B B' cs x hB hk h
  obtain ⟨A, n, c, hcs, h⟩ := h
  exact ⟨A, n, c, hcs, h.keep hR hB hk⟩
theorem RCons.stable {α β : Type} {R : ER α} {S : ER β} (hR : Stable R) (hS : Stable S) : Stable (RCons R S) := by
  intro w w' B B' cs x hB hk h
  obtain ⟨a, b, hcs, h1, h2⟩ := h
  exact ⟨a, b, hcs, hR _ _ _ _ _ _ hB hk h1, hS _ _ _ _ _ _ hB hk h2⟩

theorem Dec.imp {α β : Type} {P : Program} {t : TypeId} {sz : Nat} {R : ER α} {S : ER β} (h : Dec P t sz R) (himp : ∀ w B cs x, R w B cs x → ∃ y, S w B cs y) : Dec P t sz S :=
  ⟨h.1, fun H enc w held fuel cs y h1 h2 => by
    obtain ⟨hl, x, hx⟩ := h.2 H enc w held fuel cs y h1 h2
    exact ⟨hl, himp _ _ _ _ hx⟩⟩

theorem dec_int {P : Program} {t : TypeId} (ht : P.underlying t = some (.int .i64)) (hc : P.cellsOf t = 1) : Dec P t 1 RInt :=
  ⟨hc, fun H enc w held fuel cs y h _ => by
    obtain ⟨n, rfl, _, hw⟩ := DataW.trod_int ht h
    refine ⟨rfl, n, rfl, ?_⟩
    simp [Lit.wf, IntKind.min, IntKind.max, IntKind.signed, IntKind.bits] at hw
    omega⟩

theorem dec_byte {P : Program} {t : TypeId} (ht : P.underlying t = some (.int .u8)) (hc : P.cellsOf t = 1) : Dec P t 1 RByte :=
  ⟨hc, fun H enc w held fuel cs y h _ => by
    obtain ⟨n, rfl, _, hw⟩ := DataW.trod_int ht h
    refine ⟨rfl, n, rfl, ?_⟩
    simp [Lit.wf, IntKind.min, IntKind.max, IntKind.signed, IntKind.bits] at hw
    omega⟩

theorem dec_bool {P : Program} {t : TypeId} (ht : P.underlying t = some .bool) (hc : P.cellsOf t = 1) : Dec P t 1 RBool :=
  ⟨hc, fun H enc w held fuel cs y h _ => by
    obtain ⟨n, rfl, _⟩ := DataW.trod_bool ht h
    exact ⟨rfl, n, rfl⟩⟩

theorem dec_str {P : Program} {t : TypeId} (ht : P.underlying t = some .string) (hc : P.cellsOf t = 1) : Dec P t 1 RStr :=
  ⟨hc, fun H enc w held fuel cs y h hw => by
    obtain ⟨s, rfl, rfl, _⟩ := DataW.trod_string ht h
    refine ⟨rfl, s, rfl, ?_⟩
    unfold okW at hw
    simp [DataW.weights, reachBytes] at hw
    exact of_decide_eq_true hw⟩

theorem weightsAll_get {H : Type} {P : Program} {e : TypeId} : ∀ {l : List (DataW H)}, (DataW.weightsAll P e l).all (· ≤ reachBytes) = true → ∀ {i : Nat} {d : DataW H}, l[i]? = some d → okW P e d
  | [], _, i, d, hi => by simp at hi
  | a :: l, h, i, d, hi => by
    rw [DataW.weightsAll, List.all_append, Bool.and_eq_true] at h
    cases i with
    | zero => simp at hi; subst hi; exact h.1
    | succ i => exact weightsAll_get h.2 (by simpa using hi)

theorem weightsEach_get {H : Type} {P : Program} : ∀ {ts : List TypeId} {l : List (DataW H)}, (DataW.weightsEach P ts l).all (· ≤ reachBytes) = true → ∀ {i : Nat} {t : TypeId} {d : DataW H}, ts[i]? = some t → l[i]? = some d → okW P t d
  | [], _, _, i, t, d, ht, _ => by simp at ht
  | _ :: _, [], _, i, t, d, _, hd => by simp at hd
  | t0 :: ts, a :: l, h, i, t, d, ht, hd => by
    rw [DataW.weightsEach, List.all_append, Bool.and_eq_true] at h
    cases i with
    | zero => simp at ht hd; subst ht; subst hd; exact h.1
    | succ i => exact weightsEach_get h.2 (i := i) (by simpa using ht) (by simpa using hd)

theorem cell_block_lt {w : World} {a : Addr} {v : Value} (h : w.cell? a = some v) : a.block < w.heap.size ∧ a.spot = none := by
  unfold World.cell? at h
  split at h
  · rename_i c t f hh
    refine ⟨(Array.getElem?_eq_some_iff.1 hh).1, ?_⟩
    split at h
    · cases h
    · rename_i hs; simpa using hs
  · cases h

theorem dec_slice {α : Type} [Inhabited α] {P : Program} {t e : TypeId} {sz bytes : Nat} {R : ER α} (ht : P.underlying t = some (.slice e)) (hc1 : P.cellsOf t = 1) (hby : P.bytesOf e = bytes) (hpos : 0 < sz) (hE : Dec P e sz R) : Dec P t 1 (RSlice R sz bytes) := by
  refine ⟨hc1, fun H enc w held fuel cs y h hw => ?_⟩
  have hc := hE.1
  rcases open_slice ht h with ⟨rfl, _⟩ | ⟨a, len, cap, m, n, D, Pl, rfl, _, hl, hm, hmm, rfl, hi⟩
  · exact ⟨rfl, [], none, 0, 0, rfl, SlR.nil_⟩
  simp only [if_true] at hmm
  subst hmm
  refine ⟨rfl, ?_⟩
  unfold okW at hw
  simp only [DataW.weights, ht, List.all_cons, Bool.and_eq_true, decide_eq_true_eq, List.length_map, List.length_range, List.all_append] at hw
  obtain ⟨hw1, hw2, _⟩ := hw
  have hlen : len * bytes ≤ 140737488351232 := by
    have h1 : len * bytes ≤ (len + (m - len)) * bytes := Nat.mul_le_mul_right _ (by omega)
    rw [hby] at hw1
    have h2 : reachBytes = 140737488351232 := by decide
    omega
  have hx : ∀ i, i < len → ∃ x : α, ∃ cs', cs'.length = sz ∧ R w w.heap.size cs' x ∧ ∀ j, j < sz → w.cell? ((a.add (i * sz)).add j) = cs'[j]? := by
    intro i hil
    obtain ⟨cs', h1, h2⟩ := hi i (by omega)
    obtain ⟨hcl, x, hr⟩ := hE.2 H enc w held n cs' _ h2 (weightsAll_get hw2 (i := i) (by simp [hil]))
    obtain ⟨_, _, hat⟩ := World.cells?_some h1
    rw [hc] at hat
    exact ⟨x, cs', hcl, hr, hat⟩
  obtain ⟨f, hf⟩ := choose_lt hx
  refine ⟨(List.range len).map f, some a, len, m, rfl, by simp, hl, hm, hlen, fun hn => ?_⟩
  obtain ⟨cs0, hl0, _, hat0⟩ := hf 0 hn
  have hc0 : w.cell? a = some (cs0[0]'(by omega)) := by
    have := hat0 0 hpos
    rwa [Nat.zero_mul, show (a.add 0).add 0 = a from rfl, List.getElem?_eq_getElem (by omega)] at this
  obtain ⟨hb, hs⟩ := cell_block_lt hc0
  obtain ⟨b, off, spot⟩ := a
  simp only at hs hb
  subst hs
  refine ⟨b, off, rfl, hb, fun k x hk => ?_⟩
  have hkl : k < len := by
    rcases Nat.lt_or_ge k len with h1 | h1
    · exact h1
    · rw [List.getElem?_eq_none (by simpa using h1)] at hk; cases hk
  simp [hkl] at hk
  subst hk
  obtain ⟨cs', hcl, hr, hat⟩ := hf k hkl
  refine ⟨cs', hcl, hr, fun j u hu => ?_⟩
  have hj : j < sz := by
    rcases Nat.lt_or_ge j sz with h1 | h1
    · exact h1
    · rw [List.getElem?_eq_none (by omega)] at hu; cases hu
  have := hat j hj
  rw [hu, add_add] at this
  rw [← this]
  unfold Addr.add
  split
  · rename_i h0; rw [show off + k * sz + j = off by omega]
  · rw [Nat.add_assoc]

/-- a struct's fields, one behind the other -/
def FDec {α : Type} (P : Program) (l : List Field) (off total : Nat) (R : ER α) : Prop :=
  ∀ (H : Type) (enc : TypeId × Value → H) (w : World) (held : Bool) (fuel : Nat) (cs : List Value), cs.length = total →
    (∀ f ∈ l, ∃ y, DataW.trod enc P w 0 (fun _ => true) held fuel f.type ((cs.drop f.offset).take (P.cellsOf f.type)) = some y ∧ okW P f.type y.1) → ∃ x, R w w.heap.size (cs.drop off) x

theorem FDec.nil {P : Program} {off total : Nat} (h : off = total) : FDec P [] off total RNil := by
  intro H enc w held fuel cs hl _
  exact ⟨(), by unfold RNil; exact List.drop_eq_nil_of_le (by omega)⟩

theorem FDec.cons {α β : Type} {P : Program} {f : Field} {l : List Field} {off total k : Nat} {R : ER α} {S : ER β} (ho : f.offset = off) (h1 : Dec P f.type k R) (h2 : FDec P l (off + k) total S) : FDec P (f :: l) off total (RCons R S) := by
  intro H enc w held fuel cs hl hf
  obtain ⟨y, hy, hw⟩ := hf f (by simp)
  rw [h1.1, ho] at hy
  obtain ⟨_, x, hx⟩ := h1.2 H enc w held fuel _ y hy hw
  obtain ⟨z, hz⟩ := h2 H enc w held fuel cs hl (fun g hg => hf g (by simp [hg]))
  refine ⟨(x, z), (cs.drop off).take k, cs.drop (off + k), ?_, hx, hz⟩
  rw [← List.drop_drop, List.take_append_drop]

theorem dec_struct {α : Type} {P : Program} {t : TypeId} {fs : Array Field} {sz : Nat} {R : ER α} (ht : P.underlying t = some (.struct fs)) (hc : P.cellsOf t = sz) (h : FDec P fs.toList 0 sz R) : Dec P t sz R := by
  refine ⟨hc, fun H enc w held fuel cs y hy hw => ?_⟩
  obtain ⟨xs, n, _, rfl, hl, hxl, hf⟩ := DataW.trod_struct ht hy
  rw [hc] at hl
  refine ⟨hl, ?_⟩
  obtain ⟨x, hx⟩ := h H enc w held n cs hl (fun f hfm => by
    obtain ⟨i, hi, rfl⟩ := List.getElem_of_mem hfm
    have hi' : i < fs.size := by simpa using hi
    have h1 := hf i fs[i] (Array.getElem?_eq_getElem hi')
    rw [List.getElem?_eq_getElem (by omega)] at h1
    refine ⟨xs[i], by simpa using h1, ?_⟩
    unfold okW at hw
    simp only [DataW.weights, ht] at hw
    exact weightsEach_get hw (i := i) (by simp [hi']) (by simp [show i < xs.length by omega]))
  exact ⟨x, by simpa using hx⟩

/-- an argument, by its place -/
theorem Dec.arg {α : Type} {P : Program} {t : TypeId} {sz : Nat} {R : ER α} (h : Dec P t sz R) {H : Type} {enc : TypeId × Value → H} {w : World} {v : Value} {d : DataW H} {p : List MemPlace}
    (ht : DataW.Trod enc P w 0 (fun _ => true) true t v d p) (hw : okW P t d) : v.cells.toList.length = sz ∧ ∃ x, R w w.heap.size v.cells.toList x := by
  obtain ⟨fuel, hf⟩ := ht
  exact h.2 H enc w true fuel _ _ hf hw

end Go.Proofs.YtedjlbcclhgfmaaDoor
