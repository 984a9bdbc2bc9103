/- The law ConsoleShows, where what it reads is of bulk at most 1048576: it returns true and turns nothing. No condition. -/
import Derived.Test.YtedjlbcclhgfmaaDoorFF
import Derived.Test.YtedjlbcclhgfmaaDoorFrameD
import Derived.Test.YtedjlbcclhgfmaaDoorJ5
import Derived.Lay
import Derived.MakeChecks
import Derived.Stop.LaidErr
import Derived.Shelf.Vars

/- Arguments whose readings are of small bulk: the data that they read as are small, too; laws under that condition. -/
namespace Go.Proofs.YtedjlbcclhgfmaaDoor
open Go.RowKit Go.ChangeShapes Go.WideShapes Go.ChangeAt Go.Deep

/-- places of lists, and bytes of texts, in data -/
def bulkT : (t : Ty) → t.den → Nat
  | .unit, _ => 0
  | .int _, _ => 0
  | .bool, _ => 0
  | .str, s => s.size
  | .sl t, xs => xs.length + (xs.map (bulkT t)).sum
  | .pair a b, x => bulkT a x.1 + bulkT b x.2
  | .mark _ t, x => bulkT t x
/-- Whatever reads as a datum of type t is related by R to a plain value of less bulk. -/
def DecB {α : Type} (P : Program) (t : TypeId) (sz : Nat) (R : ER α) (β : α → Nat) : Prop :=
  P.cellsOf t = sz ∧ ∀ (H : Type) (enc : TypeId × Value → H) (w : World) (held : Bool) (fuel : Nat) (cs : List Value) (y : DataW H × List MemPlace),
    DataW.trod enc P w 0 (fun _ => true) held fuel t cs = some y → okW P t y.1 → cs.length = sz ∧ ∃ x, R w w.heap.size cs x ∧ β x + 1 ≤ Rows.uptoBulk y.1
theorem DecB.imp {α γ : Type} {P : Program} {t : TypeId} {sz : Nat} {R : ER α} {S : ER γ} {β : α → Nat} {b : γ → Nat} (h : DecB P t sz R β) (himp : ∀ w B cs x, R w B cs x → ∃ y, S w B cs y ∧ b y ≤ β x) : DecB P t sz S b :=
  ⟨h.1, fun H enc w held fuel cs y h1 h2 => by
    obtain ⟨hl, x, hx, hb⟩ := h.2 H enc w held fuel cs y h1 h2
    obtain ⟨z, hz, hzb⟩ := himp _ _ _ _ hx
    exact ⟨hl, z, hz, by omega⟩⟩
theorem bulk_pos {H : Type} : ∀ d : DataW H, 1 ≤ Rows.uptoBulk d
  | .lit (.string _) => by unfold Rows.uptoBulk; omega
  | .lit (.int _ _) => by unfold Rows.uptoBulk; omega
  | .lit (.bool _) => by unfold Rows.uptoBulk; omega
  | .nil => by unfold Rows.uptoBulk; omega
  | .ptr _ => by unfold Rows.uptoBulk; omega
  | .slice _ _ => by unfold Rows.uptoBulk; omega
  | .agg _ => by unfold Rows.uptoBulk; omega
  | .iface _ _ => by unfold Rows.uptoBulk; omega
  | .map _ => by unfold Rows.uptoBulk; omega
  | .held _ => by unfold Rows.uptoBulk; omega
  | .lit _ => by unfold Rows.uptoBulk; split <;> omega
/-- one cell, of no bulk -/
theorem decB_one {α : Type} {P : Program} {t : TypeId} {R : ER α} (h : Dec P t 1 R) : DecB P t 1 R fun _ => 0 :=
  ⟨h.1, fun H enc w held fuel cs y h1 h2 => by
    obtain ⟨hl, x, hx⟩ := h.2 H enc w held fuel cs y h1 h2
    exact ⟨hl, x, hx, bulk_pos _⟩⟩
theorem decB_str {P : Program} {t : TypeId} (ht : P.underlying t = some .string) (hc : P.cellsOf t = 1) : DecB P t 1 RStr fun s => s.size :=
  ⟨hc, fun H enc w held fuel cs y h hw => by
    obtain ⟨s, rfl, rfl, _⟩ := DataW.trod_string ht h
    refine ⟨rfl, s, ⟨rfl, ?_⟩, ?_⟩
    · unfold okW at hw
      simp [DataW.weights, reachBytes] at hw
      exact of_decide_eq_true hw
    · unfold Rows.uptoBulk
      show s.data.size + 1 ≤ s.data.toList.length + 1
      rw [Array.length_toList]; exact Nat.le_refl _⟩
theorem bulk_map {H : Type} {α : Type} {β : α → Nat} {f : Nat → α} {D : Nat → DataW H} : ∀ (n : Nat), (∀ i, i < n → β (f i) + 1 ≤ Rows.uptoBulk (D i)) → ∀ l : List Nat, (∀ i ∈ l, i < n) → (l.map f).length + ((l.map f).map β).sum ≤ Rows.uptoBulkAll (l.map D)
  | _, _, [], _ => Nat.zero_le _
  | n, h, i :: l, hl => by
    have h1 := bulk_map n h l fun j hj => hl j (List.mem_cons_of_mem _ hj)
    have h2 := h i (hl i List.mem_cons_self)
    show (l.map f).length + 1 + (β (f i) + ((l.map f).map β).sum) ≤ Rows.uptoBulk (D i) + Rows.uptoBulkAll (l.map D)
    omega
theorem dec_sliceB {α : Type} [Inhabited α] {P : Program} {t e : TypeId} {sz bytes : Nat} {R : ER α} {β : α → Nat} (ht : P.underlying t = some (.slice e)) (hc1 : P.cellsOf t = 1) (hby : P.bytesOf e = bytes) (hpos : 0 < sz) (hE : DecB P e sz R β) :
    DecB P t 1 (RSlice R sz bytes) fun xs => xs.length + (xs.map β).sum := by
  refine ⟨hc1, fun H enc w held fuel cs y h hw => ?_⟩
  have hc := hE.1
  rcases open_slice ht h with ⟨rfl, hy⟩ | ⟨a, len, cap, m, n, D, Pl, rfl, _, hl, hm, hmm, rfl, hi⟩
  · exact ⟨rfl, [], ⟨none, 0, 0, rfl, SlR.nil_⟩, bulk_pos _⟩
  simp only [if_true] at hmm
  subst hmm
  refine ⟨rfl, ?_⟩
  unfold okW at hw
  simp only [DataW.weights, ht, List.all_cons, Bool.and_eq_true, decide_eq_true_eq, List.length_map, List.length_range, List.all_append] at hw
  obtain ⟨hw1, hw2, _⟩ := hw
  have hlen : len * bytes ≤ 140737488351232 := by
    have h1 : len * bytes ≤ (len + (m - len)) * bytes := Nat.mul_le_mul_right _ (by omega)
    rw [hby] at hw1
    have h2 : reachBytes = 140737488351232 := by decide
    omega
  have hx : ∀ i, i < len → ∃ x : α, (∃ cs', cs'.length = sz ∧ R w w.heap.size cs' x ∧ ∀ j, j < sz → w.cell? ((a.add (i * sz)).add j) = cs'[j]?) ∧ β x + 1 ≤ Rows.uptoBulk (D i) := by
    intro i hil
    obtain ⟨cs', h1, h2⟩ := hi i (by omega)
    obtain ⟨hcl, x, hr, hbx⟩ := hE.2 H enc w held n cs' _ h2 (weightsAll_get hw2 (i := i) (by simp [hil]))
    obtain ⟨_, _, hat⟩ := World.cells?_some h1
    rw [hc] at hat
    exact ⟨x, ⟨cs', hcl, hr, hat⟩, hbx⟩
  obtain ⟨f, hf⟩ := choose_lt hx
  have hbulk : ((List.range len).map f).length + (((List.range len).map f).map β).sum + 1 ≤ Rows.uptoBulk (DataW.slice ((List.range len).map D) ((List.range (m - len)).map fun j => D (len + j)) : DataW H) := by
    have := bulk_map (f := f) (D := D) (β := β) len (fun i hi => (hf i hi).2) (List.range len) fun i hi => List.mem_range.1 hi
    show _ ≤ Rows.uptoBulkAll ((List.range len).map D) + Rows.uptoBulkAll _ + 1
    omega
  refine ⟨(List.range len).map f, ⟨some a, len, m, rfl, by simp, hl, hm, hlen, fun hn => ?_⟩, hbulk⟩
  obtain ⟨⟨cs0, hl0, _, hat0⟩, _⟩ := hf 0 hn
  have hc0 : w.cell? a = some (cs0[0]'(by omega)) := by
    have := hat0 0 hpos
    rwa [Nat.zero_mul, show (a.add 0).add 0 = a from rfl, List.getElem?_eq_getElem (by omega)] at this
  obtain ⟨hb, hs⟩ := cell_block_lt hc0
  obtain ⟨b, off, spot⟩ := a
  simp only at hs hb
  subst hs
  refine ⟨b, off, rfl, hb, fun k x hk => ?_⟩
  have hkl : k < len := by
    rcases Nat.lt_or_ge k len with h1 | h1
    · exact h1
    · rw [List.getElem?_eq_none (by simpa using h1)] at hk; cases hk
  simp [hkl] at hk
  subst hk
  obtain ⟨⟨cs', hcl, hr, hat⟩, _⟩ := hf k hkl
  refine ⟨cs', hcl, hr, fun j u hu => ?_⟩
  have hj : j < sz := by
    rcases Nat.lt_or_ge j sz with h1 | h1
    · exact h1
    · rw [List.getElem?_eq_none (by omega)] at hu; cases hu
  have := hat j hj
  rw [hu, add_add] at this
  rw [← this]
  unfold Addr.add
  split
  · rename_i h0; rw [show off + k * sz + j = off by omega]
  · rw [Nat.add_assoc]

/-- a struct's fields, one behind the other -/
def FDecB {α : Type} (P : Program) (l : List Field) (off total : Nat) (R : ER α) (β : α → Nat) : Prop :=
  ∀ (H : Type) (enc : TypeId × Value → H) (w : World) (held : Bool) (fuel : Nat) (cs : List Value) (xs : List (DataW H × List MemPlace)), cs.length = total → xs.length = l.length →
    (∀ (i : Nat) (f : Field) (y : DataW H × List MemPlace), l[i]? = some f → xs[i]? = some y → DataW.trod enc P w 0 (fun _ => true) held fuel f.type ((cs.drop f.offset).take (P.cellsOf f.type)) = some y ∧ okW P f.type y.1) →
    ∃ x, R w w.heap.size (cs.drop off) x ∧ β x ≤ Rows.uptoBulkAll (xs.map (·.1))
theorem FDecB.cons {α γ : Type} {P : Program} {f : Field} {l : List Field} {off total k : Nat} {R : ER α} {S : ER γ} {β : α → Nat} {b : γ → Nat} (ho : f.offset = off) (h1 : DecB P f.type k R β) (h2 : FDecB P l (off + k) total S b) :
    FDecB P (f :: l) off total (RCons R S) fun x => β x.1 + b x.2 := by
  intro H enc w held fuel cs xs hl hxl hf
  match xs, hxl with
  | y :: xs, hxl =>
    obtain ⟨hy, hw⟩ := hf 0 f y rfl rfl
    rw [h1.1, ho] at hy
    obtain ⟨_, x, hx, hbx⟩ := h1.2 H enc w held fuel _ y hy hw
    obtain ⟨z, hz, hbz⟩ := h2 H enc w held fuel cs xs hl (by simpa using hxl) (fun i g v hg hv => hf (i + 1) g v (by simpa using hg) (by simpa using hv))
    refine ⟨(x, z), ⟨(cs.drop off).take k, cs.drop (off + k), ?_, hx, hz⟩, ?_⟩
    · rw [← List.drop_drop, List.take_append_drop]
    · show β x + b z ≤ Rows.uptoBulk y.1 + Rows.uptoBulkAll (xs.map (·.1))
      omega
theorem dec_structB {α : Type} {P : Program} {t : TypeId} {fs : Array Field} {sz : Nat} {R : ER α} {β : α → Nat} (ht : P.underlying t = some (.struct fs)) (hc : P.cellsOf t = sz) (h : FDecB P fs.toList 0 sz R β) : DecB P t sz R β := by
  refine ⟨hc, fun H enc w held fuel cs y hy hw => ?_⟩
  obtain ⟨xs, n, _, rfl, hl, hxl, hf⟩ := DataW.trod_struct ht hy
  rw [hc] at hl
  refine ⟨hl, ?_⟩
  obtain ⟨x, hx, hb⟩ := h H enc w held n cs xs hl (by simpa using hxl) (fun i f y hfi hyi => by
    have hi' : i < fs.size := by
      have := (List.getElem?_eq_some_iff.1 hfi).1
      simpa using this
    have hff : fs[i]? = some f := by simpa using hfi
    have h1 := hf i f hff
    rw [hyi] at h1
    refine ⟨h1, ?_⟩
    unfold okW at hw
    simp only [DataW.weights, ht] at hw
    exact weightsEach_get hw (i := i) (by simp [hff]) (by simp [hyi]))
  refine ⟨x, by simpa using hx, ?_⟩
  show β x + 1 ≤ Rows.uptoBulkAll (xs.map (·.1)) + 1
  omega
theorem bulk_cat : ∀ {a b : Ty} {x : a.den} {y : b.den}, bulkT (Ty.cat a b) (catMk x y) = bulkT a x + bulkT b y
  | .unit, _, _, _ => (Nat.zero_add _).symm
  | .pair p q, b, x, y => by
    show bulkT p x.1 + bulkT (Ty.cat q b) (catMk x.2 y) = bulkT p x.1 + bulkT q x.2 + bulkT b y
    rw [bulk_cat, Nat.add_assoc]
  | .int _, _, _, _ => rfl
  | .bool, _, _, _ => rfl
  | .str, _, _, _ => rfl
  | .sl _, _, _, _ => rfl
  | .mark _ _, _, _, _ => rfl
theorem fields_decB {P : Program} {n : Nat} (hD : ∀ t, readOk P n t = true → DecB P t (tyW P n t).ty.size (RdR (tyW P n t)) (bulkT (tyW P n t).ty)) :
    ∀ {fs : List Field} {off total : Nat}, fieldsOk P (readOk P n) (fun t => (tyW P n t).ty.size) fs off total = true →
      FDecB P fs off total (RdR (fs.foldr (fun f r => (tyW P n f.type).cat r) ⟨.unit, fun _ => True⟩)) (bulkT (fs.foldr (fun f r => (tyW P n f.type).cat r) ⟨.unit, fun _ => True⟩).ty)
  | [], off, total, h => by
    simp only [fieldsOk, Nat.beq_eq] at h
    intro H enc w held fuel cs xs hl _ _
    exact ⟨(), ⟨List.drop_eq_nil_of_le (by omega), trivial⟩, Nat.zero_le _⟩
  | f :: fs, off, total, h => by
    simp only [fieldsOk, Bool.and_eq_true, Nat.beq_eq] at h
    obtain ⟨⟨h1, h2⟩, h3⟩ := h
    have := FDecB.cons h1 (hD _ h2) (fields_decB hD h3)
    intro H enc w held fuel cs xs hl hxl hf
    obtain ⟨⟨x, y⟩, ⟨a, b, e, ⟨ha, hx⟩, hb, hy⟩, hbulk⟩ := this H enc w held fuel cs xs hl hxl hf
    refine ⟨catMk x y, ⟨?_, ?_, ?_⟩, ?_⟩
    · rw [e]; exact rd_cat ha hb
    · rw [catFst_mk]; exact hx
    · rw [catSnd_mk]; exact hy
    · exact Nat.le_trans (Nat.le_of_eq bulk_cat) hbulk
theorem dec_tyB {P : Program} : ∀ {n : Nat} {t : TypeId}, readOk P n t = true → DecB P t (tyW P n t).ty.size (RdR (tyW P n t)) (bulkT (tyW P n t).ty)
  | 0, _, h => by simp [readOk] at h
  | n + 1, t, h => by
    have h0 := h
    unfold readOk at h
    split at h
    · rename_i hu
      simp only [Nat.beq_eq] at h
      have e : tyW P (n + 1) t = ⟨.pair .bool .unit, fun _ => True⟩ := by unfold tyW; rw [hu]
      rw [e]
      exact (decB_one (dec_bool hu h)).imp fun w B cs x hx => ⟨(x, ()), ⟨rd_nilPair (t := .bool) hx, trivial⟩, Nat.le_refl _⟩
    · rename_i k hu
      simp only [Nat.beq_eq] at h
      have e : tyW P (n + 1) t = ⟨.pair (.int k) .unit, fun x => k.min ≤ x.1 ∧ x.1 ≤ k.max⟩ := by unfold tyW; rw [hu]
      have hd := dec_ty h0
      rw [e] at hd ⊢
      exact (decB_one hd).imp fun w B cs x hx => ⟨x, hx, Nat.le_refl _⟩
    · rename_i hu
      simp only [Nat.beq_eq] at h
      have e : tyW P (n + 1) t = ⟨.pair .str .unit, fun x => x.1.size ≤ 140737488351232⟩ := by unfold tyW; rw [hu]
      rw [e]
      exact (decB_str hu h).imp fun w B cs x hx => ⟨(x, ()), ⟨rd_nilPair (t := .str) hx.1, hx.2⟩, Nat.le_refl _⟩
    · rename_i el hu
      simp only [Bool.and_eq_true, Nat.beq_eq, Nat.blt_eq] at h
      obtain ⟨⟨h1, h2⟩, h3⟩ := h
      have e : tyW P (n + 1) t = ⟨.pair (.sl (tyW P n el).ty) .unit, fun x => x.1.length * P.bytesOf el ≤ 140737488351232 ∧ ∀ y ∈ x.1, (tyW P n el).ok y⟩ := by
        conv => lhs; unfold tyW
        rw [hu]
      rw [e]
      letI : Inhabited (tyW P n el).ty.den := ⟨Ty.dflt _⟩
      refine (dec_sliceB hu h1 rfl h3 (dec_tyB h2)).imp fun w B cs x hx => ?_
      obtain ⟨A, m, c, rfl, hl, hc, hmax, hby, hat⟩ := hx
      refine ⟨(x, ()), ⟨rd_nilPair (t := .sl _) ⟨A, m, c, rfl, hl, hc, fun hm => ?_⟩, by rw [hl]; exact hby, fun y hy => ?_⟩, Nat.le_refl _⟩
      · obtain ⟨b, off, hA, hb, he⟩ := hat hm
        refine ⟨b, off, hA, hb, fun k hk => ?_⟩
        obtain ⟨us, hul, hr, hcells⟩ := he k x[k] (List.getElem?_eq_getElem hk)
        exact ⟨us, hr.1, hul, hcells⟩
      · obtain ⟨k, hk, rfl⟩ := List.getElem_of_mem hy
        have hk' : k < m := by rw [← hl]; exact hk
        obtain ⟨b, off, hA, hb, he⟩ := hat (Nat.lt_of_le_of_lt (Nat.zero_le k) hk')
        obtain ⟨us, hul, hr, hcells⟩ := he k x[k] (List.getElem?_eq_getElem hk)
        exact hr.2
    · rename_i fs hu
      simp only [Bool.and_eq_true, Nat.beq_eq] at h
      have e : tyW P (n + 1) t = fs.toList.foldr (fun f r => (tyW P n f.type).cat r) ⟨.unit, fun _ => True⟩ := by
        conv => lhs; unfold tyW
        rw [hu]
      rw [← h.2, e]
      exact dec_structB hu rfl (fields_decB (fun t ht => dec_tyB ht) h.1)
    · cases h

def bulkTs (P : Program) : (ts : List TypeId) → denTs P ts → Nat
  | [], _ => 0
  | t :: ts, x => bulkT (tyW P 8 t).ty x.1 + bulkTs P ts x.2
def bulkL : (l : List (Bool × TyW)) → denL l → Nat
  | [], _ => 0
  | p :: l, x => bulkT p.2.ty x.1 + bulkL l x.2
section
variable {H : Type} {enc : TypeId × Value → H} {P : Program} {W : World} {N : Blk} {ρ : Nat → Pl} {m : Mem}
theorem arg_oneB {base : Nat} {t : TypeId} {v : Value} {d : DataW H} {p : List MemPlace} (hr : readOk P 8 t = true) (hok : Value.okWide P W .any base t v)
    (ht : DataW.Trod enc P W 0 (fun _ => true) true t v d p) (hw : okW P t d) : ∃ x : (tyW P 8 t).ty.den, (tyW P 8 t).ok x ∧ bulkT (tyW P 8 t).ty x ≤ Rows.uptoBulk d ∧ SVR W (fun b => b < W.heap.size) ρ m (.v (isAggT P t) (cellsOf (tyW P 8 t).ty x)) v := by
  obtain ⟨fuel, htr⟩ := ht
  obtain ⟨hl, x, ⟨hx, hxo⟩, hb⟩ := (dec_tyB hr).2 H enc W true fuel _ _ htr hw
  refine ⟨x, hxo, Nat.le_trans (Nat.le_succ _) hb, ?_⟩
  have hc : All2 (CR W (fun b => b < W.heap.size) ρ m) (cellsOf (tyW P 8 t).ty x) v.cells.toList := hx.cells
  cases ha : isAggT P t with
  | true =>
    unfold isAggT at ha
    split at ha
    · rename_i dsc hu
      unfold Value.okWide at hok
      rw [hu] at hok
      cases dsc <;> simp only [isAggD, Bool.false_eq_true] at ha
      all_goals
        obtain ⟨cs, rfl, _⟩ := hok
        exact ⟨cs.toList, by simp, by simpa [Value.cells] using hc⟩
    · cases ha
  | false =>
    have hone : v.cells = #[v] := by
      have hr0 := hr
      unfold readOk at hr0
      split at hr0
      · rename_i hu; obtain ⟨b, rfl⟩ := okWide_bool hu hok; rfl
      · rename_i hu; obtain ⟨b, rfl⟩ := okWide_int hu hok; rfl
      · rename_i hu; obtain ⟨b, rfl⟩ := okWide_string hu hok; rfl
      · rename_i hu; obtain ⟨a, b, c, rfl⟩ := okWide_slice hu hok; rfl
      · rename_i hu; unfold isAggT at ha; rw [hu] at ha; cases ha
      · cases hr0
    rw [hone] at hc
    generalize cellsOf (tyW P 8 t).ty x = cs at hc
    cases hc with
    | cons h1 h2 => cases h2; exact ⟨_, rfl, h1⟩
theorem args_allB {base : Nat} : ∀ {ts : List TypeId} {vs : List Value} {ds : List (DataW H)} {p : List MemPlace}, (∀ t ∈ ts, readOk P 8 t = true) →
    (∀ (j : Nat) (t : TypeId) (v : Value), ts[j]? = some t → vs[j]? = some v → Value.okWide P W .any base t v) → DataW.TrodAll enc P W 0 (fun _ => true) true ts vs ds p → (DataW.weightsEach P ts ds).all (· ≤ reachBytes) = true →
    ∃ x : denTs P ts, okTs P ts x ∧ bulkTs P ts x ≤ Rows.uptoBulkAll ds ∧ All2 (SVR W (fun b => b < W.heap.size) ρ m) (svsOf P ts x) vs
  | [], vs, ds, p, _, _, h, _ => by
    cases vs with
    | nil => exact ⟨(), trivial, Nat.zero_le _, .nil⟩
    | cons v vs => cases ds <;> exact h.elim
  | t :: ts, vs, ds, p, hr, hok, h, hw => by
    obtain ⟨v, vs1, d, ds1, a, b, rfl, rfl, rfl, h1, h2⟩ := trodAll_cons h
    have hw1 : okW P t d := weightsEach_get hw (i := 0) rfl rfl
    have hw2 : (DataW.weightsEach P ts ds1).all (· ≤ reachBytes) = true := by
      rw [DataW.weightsEach, List.all_append, Bool.and_eq_true] at hw; exact hw.2
    obtain ⟨x, hx, hxb, hsv⟩ := arg_oneB (ρ := ρ) (m := m) (hr t (by simp)) (hok 0 t v rfl rfl) h1 hw1
    obtain ⟨y, hy, hyb, hsvs⟩ := args_allB (fun t ht => hr t (by simp [ht])) (fun j t v hj hv => hok (j + 1) t v (by simpa using hj) (by simpa using hv)) h2 hw2
    exact ⟨(x, y), ⟨hx, hy⟩, by show bulkT _ x + bulkTs P ts y ≤ Rows.uptoBulk d + Rows.uptoBulkAll ds1; omega, .cons hsv hsvs⟩
end
theorem svs_LB {P : Program} : ∀ {ts : List TypeId} (x : denTs P ts), ∃ y : denL (readsL P ts), svsL (readsL P ts) y = svsOf P ts x ∧ (okTs P ts x → okL (readsL P ts) y) ∧ bulkL (readsL P ts) y = bulkTs P ts x
  | [], _ => ⟨(), rfl, fun _ => trivial, rfl⟩
  | t :: ts, x => by
    obtain ⟨y, h1, h2, h3⟩ := svs_LB x.2
    refine ⟨(x.1, y), ?_, fun h => ⟨h.1, h2 h.2⟩, ?_⟩
    · show _ :: svsL (readsL P ts) y = _
      rw [h1]
      rfl
    · show bulkT _ x.1 + bulkL (readsL P ts) y = _
      rw [h3]; rfl
/-- THE WALK OF A LAW over tables, where what it reads is of small bulk. -/
theorem law_walkLGU {H : Type} {enc : TypeId × Value → H} {E : Env} (hE : E.Ok) (G : World → Prop) (hg : ∀ W, G W → ∀ g gl, E.glob g = some gl → GlobR W (fun b => b < W.heap.size) g gl) {K : FuncId} {f : Func} (hf : E.P.funcs[K]? = some f) (hr : f.params.toList.all (readOk E.P 8) = true)
    (L : List (Bool × TyW)) (hL : readsL E.P f.params.toList = L) (A : denL L → Nat → St → Option Ann) (VC : denL L → Prop)
    (he : ∀ x : denL L, afn E (A x) f (svsL L x) [] [] [.slot 0 false .bool] (fun y => y = (true, ())) = VC x) (h : ∀ x : denL L, okL L x → bulkL L x ≤ 1048576 → VC x) :
    ∀ (W : World) (base : Nat) (args : Array Value) (ds : List (DataW H)) (p : List MemPlace), DataW.TrodAll enc E.P W 0 (fun _ => true) true f.params.toList args.toList ds p →
      (∀ (j : Nat) (t : TypeId) (v : Value), f.params[j]? = some t → args[j]? = some v → Value.okWide E.P W .any base t v) →
      (DataW.weightsEach E.P f.params.toList ds).all (· ≤ reachBytes) = true → Rows.uptoBulkAll ds ≤ 1048576 → G W →
      Calls E.P K args W fun e W' => e = .returned (.bool true) ∧ Below W.heap.size W W' := by
  subst hL
  intro W base args ds p hA hval hsz hU hG
  obtain ⟨x0, hx0, hxb, hsv⟩ := args_allB (ρ := fun _ => pl0 none 0) (m := memOf []) (fun t ht => by simpa using List.all_eq_true.1 hr t ht) (fun j t v hj hv => hval j t v (by simpa using hj) (by simpa using hv)) hA hsz
  obtain ⟨x, hs1, hs2, hs3⟩ := svs_LB x0
  have hvc := h x (hs2 hx0) (by omega)
  rw [← he x] at hvc
  rw [← hs1] at hsv
  have hids : ∀ s ∈ svsL (readsL E.P f.params.toList) x, idsS s = [] := fun s hs => by
    rw [hs1] at hs
    exact svs_ids s hs
  have hno : ∀ b, ¬ Own (fun _ => pl0 none 0) (memOf []) b := fun b ⟨id, o, ho, _⟩ => by cases ho
  have := spec_of hE (A x) hf hvc (fun y hy => hy) W (fun b => b < W.heap.size) (fun _ => pl0 none 0) args.toList (hg W hG)
    ⟨(fun id o ho => by cases ho), (fun id id' o o' b ho => by cases ho), fun b _ => hno b, fun b hb => hb⟩ hsv (fun s hs id hid => by rw [hids s hs] at hid; cases hid) (fun n o ho => by cases ho)
  rw [show args.toList.toArray = args by simp] at this
  refine this.mono fun e W' he => ?_
  obtain ⟨v, ρ', N', rfl, _, _, _, hv, hs, _, _⟩ := he
  obtain ⟨c, hc, hv⟩ := hv
  have hc : [C.bool true] = [c] := hc
  simp only [List.cons.injEq, and_true] at hc
  subst hc
  have hv : v = .bool true := hv
  subst hv
  exact ⟨rfl, hs.os, hs.tape, hs.output, hs.size, fun k hk => hs.keep k hk (hno k)⟩

/-- what a law's frame hands to its walk, where what is read is of small bulk -/
def WalkU (H : Type) (enc : TypeId × Value → H) (K : FuncId) (f : Func) (laid : List (String × DataW Unit)) : Prop :=
  ∀ (W : World) (base : Nat) (args : Array Value) (ds : List (DataW H)) (p : List MemPlace), DataW.TrodAll enc Tryd.prog W 0 (fun _ => true) true f.params.toList args.toList ds p →
      (∀ (j : Nat) (t : TypeId) (v : Value), f.params[j]? = some t → args[j]? = some v → Value.okWide Tryd.prog W .any base t v) →
      (DataW.weightsEach Tryd.prog f.params.toList ds).all (· ≤ reachBytes) = true → Rows.uptoBulkAll ds ≤ 1048576 → laidMetH Tryd.prog laid W → W.ShapedOpen Tryd.prog →
      Calls Tryd.prog K args W fun e W' => e = .returned (.bool true) ∧ Below W.heap.size W W'
set_option maxRecDepth 100000 in
/-- THE FRAME, where what is read is of small bulk. -/
theorem lift_cardU {H : Type} {enc : TypeId × Value → H} {os : Os} {F : Stop.Interp} (started : os.Started) (K : FuncId) (f : Func) (s : ChangeSpec) (laid : List (String × DataW Unit)) (hfn : Tryd.prog.funcs[K]? = some f) (noInit : Tryd.prog.inits.idxOf? K = none)
    (hvars : s.vars = []) (hrt : f.resultTypes = #[4]) (hread : f.params.toList.all (fun t => Tryd.prog.readableRec t && decide (t < Tryd.prog.types.size)) = true)
    (hspec : ∀ ds : List (DataW H), ds.length = f.params.toList.length → s.fn H ds = { results := [.lit (.bool true)], args := ds })
    (witness : ∃ (w : World) (tape : Tape) (i : Input), w.os = os ∧ (w.forCall tape i).Shaped Tryd.checked.prog ∧ i.vars = [] ∧ Input.okWide Tryd.checked.prog (w.forCall tape i) .any w.heap.size K i ∧
      (Rows.OpenSpec.upto s).preRow enc Tryd.checked.prog f [] false laid (w.forCall tape i).memory i.args ∧ ({} : Assume).holds Tryd.checked.prog (lone (Frame.enter Tryd.checked.prog K i.args .normal) [] (w.forCall tape i)))
    (walk : WalkU H enc K f laid) :
    ReturnsInHanded {} Tryd.checked os K .any ((Rows.OpenSpec.upto s).preRow enc Tryd.prog f [] false laid) (((Rows.OpenSpec.upto s).at F).post enc Tryd.prog f false true false false) := by
  refine returnsInHanded_of_row (C := Tryd.checked) (s := Rows.OpenSpec.upto s) Tryd.own started noInit hfn witness ?_
  intro W base args ds gs before hval0 hW _ hcond hsz hL hSh _
  have hW' := hW
  obtain ⟨p, q, hA0, hV, rfl, hfz, hnd⟩ := hW
  have hV' : DataW.TrodVars enc Tryd.prog W (fun _ => true) [] gs q := by rw [← hvars]; exact hV
  obtain ⟨rfl, rfl⟩ := trodVars_none hV'
  have hU : Rows.uptoBulkAll ds ≤ 1048576 := by
    have := hcond Rows.uptoSmall rfl
    rw [List.append_nil] at this
    exact of_decide_eq_true this
  have hA : DataW.TrodAll enc Tryd.prog W 0 (fun _ => true) true f.params.toList args.toList ds p := hA0
  have hlt : ∀ x ∈ p, x.block < W.heap.size := fun x hx => hW'.lt x (by simpa using hx)
  have hlen : ∀ {ts : List TypeId} {vs : List Value} {ds : List (DataW H)} {p : List MemPlace}, DataW.TrodAll enc Tryd.prog W 0 (fun _ => true) true ts vs ds p → ds.length = ts.length := by
    intro ts
    induction ts with
    | nil => intro vs ds p h; cases vs <;> cases ds <;> first | rfl | exact h.elim
    | cons t ts ih =>
      intro vs ds p h
      obtain ⟨v, vs1, d, ds1, a, b, rfl, rfl, rfl, h1, h2⟩ := trodAll_cons h
      simp [ih h2]
  have hs := hspec ds (hlen hA)
  have hvt : (Rows.OpenSpec.upto s).bare.plain.varTypes Tryd.checked.prog = [] := by
    show DataSpec.varTypes _ s.plain = []
    simp [DataSpec.varTypes, ChangeSpec.plain, hvars]
  rw [hvt, List.append_nil, List.append_nil] at hsz
  refine (walk W base args ds p hA hval0 hsz hU hL hSh).mono fun e W' ⟨he, hb⟩ => ?_
  subst he
  refine ⟨_, rfl, ?_⟩
  show s.post enc Tryd.prog f false true false false W args _ W'
  refine post_of_below (pa := p) (pv := []) hW' ?_ ?_ ?_ (by simp) hb ?_
  · intro b sp hd
    rw [List.append_nil, hs, hrt]
    exact trodAll_mk1 (shut_bool Tryd.underlying4 true)
  · intro sp hsp
    rw [List.append_nil, hs]
    refine trodAll_stays Tryd.laidOut hb (fun t ht => ?_) hA hlt (fun x hx => hsp x (by simpa using hx))
    have := List.all_eq_true.1 hread t ht
    simpa using this
  · intro sp hsp
    rw [hvars, List.append_nil, hs]
    rfl
  · exact ok_one hrt rfl (okWide_bool_mk Tryd.underlying4 true)


end Go.Proofs.YtedjlbcclhgfmaaDoor

/- Closed facts of the whole program, each a theorem of its own (together in one declaration they pass the memory's lid). -/
namespace Go.Proofs.YtedjlbcclhgfmaaDoor
open Go.RowKit Go.ChangeShapes Go.WideShapes Go.ChangeAt

theorem and_b {a b : Bool} (h : a = true) (h' : b = true) : (a && b) = true := by rw [h, h']; rfl
theorem pg_mapsRowed : mapsRowed Tryd.prog = true := by kernel_rfl
theorem pg_stops : (Tryd.prog.stops == []) = true := by kernel_rfl
theorem pg_stopKnobs : (Tryd.prog.stopKnobs == []) = true := by kernel_rfl
theorem pg_plainKeys : (Rows.consoleShowsUptoRow.plainKeys == Tryd.prog.plainKeys) = true := by kernel_rfl
theorem pg_stopsHeard : Tryd.prog.stopsHeard = true := by kernel_rfl
theorem pg_mayEnter : Tryd.prog.mayEnter = true := by kernel_rfl
theorem pg_lifted : (Rows.consoleShowsUptoRow.lifted == Tryd.prog.liftsFinal) = true := by kernel_rfl
theorem pg_make : (Tryd.prog.make == some Rows.consoleShowsUptoRow.make) = true := by kernel_rfl
theorem pg_main : Tryd.pinned.checked.prog.mainIs = some ((true, "5ad421cb08b26c948f2e77e7cdb4a2f0b17b646645aac497d2f1ceeb78a4a55f").1, (true, "5ad421cb08b26c948f2e77e7cdb4a2f0b17b646645aac497d2f1ceeb78a4a55f").2.toList) := by kernel_rfl
theorem pg_looks : true = Tryd.pinned.checked.prog.looks [] := by kernel_rfl


end Go.Proofs.YtedjlbcclhgfmaaDoor

/- The law ConsoleShows, where what it reads is of bulk at most 1048576: it returns true and turns nothing. No condition. -/
namespace Go.Proofs.YtedjlbcclhgfmaaDoor
open Go.RowKit Go.ChangeShapes Go.WideShapes Go.ChangeAt Go.Deep

theorem var_row {W : World} {n : String} {g : Nat} {vals : Array Value} (hg : Tryd.prog.globalNamed n = some g) (h : W.var? Tryd.prog n = some vals) : ∃ T fz, W.heap[g]? = some (.cells vals T fz) := by
  unfold World.var? at h
  rw [hg, Option.bind_some] at h
  split at h
  · rename_i cs T fz e
    cases h
    exact ⟨T, fz, e⟩
  · cases h
theorem glob_cells {W : World} {g : Nat} {vals : Array Value} {T : TypeId} {fz : Nat × Nat} {cs : List C} (h : W.heap[g]? = some (.cells vals T fz)) (ha : All2 (CR W (fun b => b < W.heap.size) (fun _ => pl0 none 0) (fun _ => none)) cs vals.toList) (hi : idsCs cs = []) :
    GlobR W (fun b => b < W.heap.size) g (.cells cs) :=
  ⟨(Array.getElem?_eq_some_iff.1 h).1, vals, T, fz, h, ha, hi⟩
theorem ints_all {W : World} {N : Blk} {ρ : Nat → Pl} {m : Mem} {k : IntKind} : ∀ zs : List Int, All2 (CR W N ρ m) (zs.map (C.int k)) (zs.map (Value.int k))
  | [] => .nil
  | _ :: zs => .cons rfl (ints_all zs)
set_option maxRecDepth 100000 in
theorem laidTabs {W : World} (h : laidMetH Tryd.prog Rows.consoleShowsUptoRow.laid W) : TabsP W := by
  rw [MakeChecks.laidMetH_plain _ _ _ (by kernel_rfl)] at h
  have h2 : laidMet Tryd.prog (("internal/strconv.uint64pow10", Go.Lib.tabData .u64 Go.Lib.pow10Tab) :: _) W := laidMet.tail (laidMet.tail h)
  have hv := Go.Lib.tabIs_of_head (g := 3) (t := 173) (e := 154) (n := 20) (by kernel_rfl) (by kernel_rfl) Tryd.underlying173 Tryd.underlying154 (by kernel_rfl) (by kernel_rfl) h2
  obtain ⟨T, fz, e⟩ := var_row (g := 3) (by kernel_rfl) hv
  have G0 : GlobR W (fun b => b < W.heap.size) 3 (.cells (Go.Lib.pow10Tab.map (C.int .u64))) := glob_cells e (ints_all _) rfl
  intro g gl hgl
  unfold tabsP at hgl
  rw [look_cons] at hgl
  split at hgl
  · rename_i h; subst h; cases hgl; exact G0
  cases hgl

noncomputable def laidWorld_ (os : Os) : World := World.laidAll Tryd.prog os Rows.consoleShowsUptoRow.laid
def wit : Array Value := #[.agg #[.int .i64 0, .slice none 0 0, .int .i64 0], .int .i64 0, .slice none 0 0, .slice none 0 0, .agg #[.int .i64 0, .int .i64 0, .int .i64 0, .int .i64 0, .bool false]]
theorem laid_met_ (os : Os) : laidMet Tryd.prog Rows.consoleShowsUptoRow.laid ((laidWorld_ os).forCall (fun _ _ => 0) ⟨#[], wit, []⟩).memory :=
  laidMet_laidAll _ (by kernel_rfl) (by kernel_rfl)
def red (H : Type) : List (DataW H) := [.agg [.lit (.int .i64 0), .nil, .lit (.int .i64 0)], .lit (.int .i64 0), .nil, .nil, .agg [.lit (.int .i64 0), .lit (.int .i64 0), .agg [.lit (.int .i64 0), .lit (.int .i64 0)], .lit (.bool false)]]
theorem reads_ (os : Os) {H : Type} (enc : TypeId × Value → H) : ∃ places, DataW.whole enc Tryd.prog ((laidWorld_ os).forCall (fun _ _ => 0) ⟨#[], wit, []⟩).memory Tryd.f4.params.toList Rows.consoleShowsSpec.vars false wit.toList 8 = some (red H, [], places) :=
  ⟨[], by kernel_rfl⟩
theorem red_small {H : Type} : Rows.uptoSmall H (red H ++ []) = true := by kernel_rfl

set_option maxRecDepth 100000 in
theorem consoleShows_walkU {H : Type} {enc : TypeId × Value → H} (hShow : MtG tabsP 9 cShow) (hShownOf : MtG tabsP 10 cShownOf) (h : ∀ (x : denL [(true, wCfg), (false, wInt), (false, (wSl wSto 96)), (false, (wSl (wSl wNote 24) 24)), (true, wCmd)]), okL [(true, wCfg), (false, wInt), (false, (wSl wSto 96)), (false, (wSl (wSl wNote 24) 24)), (true, wCmd)] x → bulkL [(true, wCfg), (false, wInt), (false, (wSl wSto 96)), (false, (wSl (wSl wNote 24) 24)), (true, wCmd)] x ≤ 1048576 → ConsoleShows_VC x.1 x.2.1.1 x.2.2.1.1 x.2.2.2.1.1 x.2.2.2.2.1) : ∀ (W : World) (base : Nat) (args : Array Value) (ds : List (DataW H)) (p : List MemPlace), DataW.TrodAll enc Tryd.prog W 0 (fun _ => true) true Tryd.f4.params.toList args.toList ds p → (∀ (j : Nat) (t : TypeId) (v : Value), Tryd.f4.params[j]? = some t → args[j]? = some v → Value.okWide Tryd.prog W .any base t v) → (DataW.weightsEach Tryd.prog Tryd.f4.params.toList ds).all (· ≤ reachBytes) = true → Rows.uptoBulkAll ds ≤ 1048576 → TabsP W → Calls Tryd.prog 4 args W fun e W1 => e = .returned (.bool true) ∧ Below W.heap.size W W1 :=
  law_walkLGU (E := envOfG Tryd.prog tabsP [(9, (false, cShow)), (10, (false, cShownOf))] eqsCtxV) (envOfG_ok (fun p hp => (by simp only [List.mem_cons, List.not_mem_nil, or_false] at hp; rcases hp with rfl | rfl; exact hShow; exact hShownOf)) (by kernel_rfl)) TabsP tabsP_ok Tryd.func4 (by kernel_rfl) [(true, wCfg), (false, wInt), (false, (wSl wSto 96)), (false, (wSl (wSl wNote 24) 24)), (true, wCmd)] (by kernel_rfl) (fun x => fun ky9 st9 => look [] ky9) (fun x => ConsoleShows_VC x.1 x.2.1.1 x.2.2.1.1 x.2.2.2.1.1 x.2.2.2.2.1) (fun x => by kernel_rfl) h

theorem sum_le {α : Type} {f g : α → Nat} : ∀ {l : List α}, (∀ a ∈ l, f a ≤ g a) → (l.map f).sum ≤ (l.map g).sum
  | [], _ => Nat.le_refl _
  | a :: l, h => by
    have h1 := sum_le (l := l) fun b hb => h b (List.mem_cons_of_mem _ hb)
    have h2 := h a List.mem_cons_self
    show f a + (l.map f).sum ≤ g a + (l.map g).sum
    omega
theorem bulk_two (x1 : wCfg.ty.den) (x2 : wInt.ty.den) (ss : List StoD) (ns : List NotesD) (x5 : wCmd.ty.den) (h : bulkL [(true, wCfg), (false, wInt), (false, (wSl wSto 96)), (false, (wSl (wSl wNote 24) 24)), (true, wCmd)] (x1, x2, (ss, ()), (ns, ()), x5, ()) ≤ 1048576) : pBulk ss ns := by
  have h : bulkT wCfg.ty x1 + (bulkT wInt.ty x2 + ((ss.length + (ss.map (bulkT wSto.ty)).sum + 0) + ((ns.length + (ns.map (bulkT (wSl wNote 24).ty)).sum + 0) + (bulkT wCmd.ty x5 + 0)))) ≤ 1048576 := h
  have h1 : totS ss ≤ (ss.map (bulkT wSto.ty)).sum := sum_le fun s _ => by
    obtain ⟨a, b, c, d, _⟩ := s
    show c.length ≤ (a.length + (a.map (bulkT wItem.ty)).sum) + ((b.length + (b.map (bulkT wLock.ty)).sum) + ((c.length + (c.map (bulkT wDoubt.ty)).sum) + ((d.length + (d.map (bulkT wTxn.ty)).sum) + 0)))
    omega
  have h2 : totN ns ≤ (ns.map (bulkT (wSl wNote 24).ty)).sum := sum_le fun s _ => by
    obtain ⟨a, _⟩ := s
    show a.length ≤ (a.length + (a.map (bulkT wNote.ty)).sum) + 0
    omega
  unfold pBulk
  omega
theorem shows_walked (c : CfgD) (l : Int) (ss : List StoD) (ns : List NotesD) (x : CmdD) (hb : pBulk ss ns) (h1 : c.2.1.length * 16 ≤ 140737488351232) (h2 : ss.length * 96 ≤ 140737488351232) (h3 : ns.length * 24 ≤ 140737488351232)
    (h4 : ∀ q ∈ ss, q.1.length * 24 ≤ 140737488351232 ∧ q.2.1.length * 48 ≤ 140737488351232 ∧ q.2.2.1.length * 24 ≤ 140737488351232 ∧ q.2.2.2.1.length * 16 ≤ 140737488351232) (h5 : ∀ q ∈ ns, q.1.length * 24 ≤ 140737488351232) : ConsoleShows_VC c l ss ns x := by
  have k1 : c.2.1.length < 4611686018427387904 := by omega
  have k2 : ss.length < 4611686018427387904 := by omega
  have k3 : ns.length < 4611686018427387904 := by omega
  have k4 : ∀ q ∈ ss, q.1.length < 4611686018427387904 ∧ q.2.1.length < 4611686018427387904 ∧ q.2.2.1.length < 4611686018427387904 ∧ q.2.2.2.1.length < 4611686018427387904 := fun q hq => by
    obtain ⟨a, b, c, d⟩ := h4 q hq
    exact ⟨by omega, by omega, by omega, by omega⟩
  have k5 : ∀ q ∈ ns, q.1.length < 4611686018427387904 := fun q hq => by have := h5 q hq; omega
  refine ⟨?_, ?_, k1, k2, k3, k4, k5, hb, k1, k2, k3, k4, k5, hb, ?_⟩
  · show (0 + ss.length) * 96 ≤ 140737488351232
    omega
  · show (0 + ns.length) * 24 ≤ 140737488351232
    omega
  · show bif pStrEq (shwS c l ss ns x) (shwS c l ss ns x) then ((pEq (shwE c l ss ns x) (shwE c l ss ns x), ()) = (true, ())) else _
    rw [bif_true (strEq_iff.2 rfl)]
    exact congrArg (·, ()) (by simp [pEq])

set_option maxRecDepth 100000 in
theorem consoleShows_lifted (os : Os) (started : os.Started) (H : Type) (enc : TypeId × Value → H) (F : Stop.Interp) :
    ReturnsInHanded {} Tryd.checked os 4 .any ((Rows.OpenSpec.upto Rows.consoleShowsSpec).preRow enc Tryd.prog Tryd.f4 Rows.consoleShowsUptoRow.domain false Rows.consoleShowsUptoRow.laid) (((Rows.OpenSpec.upto Rows.consoleShowsSpec).at F).post enc Tryd.prog Tryd.f4 false true false false) := by
  obtain ⟨places, hx⟩ := reads_ os enc
  refine lift_cardU started _ _ Rows.consoleShowsSpec Rows.consoleShowsUptoRow.laid Tryd.func4 (by kernel_rfl) rfl rfl (by kernel_rfl) ?_
    (witness_row_at (enc := enc) (C := Tryd.checked) false (laidWorld_ os) wit (World.laidAll_os _ _ _) (by kernel_rfl) (by kernel_rfl) (by kernel_rfl)
      (OpenSpec.preRow_of_cond 8 hx (by kernel_rfl) (fun k hk => by obtain rfl := Option.some.inj hk; exact red_small) (by kernel_rfl) (laid_met_ os))) ?_
  · intro ds hds
    match ds, hds with
    | [_, _, _, _, _], _ => rfl
  · intro W base args ds p hA hval hsz hU hL hsh
    refine consoleShows_walkU Show_ok ShownOf_ok.any (fun x h hb => ?_) W base args ds p hA hval hsz hU (laidTabs hL)
    obtain ⟨x1, x2, ⟨ss, _⟩, ⟨ns, _⟩, x5, _⟩ := x
    have c1 : x1.2.1.length * 16 ≤ 140737488351232 := h.1.2.1.1
    have c2 : ss.length * 96 ≤ 140737488351232 := h.2.2.1.1
    have c3 : ns.length * 24 ≤ 140737488351232 := h.2.2.2.1.1
    exact shows_walked _ _ _ _ _ (bulk_two x1 x2 ss ns x5 hb) c1 c2 c3 (fun q hq => ⟨(h.2.2.1.2 q hq).1.1, (h.2.2.1.2 q hq).2.1.1, (h.2.2.1.2 q hq).2.2.1.1, (h.2.2.1.2 q hq).2.2.2.1.1⟩) fun q hq => (h.2.2.2.1.2 q hq).1

set_option maxRecDepth 100000 in
set_option maxHeartbeats 4000000 in
theorem consoleShows_closed : joinedFacts Tryd.prog 4 Tryd.f4 (Rows.OpenSpec.upto Rows.consoleShowsSpec).bare Rows.consoleShowsUptoRow = true := by
  unfold joinedFacts
  exact and_b (and_b (and_b (and_b (and_b (and_b (and_b (and_b (and_b (and_b (and_b (and_b (and_b (and_b (and_b (and_b (and_b (and_b (and_b (and_b (and_b (and_b (and_b (and_b (and_b (and_b (and_b (and_b (and_b (and_b (and_b ((by kernel_rfl)) Tryd.laidOut) pg_mapsRowed) (by kernel_rfl)) (by kernel_rfl)) (by kernel_rfl)) pg_stops) (by kernel_rfl)) pg_stopKnobs) (by kernel_rfl)) (by kernel_rfl)) (by kernel_rfl)) (by kernel_rfl)) (by kernel_rfl)) (by kernel_rfl)) (by kernel_rfl)) (by kernel_rfl)) (by kernel_rfl)) (by kernel_rfl)) (by kernel_rfl)) (by kernel_rfl)) (by kernel_rfl)) pg_plainKeys) (by kernel_rfl)) pg_stopsHeard) pg_mayEnter) pg_lifted) pg_make) (by kernel_rfl)) (by kernel_rfl)) (by kernel_rfl)) (by kernel_rfl)

theorem consoleShows_said : Rows.ConsoleShowsUptoSaid :=
  OpenClaim.holds_of_cond 4 Tryd.f4 rfl rfl rfl rfl rfl rfl rfl ⟨rfl, rfl, rfl, rfl, rfl⟩ rfl rfl rfl rfl rfl (by kernel_rfl) Tryd.func4 consoleShows_closed
    (of_decide_eq_true (by kernel_rfl)) (by unfold Func.isWrapper; rw [if_neg (of_decide_eq_false (by kernel_rfl))]; exact ⟨rfl, rfl⟩)
    (fun os started H enc _ F => by rw [OpenClaim.pre_eq_preRow]; exact consoleShows_lifted os started H enc F)

theorem consoleShows_stand : Tryd.f4.params.all (fun t => !Tryd.pinned.checked.prog.wantsStandIn t) = true := by kernel_rfl
theorem consoleShows_plain (f : FuncId) (fn : Func) (hf : Tryd.pinned.checked.prog.funcNamed "reredos/reredoslaw.ConsoleShows" = some f) (hfn : Tryd.pinned.checked.prog.funcs[f]? = some fn) :
    true = Tryd.pinned.checked.prog.looks [] ∧ ∀ (j : Nat) t, fn.params[j]? = some t → Tryd.pinned.checked.prog.wantsStandIn t = false := by
  obtain rfl : f = 4 := Option.some.inj ((show Tryd.prog.funcNamed "reredos/reredoslaw.ConsoleShows" = some 4 by kernel_rfl).symm.trans hf) |>.symm
  obtain rfl : fn = Tryd.f4 := (Option.some.inj (Tryd.func4.symm.trans hfn)).symm
  refine ⟨pg_looks, fun j t ht => ?_⟩
  have h := Array.all_eq_true_iff_forall_mem.1 consoleShows_stand t (Array.mem_of_getElem? ht)
  simpa using h
theorem consoleShows_wf : Rows.consoleShowsUptoRow.wfByText (Rows.OpenSpec.upto Rows.consoleShowsSpec) = true := by kernel_rfl
theorem consoleShows_goes : false = Rows.consoleShowsUptoRow.goesBy Tryd.pinned.checked.prog := by kernel_rfl

/-- ConsoleShows: the statement. -/
theorem consoleShows_holds : Rows.ConsoleShowsUptoCardSaid :=
  Claim7.holds_tied_plain_at .later [] _ _ _ _ consoleShows_said (fun _ h => by cases h) consoleShows_wf (fun _ h => by cases h) consoleShowsUpto_row_tie rfl ⟨rfl, rfl⟩ pg_main rfl consoleShows_plain consoleShows_goes


end Go.Proofs.YtedjlbcclhgfmaaDoor
