/- THE MACHINE OF READINGS, texts EV to FB as one. -/
import Derived.Test.YtedjlbcclhgfmaaDoorM3
import Derived.Laws.StructEq
/- THE MACHINE OF READINGS, part V: what changes from round to round. -/
namespace Go.Proofs.YtedjlbcclhgfmaaDoor
open Go.RowKit

section
variable {E : Env} {w0 : World} {X Z : Blk} {a : Act} {w w' : World} {s s1 : St} {ρ1 ρ' : Nat → Pl} {N N' : Blk} {m m1 m' : Mem}

theorem uncell1_ok {t : Ty} {c : C} {x : t.den} {v : Value} (he : uncell1 t c = some x) (h : CR w N ρ1 m1 c v) : CR w N ρ' m' (cell1 t x) v := by
  cases t with
  | unit => exact h.one
  | mark ow t => simp [uncell1] at he
  | pair a b => simp [uncell1] at he
  | int k =>
    cases c <;> simp only [uncell1, reduceCtorEq] at he
    split at he
    · rename_i hk; subst hk; simp only [Option.some.injEq] at he; subst he; exact h
    · cases he
  | bool => cases c <;> simp only [uncell1, reduceCtorEq, Option.some.injEq] at he; subst he; exact h
  | str => cases c <;> simp only [uncell1, reduceCtorEq, Option.some.injEq] at he; subst he; exact h
  | sl t =>
    cases c <;> simp only [uncell1, reduceCtorEq] at he
    · simp only [Option.some.injEq] at he
      subst he
      obtain ⟨A, rfl⟩ := h
      exact ⟨A, 0, 0, rfl, rfl, Nat.le_refl _, fun h => absurd h (by omega)⟩
    · split at he
      · rename_i ht; subst ht; simp only [Option.some.injEq] at he; subst he; exact h
      · cases he

theorem cell1_ids {t : Ty} {x : t.den} : idsC (cell1 t x) = [] := by cases t <;> rfl
/-- an object's place and length stay -/
def Keep1 (ρ1 : Nat → Pl) (m1 : Mem) (ρ' : Nat → Pl) (m' : Mem) (id : Nat) : Prop := ρ' id = ρ1 id ∧ ∀ o' z, m' id = some o' → o'.rw = some z → ∃ o, m1 id = some o ∧ o.rw = some z
theorem kPut0_ids {t : Ty} {x : t.den} : ∀ id ∈ idsC (kPut0 t x), id ∈ keepT false t := by
  intro id hid
  unfold kPut0 at hid
  split at hid
  · rename_i ns
    unfold keepC at hid
    split at hid
    · simpa [idsC, keepT] using hid
    · simpa [idsC, keepT] using hid
    · simpa [idsC, keepT] using hid
    · simp [idsC] at hid
  · cases hid
  · rw [cell1_ids] at hid; cases hid
theorem kRead0_ok {t : Ty} {c : C} {x : t.den} {v : Value} (he : kRead0 t c = some x) (h : CR w N ρ1 m1 c v) (hk : ∀ id ∈ keepT false t, Keep1 ρ1 m1 ρ' m' id) : CR w N ρ' m' (kPut0 t x) v := by
  have other : uncell1 t c = some x → CR w N ρ' m' (cell1 t x) v := fun he => uncell1_ok he h
  cases t with
  | mark ns t =>
    cases t with
    | unit =>
      simp only [kRead0] at he
      show CR w N ρ' m' (keepC ns) v
      cases hc : isKept ns c with
      | false => rw [hc] at he; cases he
      | true =>
        unfold isKept at hc
        split at hc
        · rename_i n n'
          have := Nat.eq_of_beq_eq_true hc
          subst this
          obtain ⟨k1, k2⟩ := hk n (by simp [keepT])
          refine ⟨h.1, fun o' z hm hz => ?_⟩
          obtain ⟨o, ho, hz'⟩ := k2 o' z hm hz
          rw [h.2 o z ho hz', k1]
        · rename_i n off n' off'
          simp only [Bool.and_eq_true] at hc
          have e1 := Nat.eq_of_beq_eq_true hc.1
          have e2 := Nat.eq_of_beq_eq_true hc.2
          subst e1 e2
          obtain ⟨k1, _⟩ := hk n (by simp [keepT])
          obtain ⟨b, hb, hv⟩ := h
          exact ⟨b, by rw [k1]; exact hb, hv⟩
        · rename_i n T _ n' T'
          simp only [Bool.and_eq_true] at hc
          have e1 := Nat.eq_of_beq_eq_true hc.1
          have e2 := Nat.eq_of_beq_eq_true hc.2
          subst e1 e2
          obtain ⟨k1, _⟩ := hk n (by simp [keepT])
          refine ⟨by rw [k1]; exact h.1, ?_⟩
          rcases h.2 with h | ⟨b, hb, hv⟩
          · exact .inl h
          · exact .inr ⟨b, by rw [k1]; exact hb, hv⟩
        · cases hc
    | mark ms u =>
      cases ns with
      | cons _ _ => simp [kRead0, uncell1] at he
      | nil =>
        cases ms with
        | nil => simp [kRead0, uncell1] at he
        | cons n r =>
          cases r with
          | cons _ _ => simp [kRead0, uncell1] at he
          | nil =>
            cases u with
            | unit =>
              simp only [kRead0] at he
              show CR w N ρ' m' (.int .i64 (.ofNat n)) v
              cases hc : isLit n c with
              | false => rw [hc] at he; cases he
              | true =>
                unfold isLit at hc
                split at hc
                · have := Nat.eq_of_beq_eq_true hc
                  subst this
                  exact h
                · cases hc
            | _ => simp [kRead0, uncell1] at he
    | _ => simp [kRead0, uncell1] at he
  | _ => exact other he
def isMark' : Ty → Bool
  | .mark _ _ => true
  | _ => false
/-- a row, of whatever kind -/
def Rowy (o : Obj) : Prop := (∃ z, o.rw = some z) ∧ idsO o = []
theorem kObj_rowy : ∀ {t : Ty} {x : List t.den}, Rowy (kObj t x)
  | .mark _ _, _ => ⟨⟨_, rfl⟩, rfl⟩
  | .unit, _ => ⟨⟨_, rfl⟩, rfl⟩
  | .int _, _ => ⟨⟨_, rfl⟩, rfl⟩
  | .bool, _ => ⟨⟨_, rfl⟩, rfl⟩
  | .str, _ => ⟨⟨_, rfl⟩, rfl⟩
  | .sl _, _ => ⟨⟨_, rfl⟩, rfl⟩
  | .pair _ _, _ => ⟨⟨_, rfl⟩, rfl⟩

/-- rows that are taken on: numbers from n to n', the blocks that they hold (src), and whose they were -/
structure Took (ρ1 : Nat → Pl) (m1 : Mem) (n n' : Nat) (pl : Nat → Pl) (src : Nat → Nat → Prop) (ids : List Nat) : Prop where
  was : ∀ id b, n ≤ id → id < n' → src id b → ∃ i ∈ ids, ∃ o, m1 i = some o ∧ (∃ z, o.rw = some z) ∧ Bl (ρ1 i) o b
  inj : ∀ id id' b, n ≤ id → id < n' → n ≤ id' → id' < n' → src id b → src id' b → id = id'

theorem Took.none {n : Nat} {pl : Nat → Pl} {src : Nat → Nat → Prop} : Took ρ1 m1 n n pl src [] :=
  ⟨fun id _ h1 h2 => absurd h2 (by omega), fun id _ _ h1 h2 => absurd h2 (by omega)⟩

theorem Took.join {w : World} {N : Blk} (h : MR w N ρ1 m1) {n k n' : Nat} {pl pl' : Nat → Pl} {src src' : Nat → Nat → Prop} {ids ids' : List Nat} (h1 : Took ρ1 m1 n k pl src ids) (h2 : Took ρ1 m1 k n' pl' src' ids') (hd : ∀ i ∈ ids, i ∉ ids') :
    Took ρ1 m1 n n' (fun id => if id < k then pl id else pl' id) (fun id => if id < k then src id else src' id) (ids ++ ids') := by
  have no : ∀ b, (∃ i ∈ ids, ∃ o, m1 i = some o ∧ (∃ z, o.rw = some z) ∧ Bl (ρ1 i) o b) → (∃ i ∈ ids', ∃ o, m1 i = some o ∧ (∃ z, o.rw = some z) ∧ Bl (ρ1 i) o b) → False := by
    rintro b ⟨i, hi, o, a1, _, a2⟩ ⟨i', hi', o', b1, _, b2⟩
    have := h.inj i i' o o' b a1 b1 a2 b2
    subst this
    exact hd i hi hi'
  constructor
  · intro id b ha hb hc
    by_cases hk : id < k
    · simp only [hk, if_true] at hc
      obtain ⟨i, g1, g2⟩ := h1.was id b ha hk hc
      exact ⟨i, List.mem_append_left _ g1, g2⟩
    · simp only [hk, if_false] at hc
      obtain ⟨i, g1, g2⟩ := h2.was id b (by omega) hb hc
      exact ⟨i, List.mem_append_right _ g1, g2⟩
  · intro id id' b ha hb ha' hb' hc hc'
    by_cases hk : id < k <;> by_cases hk' : id' < k
    · simp only [hk, hk', if_true] at hc hc'
      exact h1.inj id id' b ha hk ha' hk' hc hc'
    · simp only [hk, hk', if_true, if_false] at hc hc'
      exact (no b (h1.was id b ha hk hc) (h2.was id' b (by omega) hb' hc')).elim
    · simp only [hk, hk', if_true, if_false] at hc hc'
      exact (no b (h1.was id' b ha' hk' hc') (h2.was id b (by omega) hb hc)).elim
    · simp only [hk, hk', if_false] at hc hc'
      exact h2.inj id id' b (by omega) hb (by omega) hb' hc hc'

theorem distinct_append : ∀ {l r : List Nat}, distinct (l ++ r) = true → distinct l = true ∧ distinct r = true ∧ ∀ i ∈ l, i ∉ r
  | [], r, h => ⟨rfl, h, fun _ h => by cases h⟩
  | x :: l, r, h => by
    simp only [List.cons_append, distinct, Bool.and_eq_true, Bool.not_eq_true'] at h
    obtain ⟨h1, h2, h3⟩ := distinct_append h.2
    have hx : x ∉ l ++ r := by
      intro hin
      have : (l ++ r).contains x = true := by simpa using hin
      rw [h.1] at this; cases this
    simp only [List.mem_append, not_or] at hx
    refine ⟨?_, h2, fun i hi => ?_⟩
    · simp only [distinct, Bool.and_eq_true, Bool.not_eq_true']
      exact ⟨by simpa using hx.1, h1⟩
    · rcases List.mem_cons.1 hi with rfl | hi
      · exact hx.2
      · exact h3 i hi

/-- the places of a row with own rows in it, behind its reading -/
def markSub (ρ : Nat → Pl) (i : Nat) (d : Nst) (us : List Value) : Nat → Nat → Option Addr × Nat := match d.op with
  | none => (ρ i).sub
  | some (g, oc) => fun k j => if k = g then kidSub ρ (nestGo d.ow oc 0 (cellsOf d.t (pGet d.t d.xs g))) us k j else (ρ i).sub k j

theorem mark_ok (h : MR w N ρ1 m1) {i : Nat} {d : Nst} (hm : m1 i = some (.nest d)) {xs : List d.t.den} (hx : flatD m1 d = some xs) :
    ∃ sb, (∀ k j b, Kid ⟨(ρ1 i).A, (ρ1 i).cap, sb⟩ ⟨d.t, d.ow, xs, none⟩ k j b → ∃ y ∈ i :: (opCs d.op).flatMap hsC, ∃ o, m1 y = some o ∧ (∃ z, o.rw = some z) ∧ Bl (ρ1 y) o b) ∧
      ∀ ρ' (m' : Mem) n, ρ' n = ⟨(ρ1 i).A, (ρ1 i).cap, sb⟩ → ObjR w N ρ' m' n (.nest ⟨d.t, d.ow, xs, none⟩) := by
  have hob := h.obj i _ hm
  have hlen := flatD_len hx
  have hkids := flatD_kids hx
  have tr : ∀ {ρ' : Nat → Pl} {m' : Mem} {cs : List C} {us : List Value}, idsCs cs = [] → All2 (CR w N ρ1 m1) (nestGo d.ow [] 0 cs) us → All2 (CR w N ρ' m') (nestGo d.ow [] 0 cs) us := fun hids ha => ha.turn (F := fun _ => True) ⟨fun id hid => absurd trivial hid, fun id _ _ hid => absurd trivial hid⟩ (fun _ h => h) (fun _ _ => rfl) fun id hid => by
    rcases nestGo_ids hid with hid | hid
    · rw [hids] at hid; cases hid
    · cases hid
  rcases flatD_some hx with ⟨hop, rfl⟩ | ⟨g, oc, y, hop, hz, rfl⟩
  · -- closed
    obtain ⟨hl, _, hr, hk, hd1, hd2⟩ := hob
    have hsh : ∀ k, d.shut k := fun k g oc e => by rw [hop] at e; cases e
    have hoc : ∀ k, d.oc k = [] := fun k => by unfold Nst.oc; rw [hop]
    have kk : ∀ k j b, Kid ⟨(ρ1 i).A, (ρ1 i).cap, (ρ1 i).sub⟩ ⟨d.t, d.ow, d.xs, none⟩ k j b → Kid (ρ1 i) d k j b := fun k j b hb => ⟨hb.1, hb.2.1, hsh k, hb.2.2.2.1, hb.2.2.2.2⟩
    refine ⟨(ρ1 i).sub, fun k j b hb => ⟨i, by simp, _, hm, ⟨_, rfl⟩, .inr ⟨k, j, kk k j b hb⟩⟩, fun ρ' m' n hp => ⟨by rw [hp]; exact hl, fun g oc e => (nomatch e), fun hc => ?_, fun k hk1 _ j hj => by rw [hp]; exact hk k hk1 (hsh k) j hj, fun k j k' j' b e1 e2 => by rw [hp] at e1 e2; exact hd1 k j k' j' b (kk _ _ _ e1) (kk _ _ _ e2), fun k j b e1 => by rw [hp] at e1 ⊢; exact hd2 k j b (kk _ _ _ e1)⟩⟩
    rw [hp] at hc ⊢
    obtain ⟨b, vals, T, e1, e2, e3, e4⟩ := hr hc
    refine ⟨b, vals, T, e1, e2, e3, fun k hk' => ?_⟩
    obtain ⟨us, g1, g2, g3, g4⟩ := e4 k hk'
    rw [hoc k] at g2
    exact ⟨us, g1, tr (cellsOf_ids _ _) g2, g3, fun _ => g4 (hsh k)⟩
  · -- an element is told
    have hob' := hob
    obtain ⟨hl, hg, hr, hk, hd1, hd2⟩ := hob
    have hgl := hg g oc hop
    obtain ⟨b0, vals, T, e1, e2, e3, e4⟩ := hr (by omega)
    obtain ⟨us, g1, g2, g3, _⟩ := e4 g hgl
    have hocg : d.oc g = oc := by unfold Nst.oc; rw [hop]; simp
    rw [hocg] at g2
    have hock : ∀ k, k ≠ g → d.oc k = [] := fun k hk => by unfold Nst.oc; rw [hop]; simp [hk]
    have hshk : ∀ k, k ≠ g → d.shut k := fun k hk g' oc' e => by rw [hop] at e; simp only [Option.some.injEq, Prod.mk.injEq] at e; rw [← e.1]; exact hk
    have hlx : ∀ k, k ≠ g → pGet d.t (pSet d.xs g y) k = pGet d.t d.xs k := fun k hk => by
      unfold pGet pSet
      rw [List.getD_eq_getElem?_getD, List.getD_eq_getElem?_getD, List.getElem?_set_ne (fun e => hk e.symm)]
    have hly : pGet d.t (pSet d.xs g y) g = y := by
      rw [pGet_get (by simp [pSet]; exact hgl)]; simp [pSet]
    have hsame := asD_same hz
    have hop2 : opCs d.op = oc.map (·.2) := by rw [hop]; rfl
    have hchk : (oc.map (·.2)).all (ownKid m1) = true ∧ distinct ((oc.map (·.2)).flatMap hsC) = true ∧ ∀ j ∈ d.ow, j < d.t.size ∧ ∃ c, look oc j = some c := by
      have hx := (flatD_0 hx).2
      unfold flatD0 at hx
      rw [hop] at hx
      simp only at hx
      cases hc : ((oc.map (·.2)).all (ownKid m1) && distinct ((oc.map (·.2)).flatMap hsC) && d.ow.all (fun j => Nat.blt j d.t.size && (look oc j).isSome)) with
      | false => rw [hc] at hx; cases hx
      | true =>
        simp only [Bool.and_eq_true] at hc
        refine ⟨hc.1.1, hc.1.2, fun j hj => ?_⟩
        have := List.all_eq_true.1 hc.2 j hj
        simp only [Bool.and_eq_true, Nat.blt_eq] at this
        exact ⟨this.1, Option.isSome_iff_exists.1 this.2⟩
    obtain ⟨hka, hdist, hin⟩ := hchk
    have lk : ∀ {oc : List (Nat × C)} {j : Nat} {c : C}, look oc j = some c → ∃ q : Nat, oc[q]? = some (j, c) := by
      intro oc
      induction oc with
      | nil => intro j c h; simp [look] at h
      | cons p oc ih =>
        intro j c h
        obtain ⟨q, c'⟩ := p
        rw [look_cons] at h
        split at h
        · rename_i e; subst e; simp only [Option.some.injEq] at h; subst h; exact ⟨0, rfl⟩
        · obtain ⟨x, hx⟩ := ih h; exact ⟨x + 1, by simpa using hx⟩
    have lmap : ∀ {oc : List (Nat × C)} {j : Nat}, look (oc.map fun p => (p.1, roCell m1 p.2)) j = (look oc j).map (roCell m1) := by
      intro oc j
      induction oc with
      | nil => rfl
      | cons p oc ih =>
        rw [List.map_cons, look_cons, look_cons]
        by_cases hp : p.1 = j
        · rw [if_pos hp, if_pos hp]; rfl
        · rw [if_neg hp, if_neg hp]; exact ih
    have hcl : (cellsOf d.t (pGet d.t d.xs g)).length = d.t.size := by have := g2.len; rw [nestGo_len] at this; omega
    -- what an own cell of that element is
    have kids : ∀ j, j ∈ d.ow → ∃ t' ys v, (cellsOf d.t y)[j]? = some (.sl t' ys) ∧ us[j]? = some v ∧ v = .slice (kidSub ρ1 (nestGo d.ow oc 0 (cellsOf d.t (pGet d.t d.xs g))) us g j).1 ys.length (kidSub ρ1 (nestGo d.ow oc 0 (cellsOf d.t (pGet d.t d.xs g))) us g j).2 ∧
        RowAt w N (kidSub ρ1 (nestGo d.ow oc 0 (cellsOf d.t (pGet d.t d.xs g))) us g j).1 (kidSub ρ1 (nestGo d.ow oc 0 (cellsOf d.t (pGet d.t d.xs g))) us g j).2 t' ys ∧
        (0 < (kidSub ρ1 (nestGo d.ow oc 0 (cellsOf d.t (pGet d.t d.xs g))) us g j).2 → ∃ id, look oc j = some (.hs id) ∧ (∃ o', m1 id = some o' ∧ (∃ z, o'.rw = some z) ∧ ∀ b, (kidSub ρ1 (nestGo d.ow oc 0 (cellsOf d.t (pGet d.t d.xs g))) us g j).1 = some ⟨b, 0, none⟩ → Bl (ρ1 id) o' b)) := by
      intro j hj
      have how : d.ow.contains j = true := by simpa using hj
      obtain ⟨hjl, c0, hc0⟩ := hin j hj
      have hjc : j < (cellsOf d.t (pGet d.t d.xs g)).length := by omega
      have hcs : (nestGo d.ow oc 0 (cellsOf d.t (pGet d.t d.xs g)))[j]? = some c0 := by
        rw [nestGo_get, Nat.zero_add, how, hc0, List.getElem?_eq_getElem hjc]; rfl
      have hkid : ownKid m1 c0 = true := by
        obtain ⟨q, hq⟩ := lk hc0
        exact List.all_eq_true.1 hka c0 (List.mem_map.2 ⟨(j, c0), List.mem_of_getElem? hq, rfl⟩)
      obtain ⟨c', hc', hs'⟩ := hsame.get j (a := roCell m1 c0) (by rw [nestGo_get, Nat.zero_add, how, lmap, hc0, List.getElem?_eq_getElem hjc]; rfl)
      obtain ⟨t', ys, v, f1, f2, f3, f4, f5⟩ := kid_row h (fun _ _ h => h) g2 hcs hkid hs' (cellsOf_nil (List.mem_of_getElem? hc')) (k := g)
      subst f1
      refine ⟨t', ys, v, hc', f2, f3, f4, fun h0 => ?_⟩
      obtain ⟨id, f6, o', f7, f8⟩ := f5 h0
      subst f6
      obtain ⟨_, t9, ys9, f9⟩ := ownKid_row (i := id) hkid (by simp [hsC])
      rw [f9] at f7
      simp only [Option.some.injEq] at f7
      subst f7
      exact ⟨id, hc0, _, f9, ⟨_, rfl⟩, f8⟩
    have hsb : ∀ k j, markSub ρ1 i d us k j = if k = g then kidSub ρ1 (nestGo d.ow oc 0 (cellsOf d.t (pGet d.t d.xs g))) us k j else (ρ1 i).sub k j := fun k j => by unfold markSub; rw [hop]
    have hlen2 : (pSet d.xs g y).length = d.xs.length := by simp [pSet]
    have kidc : ∀ k j b, Kid ⟨(ρ1 i).A, (ρ1 i).cap, markSub ρ1 i d us⟩ ⟨d.t, d.ow, pSet d.xs g y, none⟩ k j b → (k = g ∧ ∃ id o', look oc j = some (.hs id) ∧ j ∈ d.ow ∧ m1 id = some o' ∧ (∃ z, o'.rw = some z) ∧ Bl (ρ1 id) o' b) ∨ (k ≠ g ∧ Kid (ρ1 i) d k j b) := by
      intro k j b ⟨a1, a2, _, a4, a5⟩
      have a1 : k < d.xs.length := by rw [← hlen2]; exact a1
      simp only at a4 a5
      rw [hsb] at a4 a5
      by_cases hkg : k = g
      · rw [if_pos hkg] at a4 a5
        subst hkg
        obtain ⟨_, _, _, _, _, _, _, f5⟩ := kids j a2
        obtain ⟨id, f6, o', f7, f8, f9⟩ := f5 a4
        exact .inl ⟨rfl, id, o', f6, a2, f7, f8, f9 b a5⟩
      · rw [if_neg hkg] at a4 a5
        exact .inr ⟨hkg, a1, a2, hshk k hkg, a4, a5⟩
    have hnot : ∀ id j, look oc j = some (.hs id) → id ≠ i := fun id j hl e => by
      obtain ⟨q, hq⟩ := lk hl
      have := List.all_eq_true.1 hka (.hs id) (List.mem_map.2 ⟨(j, .hs id), List.mem_of_getElem? hq, rfl⟩)
      obtain ⟨_, t9, ys9, f9⟩ := ownKid_row (i := id) this (by simp [hsC])
      rw [e, hm] at f9; cases f9
    refine ⟨markSub ρ1 i d us, fun k j b hb => ?_, fun ρ' m' n hp => ?_⟩
    · rcases kidc k j b hb with ⟨_, id, o', f1, f2, f3, f4, f5⟩ | ⟨_, f1⟩
      · refine ⟨id, List.mem_cons_of_mem _ ?_, o', f3, f4, f5⟩
        rw [hop2]
        obtain ⟨q, hq⟩ := lk f1
        exact List.mem_flatMap.2 ⟨.hs id, List.mem_map.2 ⟨(j, .hs id), List.mem_of_getElem? hq, rfl⟩, by simp [hsC]⟩
      · exact ⟨i, by simp, _, hm, ⟨_, rfl⟩, .inr ⟨k, j, f1⟩⟩
    · have hsub : (ρ' n).sub = markSub ρ1 i d us := by rw [hp]
      refine ⟨by rw [hp]; show (pSet d.xs g y).length ≤ _ ∧ _; rw [hlen2]; exact hl, fun g' oc' e => (nomatch e), fun hc => ?_, fun k hk1 _ j hj => ?_, fun k j k' j' b f1 f2 => ?_, fun k j b f1 => ?_⟩
      · rw [hp] at hc ⊢
        refine ⟨b0, vals, T, e1, e2, e3, fun k hk' => ?_⟩
        have hk' : k < d.xs.length := by rw [← hlen2]; exact hk'
        show ∃ us' : List Value, us'.length = d.t.size ∧ All2 (CR w N ρ' m') (nestGo d.ow [] 0 (cellsOf d.t (pGet d.t (pSet d.xs g y) k))) us' ∧ (∀ (j : Nat) (u : Value), us'[j]? = some u → vals[k * d.t.size + j]? = some u) ∧ (_ → ∀ j t' ys', j ∈ d.ow → (cellsOf d.t (pGet d.t (pSet d.xs g y) k))[j]? = some (.sl t' ys') → us'[j]? = some (.slice (markSub ρ1 i d us k j).1 ys'.length (markSub ρ1 i d us k j).2))
        by_cases hkg : k = g
        · subst hkg
          rw [hly]
          refine ⟨us, g1, all2_of_get (by rw [nestGo_len, ← hsame.len, nestGo_len]; omega) fun q c v hc hv => ?_, g3, fun _ j t' ys' hj hcj => ?_⟩
          · rw [nestGo_get, Nat.zero_add] at hc
            cases hcy : (cellsOf d.t y)[q]? with
            | none => rw [hcy] at hc; cases hc
            | some cy =>
              rw [hcy] at hc
              simp only [Option.map_some, Option.some.injEq] at hc
              obtain ⟨cf, hcf, hs⟩ := hsame.getR q hcy
              rw [nestGo_get, Nat.zero_add] at hcf
              cases hcx : (cellsOf d.t (pGet d.t d.xs k))[q]? with
              | none => rw [hcx] at hcf; cases hcf
              | some cx =>
                rw [hcx] at hcf
                simp only [Option.map_some, Option.some.injEq] at hcf
                obtain ⟨v', hv', hcr⟩ := g2.get q (a := cond (d.ow.contains q) ((look oc q).getD .un) cx) (by rw [nestGo_get, Nat.zero_add, hcx]; rfl)
                rw [hv] at hv'
                simp only [Option.some.injEq] at hv'
                subst hv'
                cases how : d.ow.contains q with
                | true => rw [how] at hc; simp only [cond_true, look, Option.getD_none] at hc; subst hc; exact hcr.one
                | false =>
                  rw [how] at hc hcf hcr
                  simp only [cond_false] at hc hcf hcr
                  subst hc hcf
                  have hci : idsC cx = [] := by
                    have := cellsOf_ids d.t (pGet d.t d.xs k)
                    unfold idsCs at this
                    rw [List.flatMap_eq_nil_iff] at this
                    exact this cx (List.mem_of_getElem? hcx)
                  exact CR.same hs (hcr.turn (F := fun _ => True) ⟨fun id hid => absurd trivial hid, fun id _ _ hid => absurd trivial hid⟩ (fun _ h => h) (fun _ _ => rfl) fun id hid => by rw [hci] at hid; cases hid)
          · obtain ⟨t2, ys2, v, f1, f2, f3, _⟩ := kids j hj
            rw [f1] at hcj
            simp only [Option.some.injEq, C.sl.injEq] at hcj
            obtain ⟨rfl, hcj⟩ := hcj
            have hcj := eq_of_heq hcj
            subst hcj
            rw [f2, f3, hsb, if_pos rfl]
        · rw [hlx k hkg]
          obtain ⟨us', f1, f2, f3, f4⟩ := e4 k hk'
          rw [hock k hkg] at f2
          exact ⟨us', f1, tr (cellsOf_ids _ _) f2, f3, fun _ j t' ys' hj hcj => by rw [hsb, if_neg hkg]; exact f4 (hshk k hkg) j t' ys' hj hcj⟩
      · have hk1 : k < d.xs.length := by rw [← hlen2]; exact hk1
        show ∃ t' ys', (cellsOf d.t (pGet d.t (pSet d.xs g y) k))[j]? = some (.sl t' ys') ∧ RowAt w N ((ρ' n).sub k j).1 ((ρ' n).sub k j).2 t' ys'
        rw [hsub, hsb]
        by_cases hkg : k = g
        · subst hkg
          rw [hly, if_pos rfl]
          obtain ⟨t2, ys2, v, f1, f2, f3, f4, _⟩ := kids j hj
          exact ⟨t2, ys2, f1, f4⟩
        · rw [hlx k hkg, if_neg hkg]
          exact hk k hk1 (hshk k hkg) j hj
      · rw [hp] at f1 f2
        rcases kidc k j b f1 with ⟨a1, i1, o1, a2, a3, a4, a5, a6⟩ | ⟨a1, a2⟩ <;> rcases kidc k' j' b f2 with ⟨b1, i2, o2, b2, b3, b4, b5, b6⟩ | ⟨b1, b2⟩
        · have := h.inj i1 i2 o1 o2 b a4 b4 a6 b6
          subst this
          refine ⟨by rw [a1, b1], ?_⟩
          obtain ⟨q1, hq1⟩ := lk a2
          obtain ⟨q2, hq2⟩ := lk b2
          have e3 := distinct_flat (a := q1) (b := q2) (id := i1) hdist (by rw [List.getElem?_map, hq1]; rfl) (by rw [List.getElem?_map, hq2]; rfl)
          subst e3
          rw [hq1] at hq2
          simp only [Option.some.injEq, Prod.mk.injEq] at hq2
          exact hq2.1
        · exact absurd (h.inj i1 i o1 _ b a4 hm a6 (.inr ⟨k', j', b2⟩)) (hnot i1 j a2)
        · exact absurd (h.inj i2 i o2 _ b b4 hm b6 (.inr ⟨k, j, a2⟩)) (hnot i2 j' b2)
        · exact hd1 k j k' j' b a2 b2
      · rw [hp] at f1 ⊢
        rcases kidc k j b f1 with ⟨a1, i1, o1, a2, a3, a4, a5, a6⟩ | ⟨a1, a2⟩
        · intro e
          exact hnot i1 j a2 (h.inj i1 i o1 _ b a4 hm a6 (.inl ⟨show 0 < (ρ1 i).cap by omega, e⟩))
        · exact hd2 k j b a2

theorem kObj_rw : ∀ {t : Ty} {x : List t.den}, ∃ s, (kObj t x).rw = some (s, x.length)
  | .mark _ _, _ => ⟨_, rfl⟩
  | .unit, _ => ⟨_, rfl⟩
  | .int _, _ => ⟨_, rfl⟩
  | .bool, _ => ⟨_, rfl⟩
  | .str, _ => ⟨_, rfl⟩
  | .sl _, _ => ⟨_, rfl⟩
  | .pair _ _, _ => ⟨_, rfl⟩
theorem kObj_plain : ∀ {t : Ty} {x : List t.den}, isMark' t = false → kObj t x = .row t x
  | .mark _ _, _, h => by cases h
  | .unit, _, _ => rfl
  | .int _, _, _ => rfl
  | .bool, _, _ => rfl
  | .str, _, _ => rfl
  | .sl _, _, _ => rfl
  | .pair _ _, _, _ => rfl
theorem aElems_cases {t : Ty} {c : C} {x : List t.den} (key : (match c with
    | .sl _ _ => none
    | .sz => if (tiedT t).isSome then some [] else none
    | .nil => if (tiedT t).isSome then none else some []
    | c => aElems m t c) = some x) : (c = .nil ∧ x = [] ∧ tiedT t = none) ∨ (c = .sz ∧ x = []) ∨ ∃ i, c = .hs i ∧ m i = some (.row t x) := by
  split at key
  · cases key
  · split at key
    · exact .inr (.inl ⟨rfl, (Option.some.inj key).symm⟩)
    · cases key
  · split at key
    · cases key
    · rename_i hn
      refine .inl ⟨rfl, (Option.some.inj key).symm, ?_⟩
      cases hq : tiedT t with
      | none => rfl
      | some e => rw [hq] at hn; exact absurd rfl hn
  · rename_i n1 n2 n3
    cases c with
    | hs i =>
      simp only [aElems] at key
      split at key
      · rename_i t' xs hm
        split at key
        · rename_i htt; subst htt; simp only [Option.some.injEq] at key; subst key; exact .inr (.inr ⟨i, rfl, hm⟩)
        · cases key
      · cases key
    | nil => exact absurd rfl n3
    | sl t' xs => exact absurd rfl (n1 _ _)
    | _ => simp [aElems] at key
theorem kRead_plain {t : Ty} {c : C} {x : List t.den} (ht : isMark' t = false) (h : kRead m true t c = some x) : (c = .nil ∧ x = [] ∧ tiedT t = none) ∨ (c = .sz ∧ x = []) ∨ ∃ i, c = .hs i ∧ m i = some (.row t x) := by
  cases t with
  | mark ow t => cases ht
  | unit => exact aElems_cases h
  | int k => exact aElems_cases h
  | bool => exact aElems_cases h
  | str => exact aElems_cases h
  | sl t => exact aElems_cases h
  | pair a b => exact aElems_cases h
theorem kRead_mark {ow : List Nat} {t : Ty} {c : C} {x : List t.den} (h : kRead m true (.mark ow t) c = some x) : (c = .nil ∧ x = []) ∨ ∃ i d, ∃ xs : List (Ty.den d.t), c = .hs i ∧ m i = some (.nest d) ∧ flatD m d = some xs ∧ kObj (.mark ow t) x = .nest ⟨d.t, d.ow, xs, none⟩ := by
  simp only [kRead] at h
  unfold markRead at h
  split at h
  · simp only [Option.some.injEq] at h; exact .inl ⟨rfl, h.symm⟩
  · rename_i i
    split at h
    · rename_i d hm
      split at h
      · rename_i ht
        split at h
        · rename_i hw
          subst ht hw
          cases hx : flatD m d with
          | none => simp [hx] at h
          | some xs =>
            simp only [hx, Option.map_some, Option.some.injEq] at h
            subst h
            exact .inr ⟨i, d, xs, rfl, hm, hx, rfl⟩
        · cases h
      · cases h
    · cases h
  · cases h

/-- one cell that changes -/
theorem k_ok (h : MR w N ρ1 m1) {own : Bool} {t : Ty} {c : C} {x : kden own t} {v : Value} {n : Nat} (hc : CR w N ρ1 m1 c v) (he : kRead m1 own t c = some x) :
    ∃ pl src, Took ρ1 m1 n (kNext own n) pl src (kId m1 own c) ∧ ∀ ρ' m', (∀ id, n ≤ id → id < kNext own n → ρ' id = pl id) →
      (∀ ob, m' n = some ob → own = true → look (kMem own t x n) n = some (some ob)) → (∀ id ∈ keepT own t, Keep1 ρ1 m1 ρ' m' id) →
      CR w N ρ' m' (kPut own t x n) v ∧ ∀ id o, look (kMem own t x n) id = some o → ∃ ob, o = some ob ∧ n ≤ id ∧ id < kNext own n ∧ Rowy ob ∧ ObjR w N ρ' m' id ob ∧ ∀ b, Bl (ρ' id) ob b → src id b := by
  cases own with
  | false =>
    exact ⟨fun _ => pl0 none 0, fun _ _ => False, Took.none, fun ρ' m' _ _ hk => ⟨kRead0_ok he hc hk, fun id o hl => by simp [kMem, look] at hl⟩⟩
  | true =>
    have fin : ∀ (p : Pl), (∀ b, Bl p (kObj t x) b → ∃ i ∈ kId m1 true c, ∃ o, m1 i = some o ∧ (∃ z, o.rw = some z) ∧ Bl (ρ1 i) o b) → v = .slice p.A (List.length (α := t.den) x) p.cap → (∀ ρ' m', ρ' n = p → ObjR w N ρ' m' n (kObj t x)) →
        ∃ pl src, Took ρ1 m1 n (kNext true n) pl src (kId m1 true c) ∧ ∀ ρ' m', (∀ id, n ≤ id → id < kNext true n → ρ' id = pl id) →
      (∀ ob, m' n = some ob → true = true → look (kMem true t x n) n = some (some ob)) → (∀ id ∈ keepT true t, Keep1 ρ1 m1 ρ' m' id) →
      CR w N ρ' m' (kPut true t x n) v ∧ ∀ id o, look (kMem true t x n) id = some o → ∃ ob, o = some ob ∧ n ≤ id ∧ id < kNext true n ∧ Rowy ob ∧ ObjR w N ρ' m' id ob ∧ ∀ b, Bl (ρ' id) ob b → src id b := by
      intro p hp hv hob
      refine ⟨fun _ => p, fun _ b => Bl p (kObj t x) b, ⟨fun id b h1 h2 h3 => hp b h3, fun id id' b h1 h2 h3 h4 _ _ => ?_⟩, fun ρ' m' hρ hm _ => ⟨⟨⟨_, _, _, hv⟩, fun o z hy hz => ?_⟩, fun id o hl => ?_⟩⟩
      · simp only [kNext] at h2 h4; omega
      · have := hm o hy rfl
        simp only [kMem] at this
        rw [look_cons, if_pos rfl] at this
        simp only [Option.some.injEq] at this
        subst this
        obtain ⟨s, hs⟩ := kObj_rw (t := t) (x := x)
        rw [hs] at hz
        simp only [Option.some.injEq] at hz
        subst hz
        rw [hρ n (Nat.le_refl _) (by simp [kNext])]
        exact hv
      · simp only [kMem] at hl
        rw [look_cons] at hl
        split at hl
        · rename_i e
          subst e
          simp only [Option.some.injEq] at hl
          subst hl
          have hpn := hρ n (Nat.le_refl _) (by simp [kNext])
          exact ⟨_, rfl, Nat.le_refl _, by simp [kNext], kObj_rowy, hob ρ' m' hpn, fun b hb => by rw [hpn] at hb; exact hb⟩
        · simp [look] at hl
    cases hmk : isMark' t with
    | false =>
      have hko := kObj_plain (x := x) hmk
      rcases kRead_plain hmk he with ⟨rfl, hx0, hti⟩ | ⟨rfl, hx0⟩ | ⟨i, rfl, hmem⟩
      · obtain ⟨A, rfl⟩ := hc
        subst hx0
        refine fin (pl0 A 0) (fun b hb => ?_) rfl fun ρ' m' hp => ?_
        · rw [hko] at hb; exact absurd hb.1 (by simp)
        · rw [hko]; exact ⟨⟨by rw [hp]; exact ⟨Nat.zero_le _, Nat.zero_le _⟩, fun h0 => by rw [hp] at h0; exact absurd h0 (by simp)⟩, .none hti⟩
      · have hc : v = .slice none 0 0 := hc
        subst hc hx0
        refine fin (pl0 none 0) (fun b hb => ?_) rfl fun ρ' m' hp => ?_
        · rw [hko] at hb; exact absurd hb.1 (by simp)
        · rw [hko]; exact ⟨⟨by rw [hp]; exact ⟨Nat.zero_le _, Nat.zero_le _⟩, fun h0 => by rw [hp] at h0; exact absurd h0 (by simp)⟩, fun e _ => ⟨fun _ => by rw [hp], fun b vals T fz h0 => by rw [hp] at h0; exact absurd h0 (by simp)⟩⟩
      · have hid : kId m1 true (.hs i) = [i] := by simp only [kId, hmem]
        refine fin (ρ1 i) (fun b hb => ⟨i, by rw [hid]; simp, _, hmem, ⟨_, rfl⟩, by rw [hko] at hb; exact hb⟩) (hc.hs_row hmem) fun ρ' m' hp => ?_
        rw [hko]
        have := h.obj i _ hmem
        unfold ObjR at this ⊢
        simp only [hp]
        exact this
    | true =>
      cases t with
      | mark ow t =>
        rcases kRead_mark he with ⟨rfl, hx0⟩ | ⟨i, d, xs, rfl, hmem, hx, hko⟩
        · obtain ⟨A, rfl⟩ := hc
          have hx0' : x = ([] : List t.den) := hx0
          subst hx0'
          refine fin (pl0 A 0) (fun b hb => ?_) rfl fun ρ' m' hp => ?_
          · rcases hb with hb | ⟨k, j, hb⟩
            · exact absurd hb.1 (by simp)
            · exact absurd hb.1 (by simp)
          · exact ⟨by rw [hp]; exact ⟨Nat.zero_le _, Nat.zero_le _⟩, fun g oc e => (nomatch e), fun h0 => by rw [hp] at h0; exact absurd h0 (by simp), fun k hk => absurd hk (by simp), fun k j k' j' b hb => absurd hb.1 (by simp), fun k j b hb => absurd hb.1 (by simp)⟩
        · obtain ⟨sb, h1, h2⟩ := mark_ok h hmem hx
          have hlen := flatD_len hx
          have hid : kId m1 true (.hs i) = i :: (opCs d.op).flatMap hsC := by simp only [kId, hmem]
          have hxl : List.length (α := t.den) x = d.xs.length := by
            have e1 := congrArg Obj.rw hko
            simp only [kObj, Obj.rw, Option.some.injEq, Prod.mk.injEq] at e1
            rw [e1.2, hlen]
          refine fin ⟨(ρ1 i).A, (ρ1 i).cap, sb⟩ (fun b hb => ?_) ?_ fun ρ' m' hp => by rw [hko]; exact h2 ρ' m' n hp
          · rw [hko] at hb
            rw [hid]
            rcases hb with hb | ⟨k, j, hb⟩
            · exact ⟨i, by simp, _, hmem, ⟨_, rfl⟩, .inl hb⟩
            · exact h1 k j b hb
          · have hv : v = .slice (ρ1 i).A d.xs.length (ρ1 i).cap := hc.2 _ _ hmem rfl
            rw [hv]
            show _ = Value.slice (ρ1 i).A (List.length (α := t.den) x) (ρ1 i).cap
            rw [hxl]
      | _ => cases hmk

theorem kMem_rowy {own : Bool} {t : Ty} {x : kden own t} {n id : Nat} {o : Option Obj} (hl : look (kMem own t x n) id = some o) : ∃ ob, o = some ob ∧ Rowy ob := by
  cases own with
  | false => simp [kMem, look] at hl
  | true =>
    simp only [kMem] at hl
    rw [look_cons] at hl
    split at hl
    · simp only [Option.some.injEq] at hl; subst hl; exact ⟨_, rfl, kObj_rowy⟩
    · simp [look] at hl
theorem putCells_rowy : ∀ {ks : List (Bool × Ty)} {x : denCells ks} {n id : Nat} {o : Option Obj}, look (putCells ks x n).2.1 id = some o → ∃ ob, o = some ob ∧ Rowy ob
  | [], _, _, _, _, hl => by simp [putCells, look] at hl
  | (own, t) :: ks, x, n, id, o, hl => by
    simp only [putCells] at hl
    rw [look_append] at hl
    cases hq : look (kMem own t x.1 n) id with
    | some o' =>
      rw [hq] at hl
      simp only [Option.some.injEq] at hl
      subst hl
      exact kMem_rowy hq
    | none =>
      rw [hq] at hl
      exact putCells_rowy hl

/-- cells of a box that change -/
theorem cells_ok (h : MR w N ρ1 m1) : ∀ {ks : List (Bool × Ty)} {cs : List C} {x : denCells ks} {vs : List Value} (n : Nat), All2 (CR w N ρ1 m1) cs vs → readCells m1 ks cs = some x → distinct (idsCells m1 ks cs) = true →
    n ≤ (putCells ks x n).2.2 ∧ ∃ pl src, Took ρ1 m1 n (putCells ks x n).2.2 pl src (idsCells m1 ks cs) ∧ (∀ id o, look (putCells ks x n).2.1 id = some o → n ≤ id ∧ id < (putCells ks x n).2.2) ∧
      (∀ id ∈ idsCs (putCells ks x n).1, id < (putCells ks x n).2.2 ∨ id ∈ keepCells ks) ∧
      ∀ ρ' m', (∀ id, n ≤ id → id < (putCells ks x n).2.2 → ρ' id = pl id) → (∀ id ob, n ≤ id → id < (putCells ks x n).2.2 → m' id = some ob → look (putCells ks x n).2.1 id = some (some ob)) → (∀ id ∈ keepCells ks, Keep1 ρ1 m1 ρ' m' id) →
        All2 (CR w N ρ' m') (putCells ks x n).1 vs ∧ ∀ id o, look (putCells ks x n).2.1 id = some o → ∃ ob, o = some ob ∧ Rowy ob ∧ ObjR w N ρ' m' id ob ∧ ∀ b, Bl (ρ' id) ob b → src id b
  | [], [], x, vs, n, hc, _, _ => by
    cases hc
    exact ⟨Nat.le_refl _, fun _ => pl0 none 0, fun _ _ => False, Took.none, fun id o hl => by simp [putCells, look] at hl, fun id hid => by simp [putCells, idsCs] at hid, fun ρ' m' _ _ _ => ⟨.nil, fun id o hl => by simp [putCells, look] at hl⟩⟩
  | [], _ :: _, _, _, _, _, he, _ => by simp [readCells] at he
  | _ :: _, [], _, _, _, _, he, _ => by simp [readCells] at he
  | (own, t) :: ks, c :: cs, x, vs, n, hc, he, hd => by
    cases hc with
    | @cons _ v _ vs h1 h2 =>
      simp only [readCells] at he
      split at he
      · rename_i y z hy hz
        simp only [Option.some.injEq] at he
        subst he
        simp only [idsCells] at hd
        obtain ⟨hd1, hd2, hd3⟩ := distinct_append hd
        obtain ⟨pl1, src1, hT1, hk1⟩ := k_ok h (n := n) h1 hy
        obtain ⟨hle, pl2, src2, hT2, hr2, hw2, hk2⟩ := cells_ok h (kNext own n) h2 hz hd2
        have hn1 : n ≤ kNext own n := by cases own <;> simp [kNext]
        have hkm : ∀ id o, look (kMem own t y n) id = some o → n ≤ id ∧ id < kNext own n := by
          intro id o hl
          cases own with
          | false => simp [kMem, look] at hl
          | true =>
            simp only [kMem] at hl
            rw [look_cons] at hl
            split at hl
            · rename_i e; subst e; exact ⟨Nat.le_refl _, by simp [kNext]⟩
            · simp [look] at hl
        have hlk : ∀ id, look (putCells ((own, t) :: ks) (y, z) n).2.1 id = match look (kMem own t y n) id with
            | some o => some o
            | none => look (putCells ks z (kNext own n)).2.1 id := fun id => by simp only [putCells]; rw [look_append]; cases look (kMem own t y n) id <;> rfl
        refine ⟨?_, (fun id => if id < kNext own n then pl1 id else pl2 id), (fun id => if id < kNext own n then src1 id else src2 id), ?_, fun id o hl => ?_, fun id hid => ?_, fun ρ' m' hρ hm hkp => ?_⟩
        · simp only [putCells]; omega
        · simp only [putCells, idsCells]
          exact hT1.join h hT2 hd3
        · rw [hlk] at hl
          simp only [putCells]
          cases hq : look (kMem own t y n) id with
          | some o' => have := hkm id o' hq; omega
          | none => rw [hq] at hl; have := hr2 id o hl; omega
        · simp only [putCells, idsCs, List.flatMap_cons, List.mem_append] at hid ⊢
          rcases hid with hid | hid
          · cases own with
            | false => simp only [kPut] at hid; right; simp only [keepCells, List.mem_append]; exact Or.inl (kPut0_ids id hid)
            | true =>
              left
              simp only [kPut, idsC, List.mem_singleton] at hid
              subst hid
              have e : kNext true id = id + 1 := rfl; omega
          · rcases hw2 id hid with h9 | h9
            · exact .inl h9
            · right; simp only [keepCells, List.mem_append]; exact Or.inr h9
        · simp only [putCells] at hρ
          obtain ⟨g1, g2⟩ := hk1 ρ' m' (fun id h3 h4 => by rw [hρ id h3 (by omega), if_pos h4]) (fun ob hy' hown => by
            subst hown
            have := hm n ob (Nat.le_refl _) (by simp only [putCells]; have e : kNext true n = n + 1 := rfl; omega) hy'
            rw [hlk] at this
            simp only [kMem] at this ⊢
            rw [look_cons, if_pos rfl] at this ⊢
            exact this) (fun id hid => hkp id (by simp only [keepCells, List.mem_append]; exact Or.inl hid))
          obtain ⟨g3, g4⟩ := hk2 ρ' m' (fun id h3 h4 => by rw [hρ id (by omega) h4, if_neg (by omega)]) (fun id ob h3 h4 hy' => by
            have := hm id ob (by omega) (by simp only [putCells]; exact h4) hy'
            rw [hlk] at this
            cases hq : look (kMem own t y n) id with
            | some o' => have := hkm id o' hq; omega
            | none => rw [hq] at this; exact this) (fun id hid => hkp id (by simp only [keepCells, List.mem_append]; exact Or.inr hid))
          refine ⟨.cons g1 g3, fun id o hl => ?_⟩
          rw [hlk] at hl
          cases hq : look (kMem own t y n) id with
          | some o' =>
            rw [hq] at hl
            simp only [Option.some.injEq] at hl
            subst hl
            obtain ⟨ob, e1, e2, e3, e4, e5, e6⟩ := g2 id o' hq
            exact ⟨ob, e1, e4, e5, fun b hb => by simp only [e3, if_true]; exact e6 b hb⟩
          | none =>
            rw [hq] at hl
            obtain ⟨ob, e1, e4, e5, e6⟩ := g4 id o hl
            have := hr2 id o hl
            exact ⟨ob, e1, e4, e5, fun b hb => by simp only [show ¬ id < kNext own n by omega, if_false]; exact e6 b hb⟩
      · cases he

end
end Go.Proofs.YtedjlbcclhgfmaaDoor

/- THE MACHINE OF READINGS, part W: a round's head. -/
namespace Go.Proofs.YtedjlbcclhgfmaaDoor
open Go.RowKit

section
variable {E : Env} {w0 : World} {X Z : Blk} {a : Act} {w w' : World} {s s1 : St} {ρ1 ρ' : Nat → Pl} {N N' : Blk} {m m1 m' : Mem}

theorem aElems_hs {m : Mem} {t : Ty} {id : Nat} {xs : List t.den} (h : aElems m t (.hs id) = some xs) : m id = some (.row t xs) := by
  unfold aElems at h
  simp only at h
  split at h
  · rename_i t' zs hmem
    split at h
    · rename_i htt
      subst htt
      simp only [Option.some.injEq] at h
      subst h
      exact hmem
    · cases h
  · cases h

/-- the variables of a loop, read and laid anew -/
theorem vars_ok (h : Rel E w0 X Z a w s1 ρ1 N) : ∀ {vs : List Var} {x : denVars vs} (n : Nat), readVars s1 vs = some x → distinct (idsVars s1 vs) = true →
    n ≤ (putVars vs x n).next ∧ ∃ pl src, Took ρ1 s1.obj n (putVars vs x n).next pl src (idsVars s1 vs) ∧
      (∀ t, (look (putVars vs x n).slots t ≠ none → t ∈ slotVars vs) ∧ (t ∈ slotVars vs → look (putVars vs x n).slots t ≠ none)) ∧
      (∀ id o, look (putVars vs x n).mem id = some o → (n ≤ id ∧ id < (putVars vs x n).next ∧ ∃ ob, o = some ob ∧ Rowy ob) ∨ (id ∈ boxVars vs ∧ ((∃ cs cs', o = some (.box cs) ∧ s1.obj id = some (.box cs')) ∨ ∃ ob, o = some ob ∧ s1.obj id = some ob ∧ id ∈ rowVars vs))) ∧
      (∀ id ∈ boxVars vs, look (putVars vs x n).mem id ≠ none) ∧
      (∀ t sv, look (putVars vs x n).slots t = some sv → ∀ id ∈ idsS sv, id < (putVars vs x n).next ∨ id ∈ keepVars vs) ∧ (∀ id o, look (putVars vs x n).mem id = some (some o) → ∀ i ∈ idsO o, i < (putVars vs x n).next ∨ i ∈ keepVars vs) ∧
      ∀ ρ' m', (∀ id, n ≤ id → id < (putVars vs x n).next → ρ' id = pl id) → (∀ id ∈ boxVars vs, ρ' id = ρ1 id) → (∀ id ob, n ≤ id → id < (putVars vs x n).next → m' id = some ob → look (putVars vs x n).mem id = some (some ob)) → (∀ id ∈ boxVars vs, id < n) → (∀ id ∈ keepVars vs, Keep1 ρ1 s1.obj ρ' m' id) →
        (∀ t sv, look (putVars vs x n).slots t = some sv → SVR w N ρ' m' sv (a.tmps.getD t undef)) ∧ ∀ id o, look (putVars vs x n).mem id = some o → ∃ ob, o = some ob ∧ ObjR w N ρ' m' id ob ∧ (n ≤ id → ∀ b, Bl (ρ' id) ob b → src id b)
  | [], x, n, _, _ => by
    refine ⟨Nat.le_refl _, fun _ => pl0 none 0, fun _ _ => False, Took.none, fun t => ⟨fun h => absurd rfl h, fun h => by cases h⟩, (fun id o hl => by simp [putVars, look] at hl), (fun id h => by cases h), (fun t sv hl => by simp [putVars, look] at hl), (fun id o hl => by simp [putVars, look] at hl), fun ρ' m' _ _ _ _ _ => ⟨(fun t sv hl => by simp [putVars, look] at hl), fun id o hl => by simp [putVars, look] at hl⟩⟩
  | .slot t0 own t :: r, x, n, he, hd => by
    simp only [readVars] at he
    split at he
    · rename_i c hsl
      split at he
      · rename_i y z hy hz
        simp only [Option.some.injEq] at he
        subst he
        simp only [idsVars, hsl] at hd
        obtain ⟨hd1, hd2, hd3⟩ := distinct_append hd
        have hc : CR w N ρ1 s1.obj c (a.tmps.getD t0 undef) := by
          have := h.get (.tmp t0)
          have e : s1.get (.tmp t0) = .v false [c] := hsl
          rw [e] at this
          exact vr1 this
        obtain ⟨pl1, src1, hT1, hk1⟩ := k_ok h.mr (n := n) hc hy
        obtain ⟨hle, pl2, src2, hT2, hs2, hm2, hb2, hws2, hwm2, hk2⟩ := vars_ok h (kNext own n) hz hd2
        have hn1 : n ≤ kNext own n := by cases own <;> simp [kNext]
        have hkm : ∀ id o, look (kMem own t y n) id = some o → n ≤ id ∧ id < kNext own n ∧ (∃ ob, o = some ob ∧ Rowy ob) ∧ ∀ ob, o = some ob → idsO ob = [] := by
          intro id o hl
          cases own with
          | false => simp [kMem, look] at hl
          | true =>
            simp only [kMem] at hl
            rw [look_cons] at hl
            split at hl
            · rename_i e; subst e; simp only [Option.some.injEq] at hl; subst hl; exact ⟨Nat.le_refl _, by simp [kNext], ⟨_, rfl, kObj_rowy⟩, fun ob e => by simp only [Option.some.injEq] at e; subst e; exact kObj_rowy.2⟩
            · simp [look] at hl
        have hlm : ∀ id, look (putVars (.slot t0 own t :: r) (y, z) n).mem id = match look (kMem own t y n) id with
            | some o => some o
            | none => look (putVars r z (kNext own n)).mem id := fun id => by simp only [putVars]; rw [look_append]; cases look (kMem own t y n) id <;> rfl
        have hls : ∀ i, look (putVars (.slot t0 own t :: r) (y, z) n).slots i = if t0 = i then some (one (kPut own t y n)) else look (putVars r z (kNext own n)).slots i := fun i => by simp only [putVars]; exact look_cons _ _ _ _
        have hnx : (putVars (.slot t0 own t :: r) (y, z) n).next = (putVars r z (kNext own n)).next := rfl
        refine ⟨by rw [hnx]; omega, (fun id => if id < kNext own n then pl1 id else pl2 id), (fun id => if id < kNext own n then src1 id else src2 id), ?_, fun i => ?_, fun id o hl => ?_, fun id hid => ?_, fun i sv hl id hid => ?_, fun id o hl i hi => ?_, fun ρ' m' hρ hρb hm hbn hkp => ?_⟩
        · simp only [idsVars, hsl]; rw [hnx]
          exact hT1.join h.mr hT2 hd3
        · rw [hls]
          simp only [slotVars, List.mem_cons]
          by_cases hi : t0 = i
          · rw [if_pos hi]; exact ⟨fun _ => .inl hi.symm, fun _ => by simp⟩
          · rw [if_neg hi]
            exact ⟨fun h => .inr ((hs2 i).1 h), fun h => (hs2 i).2 (h.resolve_left fun e => hi e.symm)⟩
        · rw [hlm] at hl
          rw [hnx]
          cases hq : look (kMem own t y n) id with
          | some o' =>
            rw [hq] at hl
            simp only [Option.some.injEq] at hl
            subst hl
            obtain ⟨g1, g2, g3, _⟩ := hkm id o' hq
            exact .inl ⟨g1, by omega, g3⟩
          | none =>
            rw [hq] at hl
            rcases hm2 id o hl with ⟨g1, g2, g3⟩ | g
            · exact .inl ⟨by omega, g2, g3⟩
            · exact .inr g
        · have g1 := hb2 id hid
          rw [hlm]
          cases look (kMem own t y n) id with
          | some o' => simp
          | none => exact g1
        · rw [hls] at hl
          rw [hnx]
          split at hl
          · simp only [Option.some.injEq] at hl
            subst hl
            simp only [one, idsS, idsCs, List.flatMap_cons, List.flatMap_nil, List.append_nil] at hid
            cases own with
            | false => simp only [kPut] at hid; right; simp only [keepVars, List.mem_append]; exact Or.inl (kPut0_ids id hid)
            | true =>
              left
              simp only [kPut, idsC, List.mem_singleton] at hid
              have e : kNext true n = n + 1 := rfl
              omega
          · rcases hws2 i sv hl id hid with h9 | h9
            · exact .inl h9
            · right; simp only [keepVars, List.mem_append]; exact Or.inr h9
        · rw [hlm] at hl
          rw [hnx]
          cases hq : look (kMem own t y n) id with
          | some o' =>
            rw [hq] at hl
            simp only [Option.some.injEq] at hl
            subst hl
            rw [(hkm id _ hq).2.2.2 o rfl] at hi
            cases hi
          | none =>
            rw [hq] at hl
            rcases hwm2 id o hl i hi with h9 | h9
            · exact .inl h9
            · right; simp only [keepVars, List.mem_append]; exact Or.inr h9
        · rw [hnx] at hρ hm
          obtain ⟨g1, g2⟩ := hk1 ρ' m' (fun id h3 h4 => by rw [hρ id h3 (by omega)]; exact if_pos h4) (fun ob hy' hown => by
            subst hown
            have e : kNext true n = n + 1 := rfl
            have := hm n ob (Nat.le_refl _) (by omega) hy'
            rw [hlm] at this
            simp only [kMem] at this ⊢
            rw [look_cons, if_pos rfl] at this ⊢
            exact this) (fun id hid => hkp id (by simp only [keepVars, List.mem_append]; exact Or.inl hid))
          obtain ⟨g3, g4⟩ := hk2 ρ' m' (fun id h3 h4 => by rw [hρ id (by omega) h4]; exact if_neg (by omega)) hρb (fun id ob h3 h4 hy' => by
            have := hm id ob (by omega) h4 hy'
            rw [hlm] at this
            cases hq : look (kMem own t y n) id with
            | some o' => have := hkm id o' hq; omega
            | none => rw [hq] at this; exact this) (fun id hid => by have := hbn id hid; omega) (fun id hid => hkp id (by simp only [keepVars, List.mem_append]; exact Or.inr hid))
          refine ⟨fun i sv hl => ?_, fun id o hl => ?_⟩
          · rw [hls] at hl
            split at hl
            · rename_i e
              subst e
              simp only [Option.some.injEq] at hl
              subst hl
              exact ⟨_, rfl, g1⟩
            · exact g3 i sv hl
          · rw [hlm] at hl
            cases hq : look (kMem own t y n) id with
            | some o' =>
              rw [hq] at hl
              simp only [Option.some.injEq] at hl
              subst hl
              obtain ⟨ob, e1, _, e3, _, e5, e6⟩ := g2 id o' hq
              exact ⟨ob, e1, e5, fun _ b hb => by simp only [e3, if_true]; exact e6 b hb⟩
            | none =>
              rw [hq] at hl
              obtain ⟨ob, e1, e5, e6⟩ := g4 id o hl
              refine ⟨ob, e1, e5, fun hn b hb => ?_⟩
              by_cases hk : id < kNext own n
              · exfalso
                rcases hm2 id o hl with ⟨q1, _⟩ | ⟨q1, _⟩
                · omega
                · have := hbn id q1; omega
              · simp only [hk, if_false]; exact e6 (by omega) b hb
      · cases he
    · cases he
  | .agg t0 ks :: r, x, n, he, hd => by
    simp only [readVars] at he
    split at he
    · rename_i cs hsl
      split at he
      · rename_i y z hy hz
        simp only [Option.some.injEq] at he
        subst he
        simp only [idsVars, hsl] at hd
        obtain ⟨hd1, hd2, hd3⟩ := distinct_append hd
        have hcs0 : SVR w N ρ1 s1.obj (.v true cs) (a.tmps.getD t0 undef) := by
          have := h.get (.tmp t0)
          have e : s1.get (.tmp t0) = .v true cs := hsl
          rw [e] at this
          exact this
        obtain ⟨vals, hval, hcs⟩ := hcs0
        obtain ⟨hle1, pl1, src1, hT1, hr1, hw1, hk1⟩ := cells_ok h.mr n hcs hy hd1
        obtain ⟨hle, pl2, src2, hT2, hs2, hm2, hb2, hws2, hwm2, hk2⟩ := vars_ok h (putCells ks y n).2.2 hz hd2
        have hnx : (putVars (.agg t0 ks :: r) (y, z) n).next = (putVars r z (putCells ks y n).2.2).next := rfl
        have hlm : ∀ id, look (putVars (.agg t0 ks :: r) (y, z) n).mem id = match look (putCells ks y n).2.1 id with
            | some o => some o
            | none => look (putVars r z (putCells ks y n).2.2).mem id := fun id => by
          simp only [putVars]; rw [look_append]; cases look (putCells ks y n).2.1 id <;> rfl
        have hls : ∀ i, look (putVars (.agg t0 ks :: r) (y, z) n).slots i = if t0 = i then some (.v true (putCells ks y n).1) else look (putVars r z (putCells ks y n).2.2).slots i := fun i => by simp only [putVars]; exact look_cons _ _ _ _
        have hrow : ∀ id o, look (putCells ks y n).2.1 id = some o → ∃ ob, o = some ob ∧ Rowy ob := fun id o hl => putCells_rowy hl
        refine ⟨by rw [hnx]; omega, (fun id => if id < (putCells ks y n).2.2 then pl1 id else pl2 id), (fun id => if id < (putCells ks y n).2.2 then src1 id else src2 id), ?_, fun i => ?_, fun id o hl => ?_, fun id hid => ?_, fun i sv hl id hid => ?_, fun id o hl i hi => ?_, fun ρ' m' hρ hρb hm hbn hkp => ?_⟩
        · simp only [idsVars, hsl]; rw [hnx]
          exact hT1.join h.mr hT2 hd3
        · rw [hls]
          simp only [slotVars, List.mem_cons]
          by_cases hi : t0 = i
          · rw [if_pos hi]; exact ⟨fun _ => .inl hi.symm, fun _ => by simp⟩
          · rw [if_neg hi]
            exact ⟨fun h => .inr ((hs2 i).1 h), fun h => (hs2 i).2 (h.resolve_left fun e => hi e.symm)⟩
        · rw [hlm] at hl
          rw [hnx]
          cases hq : look (putCells ks y n).2.1 id with
          | some o' =>
            rw [hq] at hl
            simp only [Option.some.injEq] at hl
            subst hl
            obtain ⟨g1, g2⟩ := hr1 id o' hq
            exact .inl ⟨g1, by omega, hrow id o' hq⟩
          | none =>
            rw [hq] at hl
            rcases hm2 id o hl with ⟨g1, g2, g3⟩ | g
            · exact .inl ⟨by omega, g2, g3⟩
            · exact .inr g
        · have g1 := hb2 id hid
          rw [hlm]
          cases look (putCells ks y n).2.1 id with
          | some o' => simp
          | none => exact g1
        · rw [hls] at hl
          rw [hnx]
          split at hl
          · simp only [Option.some.injEq] at hl
            subst hl
            rcases hw1 id hid with h9 | h9
            · left; omega
            · right; simp only [keepVars, List.mem_append]; exact Or.inl h9
          · rcases hws2 i sv hl id hid with h9 | h9
            · exact .inl h9
            · right; simp only [keepVars, List.mem_append]; exact Or.inr h9
        · rw [hlm] at hl
          rw [hnx]
          cases hq : look (putCells ks y n).2.1 id with
          | some o' =>
            rw [hq] at hl
            simp only [Option.some.injEq] at hl
            obtain ⟨ob, e, e9⟩ := hrow id o' hq
            rw [hl] at e
            simp only [Option.some.injEq] at e
            subst e
            rw [e9.2] at hi
            cases hi
          | none =>
            rw [hq] at hl
            rcases hwm2 id o hl i hi with h9 | h9
            · exact .inl h9
            · right; simp only [keepVars, List.mem_append]; exact Or.inr h9
        · rw [hnx] at hρ hm
          obtain ⟨g1, g2⟩ := hk1 ρ' m' (fun id h3 h4 => by rw [hρ id h3 (by omega)]; exact if_pos h4) (fun id ob h3 h4 hy' => by
            have := hm id ob h3 (by omega) hy'
            rw [hlm] at this
            cases hq : look (putCells ks y n).2.1 id with
            | some o' => rw [hq] at this; exact this
            | none =>
              rw [hq] at this
              rcases hm2 id _ this with ⟨g1, _⟩ | ⟨g1, _⟩
              · omega
              · have := hbn id g1; omega) (fun id hid => hkp id (by simp only [keepVars, List.mem_append]; exact Or.inl hid))
          obtain ⟨g3, g4⟩ := hk2 ρ' m' (fun id h3 h4 => by rw [hρ id (by omega) h4]; exact if_neg (by omega)) hρb (fun id ob h3 h4 hy' => by
            have := hm id ob (by omega) h4 hy'
            rw [hlm] at this
            cases hq : look (putCells ks y n).2.1 id with
            | some o' => have := (hr1 id o' hq).2; omega
            | none => rw [hq] at this; exact this) (fun id hid => by have := hbn id hid; omega) (fun id hid => hkp id (by simp only [keepVars, List.mem_append]; exact Or.inr hid))
          refine ⟨fun i sv hl => ?_, fun id o hl => ?_⟩
          · rw [hls] at hl
            split at hl
            · rename_i e
              subst e
              simp only [Option.some.injEq] at hl
              subst hl
              exact ⟨vals, hval, g1⟩
            · exact g3 i sv hl
          · rw [hlm] at hl
            cases hq : look (putCells ks y n).2.1 id with
            | some o' =>
              rw [hq] at hl
              simp only [Option.some.injEq] at hl
              subst hl
              obtain ⟨ob, e1, _, e5, e6⟩ := g2 id o' hq
              have e3 := (hr1 id o' hq).2
              exact ⟨ob, e1, e5, fun _ b hb => by simp only [e3, if_true]; exact e6 b hb⟩
            | none =>
              rw [hq] at hl
              obtain ⟨ob, e1, e5, e6⟩ := g4 id o hl
              refine ⟨ob, e1, e5, fun hn b hb => ?_⟩
              by_cases hk : id < (putCells ks y n).2.2
              · exfalso
                rcases hm2 id o hl with ⟨q1, _⟩ | ⟨q1, _⟩
                · omega
                · have := hbn id q1; omega
              · simp only [hk, if_false]; exact e6 (by omega) b hb
      · cases he
    · cases he
  | .box id0 ks :: r, x, n, he, hd => by
    simp only [readVars] at he
    split at he
    · rename_i cs hob
      split at he
      · rename_i y z hy hz
        simp only [Option.some.injEq] at he
        subst he
        simp only [idsVars, hob] at hd
        obtain ⟨hd1, hd2, hd3⟩ := distinct_append hd
        obtain ⟨b, vals, T, hA, hh, hcs, hcT⟩ := h.mr.obj id0 _ hob
        obtain ⟨hle1, pl1, src1, hT1, hr1, hw1, hk1⟩ := cells_ok h.mr n hcs hy hd1
        obtain ⟨hle, pl2, src2, hT2, hs2, hm2, hb2, hws2, hwm2, hk2⟩ := vars_ok h (putCells ks y n).2.2 hz hd2
        have hnx : (putVars (.box id0 ks :: r) (y, z) n).next = (putVars r z (putCells ks y n).2.2).next := rfl
        have hlm : ∀ id, look (putVars (.box id0 ks :: r) (y, z) n).mem id = match look (putCells ks y n).2.1 id with
            | some o => some o
            | none => if id0 = id then some (some (.box (putCells ks y n).1)) else look (putVars r z (putCells ks y n).2.2).mem id := fun id => by
          simp only [putVars]; rw [look_append]; cases look (putCells ks y n).2.1 id with
          | some o => rfl
          | none => simp only; exact look_cons _ _ _ _
        have hls : ∀ i, look (putVars (.box id0 ks :: r) (y, z) n).slots i = look (putVars r z (putCells ks y n).2.2).slots i := fun i => rfl
        have hrow : ∀ id o, look (putCells ks y n).2.1 id = some o → ∃ ob, o = some ob ∧ Rowy ob := fun id o hl => putCells_rowy hl
        refine ⟨by rw [hnx]; omega, (fun id => if id < (putCells ks y n).2.2 then pl1 id else pl2 id), (fun id => if id < (putCells ks y n).2.2 then src1 id else src2 id), ?_, fun i => ?_, fun id o hl => ?_, fun id hid => ?_, fun i sv hl id hid => ?_, fun id o hl i hi => ?_, fun ρ' m' hρ hρb hm hbn hkp => ?_⟩
        · simp only [idsVars, hob]; rw [hnx]
          exact hT1.join h.mr hT2 hd3
        · rw [hls]; exact hs2 i
        · rw [hlm] at hl
          rw [hnx]
          cases hq : look (putCells ks y n).2.1 id with
          | some o' =>
            rw [hq] at hl
            simp only [Option.some.injEq] at hl
            subst hl
            obtain ⟨g1, g2⟩ := hr1 id o' hq
            exact .inl ⟨g1, by omega, hrow id o' hq⟩
          | none =>
            rw [hq] at hl
            simp only at hl
            split at hl
            · rename_i e
              subst e
              simp only [Option.some.injEq] at hl
              subst hl
              exact .inr ⟨by simp [boxVars], .inl ⟨_, _, rfl, hob⟩⟩
            · rcases hm2 id o hl with ⟨g1, g2, g3⟩ | ⟨g1, g2⟩
              · exact .inl ⟨by omega, g2, g3⟩
              · exact .inr ⟨by simp [boxVars, g1], g2⟩
        · rw [hlm]
          simp only [boxVars, List.mem_cons] at hid
          cases look (putCells ks y n).2.1 id with
          | some o' => simp
          | none =>
            simp only
            split
            · simp
            · rename_i hne
              rcases hid with rfl | hid
              · exact absurd rfl hne
              · exact hb2 id hid
        · rcases hws2 i sv hl id hid with h9 | h9
          · exact .inl h9
          · right; simp only [keepVars, List.mem_append]; exact Or.inr h9
        · rw [hlm] at hl
          rw [hnx]
          cases hq : look (putCells ks y n).2.1 id with
          | some o' =>
            rw [hq] at hl
            simp only [Option.some.injEq] at hl
            obtain ⟨ob, e, e9⟩ := hrow id o' hq
            rw [hl] at e
            simp only [Option.some.injEq] at e
            subst e
            rw [e9.2] at hi
            cases hi
          | none =>
            rw [hq] at hl
            simp only at hl
            split at hl
            · simp only [Option.some.injEq] at hl
              subst hl
              rcases hw1 i hi with h9 | h9
              · left; omega
              · right; simp only [keepVars, List.mem_append]; exact Or.inl h9
            · rcases hwm2 id o hl i hi with h9 | h9
              · exact .inl h9
              · right; simp only [keepVars, List.mem_append]; exact Or.inr h9
        · rw [hnx] at hρ hm
          obtain ⟨g1, g2⟩ := hk1 ρ' m' (fun id h3 h4 => by rw [hρ id h3 (by omega)]; exact if_pos h4) (fun id ob h3 h4 hy' => by
            have := hm id ob h3 (by omega) hy'
            rw [hlm] at this
            cases hq : look (putCells ks y n).2.1 id with
            | some o' => rw [hq] at this; exact this
            | none =>
              rw [hq] at this
              simp only at this
              split at this
              · have := hbn id0 (by simp [boxVars]); omega
              · rcases hm2 id _ this with ⟨g1, _⟩ | ⟨g1, _⟩
                · omega
                · have := hbn id (by simp [boxVars, g1]); omega) (fun id hid => hkp id (by simp only [keepVars, List.mem_append]; exact Or.inl hid))
          obtain ⟨g3, g4⟩ := hk2 ρ' m' (fun id h3 h4 => by rw [hρ id (by omega) h4]; exact if_neg (by omega)) (fun id hid => hρb id (by simp [boxVars, hid])) (fun id ob h3 h4 hy' => by
            have := hm id ob (by omega) h4 hy'
            rw [hlm] at this
            cases hq : look (putCells ks y n).2.1 id with
            | some o' => have := (hr1 id o' hq).2; omega
            | none =>
              rw [hq] at this
              simp only at this
              split at this
              · have := hbn id0 (by simp [boxVars]); omega
              · exact this) (fun id hid => by have := hbn id (by simp [boxVars, hid]); omega) (fun id hid => hkp id (by simp only [keepVars, List.mem_append]; exact Or.inr hid))
          refine ⟨fun i sv hl => g3 i sv hl, fun id o hl => ?_⟩
          rw [hlm] at hl
          cases hq : look (putCells ks y n).2.1 id with
          | some o' =>
            rw [hq] at hl
            simp only [Option.some.injEq] at hl
            subst hl
            obtain ⟨ob, e1, _, e5, e6⟩ := g2 id o' hq
            have e3 := (hr1 id o' hq).2
            exact ⟨ob, e1, e5, fun _ b hb => by simp only [e3, if_true]; exact e6 b hb⟩
          | none =>
            rw [hq] at hl
            simp only at hl
            split at hl
            · rename_i e
              subst e
              simp only [Option.some.injEq] at hl
              subst hl
              exact ⟨_, rfl, ⟨b, vals, T, by rw [hρb id0 (by simp [boxVars])]; exact hA, hh, g1, by rw [hρb id0 (by simp [boxVars])]; exact hcT⟩, fun hn => by have := hbn id0 (by simp [boxVars]); omega⟩
            · obtain ⟨ob, e1, e5, e6⟩ := g4 id o hl
              refine ⟨ob, e1, e5, fun hn b hb => ?_⟩
              by_cases hk : id < (putCells ks y n).2.2
              · exfalso
                rcases hm2 id o hl with ⟨q1, _⟩ | ⟨q1, _⟩
                · omega
                · have := hbn id (by simp [boxVars, q1]); omega
              · simp only [hk, if_false]; exact e6 (by omega) b hb
      · cases he
    · cases he

  | .row id0 t :: r, x, n, he, hd => by
    simp only [readVars] at he
    split at he
    · rename_i y z hy hz
      simp only [Option.some.injEq] at he
      subst he
      have hob := aElems_hs hy
      obtain ⟨hle, pl2, src2, hT2, hs2, hm2, hb2, hws2, hwm2, hk2⟩ := vars_ok h n hz hd
      have hlm : ∀ id, look (putVars (.row id0 t :: r) (y, z) n).mem id = if id0 = id then some (some (.row t y)) else look (putVars r z n).mem id := fun id => look_cons _ _ _ _
      refine ⟨hle, pl2, src2, hT2, hs2, fun id o hl => ?_, fun id hid => ?_, hws2, fun id o hl i hi => ?_, fun ρ' m' hρ hρb hm hbn hkp => ?_⟩
      · rw [hlm] at hl
        split at hl
        · rename_i e
          subst e
          simp only [Option.some.injEq] at hl
          subst hl
          exact .inr ⟨by simp [boxVars], .inr ⟨_, rfl, hob, by simp [rowVars]⟩⟩
        · rcases hm2 id o hl with ⟨g1, g2, g3⟩ | ⟨g1, g2⟩
          · exact .inl ⟨g1, g2, g3⟩
          · refine .inr ⟨by simp [boxVars, g1], ?_⟩
            rcases g2 with g2 | ⟨ob, e1, e2, e3⟩
            · exact .inl g2
            · exact .inr ⟨ob, e1, e2, by simp [rowVars, e3]⟩
      · rw [hlm]
        simp only [boxVars, List.mem_cons] at hid
        split
        · simp
        · rename_i hne
          rcases hid with rfl | hid
          · exact absurd rfl hne
          · exact hb2 id hid
      · rw [hlm] at hl
        split at hl
        · simp only [Option.some.injEq] at hl
          subst hl
          cases hi
        · exact hwm2 id o hl i hi
      · obtain ⟨g3, g4⟩ := hk2 ρ' m' hρ (fun id hid => hρb id (by simp [boxVars, hid])) (fun id ob h3 h4 hy' => by
          have := hm id ob h3 h4 hy'
          rw [hlm] at this
          split at this
          · rename_i e
            have := hbn id0 (by simp [boxVars])
            omega
          · exact this) (fun id hid => hbn id (by simp [boxVars, hid])) (fun id hid => hkp id hid)
        refine ⟨g3, fun id o hl => ?_⟩
        rw [hlm] at hl
        split at hl
        · rename_i e
          subst e
          simp only [Option.some.injEq] at hl
          subst hl
          have ho := h.mr.obj id0 _ hob
          refine ⟨_, rfl, ?_, fun hn => by have := hbn id0 (by simp [boxVars]); omega⟩
          unfold ObjR at ho ⊢
          rw [hρb id0 (by simp [boxVars])]
          exact ho
        · exact g4 id o hl
    · cases he

end
end Go.Proofs.YtedjlbcclhgfmaaDoor

/- THE MACHINE OF READINGS, part X: code. -/
namespace Go.Proofs.YtedjlbcclhgfmaaDoor
open Go.RowKit

theorem look_filter {α : Type} (q : Nat → Bool) : ∀ (l : List (Nat × α)) (t : Nat), look (l.filter fun p => q p.1) t = if q t = true then look l t else none
  | [], t => by simp [look]
  | (k, v) :: l, t => by
    rw [look_cons]
    by_cases hk : k = t
    · subst hk
      by_cases hq : q k = true
      · simp only [List.filter_cons, hq, if_true, look_cons]
      · simp only [List.filter_cons, hq, Bool.false_eq_true, if_false]
        rw [look_filter q l k]
        simp [hq]
    · rw [if_neg hk]
      by_cases hq : q k = true
      · simp only [List.filter_cons, hq, if_true, look_cons, if_neg hk]
        exact look_filter q l t
      · simp only [List.filter_cons, hq, Bool.false_eq_true, if_false]
        exact look_filter q l t

section
variable {E : Env} {w0 : World} {X Z : Blk} {a : Act} {w w' : World} {s s1 : St} {ρ1 ρ ρ' : Nat → Pl} {N N' : Blk} {m m1 m' : Mem}

theorem head_obj {s : St} {ds dead : List Nat} {vs : List Var} {x : denVars vs} (id : Nat) : (loopHead s ds dead vs x).obj id = match look (putVars vs x s.next).mem id with
    | some o => o
    | none => if id ∈ dead then none else s.obj id := by
  show (look ((putVars vs x s.next).mem ++ (dead.map fun id => (id, (none : Option Obj))) ++ s.mem) id).getD none = _
  rw [List.append_assoc, look_append, look_append, look_dead]
  cases look (putVars vs x s.next).mem id with
  | some o => rfl
  | none =>
    simp only
    by_cases hd : id ∈ dead
    · simp [hd]
    · simp [hd]; rfl

theorem head_slot {s : St} {ds dead : List Nat} {vs : List Var} {x : denVars vs} (t : Nat) : look (loopHead s ds dead vs x).slots t = match look (putVars vs x s.next).slots t with
    | some v => some v
    | none => if t ∉ ds ∧ t ∉ slotVars vs then look s.slots t else none := by
  show look ((putVars vs x s.next).slots ++ s.slots.filter (fun p => !(ds.contains p.1) && !((slotVars vs).contains p.1))) t = _
  rw [look_append, look_filter (fun k => !(ds.contains k) && !((slotVars vs).contains k))]
  cases look (putVars vs x s.next).slots t with
  | some v => rfl
  | none =>
    simp only
    by_cases h1 : t ∈ ds <;> by_cases h2 : t ∈ slotVars vs <;> simp [h1, h2]

/-- The relation of states at a round's head. -/
theorem head_ok (h : Rel E w0 X Z a w s1 ρ1 N) {s : St} {ds dead : List Nat} {vs : List Var} {x : denVars vs} (hr : readVars s1 vs = some x) (hd0 : distinct (rowVars vs ++ idsVars s1 vs) = true)
    (hslot : ∀ t, t ∉ ds → t ∉ slotVars vs → look s1.slots t = look s.slots t) (hobj : ∀ id, id < s.next → id ∉ boxVars vs → id ∉ dead → s1.obj id = s.obj id)
    (hsrc : ∀ i ∈ idsVars s1 vs, i ∈ dead ∨ s.next ≤ i) (hwf : WFm s.sem s.next) (hbx : ∀ id ∈ boxVars vs, id < s.next) (hkv : ∀ id ∈ keepVars vs, id < s.next) :
    WFm (loopHead s ds dead vs x).sem (loopHead s ds dead vs x).next ∧ s.next ≤ (loopHead s ds dead vs x).next ∧ ∃ ρ', Rel E w0 X Z a w (loopHead s ds dead vs x) ρ' N ∧ ∀ id, id < s.next → ρ' id = ρ1 id := by
  obtain ⟨_, hd, hrx⟩ := distinct_append hd0
  obtain ⟨hle, pl, src, hT, hs2, hm2, hb2, hws, hwm, hk⟩ := vars_ok h s.next hr hd
  have hnx : (loopHead s ds dead vs x).next = (putVars vs x s.next).next := rfl
  let ρ' : Nat → Pl := fun id => if s.next ≤ id ∧ id < (putVars vs x s.next).next then pl id else ρ1 id
  let m' := (loopHead s ds dead vs x).obj
  have hm' : ∀ id, m' id = match look (putVars vs x s.next).mem id with
    | some o => o
    | none => if id ∈ dead then none else s.obj id := fun id => head_obj id
  have hlow : ∀ id, id < s.next → ρ' id = ρ1 id := fun id hid => by simp only [ρ']; rw [if_neg (by omega)]
  -- objects that are kept
  have hkept : ∀ id o, m' id = some o → look (putVars vs x s.next).mem id = none → s1.obj id = some o ∧ id < s.next ∧ id ∉ dead ∧ id ∉ boxVars vs ∧ s.obj id = some o := by
    intro id o hmi hl
    rw [hm', hl] at hmi
    simp only at hmi
    split at hmi
    · cases hmi
    · rename_i hnd
      have h1 := (hwf.2 id o hmi).1
      have h2 : id ∉ boxVars vs := fun hc => hb2 id hc hl
      exact ⟨by rw [hobj id h1 h2 hnd]; exact hmi, h1, hnd, h2, hmi⟩
  have ht : Turn ρ1 s1.obj ρ' m' (fun id => s.next ≤ id ∧ id < (putVars vs x s.next).next) := by
    refine ⟨fun id hid => by simp only [ρ']; rw [if_neg hid], fun id o z hid hmi hz => ?_⟩
    cases hq : look (putVars vs x s.next).mem id with
    | some o' =>
      have hmi' := hmi
      rw [hm', hq] at hmi'
      simp only at hmi'
      subst hmi'
      rcases hm2 id _ hq with ⟨g1, g2, _⟩ | ⟨_, ⟨cs, cs', e, _⟩ | ⟨ob, e, e2, _⟩⟩
      · exact absurd ⟨g1, g2⟩ hid
      · simp only [Option.some.injEq] at e
        subst e
        cases hz
      · simp only [Option.some.injEq] at e
        subst e
        exact ⟨o, e2, hz⟩
    | none => exact ⟨o, (hkept id _ hmi hq).1, hz⟩
  obtain ⟨hsl, hmm⟩ := hk ρ' m' (fun id h1 h2 => by simp only [ρ']; rw [if_pos ⟨h1, h2⟩]) (fun id hid => hlow id (hbx id hid)) (fun id ob h1 h2 hmi => by
    rw [hm'] at hmi
    cases hq : look (putVars vs x s.next).mem id with
    | some o => rw [hq] at hmi; simp only at hmi; rw [hmi]
    | none =>
      rw [hq] at hmi
      simp only at hmi
      split at hmi
      · cases hmi
      · have := (hwf.2 id _ hmi).1; omega) hbx (fun id hid => ⟨hlow id (hkv id hid), fun o' z hm hz => ht.row id o' z (by have := hkv id hid; omega) hm hz⟩)
  -- places that are held
  have rowsrc : ∀ {vs : List Var} {i : Nat}, i ∈ idsVars s1 vs → ∀ {x : denVars vs}, readVars s1 vs = some x → ∃ o z, s1.obj i = some o ∧ o.rw = some z := by
    have kk : ∀ {own : Bool} {t : Ty} {c : C} {i : Nat} {y : kden own t}, i ∈ kId s1.obj own c → kRead s1.obj own t c = some y → ∃ o z, s1.obj i = some o ∧ o.rw = some z := by
      intro own t c i y hi hy
      cases own with
      | false => simp [kId] at hi
      | true =>
        cases hmk : isMark' t with
        | false =>
          rcases kRead_plain hmk hy with ⟨rfl, _, _⟩ | ⟨rfl, _⟩ | ⟨j, rfl, hm0⟩
          · simp [kId] at hi
          · simp [kId] at hi
          · simp only [kId, hm0, List.mem_singleton] at hi
            subst hi
            exact ⟨_, _, hm0, rfl⟩
        | true =>
          cases t with
          | mark ow t =>
            rcases kRead_mark hy with ⟨rfl, _⟩ | ⟨j, d, xs, rfl, hm0, hx, _⟩
            · simp [kId] at hi
            · simp only [kId, hm0, List.mem_cons] at hi
              rcases hi with rfl | hi
              · exact ⟨_, _, hm0, rfl⟩
              · obtain ⟨c, hc, hi⟩ := List.mem_flatMap.1 hi
                obtain ⟨_, t9, ys9, e9⟩ := ownKid_row (List.all_eq_true.1 (flatD_kids hx) c hc) hi
                exact ⟨_, _, e9, rfl⟩
          | _ => cases hmk
    have cc : ∀ {ks : List (Bool × Ty)} {cs : List C} {i : Nat} {y : denCells ks}, i ∈ idsCells s1.obj ks cs → readCells s1.obj ks cs = some y → ∃ o z, s1.obj i = some o ∧ o.rw = some z := by
      intro ks
      induction ks with
      | nil => intro cs i y hi _; simp [idsCells] at hi
      | cons k ks ih =>
        intro cs i y hi hy
        obtain ⟨own, t⟩ := k
        cases cs with
        | nil => simp [idsCells] at hi
        | cons c cs =>
          simp only [idsCells, List.mem_append] at hi
          simp only [readCells] at hy
          split at hy
          · rename_i y1 y2 e1 e2
            rcases hi with hi | hi
            · exact kk hi e1
            · exact ih hi e2
          · cases hy
    intro vs
    induction vs with
    | nil => intro i hi; simp [idsVars] at hi
    | cons v vs ih =>
      intro i hi x hx
      cases v with
      | slot t0 own t =>
        simp only [readVars] at hx
        split at hx
        · rename_i c hsl'
          simp only [idsVars, hsl', List.mem_append] at hi
          split at hx
          · rename_i y1 y2 e1 e2
            rcases hi with hi | hi
            · exact kk hi e1
            · exact ih hi e2
          · cases hx
        · cases hx
      | agg t0 ks =>
        simp only [readVars] at hx
        split at hx
        · rename_i cs0 hsl'
          simp only [idsVars, hsl', List.mem_append] at hi
          split at hx
          · rename_i y1 y2 e1 e2
            rcases hi with hi | hi
            · exact cc hi e1
            · exact ih hi e2
          · cases hx
        · cases hx
      | box id0 ks =>
        simp only [readVars] at hx
        split at hx
        · rename_i cs0 hob'
          simp only [idsVars, hob', List.mem_append] at hi
          split at hx
          · rename_i y1 y2 e1 e2
            rcases hi with hi | hi
            · exact cc hi e1
            · exact ih hi e2
          · cases hx
        · cases hx
      | row id0 ty =>
        simp only [readVars] at hx
        split at hx
        · rename_i y1 y2 e1 e2
          exact ih hi e2
        · cases hx
  have hheld : ∀ id o b, m' id = some o → Bl (ρ' id) o b → ∃ i o2, s1.obj i = some o2 ∧ Bl (ρ1 i) o2 b ∧
      ((s.next ≤ id ∧ id < (putVars vs x s.next).next ∧ src id b ∧ i ∈ idsVars s1 vs) ∨ (i = id ∧ id < s.next ∧ (i ∈ idsVars s1 vs → False))) := by
    intro id o b hmi hh
    cases hq : look (putVars vs x s.next).mem id with
    | some o' =>
      have hmi' := hmi
      rw [hm', hq] at hmi'
      simp only at hmi'
      subst hmi'
      rcases hm2 id _ hq with ⟨g1, g2, ob, e, _⟩ | ⟨g1, ⟨cs, cs', e, hcs'⟩ | ⟨ob, e, hob, hrv⟩⟩
      · obtain ⟨ob2, e2, _, e4⟩ := hmm id _ hq
        simp only [Option.some.injEq] at e2
        subst e2
        have hsr := e4 g1 b hh
        obtain ⟨i, a1, o2, a2, _, a3⟩ := hT.was id b g1 g2 hsr
        exact ⟨i, o2, a2, a3, .inl ⟨g1, g2, hsr, a1⟩⟩
      · simp only [Option.some.injEq] at e
        subst e
        rw [hlow id (hbx id g1)] at hh
        refine ⟨id, _, hcs', hh, .inr ⟨rfl, hbx id g1, fun hin => ?_⟩⟩
        obtain ⟨o9, z9, hrow, hz9⟩ := rowsrc hin hr
        rw [hcs'] at hrow
        simp only [Option.some.injEq] at hrow
        subst hrow
        cases hz9
      · simp only [Option.some.injEq] at e
        subst e
        rw [hlow id (hbx id g1)] at hh
        exact ⟨id, _, hob, hh, .inr ⟨rfl, hbx id g1, fun hin => hrx id hrv hin⟩⟩
    | none =>
      obtain ⟨g1, g2, g3, g4, _⟩ := hkept id o hmi hq
      rw [hlow id g2] at hh
      refine ⟨id, o, g1, hh, .inr ⟨rfl, g2, fun hin => ?_⟩⟩
      rcases hsrc id hin with h5 | h5
      · exact g3 h5
      · omega
  have hown : ∀ b, Own ρ' m' b → Own ρ1 s1.obj b := by
    rintro b ⟨id, o, hmi, hh⟩
    obtain ⟨i, o2, e1, e2, _⟩ := hheld id o b hmi hh
    exact ⟨i, o2, e1, e2⟩
  have hmr : MR w N ρ' m' := by
    refine ⟨fun id o hmi => ?_, fun id id' o1 o2 b e1 e2 hh1 hh2 => ?_, fun b hb ho => h.mr.nown b hb (hown b ho), h.mr.nlt⟩
    · cases hq : look (putVars vs x s.next).mem id with
      | some o' =>
        have hmi' := hmi
        rw [hm', hq] at hmi'
        simp only at hmi'
        subst hmi'
        obtain ⟨ob, e1, e2, _⟩ := hmm id _ hq
        simp only [Option.some.injEq] at e1
        subst e1
        exact e2
      | none =>
        obtain ⟨g1, g2, g3, g4, g5⟩ := hkept id o hmi hq
        exact (h.mr.obj id o g1).turn ht (fun _ h => h) (fun _ _ => rfl) (by omega) (fun i hi hF => by have := (hwf.2 id o g5).2 i hi; omega) fun _ _ => rfl
    · obtain ⟨i1, q1, a1, a2, a4⟩ := hheld id o1 b e1 hh1
      obtain ⟨i2, q2, b1, b2, b4⟩ := hheld id' o2 b e2 hh2
      have hii := h.mr.inj i1 i2 q1 q2 b a1 b1 a2 b2
      rcases a4 with ⟨c1, c2, c3, c5⟩ | ⟨c1, c2, c3⟩ <;> rcases b4 with ⟨d1, d2, d3, d5⟩ | ⟨d1, d2, d3⟩
      · exact hT.inj id id' b c1 c2 d1 d2 c3 d3
      · exfalso; rw [hii] at c5; exact d3 c5
      · exfalso; rw [← hii] at d5; exact c3 d5
      · rw [← c1, ← d1, hii]
  have hfin : Rel E w0 X Z a w (loopHead s ds dead vs x) ρ' N := by
    refine ⟨fun t sv hl => ?_, hmr, h.defers, h.since, fun b hb => h.own b (hown b hb), h.glob, h.nn⟩
    rw [head_slot] at hl
    cases hq : look (putVars vs x s.next).slots t with
    | some v =>
      rw [hq] at hl
      simp only [Option.some.injEq] at hl
      subst hl
      exact hsl t v hq
    | none =>
      rw [hq] at hl
      simp only at hl
      split at hl
      · rename_i hc
        have hl1 : look s1.slots t = some sv := by rw [hslot t hc.1 hc.2]; exact hl
        exact (h.slots t sv hl1).turn ht (fun _ h => h) (fun _ _ => rfl) fun id hid hF => by have := hwf.1 t sv hl id hid; omega
      · cases hl
  refine ⟨⟨fun t sv hl id hid => ?_, fun id o hl => ?_⟩, by rw [hnx]; exact hle, ρ', hfin, hlow⟩
  · have hl : look (loopHead s ds dead vs x).slots t = some sv := hl
    rw [head_slot] at hl
    rw [hnx]
    cases hq : look (putVars vs x s.next).slots t with
    | some v =>
      rw [hq] at hl
      simp only [Option.some.injEq] at hl
      subst hl
      rcases hws t v hq id hid with h9 | h9
      · exact h9
      · have := hkv id h9; omega
    | none =>
      rw [hq] at hl
      simp only at hl
      split at hl
      · have := hwf.1 t sv hl id hid; omega
      · cases hl
  · have hl' : m' id = some o := hl
    rw [hnx]
    cases hq : look (putVars vs x s.next).mem id with
    | some o' =>
      have hmi' := hl'
      rw [hm', hq] at hmi'
      simp only at hmi'
      subst hmi'
      refine ⟨?_, fun i hi => (hwm id o hq i hi).elim (fun h9 => h9) fun h9 => by have := hkv i h9; omega⟩
      rcases hm2 id _ hq with ⟨g1, g2, _⟩ | ⟨g1, _⟩
      · exact g2
      · have := hbx id g1; omega
    | none =>
      obtain ⟨_, g2, _, _, g5⟩ := hkept id o hl' hq
      refine ⟨by omega, fun i hi => ?_⟩
      have := (hwf.2 id o g5).2 i hi
      omega

end
end Go.Proofs.YtedjlbcclhgfmaaDoor

/- THE MACHINE OF READINGS, part Y: what the evaluator says of code is so. -/
namespace Go.Proofs.YtedjlbcclhgfmaaDoor
open Go.RowKit

/-- what code has left as it was -/
structure Went (D : List Nat) (s s' : St) (ρ ρ' : Nat → Pl) : Prop where
  next : s.next ≤ s'.next
  pl : ∀ id, id < s.next → ρ' id = ρ id
  tch : ∀ x ∈ s.tch, x ∈ s'.tch
  obj : ∀ id, id < s.next → id ∉ s'.tch → s'.obj id = s.obj id
  slot : ∀ t, t ∉ D → look s'.slots t = look s.slots t

theorem Went.refl (D : List Nat) (s : St) (ρ : Nat → Pl) : Went D s s ρ ρ := ⟨Nat.le_refl _, fun _ _ => rfl, fun _ h => h, fun _ _ _ => rfl, fun _ _ => rfl⟩
theorem Went.trans {D D' : List Nat} {s s1 s2 : St} {ρ ρ1 ρ2 : Nat → Pl} (h : Went D s s1 ρ ρ1) (k : Went D' s1 s2 ρ1 ρ2) : Went (D ++ D') s s2 ρ ρ2 := by
  refine ⟨Nat.le_trans h.next k.next, fun id hid => ?_, fun x hx => k.tch x (h.tch x hx), fun id hid hn => ?_, fun t ht => ?_⟩
  · rw [k.pl id (Nat.lt_of_lt_of_le hid h.next), h.pl id hid]
  · rw [k.obj id (Nat.lt_of_lt_of_le hid h.next) hn, h.obj id hid fun hx => hn (k.tch id hx)]
  · simp only [List.mem_append, not_or] at ht
    rw [k.slot t ht.2, h.slot t ht.1]
theorem Went.mono {D D' : List Nat} {s s1 : St} {ρ ρ1 : Nat → Pl} (h : Went D s s1 ρ ρ1) (hD : ∀ t ∈ D, t ∈ D') : Went D' s s1 ρ ρ1 :=
  ⟨h.next, h.pl, h.tch, h.obj, fun t ht => h.slot t fun hx => ht (hD t hx)⟩

def exOf : Exit → Option Ex
  | .normal => some .normal
  | .exit id => some (.exit id)
  | .ret => some .ret
  | _ => none

def Post (E : Env) (w0 : World) (X Z : Blk) (n : Nat) (Q : Ex → St → Prop) (D : List Nat) (s : St) (ρ : Nat → Pl) (N : Blk) : Exit → Act → World → Prop := fun ex a' w' =>
  ∃ e s' ρ' N', exOf ex = some e ∧ Q e s' ∧ Rel E w0 X Z a' w' s' ρ' N' ∧ WFm s'.sem s'.next ∧ (∀ b, N b → N' b) ∧ Went D s s' ρ ρ' ∧ a'.tmps.size = n

section
variable {E : Env} {w0 : World} {X Z : Blk} {a : Act} {w w' : World} {s s1 : St} {ρ1 ρ ρ' : Nat → Pl} {N N' : Blk} {m m1 m' : Mem} {n : Nat}

theorem Post.chain {Q : Ex → St → Prop} {D D' : List Nat} {s1 : St} {ex : Exit} (hw : Went D s s1 ρ ρ1) (hN : ∀ b, N b → N' b) (h : Post E w0 X Z n Q D' s1 ρ1 N' ex a w) : Post E w0 X Z n Q (D ++ D') s ρ N ex a w := by
  obtain ⟨e, s', ρ', N2, h1, h2, h3, h4, h5, h6, h7⟩ := h
  exact ⟨e, s', ρ', N2, h1, h2, h3, h4, fun b hb => h5 b (hN b hb), hw.trans h6, h7⟩
theorem Post.mono {Q : Ex → St → Prop} {D D' : List Nat} {ex : Exit} (hD : ∀ t ∈ D, t ∈ D') (h : Post E w0 X Z n Q D s ρ N ex a w) : Post E w0 X Z n Q D' s ρ N ex a w := by
  obtain ⟨e, s', ρ', N2, h1, h2, h3, h4, h5, h6, h7⟩ := h
  exact ⟨e, s', ρ', N2, h1, h2, h3, h4, h5, h6.mono hD, h7⟩

/-- a draw -/
theorem Rel.drawn (h : Rel E w0 X Z a w s ρ N) (k : Nat) : Rel E w0 X Z a { w with drawn := k } s ρ N := by
  have hs : SameOn N w { w with drawn := k } := fun _ _ => rfl
  have ht : Turn ρ s.obj ρ s.obj (fun _ => False) := .same rfl rfl
  refine ⟨fun t sv hl => (h.slots t sv hl).turn ht (fun _ h => h) hs (fun _ _ h => h), ⟨fun id o ho => (h.mr.obj id o ho).turn ht (fun _ h => h) hs (fun h => h) (fun _ _ h => h) (fun _ _ => rfl), h.mr.inj, h.mr.nown, h.mr.nlt⟩, h.defers,
    ⟨h.since.os, h.since.tape, h.since.output, h.since.size, h.since.keep⟩, h.own, fun g cs hg => (h.glob g cs hg).step (fun _ h => h) hs, h.nn⟩

theorem region_ok (hE : E.Ok) {id : Nat} {ops : Array Oper} {d : Bool} {Q : Ex → St → Prop} (h : Rel E w0 X Z a w s ρ N) (hwf : WFm s.sem s.next) (hn : a.tmps.size = n)
    (hd : ∀ o ∈ ops.toList, ∀ t, o.dst = some t → t < n)
    (hreg : aRegion E ops d (fun s' tr => cond (!d || (fine ops tr && edgesOk ops && E.P.follows .mixedOrders)) (Q .normal { s' with next := s'.next + ops.size * maxIds }) False) ops.toList.zipIdx s []) :
    (Code.region id ops d).wp E.P (Post E w0 X Z n Q (ops.toList.filterMap (·.dst)) s ρ N) a w := by
  cases d with
  | false =>
    refine wp_region ?_
    have hr : List.range ops.size = List.range' 0 ops.toList.length := by rw [List.range_eq_range']; simp
    rw [hr]
    refine text_ok hE ops.toList 0 s [] a w ρ N (fun p hp => ?_) hreg hd hn h (by simpa using hwf) fun a' w' s' ρ' N' tr' g1 g2 g3 g4 g5 g6 g7 g8 g9 g10 => ?_
    · rw [List.mem_zipIdx_iff_getElem?] at hp
      simpa using hp
    · simp only [Bool.not_false, Bool.true_or, cond_true] at g1
      refine ⟨.normal, { s' with next := s'.next + ops.size * maxIds }, ρ', N', rfl, g1, g2.sem rfl, ?_, g6, ⟨?_, g5, g8, fun id _ hnt => g9 id hnt, fun t ht => g10 t fun o ho => ⟨fun hdst => ht (List.mem_filterMap.2 ⟨o, ho, hdst⟩), fun g want _ hc => ht ?_⟩⟩, g7⟩
      · have e : s.next + (0 + ops.toList.length) * maxIds = s'.next + ops.size * maxIds := by rw [g3]; simp
        rw [e] at g4
        exact g4
      · show s.next ≤ s'.next + ops.size * maxIds
        rw [g3]; omega
      · cases hg : ops[g]? with
        | none => rw [hg] at hc; cases hc
        | some o =>
          rw [hg] at hc
          exact List.mem_filterMap.2 ⟨o, by simpa using Array.mem_of_getElem? hg, hc⟩
  | true =>
  obtain ⟨es, s', h1, h2, h3, h4, h5, h6, h7⟩ := region_chain hE rfl _ _ _ hreg
  have hlast : (true = true → fine ops (es.reverse.map (stepOf s.next)) = true ∧ edgesOk ops = true ∧ E.P.follows .mixedOrders = true) ∧ Q .normal { s' with next := s'.next + ops.size * maxIds } := by
    cases hc : (!true || (fine ops (es.reverse.map (stepOf s.next) ++ []) && edgesOk ops && E.P.follows .mixedOrders)) with
    | false => rw [hc] at h7; exact h7.elim
    | true =>
      rw [hc] at h7
      refine ⟨fun _ => ?_, h7⟩
      simp only [Bool.not_true, Bool.false_or, Bool.and_eq_true, List.append_nil] at hc
      exact ⟨hc.1.1, hc.1.2, hc.2⟩
  have hwf' : WFm s'.sem (s.next + (0 + ops.toList.length) * maxIds) := chain_wf ops.toList 0 es _ _ h1 h2 h3 (by simpa using hwf)
  have hobj : ∀ id, id < s.next → id ∉ s'.tch → s'.obj id = s.obj id := by
    intro id _ hnt
    have e1 : s'.obj id = (appE es (fun _ => true) s.sem).ob id := by
      have := chain_app h2
      exact congrArg (fun z => z.ob id) this
    rw [e1]
    have key : ∀ (l : List En) (z : Sm), (∀ e ∈ l, look e.e.upd id = none) → (appE l (fun _ => true) z).ob id = z.ob id := by
      intro l
      induction l with
      | nil => intro z _; rfl
      | cons x l ih =>
        intro z hx
        simp only [appE, if_true]
        rw [ih _ fun e he => hx e (by simp [he])]
        simp only [Sm.put, hx x (by simp)]
    rw [key es s.sem fun e he => look_none fun hk => hnt ?_]
    · rfl
    · rw [h5]
      exact List.mem_append_left _ (List.mem_flatMap.2 ⟨e, by simpa using he, hk⟩)
  have hslot : ∀ t, t ∉ ops.toList.filterMap (·.dst) → look s'.slots t = look s.slots t := by
    intro t ht
    refine h6 t fun e he => ⟨fun hdst => ht ?_, fun g want _ hc => ht ?_⟩
    · have : (e.o, e.i) ∈ ops.toList.zipIdx := by rw [← h1]; exact List.mem_map.2 ⟨e, he, rfl⟩
      have hm : e.o ∈ ops.toList := by
        rw [List.mem_zipIdx_iff_getElem?] at this
        exact List.mem_of_getElem? this
      exact List.mem_filterMap.2 ⟨e.o, hm, hdst⟩
    · cases hg : ops[g]? with
      | none => rw [hg] at hc; cases hc
      | some o =>
        rw [hg] at hc
        exact List.mem_filterMap.2 ⟨o, by simpa using Array.mem_of_getElem? hg, hc⟩
  -- whatever state of the model stands for s'
  have fin : ∀ a' w' s2 ρ' N', s2.sem = s'.sem → Rel E w0 X Z a' w' s2 ρ' N' → (∀ id, id < s.next → ρ' id = ρ id) → (∀ b, N b → N' b) → a'.tmps.size = n → Post E w0 X Z n Q (ops.toList.filterMap (·.dst)) s ρ N .normal a' w' := by
    intro a' w' s2 ρ' N' g1 g2 g3 g4 g5
    refine ⟨.normal, { s' with next := s'.next + ops.size * maxIds }, ρ', N', rfl, hlast.2, g2.sem g1, ?_, g4, ⟨?_, g3, ?_, hobj, hslot⟩, g5⟩
    · have e : s.next + (0 + ops.toList.length) * maxIds = s'.next + ops.size * maxIds := by rw [h4]; simp
      rw [e] at hwf'
      exact hwf'
    · show s.next ≤ s'.next + ops.size * maxIds
      rw [h4]; omega
    · intro x hx
      show x ∈ s'.tch
      rw [h5]; exact List.mem_append_right _ hx
  · obtain ⟨hf1, hf2, hf3⟩ := hlast.1 rfl
    refine wp_region_any hf3 ?_
    have hpw : es.Pairwise fun e1 e2 => apartSteps ops (stepOf s.next e2) (stepOf s.next e1) = true := by
      have := fine_pairs (base := s.next) hf1
      rw [List.pairwise_map, List.pairwise_reverse] at this
      exact this
    refine drawn_any hE h1 h2 h3 hpw hf2 hwf hd (ρ0 := ρ) (N0 := N) (fun a' w' s2 ρ' N' g1 g2 g3 g4 g5 => fin a' w' s2 ρ' N' g1 g2 g3 g4 g5) ops.size (Array.replicate ops.size false) a _ s ρ N (by simp) ?_ ?_ (h.drawn _) ?_ (fun _ _ => rfl) (fun _ h => h) hn
    · have := List.countP_le_length (p := (· == false)) (l := (Array.replicate ops.size false).toList)
      simpa using this
    · intro k o hk
      rw [Array.getD_eq_getD_getElem?] at hk
      by_cases hks : k < ops.size
      · simp [hks] at hk
      · simp [hks] at hk
    · have e2 : ∀ (l : List En) (z : Sm) (L : Nat → Bool), (∀ i, L i = false) → appE l L z = z := by
        intro l
        induction l with
        | nil => intro z L _; rfl
        | cons x l ih => intro z L hL; simp only [appE, hL, Bool.false_eq_true, if_false]; exact ih z L hL
      rw [e2]
      intro i
      rw [Array.getD_eq_getD_getElem?]
      by_cases hks : i < ops.size <;> simp [hks]

/-- A loop by a measure that hangs on what is known of a round's head. -/
theorem wp_loop_k {P : Program} {Q : Exit → Act → World → Prop} {c : Code} (I : Nat → Act → World → Prop) {k0 : Nat} (h0 : I k0 a w)
    (round : ∀ k a w, I k a w → c.wp P (Exit.then (fun a' w' => ∃ k', k' < k ∧ I k' a' w') Q) a w) : (Code.loop c).wp P Q a w := by
  intro b k cs
  have key : ∀ n a w, I n a w → ∃ e a' w', Q e a' w' ∧ Arrives P (lone (b.at a (.code c :: .inLoop c :: k)) cs w) b k cs e a' w' := by
    intro n
    induction n using Nat.strongRecOn with
    | _ n ih =>
      intro a w hI
      obtain ⟨e, a₁, w₁, hq, harr⟩ := round n a w hI b (.inLoop c :: k) cs
      cases e with
      | normal =>
        obtain ⟨k', hlt, hI₁⟩ := hq
        obtain ⟨e₂, a₂, w₂, hq₂, harr₂⟩ := ih k' hlt a₁ w₁ hI₁
        exact ⟨e₂, a₂, w₂, hq₂, .of_steps (Steps.trans harr (.one step_inLoop)) harr₂⟩
      | exit id => exact ⟨_, a₁, w₁, hq, .pass (x := .inLoop c) rfl (fun _ _ => .inl (by simp)) harr⟩
      | goto l => exact ⟨_, a₁, w₁, hq, .pass (x := .inLoop c) rfl (fun _ _ => .inl (by simp)) harr⟩
      | ret => exact ⟨_, a₁, w₁, hq, .pass (x := .inLoop c) rfl (fun _ _ => .inl (by simp)) harr⟩
      | panic ch => exact ⟨_, a₁, w₁, hq, .pass (x := .inLoop c) rfl (fun _ _ => .inl (by simp)) harr⟩
      | outgrown => exact ⟨_, a₁, w₁, hq, .pass (x := .inLoop c) rfl (fun _ _ => .inl (by simp)) harr⟩
  obtain ⟨e, a', w', hq, harr⟩ := key _ a w h0
  exact ⟨e, a', w', hq, .of_steps (.one step_loop) harr⟩

theorem readVars_box {vs : List Var} : ∀ {x : denVars vs}, readVars s vs = some x → ∀ id ∈ boxVars vs, ∃ o, s.obj id = some o := by
  induction vs with
  | nil => intro x _ id hid; cases hid
  | cons v vs ih =>
    intro x hx id hid
    cases v with
    | slot t0 own t =>
      simp only [readVars] at hx
      split at hx
      · split at hx
        · rename_i y z hy hz; exact ih hz id hid
        · cases hx
      · cases hx
    | agg t0 ks =>
      simp only [readVars] at hx
      split at hx
      · split at hx
        · rename_i y z hy hz; exact ih hz id hid
        · cases hx
      · cases hx
    | box id0 ks =>
      simp only [readVars] at hx
      split at hx
      · rename_i cs hob
        split at hx
        · rename_i y z hy hz
          rcases List.mem_cons.1 hid with rfl | hid
          · exact ⟨_, hob⟩
          · exact ih hz id hid
        · cases hx
      · cases hx
    | row id0 ty =>
      simp only [readVars] at hx
      split at hx
      · rename_i y z hy hz
        rcases List.mem_cons.1 hid with rfl | hid
        · exact ⟨_, aElems_hs hy⟩
        · exact ih hz id hid
      · cases hx

/-- WHAT THE EVALUATOR SAYS OF CODE IS SO. -/
theorem awp_ok (hE : E.Ok) (A : Nat → St → Option Ann) (n : Nat) (F : List Nat) : ∀ (c : Code) (Q : Ex → St → Prop) (s : St) (a : Act) (w : World) (ρ : Nat → Pl) (N : Blk), awp E A n F c Q s → Rel E w0 X Z a w s ρ N → WFm s.sem s.next → a.tmps.size = n → c.wp E.P (Post E w0 X Z n Q (Code.dsts F c) s ρ N) a w
  | .skip, Q, s, a, w, ρ, N, hq, h, hwf, hn => wp_skip ⟨.normal, s, ρ, N, rfl, hq, h, hwf, fun _ h => h, .refl _ _ _, hn⟩
  | .exit id, Q, s, a, w, ρ, N, hq, h, hwf, hn => wp_exit ⟨.exit id, s, ρ, N, rfl, hq, h, hwf, fun _ h => h, .refl _ _ _, hn⟩
  | .ret, Q, s, a, w, ρ, N, hq, h, hwf, hn => wp_ret ⟨.ret, s, ρ, N, rfl, hq, h, hwf, fun _ h => h, .refl _ _ _, hn⟩
  | .region id ops d, Q, s, a, w, ρ, N, hq, h, hwf, hn => by
    simp only [awp] at hq
    cases hc : ops.toList.all (dstBelow n) with
    | false => rw [hc] at hq; exact hq.elim
    | true =>
      rw [hc] at hq
      refine region_ok hE h hwf hn (fun o ho t ht => ?_) hq
      have := List.all_eq_true.1 hc o ho
      unfold dstBelow at this
      rw [ht] at this
      simpa [Nat.blt_eq] using this
  | .seq x y, Q, s, a, w, ρ, N, hq, h, hwf, hn => by
    refine wp_seq (wp_mono (awp_ok hE A n F x _ s a w ρ N hq h hwf hn) fun ex a' w' hp => ?_)
    obtain ⟨e, s', ρ', N', h1, h2, h3, h4, h5, h6, h7⟩ := hp
    cases ex with
    | normal =>
      simp only [exOf, Option.some.injEq] at h1
      subst h1
      exact wp_mono (awp_ok hE A n F y Q s' a' w' ρ' N' h2 h3 h4 h7) fun ex2 a2 w2 hp2 => hp2.chain h6 h5
    | exit id =>
      simp only [exOf, Option.some.injEq] at h1
      subst h1
      exact ⟨_, s', ρ', N', rfl, h2, h3, h4, h5, h6.mono fun t ht => List.mem_append_left _ ht, h7⟩
    | ret =>
      simp only [exOf, Option.some.injEq] at h1
      subst h1
      exact ⟨_, s', ρ', N', rfl, h2, h3, h4, h5, h6.mono fun t ht => List.mem_append_left _ ht, h7⟩
    | goto l => cases h1
    | panic ch => cases h1
    | outgrown => cases h1
  | .cond c x y, Q, s, a, w, ρ, N, hq, h, hwf, hn => by
    simp only [awp] at hq
    split at hq
    · rename_i t hg
      have hv := h.get c
      rw [hg] at hv
      have hv : a.eval c = .bool t := vr1 hv
      cases t with
      | true => exact wp_cond_true hv (wp_mono (awp_ok hE A n F x Q s a w ρ N hq h hwf hn) fun _ _ _ hp => hp.mono fun t ht => List.mem_append_left _ ht)
      | false => exact wp_cond_false hv (wp_mono (awp_ok hE A n F y Q s a w ρ N hq h hwf hn) fun _ _ _ hp => hp.mono fun t ht => List.mem_append_right _ ht)
    · exact hq.elim
  | .block id b, Q, s, a, w, ρ, N, hq, h, hwf, hn => by
    refine wp_block (wp_mono (awp_ok hE A n F b _ s a w ρ N hq h hwf hn) fun ex a' w' hp => ?_)
    obtain ⟨e, s', ρ', N', h1, h2, h3, h4, h5, h6, h7⟩ := hp
    cases ex with
    | normal =>
      simp only [exOf, Option.some.injEq] at h1
      subst h1
      exact ⟨_, s', ρ', N', rfl, h2, h3, h4, h5, h6, h7⟩
    | exit id' =>
      simp only [exOf, Option.some.injEq] at h1
      subst h1
      simp only [Exit.inBlock]
      by_cases hid : id' = id
      · subst hid
        simp only [Nat.beq_refl, cond_true] at h2
        rw [if_pos rfl]
        exact ⟨_, s', ρ', N', rfl, h2, h3, h4, h5, h6, h7⟩
      · have hb : Nat.beq id' id = false := by
          cases hq : Nat.beq id' id with
          | true => exact absurd (Nat.eq_of_beq_eq_true hq) hid
          | false => rfl
        simp only [hb, cond_false] at h2
        rw [if_neg hid]
        exact ⟨_, s', ρ', N', rfl, h2, h3, h4, h5, h6, h7⟩
    | ret =>
      simp only [exOf, Option.some.injEq] at h1
      subst h1
      exact ⟨_, s', ρ', N', rfl, h2, h3, h4, h5, h6, h7⟩
    | goto l => cases h1
    | panic ch => cases h1
    | outgrown => cases h1
  | .loop b, Q, s, a, w, ρ, N, hq, h, hwf, hn => by
    simp only [awp] at hq
    split at hq
    · exact hq.elim
    · rename_i L hL
      cases hsv0 : (((slotVars L.vars).all fun t => (F ++ Code.dsts F b).contains t) && (keepVars L.vars).all (Nat.blt · s.next)) with
      | false => rw [hsv0] at hq; exact hq.elim
      | true =>
        rw [hsv0] at hq
        simp only [cond_true] at hq
        simp only [Bool.and_eq_true] at hsv0
        obtain ⟨hsv, hkv0⟩ := hsv0
        have hkv : ∀ id ∈ keepVars L.vars, id < s.next := allBlt.1 hkv0
        have hsv' : ∀ t ∈ slotVars L.vars, t ∈ F ++ Code.dsts F b := fun t ht => by
          have := List.all_eq_true.1 hsv t ht
          simpa using this
        unfold loopIn at hq
        split at hq
        · rename_i x0 hx0
          cases hdc : (distinct (rowVars L.vars ++ idsVars s L.vars) && (idsVars s L.vars).all fun _ => true) with
          | false => rw [hdc] at hq; exact hq.elim
          | true =>
            rw [hdc] at hq
            simp only [Bool.and_eq_true] at hdc
            obtain ⟨hinv0, hround⟩ := hq
            have hbx : ∀ id ∈ boxVars L.vars, id < s.next := fun id hid => by
              obtain ⟨o, ho⟩ := readVars_box hx0 id hid
              exact (hwf.2 id o ho).1
            let hd : denVars L.vars → St := fun y => loopHead s (F ++ Code.dsts F b) (idsVars s L.vars) L.vars y
            refine wp_loop_k (fun k a w => ∃ y ρ' N', L.mu y = k ∧ L.inv y ∧ Rel E w0 X Z a w (hd y) ρ' N' ∧ WFm (hd y).sem (hd y).next ∧ s.next ≤ (hd y).next ∧ (∀ id, id < s.next → ρ' id = ρ id) ∧ (∀ b, N b → N' b) ∧ a.tmps.size = n) (k0 := L.mu x0) ?_ ?_
            · obtain ⟨g1, g2, ρ', g3, g4⟩ := head_ok h (s := s) (ds := F ++ Code.dsts F b) (dead := idsVars s L.vars) hx0 hdc.1 (fun _ _ _ => rfl) (fun _ _ _ _ => rfl) (fun i hi => .inl hi) hwf hbx hkv
              exact ⟨x0, ρ', N, rfl, hinv0, g3, g1, g2, g4, fun _ h => h, hn⟩
            · rintro k a w ⟨y, ρy, Ny, rfl, hiy, hrel, hwfy, hny, hρy, hNy, hay⟩
              refine wp_mono (awp_ok hE A n F b _ (hd y) a w ρy Ny (hround y hiy) hrel hwfy hay) fun ex a' w' hp => ?_
              obtain ⟨e, s', ρ', N', h1, h2, h3, h4, h5, h6, h7⟩ := hp
              -- what the head keeps of s
              have hhs : ∀ t, t ∉ F ++ Code.dsts F b → t ∉ slotVars L.vars → look (hd y).slots t = look s.slots t := by
                intro t ht1 ht2
                rw [head_slot]
                cases hq : look (putVars L.vars y s.next).slots t with
                | some v =>
                  have : t ∈ slotVars L.vars := by
                    have key : ∀ {vs : List Var} {x : denVars vs} {k : Nat}, look (putVars vs x k).slots t = some v → t ∈ slotVars vs := by
                      intro vs
                      induction vs with
                      | nil => intro x k h; simp [putVars, look] at h
                      | cons u vs ih =>
                        intro x k h
                        cases u with
                        | slot t0 own ty =>
                          simp only [putVars] at h
                          rw [look_cons] at h
                          split at h
                          · rename_i e; subst e; simp [slotVars]
                          · simp only [slotVars, List.mem_cons]; exact .inr (ih h)
                        | agg t0 ks =>
                          simp only [putVars] at h
                          rw [look_cons] at h
                          split at h
                          · rename_i e; subst e; simp [slotVars]
                          · simp only [slotVars, List.mem_cons]; exact .inr (ih h)
                        | box id0 ks => exact ih h
                        | row id0 ty => exact ih h
                    exact key hq
                  exact absurd this ht2
                | none => simp only; rw [if_pos ⟨ht1, ht2⟩]
              have hho : ∀ id, id < s.next → id ∉ boxVars L.vars → id ∉ idsVars s L.vars → (hd y).obj id = s.obj id := by
                intro id hid hb hdd
                rw [head_obj]
                cases hq : look (putVars L.vars y s.next).mem id with
                | some o =>
                  exfalso
                  have key : ∀ {vs : List Var} {x : denVars vs} {k : Nat}, s.next ≤ k → look (putVars vs x k).mem id = some o → id ∈ boxVars vs := by
                    have cellsKey : ∀ {ks : List (Bool × Ty)} {x : denCells ks} {k : Nat}, s.next ≤ k → look (putCells ks x k).2.1 id = some o → False := by
                      intro ks
                      induction ks with
                      | nil => intro x k _ h; simp [putCells, look] at h
                      | cons q ks ih =>
                        intro x k hk h
                        obtain ⟨own, t⟩ := q
                        simp only [putCells] at h
                        rw [look_append] at h
                        cases own with
                        | false => exact ih (k := kNext false k) (by simpa [kNext] using hk) (by simpa [kMem, look] using h)
                        | true =>
                          simp only [kMem] at h
                          rw [look_cons] at h
                          by_cases he : k = id
                          · omega
                          · rw [if_neg he] at h
                            simp only [look] at h
                            exact ih (by simp only [kNext]; omega) h
                    have cellsNext : ∀ {ks : List (Bool × Ty)} {x : denCells ks} {k : Nat}, k ≤ (putCells ks x k).2.2 := by
                      intro ks
                      induction ks with
                      | nil => intro x k; exact Nat.le_refl _
                      | cons q ks ih =>
                        intro x k
                        obtain ⟨own, t⟩ := q
                        simp only [putCells]
                        have := ih (x := x.2) (k := kNext own k)
                        have : k ≤ kNext own k := by cases own <;> simp [kNext]
                        omega
                    intro vs
                    induction vs with
                    | nil => intro x k _ h; simp [putVars, look] at h
                    | cons u vs ih =>
                      intro x k hk h
                      cases u with
                      | slot t0 own ty =>
                        simp only [putVars] at h
                        rw [look_append] at h
                        cases own with
                        | false => exact ih (k := kNext false k) (by simpa [kNext] using hk) (by simpa [kMem, look] using h)
                        | true =>
                          simp only [kMem] at h
                          rw [look_cons] at h
                          by_cases he : k = id
                          · omega
                          · rw [if_neg he] at h
                            simp only [look] at h
                            exact ih (by simp only [kNext]; omega) h
                      | agg t0 ks =>
                        simp only [putVars] at h
                        rw [look_append] at h
                        cases hq2 : look (putCells ks x.1 k).2.1 id with
                        | some o2 =>
                          rw [hq2] at h
                          simp only [Option.some.injEq] at h
                          subst h
                          exact (cellsKey hk hq2).elim
                        | none =>
                          rw [hq2] at h
                          have := cellsNext (x := x.1) (k := k)
                          exact ih (by omega) h
                      | box id0 ks =>
                        simp only [putVars] at h
                        rw [look_append] at h
                        cases hq2 : look (putCells ks x.1 k).2.1 id with
                        | some o2 =>
                          rw [hq2] at h
                          simp only [Option.some.injEq] at h
                          subst h
                          exact (cellsKey hk hq2).elim
                        | none =>
                          rw [hq2] at h
                          simp only at h
                          rw [look_cons] at h
                          by_cases he : id0 = id
                          · subst he; simp [boxVars]
                          · rw [if_neg he] at h
                            have := cellsNext (x := x.1) (k := k)
                            simp only [boxVars, List.mem_cons]
                            exact .inr (ih (by omega) h)
                      | row id0 ty =>
                        simp only [putVars] at h
                        rw [look_cons] at h
                        by_cases he : id0 = id
                        · subst he; simp [boxVars]
                        · rw [if_neg he] at h
                          simp only [boxVars, List.mem_cons]
                          exact .inr (ih hk h)
                  exact hb (key (Nat.le_refl _) hq)
                | none => simp only; rw [if_neg hdd]
              have out : ∀ (e : Ex), Q e { s' with tch := s'.tch ++ boxVars L.vars ++ idsVars s L.vars ++ s.tch } → ∀ ex, exOf ex = some e → Post E w0 X Z n Q (F ++ Code.dsts F b) s ρ N ex a' w' := by
                intro e hqe ex hex
                refine ⟨e, { s' with tch := s'.tch ++ boxVars L.vars ++ idsVars s L.vars ++ s.tch }, ρ', N', hex, hqe, h3.sem rfl, h4, fun b hb => h5 b (hNy b hb), ⟨Nat.le_trans hny h6.next, fun id hid => ?_, fun x hx => ?_, fun id hid hnt => ?_, fun t ht => ?_⟩, h7⟩
                · rw [h6.pl id (by omega), hρy id hid]
                · exact List.mem_append_right _ hx
                · simp only [List.mem_append, not_or] at hnt
                  have e1 := h6.obj id (by omega) hnt.1.1.1
                  have e2 := hho id hid hnt.1.1.2 hnt.1.2
                  exact e1.trans e2
                · have e1 := h6.slot t fun hc => ht (List.mem_append_right _ hc)
                  exact e1.trans (hhs t ht fun hc => ht (hsv' t hc))
              cases ex with
              | normal =>
                simp only [exOf, Option.some.injEq] at h1
                subst h1
                simp only at h2
                cases htc : (s'.tch.all fun id => Nat.ble s.next id || (boxVars L.vars).contains id) with
                | false => rw [htc] at h2; exact h2.elim
                | true =>
                  rw [htc] at h2
                  simp only [cond_true] at h2
                  split at h2
                  · rename_i z hz
                    cases hdz : (distinct (rowVars L.vars ++ idsVars s' L.vars) && (idsVars s' L.vars).all fun id => Nat.ble s.next id) with
                    | false => rw [hdz] at h2; exact h2.elim
                    | true =>
                      rw [hdz] at h2
                      simp only [Bool.and_eq_true] at hdz
                      obtain ⟨hiz, hmu⟩ := h2
                      have htch : ∀ id ∈ s'.tch, s.next ≤ id ∨ id ∈ boxVars L.vars := fun id hid => by
                        have := List.all_eq_true.1 htc id hid
                        simp only [Bool.or_eq_true, Nat.ble_eq] at this
                        rcases this with h8 | h8
                        · exact .inl h8
                        · exact .inr (by simpa using h8)
                      obtain ⟨g1, g2, ρz, g3, g4⟩ := head_ok h3 (s := s) (ds := F ++ Code.dsts F b) (dead := idsVars s L.vars) hz hdz.1
                        (fun t ht1 ht2 => (h6.slot t fun hc => ht1 (List.mem_append_right _ hc)).trans (hhs t ht1 ht2))
                        (fun id hid hb hdd => (h6.obj id (by omega) fun hc => by rcases htch id hc with h8 | h8; omega; exact hb h8).trans (hho id hid hb hdd))
                        (fun i hi => .inr (by have := List.all_eq_true.1 hdz.2 i hi; simpa [Nat.ble_eq] using this)) hwf hbx hkv
                      exact ⟨L.mu z, hmu, z, ρz, N', rfl, hiz, g3, g1, g2, fun id hid => by rw [g4 id hid, h6.pl id (by omega), hρy id hid], fun b hb => h5 b (hNy b hb), h7⟩
                  · exact h2.elim
              | exit id =>
                simp only [exOf, Option.some.injEq] at h1
                subst h1
                exact out _ h2 _ rfl
              | ret =>
                simp only [exOf, Option.some.injEq] at h1
                subst h1
                exact out _ h2 _ rfl
              | goto l => cases h1
              | panic ch => cases h1
              | outgrown => cases h1
        · exact hq.elim
  | .rangeFunc .., _, _, _, _, _, _, hq, _, _, _ => hq.elim
  | .scope _, _, _, _, _, _, _, hq, _, _, _ => hq.elim
  | .label _, _, _, _, _, _, _, hq, _, _, _ => hq.elim
  | .goto _, _, _, _, _, _, _, hq, _, _, _ => hq.elim
  | .refuse _, _, _, _, _, _, _, hq, _, _, _ => hq.elim

end
end Go.Proofs.YtedjlbcclhgfmaaDoor

/- THE MACHINE OF READINGS, part Z: functions: what the evaluator says is a contract. -/
namespace Go.Proofs.YtedjlbcclhgfmaaDoor
open Go.RowKit

section
variable {E : Env} {w0 : World} {X Z : Blk} {a : Act} {w w' : World} {s s1 : St} {ρ1 ρ ρ' : Nat → Pl} {N N' : Blk} {m m1 m' : Mem} {n : Nat}

theorem look_zip {α : Type} : ∀ (l : List α) (k t : Nat), look ((l.zipIdx k).map fun x => (x.2, x.1)) t = if k ≤ t then l[t - k]? else none
  | [], k, t => by simp [look]
  | x :: l, k, t => by
    simp only [List.zipIdx_cons, List.map_cons]
    rw [look_cons, look_zip l (k + 1) t]
    by_cases h : k = t
    · subst h; simp
    · rw [if_neg h]
      by_cases h2 : k ≤ t
      · rw [if_pos (by omega), if_pos h2]
        rw [show t - k = (t - (k + 1)) + 1 by omega]
        simp
      · rw [if_neg (by omega), if_neg h2]

theorem run_resOf (h : Rel E w0 X Z a w s ρ N) {r : ResultVar} {p : Bool × List C} (he : resOf E s r = some p) :
    ∃ v, (match r with | .tmp t => (Pure.pure (a.tmps.getD t undef) : Sem Value) | .cell b T => do loadVar T (← asAddr (a.tmps.getD b undef))).run E.P w = .ok v w ∧ VR w N ρ s.obj p.1 p.2 v := by
  cases r with
  | tmp t =>
    simp only [resOf] at he
    split at he
    · rename_i ag cs hs
      simp only [Option.some.injEq] at he
      subst he
      have := h.get (.tmp t)
      have e : s.get (.tmp t) = .v ag cs := hs
      rw [e] at this
      exact ⟨_, rfl, this⟩
    · cases he
  | cell b T =>
    simp only [resOf] at he
    split at he
    · rename_i obs ag cs upd hl
      simp only [Option.some.injEq] at he
      subst he
      obtain ⟨v, hr, hv, _⟩ := load_ok h (fun _ _ h => h) (o := { dst := none, op := .load T (.tmp b), type := 0, pos := "", after := #[], guard := none }) (T := T) (x := .tmp b) rfl hl
      refine ⟨v, ?_, hv⟩
      have ev : a.eval (.tmp b) = a.tmps.getD b undef := rfl
      simp only [execOp, Instr.loadAt, ev] at hr
      simp only
      cases hq : a.tmps.getD b undef with
      | pointer ad =>
        rw [hq] at hr
        cases ad with
        | none => simp [Instr.sureAddr] at hr
        | some ad =>
          simp only [Instr.sureAddr, Sem.run_bind, Sem.run_pure, Result.andThen_ok] at hr
          simp only [asAddr, Sem.run_bind, Sem.run_pure, Result.andThen_ok]
          cases hq2 : (loadVar T ad).run E.P w with
          | ok v' w' => rw [hq2] at hr; simp at hr; obtain ⟨rfl, rfl⟩ := hr; rfl
          | halt x w' => rw [hq2] at hr; simp at hr
      | _ => rw [hq] at hr; simp [Instr.sureAddr] at hr
    · cases he

theorem run_resAll (h : Rel E w0 X Z a w s ρ N) : ∀ {rs : List ResultVar} {l : List (Bool × List C)}, resAll E s rs = some l →
    ∃ us : List Value, (rs.mapM (m := Sem) fun r => match r with | .tmp t => Pure.pure (a.tmps.getD t undef) | .cell b T => do loadVar T (← asAddr (a.tmps.getD b undef))).run E.P w = .ok us w ∧ All2 (fun (p : Bool × List C) u => VR w N ρ s.obj p.1 p.2 u) l us
  | [], l, he => by
    simp only [resAll, Option.some.injEq] at he
    subst he
    exact ⟨[], by simp, .nil⟩
  | r :: rs, l, he => by
    simp only [resAll] at he
    split at he
    · rename_i p l' e1 e2
      simp only [Option.some.injEq] at he
      subst he
      obtain ⟨v, hr, hv⟩ := run_resOf h e1
      obtain ⟨us, hrs, hus⟩ := run_resAll h e2
      refine ⟨v :: us, ?_, .cons hv hus⟩
      simp only [List.mapM_cons, Sem.run_bind, hr, Result.andThen_ok, hrs, Sem.run_pure]
    · cases he

theorem run_results (h : Rel E w0 X Z a w s ρ N) {f : Func} {l : List (Bool × List C)} (hl : resAll E s f.results.toList = some l) :
    ∃ us : List Value, (results f a.tmps).run E.P w = .ok (if h : us.toArray.size = 1 then us.toArray[0] else .tuple us.toArray) w ∧ All2 (fun (p : Bool × List C) u => VR w N ρ s.obj p.1 p.2 u) l us := by
  obtain ⟨us, hrun, hus⟩ := run_resAll h hl
  refine ⟨us, ?_, hus⟩
  have e : results f a.tmps = (f.results.mapM (m := Sem) fun r => match r with | .tmp t => Pure.pure (a.tmps.getD t undef) | .cell b T => do loadVar T (← asAddr (a.tmps.getD b undef))) >>= fun vs => Pure.pure (if h : vs.size = 1 then vs[0] else .tuple vs) := rfl
  rw [e, Array.mapM_eq_mapM_toList]
  simp only [Sem.run_bind, Sem.run_map, hrun]
  rfl

theorem slots_v {vs : List Var} : ∀ {x : denVars vs} {k t : Nat} {sv : SV}, look (putVars vs x k).slots t = some sv → ∃ ag cs, sv = .v ag cs := by
  induction vs with
  | nil => intro x k t sv h; simp [putVars, look] at h
  | cons u vs ih =>
    intro x k t sv h
    cases u with
    | slot t0 own ty =>
      simp only [putVars] at h
      rw [look_cons] at h
      split at h
      · simp only [Option.some.injEq] at h; subst h; exact ⟨_, _, rfl⟩
      · exact ih h
    | agg t0 ks =>
      simp only [putVars] at h
      rw [look_cons] at h
      split at h
      · simp only [Option.some.injEq] at h; subst h; exact ⟨_, _, rfl⟩
      · exact ih h
    | box id0 ks => exact ih h
    | row id0 ty => exact ih h

/-- WHAT THE EVALUATOR SAYS OF A FUNCTION is what a call comes to. -/
theorem spec_of (hE : E.Ok) (A : Nat → St → Option Ann) {K : FuncId} {f : Func} (hf : E.P.funcs[K]? = some f) {args : List SV} {m0 : List (Nat × Option Obj)} {dead : List Nat} {vs : List Var} {Q : denVars vs → Prop} (h : afn E A f args m0 dead vs Q) {x : denVars vs} (hQ : ∀ y, Q y → y = x) :
    SpecR E.P E.glob K args m0 (outOf vs dead x m0).1 (outOf vs dead x m0).2 := by
  intro w N ρ vals hgl hmr hargs hai hmi
  unfold afn at h
  split at h
  · exact h.elim
  · rename_i c hb
    cases hck : (Nat.ble args.length f.ntmps && (slotVars vs == List.range f.results.size) && (boxVars vs).all (Nat.blt · m0.length) && (keepVars vs).all (Nat.blt · m0.length)) with
    | false => rw [hck] at h; exact h.elim
    | true =>
      rw [hck] at h
      simp only [Bool.and_eq_true, Nat.ble_eq, beq_iff_eq] at hck
      obtain ⟨⟨⟨hlen, hsv⟩, hbv⟩, hkv0⟩ := hck
      have hkv : ∀ id ∈ keepVars vs, id < m0.length := allBlt.1 hkv0
      have hbx : ∀ id ∈ boxVars vs, id < m0.length := allBlt.1 hbv
      have hal := hargs.len
      refine calls_of_wp hf hb ?_
      -- the state at the start
      have hrel : Rel E w (Own ρ (memOf m0)) N { tmps := vals.toArray ++ Array.replicate (f.ntmps - vals.toArray.size) undef, defers := [] } w (startSt args m0) ρ N := by
        refine ⟨fun t sv hl => ?_, hmr, rfl, .refl w _, fun b hb => .inl hb, hgl, fun b hb => .inl hb⟩
        have hl : look (args.zipIdx.map fun x => (x.2, x.1)) t = some sv := hl
        rw [look_zip] at hl
        simp only [Nat.zero_le, if_true, Nat.sub_zero] at hl
        obtain ⟨v, hv, hr⟩ := hargs.get t hl
        have ht : t < vals.length := (List.getElem?_eq_some_iff.1 hv).1
        have : (vals.toArray ++ Array.replicate (f.ntmps - vals.toArray.size) undef).getD t undef = v := by
          rw [Array.getD_eq_getD_getElem?, Array.getElem?_append_left (by simpa using ht)]
          simp [hv]
        simp only
        rw [this]
        exact hr
      have hwf : WFm (startSt args m0).sem (startSt args m0).next := by
        refine ⟨fun t sv hl id hid => ?_, fun id o ho => hmi id o ho⟩
        have hl : look (args.zipIdx.map fun x => (x.2, x.1)) t = some sv := hl
        rw [look_zip] at hl
        simp only [Nat.zero_le, if_true, Nat.sub_zero] at hl
        exact hai sv (List.mem_of_getElem? hl) id hid
      have hsize : (vals.toArray ++ Array.replicate (f.ntmps - vals.toArray.size) undef).size = f.ntmps := by simp; omega
      refine wp_mono (awp_ok hE A f.ntmps _ c _ _ _ w ρ N h hrel hwf hsize) fun ex a' w' hp => ?_
      obtain ⟨e, s', ρ', N', h1, h2, h3, h4, h5, h6, h7⟩ := hp
      have main : (match resAll E s' f.results.toList with
        | some l => cond (((endSt s' l).flatFor vs).tch.all fun id => Nat.ble m0.length id || (boxVars vs).contains id || dead.contains id) (loopIn (fun id => Nat.ble m0.length id || dead.contains id) ((endSt s' l).flatFor vs) vs Q) False
        | none => False) → a'.defers = [] ∧ ∃ v, (results f a'.tmps).run E.P w' = .ok v w' ∧ ∃ v_1 ρ'_1 N'_1, Ending.returned v = .returned v_1 ∧ (∀ n, n < m0.length → ρ'_1 n = ρ n) ∧ (∀ b, N b → N'_1 b) ∧ MR w' N'_1 ρ'_1 (memOf ((outOf vs dead x m0).2 ++ m0)) ∧ SVR w' N'_1 ρ'_1 (memOf ((outOf vs dead x m0).2 ++ m0)) (outOf vs dead x m0).1 v_1 ∧
          Since w (Own ρ (memOf m0)) w' ∧ (∀ b, Own ρ'_1 (memOf ((outOf vs dead x m0).2 ++ m0)) b → Own ρ (memOf m0) b ∨ w.heap.size ≤ b) ∧ ∀ b, N'_1 b → N b ∨ w.heap.size ≤ b ∨ Own ρ (memOf m0) b := by
        intro hm
        split at hm
        · rename_i l hl
          cases htc : (((endSt s' l).flatFor vs).tch.all fun id => Nat.ble m0.length id || (boxVars vs).contains id || dead.contains id) with
          | false => rw [htc] at hm; exact hm.elim
          | true =>
            rw [htc] at hm
            simp only [cond_true] at hm
            unfold loopIn at hm
            split at hm
            · rename_i y hy
              cases hdc : (distinct (rowVars vs ++ idsVars ((endSt s' l).flatFor vs) vs) && (idsVars ((endSt s' l).flatFor vs) vs).all fun id => Nat.ble m0.length id || dead.contains id) with
              | false => rw [hdc] at hm; exact hm.elim
              | true =>
                rw [hdc] at hm
                simp only [cond_true] at hm
                have hyx := hQ y hm
                subst hyx
                simp only [Bool.and_eq_true] at hdc
                obtain ⟨us, hrun, hus⟩ := run_resAll h3 hl
                have hlu := hus.len
                let a2 : Act := { tmps := us.toArray, defers := [] }
                have hrel1 : Rel E w (Own ρ (memOf m0)) N a2 w' (endSt s' l) ρ' N' := by
                  refine ⟨fun t sv hl2 => ?_, h3.mr, rfl, h3.since, h3.own, h3.glob, h3.nn⟩
                  have e0 : (endSt s' l).slots = ((l.map fun p => SV.v p.1 p.2).zipIdx.map fun x => (x.2, x.1)) := by
                    simp only [endSt, List.zipIdx_map, List.map_map]
                    rfl
                  rw [e0, look_zip] at hl2
                  simp only [Nat.zero_le, if_true, Nat.sub_zero, List.getElem?_map] at hl2
                  cases hlt : l[t]? with
                  | none => rw [hlt] at hl2; cases hl2
                  | some p =>
                    rw [hlt] at hl2
                    simp only [Option.map_some, Option.some.injEq] at hl2
                    subst hl2
                    obtain ⟨u, hu, hr⟩ := hus.get t hlt
                    have : us.toArray.getD t undef = u := by rw [Array.getD_eq_getD_getElem?]; simp [hu]
                    show SVR w' N' ρ' s'.obj (.v p.1 p.2) (us.toArray.getD t undef)
                    rw [this]
                    exact hr
                have hll : l.length = f.results.size := by
                  have : ∀ {rs : List ResultVar} {l : List (Bool × List C)}, resAll E s' rs = some l → l.length = rs.length := by
                    intro rs
                    induction rs with
                    | nil => intro l h; simp only [resAll, Option.some.injEq] at h; subst h; rfl
                    | cons r rs ih =>
                      intro l h
                      simp only [resAll] at h
                      split at h
                      · rename_i p l' e1 e2
                        simp only [Option.some.injEq] at h
                        subst h
                        simp [ih e2]
                      · cases h
                  have := this hl
                  simpa using this
                obtain ⟨N1, hN1, hrel0, _⟩ := hrel1.flatMs (fun _ _ h => h) (plainVars (endSt s' l) vs)
                have hrel2 : Rel E w (Own ρ (memOf m0)) N a2 w' ((endSt s' l).flatFor vs) ρ' N1 := hrel0.congr (fun _ => rfl) rfl
                have hfo : ∀ id, id ∉ ((endSt s' l).flatFor vs).tch → ((endSt s' l).flatFor vs).obj id = s'.obj id := by
                  intro id hid
                  show (look (flatM (endSt s' l).obj (plainVars (endSt s' l) vs) ++ s'.mem) id).getD none = _
                  rw [look_append]
                  cases hlk : look (flatM (endSt s' l).obj (plainVars (endSt s' l) vs)) id with
                  | none => rfl
                  | some o9 =>
                    exfalso
                    refine hid (List.mem_append_left _ (List.mem_map.2 ⟨_, look_mem hlk, rfl⟩))
                have htch : ∀ id ∈ ((endSt s' l).flatFor vs).tch, m0.length ≤ id ∨ id ∈ boxVars vs ∨ id ∈ dead := fun id hid => by
                  have := List.all_eq_true.1 htc id hid
                  simp only [Bool.or_eq_true, Nat.ble_eq] at this
                  rcases this with (h8 | h8) | h8
                  · exact .inl h8
                  · exact .inr (.inl (by simpa using h8))
                  · exact .inr (.inr (by simpa using h8))
                obtain ⟨g1, g2, ρ2, g3, g4⟩ := head_ok hrel2 (s := { slots := [], mem := m0, next := m0.length, tch := [] }) (ds := []) (dead := dead) hy hdc.1
                  (fun t _ ht => by
                    have e0 : ((endSt s' l).flatFor vs).slots = ((l.map fun p => SV.v p.1 p.2).zipIdx.map fun x => (x.2, x.1)) := by
                      show (endSt s' l).slots = _
                      simp only [endSt, List.zipIdx_map, List.map_map]
                      rfl
                    rw [e0, look_zip]
                    simp only [Nat.zero_le, if_true, Nat.sub_zero]
                    rw [hsv] at ht
                    rw [List.getElem?_eq_none (by simp only [List.length_map, hll]; simpa using ht)]
                    rfl)
                  (fun id (hid : id < m0.length) hb hd => by
                    have hni : id ∉ ((endSt s' l).flatFor vs).tch := fun hc => (htch id hc).elim (fun h8 => absurd hid (Nat.not_lt.2 h8)) fun h8 => h8.elim hb hd
                    rw [hfo id hni]
                    exact h6.obj id hid fun hc => hni (List.mem_append_right _ hc))
                  (fun i hi => by
                    have := List.all_eq_true.1 hdc.2 i hi
                    simp only [Bool.or_eq_true, Nat.ble_eq] at this
                    rcases this with h8 | h8
                    · exact .inr h8
                    · exact .inl (by simpa using h8))
                  ⟨(fun t sv h => by cases h), fun id o ho => hmi id o ho⟩ hbx hkv
                have hobj : (loopHead { slots := [], mem := m0, next := m0.length, tch := [] } [] dead vs y).obj = memOf ((outOf vs dead y m0).2 ++ m0) := by
                  rfl
                have hres : (results f a'.tmps).run E.P w' = .ok (if h : us.toArray.size = 1 then us.toArray[0] else .tuple us.toArray) w' := by
                  have e : results f a'.tmps = (f.results.mapM (m := Sem) fun r => match r with | .tmp t => Pure.pure (a'.tmps.getD t undef) | .cell b T => do loadVar T (← asAddr (a'.tmps.getD b undef))) >>= fun vs => Pure.pure (if h : vs.size = 1 then vs[0] else .tuple vs) := rfl
                  rw [e, Array.mapM_eq_mapM_toList]
                  simp only [Sem.run_bind, Sem.run_map, hrun]
                  rfl
                refine ⟨h3.defers, _, hres, _, ρ2, N1, rfl, fun n hn => by rw [g4 n hn, h6.pl n hn], fun b hb => hN1 b (h5 b hb), by rw [← hobj]; exact g3.mr, ?_, g3.since, fun b hb => by rw [← hobj] at hb; exact g3.own b hb, g3.nn⟩
                -- the results
                rw [← hobj]
                have hall : All2 (fun (p : Bool × List C) u => VR w' N1 ρ2 (loopHead { slots := [], mem := m0, next := m0.length, tch := [] } [] dead vs y).obj p.1 p.2 u)
                    ((slotVars vs).map fun t => match look (putVars vs y m0.length).slots t with
                      | some (.v a cs) => (a, cs)
                      | _ => (false, [])) us := by
                  rw [hsv]
                  have hul : us.length = f.results.size := by omega
                  rw [← hul]
                  have hkey : ∀ t, t < us.length → ∃ ag cs, look (putVars vs y m0.length).slots t = some (.v ag cs) ∧ VR w' N1 ρ2 (loopHead { slots := [], mem := m0, next := m0.length, tch := [] } [] dead vs y).obj ag cs (us.getD t undef) := by
                    intro t ht
                    obtain ⟨_, _, _, _, hs2, _⟩ := vars_ok hrel2 m0.length hy (distinct_append hdc.1).2.1
                    have hts : t ∈ slotVars vs := by rw [hsv]; simpa [hul] using ht
                    cases hq : look (putVars vs y m0.length).slots t with
                    | none => exact absurd hq ((hs2 t).2 hts)
                    | some sv =>
                      obtain ⟨ag, cs, rfl⟩ := slots_v hq
                      refine ⟨ag, cs, rfl, ?_⟩
                      have hsl := g3.slots t (.v ag cs) (by rw [head_slot]; simp only [hq])
                      have e : a2.tmps.getD t undef = us.getD t undef := by
                        show us.toArray.getD t undef = _
                        rw [Array.getD_eq_getD_getElem?]; simp [List.getD]
                      rw [e] at hsl
                      exact hsl
                  clear hrun hus hlu hrel2 hres hul hy hdc
                  have gen : ∀ (us : List Value) (k : Nat) (F : Nat → Bool × List C), (∀ t, t < us.length → VR w' N1 ρ2 (loopHead { slots := [], mem := m0, next := m0.length, tch := [] } [] dead vs y).obj (F (k + t)).1 (F (k + t)).2 (us.getD t undef)) → All2 (fun (p : Bool × List C) u => VR w' N1 ρ2 (loopHead { slots := [], mem := m0, next := m0.length, tch := [] } [] dead vs y).obj p.1 p.2 u) ((List.range' k us.length).map F) us := by
                    intro us
                    induction us with
                    | nil => intro k F _; exact .nil
                    | cons u us ih =>
                      intro k F hF
                      rw [List.length_cons, List.range'_succ, List.map_cons]
                      refine .cons (by simpa [List.getD] using hF 0 (by simp)) (ih (k + 1) F fun t ht => ?_)
                      have := hF (t + 1) (by simp; omega)
                      rw [show k + (t + 1) = k + 1 + t by omega] at this
                      simpa [List.getD] using this
                  rw [List.range_eq_range']
                  refine gen us 0 _ fun t ht => ?_
                  obtain ⟨ag, cs, e1, e2⟩ := hkey t ht
                  simp only [Nat.zero_add, e1]
                  exact e2
                show SVR _ _ _ _ (resSV _) _
                generalize ((slotVars vs).map fun t => match look (putVars vs y m0.length).slots t with
                      | some (.v a cs) => (a, cs)
                      | _ => (false, [])) = rl at hall
                cases hall with
                | nil => exact ⟨[], rfl, .nil⟩
                | @cons p u rl us h8 h9 =>
                  cases h9 with
                  | nil =>
                    obtain ⟨ag, cs⟩ := p
                    exact h8
                  | @cons p2 u2 rl us h10 h11 =>
                    refine ⟨u :: u2 :: us, ?_, .cons h8 (.cons h10 h11)⟩
                    rw [dif_neg (by simp)]
            · exact hm.elim
        · exact hm.elim
      cases ex with
      | normal =>
        simp only [exOf, Option.some.injEq] at h1
        subst h1
        exact main h2
      | ret =>
        simp only [exOf, Option.some.injEq] at h1
        subst h1
        exact main h2
      | exit id =>
        simp only [exOf, Option.some.injEq] at h1
        subst h1
        exact h2.elim
      | goto l => cases h1
      | panic ch => cases h1
      | outgrown => cases h1

end
end Go.Proofs.YtedjlbcclhgfmaaDoor

/- THE MACHINE OF READINGS, part ZI: functions whose code is taken in where they are called. -/
namespace Go.Proofs.YtedjlbcclhgfmaaDoor
open Go.RowKit

section
variable {E : Env} {w0 : World} {X Z : Blk} {a : Act} {w w' : World} {s s' : St} {ρ ρ' : Nat → Pl} {N N' : Blk} {m m' : Mem} {g : Nat → Option Nat}

theorem bltI {a b : Nat} (h : a < b) : Nat.blt a b = true := by simpa [Nat.blt_eq] using h
theorem bltE {a b : Nat} (h : Nat.blt a b = true) : a < b := by simpa [Nat.blt_eq] using h
theorem renCaps_same : ∀ {l : List (Nat × Nat)}, (∀ id ∈ l.map (·.1), g id = some id) → renCaps g l = some l
  | [], _ => rfl
  | (id, off) :: r, h => by
    have h1 := h id (by simp)
    have h2 := renCaps_same (l := r) fun i hi => h i (by simp only [List.map_cons, List.mem_cons]; exact .inr hi)
    simp only [renCaps, h1, h2]
theorem renC_same {c : C} (h : ∀ id ∈ idsC c, g id = some id) : renC g c = some c := by
  cases c with
  | hs id => simp only [renC, h id (by simp [idsC]), Option.map_some]
  | pt id off => simp only [renC, h id (by simp [idsC]), Option.map_some]
  | pr id i off => simp only [renC, h id (by simp [idsC]), Option.map_some]
  | ht id lo => simp only [renC, h id (by simp [idsC]), Option.map_some]
  | sp id T => simp only [renC, h id (by simp [idsC]), Option.map_some]
  | fn f caps => simp only [renC, renCaps_same (g := g) (l := caps) h, Option.map_some]
  | _ => rfl
theorem renCs_same : ∀ {cs : List C}, (∀ id ∈ idsCs cs, g id = some id) → renCs g cs = some cs
  | [], _ => rfl
  | c :: r, h => by
    have h1 := renC_same (g := g) (c := c) fun i hi => h i (by unfold idsCs; simp only [List.flatMap_cons, List.mem_append]; exact .inl hi)
    have h2 := renCs_same (cs := r) fun i hi => h i (by unfold idsCs at hi ⊢; simp only [List.flatMap_cons, List.mem_append]; exact .inr hi)
    simp only [renCs, h1, h2]
theorem renOc_same : ∀ {oc : List (Nat × C)}, (∀ id ∈ idsCs (oc.map (·.2)), g id = some id) → renOc g oc = some oc
  | [], _ => rfl
  | (j, c) :: r, h => by
    have h1 := renC_same (g := g) (c := c) fun i hi => h i (by unfold idsCs; simp only [List.map_cons, List.flatMap_cons, List.mem_append]; exact .inl hi)
    have h2 := renOc_same (oc := r) fun i hi => h i (by unfold idsCs at hi ⊢; simp only [List.map_cons, List.flatMap_cons, List.mem_append]; exact .inr hi)
    simp only [renOc, h1, h2]
theorem renO_same {o : Obj} (h : ∀ id ∈ idsO o, g id = some id) : renO g o = some o := by
  cases o with
  | box cs => simp only [renO, renCs_same (g := g) (cs := cs) h, Option.map_some]
  | row t xs => rfl
  | opq z => rfl
  | nest d =>
    obtain ⟨t, ow, xs, op⟩ := d
    cases op with
    | none => rfl
    | some p =>
      obtain ⟨k, oc⟩ := p
      have := renOc_same (g := g) (oc := oc) h
      simp only [renO, renOp, this, Option.map_some]

theorem finL_look : ∀ {l : List (Nat × Nat)} {u : List (Nat × Option Obj)}, finL m g l = some u → (∀ p ∈ l, look u p.2 ≠ none) ∧ ∀ n x, look u n = some x → ∃ id, (id, n) ∈ l ∧ (∀ o', x = some o' → ∃ o, m id = some o ∧ renO g o = some o')
  | [], u, h => by
    simp only [finL, Option.some.injEq] at h
    subst h
    exact ⟨(fun _ h => by cases h), fun n x h => by simp [look] at h⟩
  | (id, k) :: l, u, h => by
    simp only [finL] at h
    split at h
    · cases h
    · rename_i l' e1
      obtain ⟨h1, h2⟩ := finL_look e1
      have key : ∀ x0, u = (k, x0) :: l' → (∀ o', x0 = some o' → ∃ o, m id = some o ∧ renO g o = some o') → (∀ p ∈ (id, k) :: l, look u p.2 ≠ none) ∧ ∀ n x, look u n = some x → ∃ id', (id', n) ∈ (id, k) :: l ∧ (∀ o', x = some o' → ∃ o, m id' = some o ∧ renO g o = some o') := by
        intro x0 hu hx
        subst hu
        refine ⟨fun p hp => ?_, fun n x hl => ?_⟩
        · rw [look_cons]
          split
          · simp
          · rename_i hne
            rcases List.mem_cons.1 hp with rfl | hp
            · exact absurd rfl hne
            · exact h1 p hp
        · rw [look_cons] at hl
          split at hl
          · rename_i hk
            subst hk
            simp only [Option.some.injEq] at hl
            subst hl
            exact ⟨id, by simp, hx⟩
          · obtain ⟨i, hi, hr⟩ := h2 n x hl
            exact ⟨i, List.mem_cons_of_mem _ hi, hr⟩
      split at h
      · simp only [Option.some.injEq] at h
        exact key none h.symm (fun _ h => by cases h)
      · rename_i o e2
        split at h
        · rename_i o' e3
          simp only [Option.some.injEq] at h
          exact key (some o') h.symm (fun o2 h2 => by cases h2; exact ⟨o, e2, e3⟩)
        · cases h

theorem mem_addNew : ∀ {l r : List Nat} {x : Nat}, x ∈ addNew l r ↔ x ∈ l ∨ x ∈ r
  | l, [], x => by simp [addNew]
  | l, a :: r, x => by
    unfold addNew
    split
    · rename_i h
      rw [mem_addNew]
      simp only [List.contains_eq_mem, decide_eq_true_eq] at h
      constructor
      · rintro (h1 | h1)
        · exact .inl h1
        · exact .inr (List.mem_cons_of_mem _ h1)
      · rintro (h1 | h1)
        · exact .inl h1
        · rcases List.mem_cons.1 h1 with rfl | h1
          · exact .inl h
          · exact .inr h1
    · rw [mem_addNew]
      simp only [List.mem_append, List.mem_cons, List.not_mem_nil, or_false]
      constructor
      · rintro ((h1 | h1) | h1)
        · exact .inl h1
        · exact .inr (.inl h1)
        · exact .inr (.inr h1)
      · rintro (h1 | h1 | h1)
        · exact .inl (.inl h1)
        · exact .inl (.inr h1)
        · exact .inr h1

/-- WHAT THE EVALUATOR SAYS OF A FUNCTION'S CODE, at whatever it comes to, is what a call comes to. -/
theorem inl_spec (hE : E.Ok) (A : Nat → St → Option Ann) {K : FuncId} {f : Func} (hf : E.P.funcs[K]? = some f) {args : List SV} {m0 : List (Nat × Option Obj)} {G : SV → List (Nat × Option Obj) → Prop} (h : inlC E A f args m0 G) : SpecQ E.P E.glob K args m0 G := by
  intro w N ρ vals hgl hmr hargs hai hmi
  unfold inlC at h
  split at h
  · exact h.elim
  · rename_i c hb
    cases hck : Nat.ble args.length f.ntmps with
    | false => rw [hck] at h; exact h.elim
    | true =>
      rw [hck] at h
      have hlen := Nat.le_of_ble_eq_true hck
      have hal := hargs.len
      refine calls_of_wp hf hb ?_
      -- the state at the start
      have hrel : Rel E w (Own ρ (memOf m0)) N { tmps := vals.toArray ++ Array.replicate (f.ntmps - vals.toArray.size) undef, defers := [] } w (startSt args m0) ρ N := by
        refine ⟨fun t sv hl => ?_, hmr, rfl, .refl w _, fun b hb => .inl hb, hgl, fun b hb => .inl hb⟩
        have hl : look (args.zipIdx.map fun x => (x.2, x.1)) t = some sv := hl
        rw [look_zip] at hl
        simp only [Nat.zero_le, if_true, Nat.sub_zero] at hl
        obtain ⟨v, hv, hr⟩ := hargs.get t hl
        have ht : t < vals.length := (List.getElem?_eq_some_iff.1 hv).1
        have : (vals.toArray ++ Array.replicate (f.ntmps - vals.toArray.size) undef).getD t undef = v := by
          rw [Array.getD_eq_getD_getElem?, Array.getElem?_append_left (by simpa using ht)]
          simp [hv]
        simp only
        rw [this]
        exact hr
      have hwf : WFm (startSt args m0).sem (startSt args m0).next := by
        refine ⟨fun t sv hl id hid => ?_, fun id o ho => hmi id o ho⟩
        have hl : look (args.zipIdx.map fun x => (x.2, x.1)) t = some sv := hl
        rw [look_zip] at hl
        simp only [Nat.zero_le, if_true, Nat.sub_zero] at hl
        exact hai sv (List.mem_of_getElem? hl) id hid
      have hsize : (vals.toArray ++ Array.replicate (f.ntmps - vals.toArray.size) undef).size = f.ntmps := by simp; omega
      refine wp_mono (awp_ok hE A f.ntmps _ c _ _ _ w ρ N h hrel hwf hsize) fun ex a' w' hp => ?_
      obtain ⟨e, s', ρ', N', h1, h2, h3, h4, h5, h6, h7⟩ := hp
      have main : finK E f m0.length s' G → a'.defers = [] ∧ ∃ v, (results f a'.tmps).run E.P w' = .ok v w' ∧ ∃ r m1, G r m1 ∧ ∃ v_1 ρ'_1 N'_1, Ending.returned v = .returned v_1 ∧ (∀ n, n < m0.length → ρ'_1 n = ρ n) ∧ (∀ b, N b → N'_1 b) ∧ MR w' N'_1 ρ'_1 (memOf (m1 ++ m0)) ∧ SVR w' N'_1 ρ'_1 (memOf (m1 ++ m0)) r v_1 ∧
          Since w (Own ρ (memOf m0)) w' ∧ (∀ b, Own ρ'_1 (memOf (m1 ++ m0)) b → Own ρ (memOf m0) b ∨ w.heap.size ≤ b) ∧ ∀ b, N'_1 b → N b ∨ w.heap.size ≤ b ∨ Own ρ (memOf m0) b := by
        intro hm
        unfold finK at hm
        split at hm
        · exact hm.elim
        · rename_i l hl
          generalize hnews : finNew s' m0.length l = news at hm
          split at hm
          · rename_i l' u hl' hu
            cases hdc : distinct news with
            | false => rw [hdc] at hm; exact hm.elim
            | true =>
              rw [hdc] at hm
              simp only [cond_true] at hm
              obtain ⟨us, hres, hus⟩ := run_results h3 hl
              have hng : ∀ id ∈ news, m0.length ≤ id := by
                intro id hid
                rw [← hnews] at hid
                unfold finNew at hid
                have := (List.mem_filter.1 hid).2
                exact Nat.le_of_ble_eq_true this
              let g : Nat → Option Nat := finG m0.length news
              have hglow : ∀ id, id < m0.length → g id = some id := by
                intro id hid
                show finG _ _ _ = _
                unfold finG
                rw [bltI hid]
                rfl
              have hg : ∀ id n, g id = some n → (id < m0.length ∧ n = id) ∨ (m0.length ≤ id ∧ m0.length ≤ n ∧ news[n - m0.length]? = some id) := by
                intro id n hgn
                have hgn : finG m0.length news id = some n := hgn
                unfold finG at hgn
                cases hlt : Nat.blt id m0.length with
                | true =>
                  rw [hlt] at hgn
                  simp only [cond_true, Option.some.injEq] at hgn
                  exact .inl ⟨bltE hlt, hgn.symm⟩
                | false =>
                  rw [hlt] at hgn
                  simp only [cond_false] at hgn
                  obtain ⟨q1, q2⟩ := numAt_some hgn
                  refine .inr ⟨?_, q1, q2⟩
                  rcases Nat.lt_or_ge id m0.length with hx | hx
                  · rw [bltI hx] at hlt; cases hlt
                  · exact hx
              let src : Nat → Nat := fun n => if n < m0.length then n else (news[n - m0.length]?).getD 0
              have hsrc : ∀ id n, g id = some n → src n = id := by
                intro id n hgn
                rcases hg id n hgn with ⟨q1, rfl⟩ | ⟨q1, q2, q3⟩
                · simp only [src, if_pos q1]
                · simp only [src, if_neg (Nat.not_lt.2 q2), q3, Option.getD_some]
              let ρ2 : Nat → Pl := fun n => ρ' (src n)
              have hρ2 : ∀ id n, g id = some n → ρ2 n = ρ' id := fun id n hgn => by simp only [ρ2, hsrc id n hgn]
              obtain ⟨hu1, hu2⟩ := finL_look hu
              have hmem : ∀ n o', memOf (u ++ m0) n = some o' → ∃ id o, g id = some n ∧ s'.obj id = some o ∧ renO g o = some o' := by
                intro n o' hn
                cases hlk : look u n with
                | some x =>
                  rw [memOf_append hlk] at hn
                  subst hn
                  obtain ⟨id, hid, ho⟩ := hu2 n _ hlk
                  obtain ⟨o, q1, q2⟩ := ho o' rfl
                  refine ⟨id, o, ?_, q1, q2⟩
                  rcases List.mem_append.1 hid with hid | hid
                  · obtain ⟨i, hi, e⟩ := List.mem_map.1 hid
                    simp only [Prod.mk.injEq] at e
                    obtain ⟨rfl, rfl⟩ := e
                    exact hglow _ (bltE (List.mem_filter.1 hi).2)
                  · have hz := List.mem_zipIdx hid
                    have hge := hng id (by rw [hz.2.2]; exact List.getElem_mem _)
                    have hnx : news[n - m0.length]? = some id := by rw [hz.2.2]; exact List.getElem?_eq_getElem _
                    show finG _ _ _ = _
                    unfold finG
                    have : Nat.blt id m0.length = false := by
                      cases hq : Nat.blt id m0.length with
                      | false => rfl
                      | true => have := bltE hq; omega
                    rw [this, cond_false]
                    have hmemn : id ∈ news := List.mem_of_getElem? hnx
                    cases hq : numAt id m0.length news with
                    | none =>
                      exfalso
                      have : ∀ {l : List Nat} {k : Nat}, id ∈ l → numAt id k l ≠ none := by
                        intro l
                        induction l with
                        | nil => intro k h; cases h
                        | cons x l ih =>
                          intro k h
                          simp only [numAt]
                          cases hb : Nat.beq x id with
                          | true => simp
                          | false =>
                            simp only [cond_false]
                            rcases List.mem_cons.1 h with rfl | h
                            · simp at hb
                            · exact ih h
                      exact this hmemn hq
                    | some n2 =>
                      obtain ⟨q3, q4⟩ := numAt_some hq
                      have e9 := distinct_inj hdc hnx q4
                      have e8 : n2 = n := by rw [← Nat.sub_add_cancel q3, ← e9, Nat.sub_add_cancel hz.1]
                      rw [e8]
                | none =>
                  have hn0 : memOf m0 n = some o' := by
                    unfold memOf at hn ⊢
                    rw [look_append, hlk] at hn
                    exact hn
                  obtain ⟨q1, q2⟩ := hmi n o' hn0
                  have hnt : n ∉ s'.tch := by
                    intro hc
                    have : (n, n) ∈ (finOld s' m0.length).map (fun id => (id, id)) ++ news.zipIdx m0.length := by
                      refine List.mem_append_left _ (List.mem_map.2 ⟨n, ?_, rfl⟩)
                      unfold finOld
                      exact List.mem_filter.2 ⟨mem_addNew.2 (.inr hc), bltI q1⟩
                    exact hu1 _ this hlk
                  refine ⟨n, o', hglow n q1, ?_, renO_same fun id hid => hglow id (q2 id hid)⟩
                  rw [h6.obj n q1 hnt]
                  exact hn0
              have hren : RenOk g ρ' s'.obj ρ2 (memOf (u ++ m0)) := by
                intro id n hgn
                refine ⟨hρ2 id n hgn, fun o' z hmo hz => ?_⟩
                obtain ⟨id2, o, q1, q2, q3⟩ := hmem n o' hmo
                have : id2 = id := by rw [← hsrc id2 n q1, hsrc id n hgn]
                subst this
                exact ⟨o, q2, by rw [renO_rw q3]; exact hz⟩
              have hown : ∀ b, Own ρ2 (memOf (u ++ m0)) b → Own ρ' s'.obj b := by
                rintro b ⟨n, o', hmo, hh⟩
                obtain ⟨id, o, q1, q2, q3⟩ := hmem n o' hmo
                rw [hρ2 id n q1] at hh
                exact ⟨id, o, q2, (renO_bl q3).2 hh⟩
              have hmr2 : MR w' N' ρ2 (memOf (u ++ m0)) := by
                refine ⟨fun n o' hmo => ?_, fun n n' o1 o2 b e1 e2 hh1 hh2 => ?_, fun b hb ho => h3.mr.nown b hb (hown b ho), h3.mr.nlt⟩
                · obtain ⟨id, o, q1, q2, q3⟩ := hmem n o' hmo
                  exact (h3.mr.obj id o q2).ren hren q1 q3
                · obtain ⟨i1, x1, a1, a2, a3⟩ := hmem n o1 e1
                  obtain ⟨i2, x2, b1, b2, b3⟩ := hmem n' o2 e2
                  rw [hρ2 i1 n a1] at hh1
                  rw [hρ2 i2 n' b1] at hh2
                  have := h3.mr.inj i1 i2 x1 x2 b a2 b2 ((renO_bl a3).2 hh1) ((renO_bl b3).2 hh2)
                  subst this
                  rw [a1] at b1
                  exact Option.some.inj b1
              have hus2 := renVs_ok hren hl' hus
              refine ⟨h3.defers, _, hres, resSV l', u, hm, _, ρ2, N', rfl, fun n hn => ?_, h5, hmr2, ?_, h3.since, fun b hb => h3.own b (hown b hb), h3.nn⟩
              · have : src n = n := by simp only [src, if_pos hn]
                show ρ' (src n) = ρ n
                rw [this]
                exact h6.pl n hn
              · clear hres hus hl' hm
                cases hus2 with
                | nil => exact ⟨[], rfl, .nil⟩
                | @cons p u1 rl us1 h8 h9 =>
                  cases h9 with
                  | nil =>
                    obtain ⟨ag, cs⟩ := p
                    exact h8
                  | @cons p2 u2 rl2 us2 h10 h11 =>
                    refine ⟨u1 :: u2 :: us2, ?_, .cons h8 (.cons h10 h11)⟩
                    rw [dif_neg (by simp)]
          · exact hm.elim
      cases ex with
      | normal =>
        simp only [exOf, Option.some.injEq] at h1
        subst h1
        exact main h2
      | ret =>
        simp only [exOf, Option.some.injEq] at h1
        subst h1
        exact main h2
      | exit id =>
        simp only [exOf, Option.some.injEq] at h1
        subst h1
        exact h2.elim
      | goto l => cases h1
      | panic ch => cases h1
      | outgrown => cases h1

/- ONE ENDING ALONE -/
theorem allP_det {K : Prop} {ps : List Prop} (h : allP ps K) : K ∧ ∀ K' : Prop, K' → allP ps K' := by
  induction ps with
  | nil => exact ⟨h, fun _ hk => hk⟩
  | cons p ps ih => exact ⟨(ih h.2).1, fun K' hk => ⟨h.1, (ih h.2).2 K' hk⟩⟩

theorem aInl_det {nx : Nat} {k : CtrK} {args : List SV} (hk : ∀ args m0 G, k args m0 G → ∃ r m1, G r m1 ∧ ∀ G', G' r m1 → k args m0 G') {K : Eff → Prop} (h : aInl m nx k args K) : ∃ e, K e ∧ ∀ K' : Eff → Prop, K' e → aInl m nx k args K' := by
  unfold aInl at h ⊢
  simp only at h ⊢
  split at h
  · rename_i args' m0 h1 h2
    cases hd : distinct (reach m 6 (addNew [] (args.flatMap (metS true)))) with
    | false => rw [hd] at h; exact h.elim
    | true =>
      rw [hd] at h
      obtain ⟨r, m1, hg, hall⟩ := hk _ _ _ h
      split at hg
      · rename_i obs r' u e1 e2 e3
        obtain ⟨q1, q2⟩ := allP_det hg
        refine ⟨⟨r', u⟩, q1, fun K' hk' => ?_⟩
        rw [cond_true]
        refine hall _ ?_
        simp only [e1, e2, e3]
        exact q2 _ hk'
      · exact hg.elim
  · exact h.elim

theorem aStep_det (hdt : E.det = true) (hE : E.Ok) {draw : Bool} {i : Nat} {o : Oper} {tr : List Step} {K : St → List Step → Prop} (h : aStep E draw i o s tr K) : ∃ s' tr', K s' tr' ∧ ∀ K' : St → List Step → Prop, K' s' tr' → aStep E draw i o s tr K' := by
  unfold aStep at h ⊢
  simp only at h ⊢
  split at h
  · rw [hdt, Bool.or_true] at h; exact h.elim
  · rename_i hnt
    split at h
    · rename_i d k args hin
      cases hcd : ((draw || E.det) && !d) with
      | true => rw [hcd] at h; exact h.elim
      | false =>
        rw [hcd] at h
        simp only [cond_false] at h ⊢
        have hd1 : d = true := by rw [hdt] at hcd; cases d <;> simp_all
        obtain ⟨c, g, f, caps, _, _, _, hk, _⟩ := inlOf_some hin
        obtain ⟨e, he, hall⟩ := aInl_det ((hE.inl f d k hk).d hd1) h
        have he2 : cond (belowE (s.next + (i + 1) * maxIds) e && (!draw || effIn (if draw = true then opIds s.obj s.get o.op else []) e)) (K (s.put o.dst e) (⟨i, s.next + i * maxIds, (if draw = true then opIds s.obj s.get o.op else []), e.upd.map (·.1)⟩ :: tr)) False := he
        cases hb : (belowE (s.next + (i + 1) * maxIds) e && (!draw || effIn (if draw = true then opIds s.obj s.get o.op else []) e)) with
        | false => rw [hb] at he2; exact he2.elim
        | true =>
          rw [hb] at he2
          refine ⟨_, _, he2, fun K' hk' => hall _ ?_⟩
          show cond (belowE (s.next + (i + 1) * maxIds) e && (!draw || effIn (if draw = true then opIds s.obj s.get o.op else []) e)) (K' (s.put o.dst e) (⟨i, s.next + i * maxIds, (if draw = true then opIds s.obj s.get o.op else []), e.upd.map (·.1)⟩ :: tr)) False
          rw [hb]
          exact hk'
    · rename_i hin
      split at h
      · rename_i c x y hop
        split at h
        · rename_i t hsl
          cases t with
          | true =>
            simp only [cond_true] at h ⊢
            cases hq : (belowE (s.next + (i + 1) * maxIds) ⟨s.get x, []⟩ && (!draw || effIn (idsS' (s.get x)) ⟨s.get x, []⟩)) with
            | false => rw [hq] at h; exact h.elim
            | true => rw [hq] at h; exact ⟨_, _, h, fun K' hk' => hk'⟩
          | false =>
            simp only [cond_false] at h ⊢
            cases hq : (belowE (s.next + (i + 1) * maxIds) ⟨s.get y, []⟩ && (!draw || effIn (idsS' (s.get y)) ⟨s.get y, []⟩)) with
            | false => rw [hq] at h; exact h.elim
            | true => rw [hq] at h; exact ⟨_, _, h, fun K' hk' => hk'⟩
        · exact h.elim
      · split at h
        · rename_i obs e he
          cases hb : (belowE (s.next + (i + 1) * maxIds) e && (!draw || effIn (if draw then opIds s.obj s.get o.op else []) e)) with
          | false => rw [hb] at h; exact h.elim
          | true =>
            rw [hb] at h
            simp only [cond_true] at h
            obtain ⟨q1, q2⟩ := allP_det h
            refine ⟨_, _, q1, fun K' hk' => ?_⟩
            rw [cond_true]
            exact q2 _ hk'
        · exact h.elim

theorem aRegion_det (hdt : E.det = true) (hE : E.Ok) {ops : Array Oper} {draw : Bool} : ∀ (r : List (Oper × Nat)) {s : St} {tr : List Step} {K : St → List Step → Prop}, aRegion E ops draw K r s tr → ∃ s' tr', K s' tr' ∧ ∀ K' : St → List Step → Prop, K' s' tr' → aRegion E ops draw K' r s tr
  | [], s, tr, K, h => ⟨s, tr, h, fun K' hk => hk⟩
  | (o, i) :: r, s, tr, K, h => by
    have step : ∀ {s1 : St} {tr1 : List Step}, aStep E draw i o s1 tr1 (aRegion E ops draw K r) → ∃ s' tr', K s' tr' ∧ ∀ K' : St → List Step → Prop, K' s' tr' → aStep E draw i o s1 tr1 (aRegion E ops draw K' r) := by
      intro s1 tr1 hs
      obtain ⟨s2, tr2, h1, h2⟩ := aStep_det hdt hE hs
      obtain ⟨s3, tr3, h3, h4⟩ := aRegion_det hdt hE r h1
      exact ⟨s3, tr3, h3, fun K' hk => h2 _ (h4 K' hk)⟩
    unfold aRegion at h ⊢
    split at h
    · exact step h
    · rename_i g want hg
      split at h
      · exact h.elim
      · rename_i c hc
        split at h
        · rename_i t hsl
          cases t with
          | true =>
            simp only [cond_true] at h ⊢
            cases want with
            | true => exact step h
            | false => exact aRegion_det hdt hE r h
          | false =>
            simp only [cond_false] at h ⊢
            cases want with
            | true => exact aRegion_det hdt hE r h
            | false => exact step h
        · exact aRegion_det hdt hE r h
        · exact h.elim

theorem awp_det (hdt : E.det = true) (hE : E.Ok) (n : Nat) (F : List Nat) : ∀ (c : Code) (Q : Ex → St → Prop) (s : St), awp E (fun _ _ => none) n F c Q s → ∃ e s', Q e s' ∧ ∀ Q' : Ex → St → Prop, Q' e s' → awp E (fun _ _ => none) n F c Q' s
  | .skip, Q, s, h => ⟨_, _, h, fun _ hk => hk⟩
  | .exit id, Q, s, h => ⟨_, _, h, fun _ hk => hk⟩
  | .ret, Q, s, h => ⟨_, _, h, fun _ hk => hk⟩
  | .region id ops d, Q, s, h => by
    simp only [awp] at h ⊢
    cases hc : ops.toList.all (dstBelow n) with
    | false => rw [hc] at h; exact h.elim
    | true =>
      rw [hc] at h
      simp only [cond_true] at h ⊢
      obtain ⟨s', tr', h1, h2⟩ := aRegion_det hdt hE _ h
      cases hq : (!d || (fine ops tr' && edgesOk ops && E.P.follows .mixedOrders)) with
      | false => rw [hq] at h1; exact h1.elim
      | true =>
        rw [hq] at h1
        refine ⟨_, _, h1, fun Q' hk => h2 _ ?_⟩
        rw [hq]; exact hk
  | .seq x y, Q, s, h => by
    simp only [awp] at h ⊢
    obtain ⟨e, s', h1, h2⟩ := awp_det hdt hE n F x _ s h
    cases e with
    | normal =>
      obtain ⟨e2, s2, h3, h4⟩ := awp_det hdt hE n F y _ s' h1
      exact ⟨e2, s2, h3, fun Q' hk => h2 _ (h4 Q' hk)⟩
    | exit id => exact ⟨_, _, h1, fun Q' hk => h2 _ hk⟩
    | ret => exact ⟨_, _, h1, fun Q' hk => h2 _ hk⟩
  | .cond c x y, Q, s, h => by
    simp only [awp] at h ⊢
    split at h
    · rename_i t hg
      cases t with
      | true => exact awp_det hdt hE n F x _ s h
      | false => exact awp_det hdt hE n F y _ s h
    · exact h.elim
  | .block id b, Q, s, h => by
    simp only [awp] at h ⊢
    obtain ⟨e, s', h1, h2⟩ := awp_det hdt hE n F b _ s h
    cases e with
    | normal => exact ⟨_, _, h1, fun Q' hk => h2 _ hk⟩
    | ret => exact ⟨_, _, h1, fun Q' hk => h2 _ hk⟩
    | exit id' =>
      simp only at h1
      cases hb : Nat.beq id' id with
      | true =>
        rw [hb] at h1
        refine ⟨_, _, h1, fun Q' hk => h2 _ ?_⟩
        simp only [hb]; exact hk
      | false =>
        rw [hb] at h1
        refine ⟨_, _, h1, fun Q' hk => h2 _ ?_⟩
        simp only [hb]; exact hk
  | .loop b, Q, s, h => by simp only [awp] at h
  | .rangeFunc .., _, _, h => h.elim
  | .scope _, _, _, h => h.elim
  | .label _, _, _, h => h.elim
  | .goto _, _, _, h => h.elim
  | .refuse _, _, _, h => h.elim

theorem finK_det {f : Func} {n0 : Nat} {G : SV → List (Nat × Option Obj) → Prop} (h : finK E f n0 s G) : ∃ r m1, G r m1 ∧ ∀ G' : SV → List (Nat × Option Obj) → Prop, G' r m1 → finK E f n0 s G' := by
  unfold finK at h ⊢
  split at h
  · exact h.elim
  · rename_i l hl
    split at h
    · rename_i l' u e1 e2
      cases hd : distinct (finNew s n0 l) with
      | false => rw [hd] at h; exact h.elim
      | true =>
        rw [hd] at h
        exact ⟨_, _, h, fun G' hk => hk⟩
    · exact h.elim

/-- A FUNCTION'S CODE, TAKEN IN, is sound … -/
theorem meets_inl (hE : E.Ok) (A : Nat → St → Option Ann) {K : FuncId} {f : Func} (hf : E.P.funcs[K]? = some f) (hb : f.body.isSome = true) (hn : (f.name == "runtime.NumGoroutine") = false) : MeetsK E.P E.glob K false (inlC E A f) :=
  ⟨⟨f, hf, hb, hn⟩, fun _ _ _ h => inl_spec hE A hf h, fun h => by cases h⟩
/-- … where it has one ending alone -/
theorem meets_inlD (hE : E.Ok) (hdt : E.det = true) {K : FuncId} {f : Func} (hf : E.P.funcs[K]? = some f) (hb : f.body.isSome = true) (hn : (f.name == "runtime.NumGoroutine") = false) : MeetsK E.P E.glob K true (inlC E (fun _ _ => none) f) := by
  refine ⟨⟨f, hf, hb, hn⟩, fun _ _ _ h => inl_spec hE _ hf h, fun _ args m0 G h => ?_⟩
  unfold inlC at h ⊢
  split at h
  · exact h.elim
  · rename_i c hc
    cases hck : Nat.ble args.length f.ntmps with
    | false => rw [hck] at h; exact h.elim
    | true =>
      rw [hck] at h
      simp only [cond_true] at h ⊢
      obtain ⟨e, s', h1, h2⟩ := awp_det hdt hE _ _ c _ _ h
      cases e with
      | exit id => exact h1.elim
      | normal =>
        obtain ⟨r, m1, h3, h4⟩ := finK_det h1
        exact ⟨r, m1, h3, fun G' hk => h2 _ (h4 G' hk)⟩
      | ret =>
        obtain ⟨r, m1, h3, h4⟩ := finK_det h1
        exact ⟨r, m1, h3, fun G' hk => h2 _ (h4 G' hk)⟩

end
end Go.Proofs.YtedjlbcclhgfmaaDoor

/- THE MACHINE OF READINGS: objects that a call is not told of stay as they are. -/
namespace Go.Proofs.YtedjlbcclhgfmaaDoor
open Go.RowKit

theorem memOf_app {a b : List (Nat × Option Obj)} {id : Nat} : memOf (a ++ b) id = match look a id with
    | some o => o
    | none => memOf b id := by
  unfold memOf
  rw [look_append]
  cases look a id <;> rfl
theorem SpecR.hide {P : Program} {g : Nat → Option Gl} {K : FuncId} {args : List SV} {m0 m0' m1 : List (Nat × Option Obj)} {r : SV} (hlen : m0'.length = m0.length) (H : Nat → Prop)
    (hH : ∀ id, H id → ∃ o z, memOf m0 id = some o ∧ o.rw = some z ∧ memOf m0' id = some (.opq z) ∧ look m1 id = none ∧ ∀ i ∈ idsO o, H i) (hS : ∀ id, ¬ H id → memOf m0' id = memOf m0 id)
    (h : SpecR P g K args m0' r m1) : SpecR P g K args m0 r m1 := by
  intro w N ρ vs hgl hmr hargs hai hmi
  have cas : ∀ id, (memOf m0' id = memOf m0 id ∧ ¬ H id) ∨ (H id ∧ ∃ o z, memOf m0 id = some o ∧ o.rw = some z ∧ memOf m0' id = some (.opq z) ∧ look m1 id = none ∧ ∀ i ∈ idsO o, H i) := fun id => by
    by_cases hh : H id
    · exact .inr ⟨hh, hH id hh⟩
    · exact .inl ⟨hS id hh, hh⟩
  have ht : Turn ρ (memOf m0) ρ (memOf m0') (fun _ => False) := ⟨fun _ _ => rfl, fun id o' z _ ho hz => by
    rcases cas id with ⟨e, _⟩ | ⟨_, o, z', e1, e2, e3, _⟩
    · exact ⟨o', by rw [← e]; exact ho, hz⟩
    · rw [e3] at ho; cases ho; cases hz; exact ⟨o, e1, e2⟩⟩
  have ownh : ∀ b, Own ρ (memOf m0') b → Own ρ (memOf m0) b := fun b ⟨id, o', ho, hb⟩ => by
    rcases cas id with ⟨e, _⟩ | ⟨_, o, z', e1, e2, e3, _⟩
    · exact ⟨id, o', by rw [← e]; exact ho, hb⟩
    · rw [e3] at ho; cases ho; exact hb.elim
  have disj : ∀ id o b, H id → memOf m0 id = some o → Bl (ρ id) o b → ¬ Own ρ (memOf m0') b := fun id o b hh ho hb ⟨i, o', hi, hb'⟩ => by
    rcases cas i with ⟨e, hn⟩ | ⟨_, o2, z', e1, e2, e3, _⟩
    · rw [e] at hi
      have := hmr.inj i id o' o b hi ho hb' hb
      subst this
      exact hn hh
    · rw [e3] at hi; cases hi; exact hb'.elim
  have hmrh : MR w N ρ (memOf m0') := by
    refine ⟨fun id o' ho => ?_, fun id id' o o' b ho ho' hb hb' => ?_, fun b hb ho => hmr.nown b hb (ownh b ho), hmr.nlt⟩
    · rcases cas id with ⟨e, _⟩ | ⟨_, o, z', e1, e2, e3, _⟩
      · exact (hmr.obj id o' (by rw [← e]; exact ho)).turn ht (fun _ h => h) (fun _ _ => rfl) (fun hf => hf) (fun _ _ hf => hf) fun _ _ => rfl
      · rw [e3] at ho; cases ho; trivial
    · rcases cas id with ⟨e, _⟩ | ⟨_, q, z', e1, e2, e3, _⟩
      · rcases cas id' with ⟨e', _⟩ | ⟨_, q', z2, f1, f2, f3, _⟩
        · exact hmr.inj id id' o o' b (by rw [← e]; exact ho) (by rw [← e']; exact ho') hb hb'
        · rw [f3] at ho'; cases ho'; exact hb'.elim
      · rw [e3] at ho; cases ho; exact hb.elim
  refine (h w N ρ vs hgl hmrh (hargs.mono' fun s _ v hv => SVR.turn ht (fun _ h => h) (fun _ _ => rfl) (fun _ _ hf => hf) hv) (fun s hs id hid => by rw [hlen]; exact hai s hs id hid) fun n o ho => ?_).mono fun e w' hq => ?_
  · rw [hlen]
    rcases cas n with ⟨e, _⟩ | ⟨_, q, z', e1, e2, e3, _⟩
    · exact hmi n o (by rw [← e]; exact ho)
    · rw [e3] at ho; cases ho
      exact ⟨(hmi n q e1).1, fun i hi => by cases hi⟩
  obtain ⟨v, ρ', N', he, hρ, hN, hmr', hv, hsince, hown, hnn⟩ := hq
  rw [hlen] at hρ
  have rel : ∀ id, (memOf (m1 ++ m0) id = memOf (m1 ++ m0') id) ∨ (H id ∧ memOf (m1 ++ m0) id = memOf m0 id ∧ ∃ o z, memOf m0 id = some o ∧ o.rw = some z ∧ memOf (m1 ++ m0') id = some (.opq z) ∧ ∀ i ∈ idsO o, H i) := fun id => by
    rw [memOf_app, memOf_app]
    rcases cas id with ⟨e, _⟩ | ⟨hh, o, z, e1, e2, e3, e4, e5⟩
    · left; cases look m1 id with
      | some o => rfl
      | none => exact e.symm
    · right; rw [e4]; exact ⟨hh, rfl, o, z, e1, e2, e3, e5⟩
  have ht3 : Turn ρ' (memOf (m1 ++ m0')) ρ' (memOf (m1 ++ m0)) (fun _ => False) := ⟨fun _ _ => rfl, fun id o' z _ ho hz => by
    rcases rel id with e | ⟨_, e0, o, z', e1, e2, e3, _⟩
    · exact ⟨o', by rw [← e]; exact ho, hz⟩
    · rw [e0, e1] at ho; cases ho; rw [hz] at e2; cases e2; exact ⟨_, e3, rfl⟩⟩
  have hpl : ∀ id, H id → ρ' id = ρ id := fun id hh => by
    obtain ⟨o, z, e1, _⟩ := hH id hh
    exact hρ id (hmi id o e1).1
  have ht2 : Turn ρ (memOf m0) ρ' (memOf (m1 ++ m0)) (fun i => ¬ H i) := ⟨fun id hh => hpl id (Classical.not_not.1 hh), fun id o' z hh ho hz => by
    rcases rel id with e | ⟨_, e0, _⟩
    · obtain ⟨o, z', e1, e2, e3, e4, _⟩ := hH id (Classical.not_not.1 hh)
      rw [memOf_app, e4] at ho
      exact ⟨o', ho, hz⟩
    · rw [e0] at ho; exact ⟨o', ho, hz⟩⟩
  have hs : SameOn N w w' := fun b hb => hsince.keep b (hmr.nlt b hb) fun ho => hmrh.nown b hb ho
  have hlt : ∀ id o b, memOf m0 id = some o → Bl (ρ id) o b → b < w.heap.size := fun id o b ho hb => own_lt hmr ⟨id, o, ho, hb⟩
  refine ⟨v, ρ', N', he, hρ, hN, ⟨fun id o ho => ?_, fun id id' o o' b ho ho' hb hb' => ?_, fun b hb ho => ?_, hmr'.nlt⟩, SVR.turn ht3 (fun _ h => h) (fun _ _ => rfl) (fun _ _ hf => hf) hv,
    ⟨hsince.os, hsince.tape, hsince.output, hsince.size, fun b hb hx => hsince.keep b hb fun ho => hx (ownh b ho)⟩, fun b ⟨id, o, ho, hb⟩ => ?_, fun b hb => (hnn b hb).imp id (fun h => h.imp id (ownh b))⟩
  · rcases rel id with e | ⟨hh, e0, q, z, e1, e2, e3, e5⟩
    · exact (hmr'.obj id o (by rw [← e]; exact ho)).turn ht3 (fun _ h => h) (fun _ _ => rfl) (fun hf => hf) (fun _ _ hf => hf) fun _ _ => rfl
    · rw [e0, e1] at ho; cases ho
      exact (hmr.obj id _ e1).turn ht2 hN hs (fun hf => hf hh) (fun i hi hf => hf (e5 i hi)) fun b hb => hsince.keep b (hlt id _ b e1 hb) fun hob => disj id _ b hh e1 hb hob
  · have mix : ∀ i i' q q', H i → memOf m0 i = some q → Bl (ρ' i) q b → memOf (m1 ++ m0') i' = some q' → Bl (ρ' i') q' b → False := fun i i' q q' hh h1 h2 h3 h4 => by
      rw [hpl i hh] at h2
      rcases hown b ⟨i', q', h3, h4⟩ with h5 | h5
      · exact disj i q b hh h1 h2 h5
      · have := hlt i q b h1 h2; omega
    rcases rel id with e | ⟨hh, e0, _⟩ <;> rcases rel id' with e' | ⟨hh', e0', _⟩
    · exact hmr'.inj id id' o o' b (by rw [← e]; exact ho) (by rw [← e']; exact ho') hb hb'
    · exact (mix id' id o' o hh' (by rw [← e0']; exact ho') hb' (by rw [← e]; exact ho) hb).elim
    · exact (mix id id' o o' hh (by rw [← e0]; exact ho) hb (by rw [← e']; exact ho') hb').elim
    · rw [hpl id hh] at hb; rw [hpl id' hh'] at hb'
      exact hmr.inj id id' o o' b (by rw [← e0]; exact ho) (by rw [← e0']; exact ho') hb hb'
  · obtain ⟨id, o, ho, hbl⟩ := ho
    rcases rel id with e | ⟨hh, e0, _⟩
    · exact hmr'.nown b hb ⟨id, o, by rw [← e]; exact ho, hbl⟩
    · rw [e0] at ho; rw [hpl id hh] at hbl
      rcases hnn b hb with h1 | h1 | h1
      · exact hmr.nown b h1 ⟨id, o, ho, hbl⟩
      · have := hlt id o b ho hbl; omega
      · exact disj id o b hh ho hbl h1
  · rcases rel id with e | ⟨hh, e0, _⟩
    · exact (hown b ⟨id, o, by rw [← e]; exact ho, hb⟩).imp (ownh b) (fun h => h)
    · rw [hpl id hh] at hb
      exact .inl ⟨id, o, by rw [← e0]; exact ho, hb⟩

/-- some objects, told of by their size and length only -/
def hideM (hs : List Nat) : List (Nat × Option Obj) → Option (List (Nat × Option Obj))
  | [] => some []
  | (n, o) :: r => match hideM hs r with
    | none => none
    | some r' => match hs.contains n, o with
      | false, o => some ((n, o) :: r')
      | true, some o => match o.rw with
        | some z => bif (idsO o).all hs.contains then some ((n, some (.opq z)) :: r') else none
        | none => none
      | true, none => none
theorem hideM_ok {hs : List Nat} : ∀ {m m' : List (Nat × Option Obj)}, hideM hs m = some m' → m'.length = m.length ∧ ∀ id, (hs.contains id = false → look m' id = look m id) ∧
    (hs.contains id = true → look m id = none ∨ ∃ o z, look m id = some (some o) ∧ o.rw = some z ∧ look m' id = some (some (.opq z)) ∧ ∀ i ∈ idsO o, hs.contains i = true)
  | [], _, h => by
    simp only [hideM, Option.some.injEq] at h; subst h
    exact ⟨rfl, fun id => ⟨fun _ => rfl, fun _ => .inl rfl⟩⟩
  | (n, o) :: r, m', h => by
    simp only [hideM] at h
    cases hr : hideM hs r with
    | none => rw [hr] at h; cases h
    | some r' =>
      obtain ⟨g1, g2⟩ := hideM_ok hr
      rw [hr] at h
      cases hc : hs.contains n with
      | false =>
        rw [hc] at h
        simp only [Option.some.injEq] at h; subst h
        refine ⟨by simp [g1], fun id => ?_⟩
        rw [look_cons, look_cons]
        by_cases hn : n = id
        · subst hn
          exact ⟨fun _ => by rw [if_pos rfl, if_pos rfl], fun h => by rw [hc] at h; cases h⟩
        · rw [if_neg hn, if_neg hn]; exact g2 id
      | true =>
        rw [hc] at h
        cases o with
        | none => cases h
        | some o =>
          simp only at h
          cases hz : o.rw with
          | none => rw [hz] at h; cases h
          | some z =>
            rw [hz] at h
            simp only at h
            cases ha : (idsO o).all hs.contains with
            | false => rw [ha] at h; cases h
            | true =>
              rw [ha] at h
              simp only [cond_true, Option.some.injEq] at h; subst h
              refine ⟨by simp [g1], fun id => ?_⟩
              rw [look_cons, look_cons]
              by_cases hn : n = id
              · subst hn
                exact ⟨fun h => (by rw [hc] at h; cases h), fun _ => .inr ⟨o, z, by rw [if_pos rfl], hz, by rw [if_pos rfl], fun i hi => List.all_eq_true.1 ha i hi⟩⟩
              · rw [if_neg hn, if_neg hn]; exact g2 id
/-- a contract that is told of some objects by their size and length only -/
def hidCtr (hs : List Nat) (c : Ctr) : Ctr := fun args m0 => match hideM hs m0 with
  | none => none
  | some m0' => match c args m0' with
    | none => none
    | some (obs, r, m1) => bif hs.all (fun n => (look m0 n).isSome) && m1.all (fun x => !hs.contains x.1) then some (obs, r, m1) else none
theorem meets_hid {P : Program} {g : Nat → Option Gl} {K : FuncId} {c : Ctr} (hs : List Nat) (h : Meets P g K c) : Meets P g K (hidCtr hs c) := by
  refine ⟨h.1, fun args m0 obs r m1 hc hp => ?_⟩
  unfold hidCtr at hc
  split at hc
  · cases hc
  · rename_i m0' hm
    split at hc
    · cases hc
    · rename_i obs' r' m1' hc'
      cases hb : (hs.all (fun n => (look m0 n).isSome) && m1'.all (fun x => !hs.contains x.1)) with
      | false => rw [hb] at hc; cases hc
      | true =>
        rw [hb] at hc
        simp only [cond_true, Option.some.injEq, Prod.mk.injEq] at hc
        obtain ⟨rfl, rfl, rfl⟩ := hc
        rw [Bool.and_eq_true] at hb
        obtain ⟨g1, g2⟩ := hideM_ok hm
        refine SpecR.hide g1 (fun id => hs.contains id = true) (fun id hid => ?_) (fun id hid => ?_) (h.2 args m0' obs' r' m1' hc' hp)
        · have hsome := List.all_eq_true.1 hb.1 id (by simpa using hid)
          rcases (g2 id).2 hid with h1 | ⟨o, z, h1, h2, h3, h4⟩
          · rw [h1] at hsome; cases hsome
          · refine ⟨o, z, by unfold memOf; rw [h1]; rfl, h2, by unfold memOf; rw [h3]; rfl, look_none fun hk => ?_, h4⟩
            obtain ⟨x, hx, he⟩ := List.mem_map.1 hk
            have := List.all_eq_true.1 hb.2 x hx
            rw [he, hid] at this; cases this
        · have hid : hs.contains id = false := by simpa using hid
          unfold memOf
          rw [(g2 id).1 hid]

end Go.Proofs.YtedjlbcclhgfmaaDoor

/- THE MACHINE OF READINGS, contracts by shapes: a contract that is told as a function of plain data. -/
namespace Go.Proofs.YtedjlbcclhgfmaaDoor
open Go.RowKit

/-- a cell of an argument: data; an own row, by its number; just this cell -/
inductive CS where
  | rd (t : Ty)
  | own (id : Nat)
  | lit (c : C)
inductive Par where
  | one (c : CS)
  | agg (cs : List CS)
inductive MS where
  | box (cs : List CS)
  | row (t : Ty)
  | opq
@[reducible] def denCS : CS → Type
  | .rd t => t.den
  | _ => Unit
@[reducible] def denCSs : List CS → Type
  | [] => Unit
  | c :: r => denCS c × denCSs r
@[reducible] def denPar : Par → Type
  | .one c => denCS c
  | .agg cs => denCSs cs
@[reducible] def denPars : List Par → Type
  | [] => Unit
  | p :: r => denPar p × denPars r
@[reducible] def denMS : MS → Type
  | .box cs => denCSs cs
  | .row t => List t.den
  | .opq => Nat × Nat
@[reducible] def denMSs : List MS → Type
  | [] => Unit
  | m :: r => denMS m × denMSs r

def sameC : C → C → Bool
  | .pt a b, .pt c d => Nat.beq a c && Nat.beq b d
  | .sp a b, .sp c d => Nat.beq a c && Nat.beq b d
  | .fn f l, .fn g r => Nat.beq f g && (l == r)
  | .nil, .nil => true
  | .sz, .sz => true
  | _, _ => false
def parseCS : (c : CS) → C → Option (denCS c)
  | .rd t, c => uncell1 t c
  | .own id, .hs id' => bif Nat.beq id id' then some () else none
  | .own _, _ => none
  | .lit l, c => bif sameC l c then some () else none
def parseCSs : (l : List CS) → List C → Option (denCSs l)
  | [], [] => some ()
  | c :: r, x :: xs => match parseCS c x, parseCSs r xs with
    | some a, some b => some (a, b)
    | _, _ => none
  | _, _ => none
def parsePar : (p : Par) → SV → Option (denPar p)
  | .one c, .v false [x] => parseCS c x
  | .agg cs, .v true l => parseCSs cs l
  | _, _ => none
def parsePars : (l : List Par) → List SV → Option (denPars l)
  | [], [] => some ()
  | p :: r, x :: xs => match parsePar p x, parsePars r xs with
    | some a, some b => some (a, b)
    | _, _ => none
  | _, _ => none
/-- a box's cells are told of as they stand -/
def strict1 : (t : Ty) → C → Option t.den
  | .int k, .int k' n => if k = k' then some n else none
  | .bool, .bool b => some b
  | .str, .str s => some s
  | .sl t, .sl t' xs => if h : t' = t then some (h ▸ xs) else none
  | _, _ => none
def strictCS : (c : CS) → C → Option (denCS c)
  | .rd t, c => strict1 t c
  | .own id, .hs id' => bif Nat.beq id id' then some () else none
  | .own _, _ => none
  | .lit l, c => bif sameC l c then some () else none
def strictCSs : (l : List CS) → List C → Option (denCSs l)
  | [], [] => some ()
  | c :: r, x :: xs => match strictCS c x, strictCSs r xs with
    | some a, some b => some (a, b)
    | _, _ => none
  | _, _ => none
def castRow {t t' : Ty} (h : t' = t) (ys : List t'.den) : List t.den := h ▸ ys
/-- a row, as a contract is told of it: of the kind that its type says -/
def rowParse : (t : Ty) → Obj → Option (List t.den)
  | .mark ow t, o => match o with
    | .nest ⟨t', ow', xs, none⟩ => if h : t' = t then (if ow' = ow then some (castRow (t := t) h xs) else none) else none
    | _ => none
  | t, o => match o with
    | .row t' ys => if h : t' = t then some (castRow h ys) else none
    | _ => none
def parseMS : (m : MS) → Option Obj → Option (denMS m)
  | .box cs, some (.box l) => strictCSs cs l
  | .row t, some o => rowParse t o
  | .opq, some (.opq z) => some z
  | _, _ => none
def parseMSs : (l : List MS) → Nat → List (Nat × Option Obj) → Option (denMSs l)
  | [], _, [] => some ()
  | m :: r, k, x :: xs => bif Nat.beq k x.1 then
      match parseMS m x.2, parseMSs r (k + 1) xs with
      | some a, some b => some (a, b)
      | _, _ => none
    else none
  | _, _, _ => none
def putCS : (c : CS) → denCS c → C
  | .rd t, x => cell1 t x
  | .own id, _ => .hs id
  | .lit c, _ => c
def putCSs : (l : List CS) → denCSs l → List C
  | [], _ => []
  | c :: r, x => putCS c x.1 :: putCSs r x.2
def putPar : (p : Par) → denPar p → SV
  | .one c, x => .v false [putCS c x]
  | .agg cs, x => .v true (putCSs cs x)
def putPars : (l : List Par) → denPars l → List SV
  | [], _ => []
  | p :: r, x => putPar p x.1 :: putPars r x.2
def putMS : (m : MS) → denMS m → Obj
  | .box cs, x => .box (putCSs cs x)
  | .row t, x => kObj t x
  | .opq, z => .opq z
def putMSs : (l : List MS) → Nat → denMSs l → List (Nat × Option Obj)
  | [], _, _ => []
  | m :: r, k, x => (k, some (putMS m x.1)) :: putMSs r (k + 1) x.2

/-- what a contract is told of -/
structure Shape where
  ps : List Par
  ms : List MS
abbrev Shape.den (S : Shape) : Type := denPars S.ps × denMSs S.ms
def Shape.args (S : Shape) (x : S.den) : List SV := putPars S.ps x.1
def Shape.mem (S : Shape) (x : S.den) : List (Nat × Option Obj) := putMSs S.ms 0 x.2
def Shape.parse (S : Shape) (args : List SV) (m0 : List (Nat × Option Obj)) : Option S.den :=
  match parsePars S.ps args, parseMSs S.ms 0 m0 with
  | some a, some b => some (a, b)
  | _, _ => none

/-- a contract: for arguments of this shape, where pre holds: results vs, as f says -/
def shCtr (S : Shape) (pre : S.den → List Prop) (dead : List Nat) (vs : List Var) (f : S.den → denVars vs) : Ctr := fun args m0 =>
  match S.parse args m0 with
  | some x => some (pre x, outOf vs dead (f x) (S.mem x))
  | none => none

/-- one contract or the other -/
def orCtr (c d : Ctr) : Ctr := fun args m0 =>
  match c args m0 with
  | some r => some r
  | none => d args m0

theorem sameC_eq {l c : C} (h : sameC l c = true) : l = c := by
  unfold sameC at h
  split at h
  · simp only [Bool.and_eq_true, Nat.beq_eq] at h; rw [h.1, h.2]
  · simp only [Bool.and_eq_true, Nat.beq_eq] at h; rw [h.1, h.2]
  · simp only [Bool.and_eq_true, Nat.beq_eq, beq_iff_eq] at h; rw [h.1, h.2]
  · rfl
  · rfl
  · cases h

section
variable {w : World} {N : Blk} {ρ : Nat → Pl} {m m' : Mem}

theorem parseCS_ok (ht : Turn ρ m ρ m' fun _ => False) {c : CS} {x : C} {d : denCS c} {v : Value} (he : parseCS c x = some d) (h : CR w N ρ m x v) : CR w N ρ m' (putCS c d) v := by
  have hs : SameOn N w w := fun _ _ => rfl
  cases c with
  | rd t => exact uncell1_ok he h
  | own id =>
    cases x <;> simp only [parseCS, reduceCtorEq] at he
    rename_i id'
    cases hb : Nat.beq id id' with
    | false => rw [hb] at he; cases he
    | true =>
      have := Nat.eq_of_beq_eq_true hb
      subst this
      exact CR.turn ht (fun _ h => h) hs (fun _ _ h => h) h
  | lit l =>
    simp only [parseCS] at he
    cases hb : sameC l x with
    | false => rw [hb] at he; cases he
    | true =>
      have := sameC_eq hb
      subst this
      exact CR.turn ht (fun _ h => h) hs (fun _ _ h => h) h

theorem parseCSs_ok (ht : Turn ρ m ρ m' fun _ => False) : ∀ {l : List CS} {xs : List C} {d : denCSs l} {vs : List Value}, parseCSs l xs = some d → All2 (CR w N ρ m) xs vs → All2 (CR w N ρ m') (putCSs l d) vs
  | [], [], _, _, _, h => by cases h; exact .nil
  | [], _ :: _, _, _, he, _ => by simp [parseCSs] at he
  | _ :: _, [], _, _, he, _ => by simp [parseCSs] at he
  | c :: r, x :: xs, d, _, he, h => by
    cases h with
    | cons h1 h2 =>
      simp only [parseCSs] at he
      split at he
      · rename_i a b e1 e2
        simp only [Option.some.injEq] at he
        subst he
        exact .cons (parseCS_ok ht e1 h1) (parseCSs_ok ht e2 h2)
      · cases he

theorem parsePar_ok (ht : Turn ρ m ρ m' fun _ => False) {p : Par} {x : SV} {d : denPar p} {v : Value} (he : parsePar p x = some d) (h : SVR w N ρ m x v) : SVR w N ρ m' (putPar p d) v := by
  cases p with
  | one c =>
    cases x with
    | un => cases he
    | tup l => cases he
    | v ag cs =>
      cases ag with
      | true => cases he
      | false =>
        obtain ⟨c', rfl, h1⟩ := h
        exact ⟨_, rfl, parseCS_ok ht he h1⟩
  | agg cs =>
    cases x with
    | un => cases he
    | tup l => cases he
    | v ag l =>
      cases ag with
      | false => cases he
      | true =>
        obtain ⟨us, e, h1⟩ := h
        exact ⟨us, e, parseCSs_ok ht he h1⟩

theorem parsePars_ok (ht : Turn ρ m ρ m' fun _ => False) : ∀ {l : List Par} {xs : List SV} {d : denPars l} {vs : List Value}, parsePars l xs = some d → All2 (SVR w N ρ m) xs vs → All2 (SVR w N ρ m') (putPars l d) vs
  | [], [], _, _, _, h => by cases h; exact .nil
  | [], _ :: _, _, _, he, _ => by simp [parsePars] at he
  | _ :: _, [], _, _, he, _ => by simp [parsePars] at he
  | p :: r, x :: xs, d, _, he, h => by
    cases h with
    | cons h1 h2 =>
      simp only [parsePars] at he
      split at he
      · rename_i a b e1 e2
        simp only [Option.some.injEq] at he
        subst he
        exact .cons (parsePar_ok ht e1 h1) (parsePars_ok ht e2 h2)
      · cases he

theorem parseCS_ids {c : CS} {x : C} {d : denCS c} (he : parseCS c x = some d) : ∀ id ∈ idsC (putCS c d), id ∈ idsC x := by
  cases c with
  | rd t => intro id h; simp only [putCS, cell1_ids] at h; cases h
  | own i =>
    cases x <;> simp only [parseCS, reduceCtorEq] at he
    rename_i id'
    cases hb : Nat.beq i id' with
    | false => rw [hb] at he; cases he
    | true => have := Nat.eq_of_beq_eq_true hb; subst this; exact fun _ h => h
  | lit l =>
    simp only [parseCS] at he
    cases hb : sameC l x with
    | false => rw [hb] at he; cases he
    | true => have := sameC_eq hb; subst this; exact fun _ h => h

theorem parseCSs_ids : ∀ {l : List CS} {xs : List C} {d : denCSs l}, parseCSs l xs = some d → ∀ id ∈ idsCs (putCSs l d), id ∈ idsCs xs
  | [], [], _, _, _, h => h
  | [], _ :: _, _, he, _, _ => by simp [parseCSs] at he
  | _ :: _, [], _, he, _, _ => by simp [parseCSs] at he
  | c :: r, x :: xs, d, he, id, h => by
    simp only [parseCSs] at he
    split at he
    · rename_i a b e1 e2
      simp only [Option.some.injEq] at he
      subst he
      simp only [idsCs, putCSs, List.flatMap_cons, List.mem_append] at h ⊢
      rcases h with h | h
      · exact .inl (parseCS_ids e1 id h)
      · exact .inr (parseCSs_ids e2 id h)
    · cases he

theorem parsePar_ids {p : Par} {x : SV} {d : denPar p} (he : parsePar p x = some d) : ∀ id ∈ idsS (putPar p d), id ∈ idsS x := by
  cases p with
  | one c =>
    cases x with
    | un => cases he
    | tup l => cases he
    | v ag cs =>
      cases ag with
      | true => cases he
      | false =>
        match cs, he with
        | [c'], he =>
          intro id hid
          simp only [putPar, idsS, idsCs, List.flatMap_cons, List.flatMap_nil, List.append_nil] at hid ⊢
          exact parseCS_ids he id hid
        | [], he => cases he
        | _ :: _ :: _, he => cases he
  | agg cs =>
    cases x with
    | un => cases he
    | tup l => cases he
    | v ag l =>
      cases ag with
      | false => cases he
      | true => exact parseCSs_ids (l := cs) he

theorem parsePars_ids : ∀ {l : List Par} {xs : List SV} {d : denPars l}, parsePars l xs = some d → ∀ s ∈ putPars l d, ∀ id ∈ idsS s, ∃ s' ∈ xs, id ∈ idsS s'
  | [], _, _, _, s, h => by cases h
  | _ :: _, [], _, he, _, _ => by simp [parsePars] at he
  | p :: r, x :: xs, d, he, s, h => by
    simp only [parsePars] at he
    split at he
    · rename_i a b e1 e2
      simp only [Option.some.injEq] at he
      subst he
      intro id hid
      rcases List.mem_cons.1 h with rfl | h
      · exact ⟨_, List.mem_cons_self, parsePar_ids e1 id hid⟩
      · obtain ⟨s', h1, h2⟩ := parsePars_ids e2 s h id hid
        exact ⟨s', List.mem_cons_of_mem _ h1, h2⟩
    · cases he

theorem strict1_eq {t : Ty} {c : C} {x : t.den} (h : strict1 t c = some x) : cell1 t x = c := by
  cases t with
  | unit => cases c <;> simp [strict1] at h
  | pair a b => cases c <;> simp [strict1] at h
  | mark ow t => cases c <;> simp [strict1] at h
  | int k =>
    cases c <;> simp only [strict1, reduceCtorEq] at h
    split at h
    · rename_i hk; subst hk; simp only [Option.some.injEq] at h; subst h; rfl
    · cases h
  | bool => cases c <;> simp only [strict1, reduceCtorEq, Option.some.injEq] at h; subst h; rfl
  | str => cases c <;> simp only [strict1, reduceCtorEq, Option.some.injEq] at h; subst h; rfl
  | sl t =>
    cases c <;> simp only [strict1, reduceCtorEq] at h
    split at h
    · rename_i ht; subst ht; simp only [Option.some.injEq] at h; subst h; rfl
    · cases h
theorem strictCS_eq {c : CS} {x : C} {d : denCS c} (he : strictCS c x = some d) : putCS c d = x := by
  cases c with
  | rd t => exact strict1_eq he
  | own i =>
    cases x <;> simp only [strictCS, reduceCtorEq] at he
    rename_i id'
    cases hb : Nat.beq i id' with
    | false => rw [hb] at he; cases he
    | true => have := Nat.eq_of_beq_eq_true hb; subst this; rfl
  | lit l =>
    simp only [strictCS] at he
    cases hb : sameC l x with
    | false => rw [hb] at he; cases he
    | true => exact sameC_eq hb
theorem strictCSs_eq : ∀ {l : List CS} {xs : List C} {d : denCSs l}, strictCSs l xs = some d → putCSs l d = xs
  | [], [], _, _ => rfl
  | [], _ :: _, _, he => by simp [strictCSs] at he
  | _ :: _, [], _, he => by simp [strictCSs] at he
  | c :: r, x :: xs, d, he => by
    simp only [strictCSs] at he
    split at he
    · rename_i a b e1 e2
      simp only [Option.some.injEq] at he
      subst he
      simp only [putCSs, strictCS_eq e1, strictCSs_eq e2]
    · cases he
theorem rowParse_eq : ∀ {t : Ty} {o : Obj} {d : List t.den}, rowParse t o = some d → kObj t d = o := by
  have plain : ∀ {t : Ty} {o : Obj} {d : List t.den}, isMark' t = false → (match o with
      | .row t' ys => if h : t' = t then some (castRow h ys) else none
      | _ => none) = some d → kObj t d = o := by
    intro t o d hm h
    split at h
    · rename_i t' ys
      split at h
      · rename_i ht
        subst ht
        simp only [Option.some.injEq] at h
        subst h
        exact kObj_plain hm
      · cases h
    · cases h
  intro t o d h
  cases t with
  | mark ow t =>
    simp only [rowParse] at h
    split at h
    · rename_i t' ow' xs
      split at h
      · rename_i ht
        subst ht
        split at h
        · rename_i hw
          subst hw
          simp only [Option.some.injEq] at h
          subst h
          rfl
        · cases h
      · cases h
    · cases h
  | unit => exact plain rfl h
  | int k => exact plain rfl h
  | bool => exact plain rfl h
  | str => exact plain rfl h
  | sl t => exact plain rfl h
  | pair a b => exact plain rfl h
theorem parseMS_eq {p : MS} {o : Option Obj} {d : denMS p} (he : parseMS p o = some d) : some (putMS p d) = o := by
  cases p with
  | box cs =>
    cases o with
    | none => cases he
    | some o => cases o with
      | row t xs => cases he
      | nest d => cases he
      | opq z => cases he
      | box l => simp only [putMS]; rw [strictCSs_eq he]
  | row t =>
    cases o with
    | none => cases he
    | some o => simp only [putMS]; rw [rowParse_eq he]
  | opq =>
    cases o with
    | none => cases he
    | some o => cases o with
      | row t xs => cases he
      | nest d => cases he
      | box l => cases he
      | opq z =>
        have he : some z = some d := he
        cases he; rfl
theorem parseMSs_eq : ∀ {l : List MS} {k : Nat} {m0 : List (Nat × Option Obj)} {d : denMSs l}, parseMSs l k m0 = some d → putMSs l k d = m0
  | [], _, [], _, _ => rfl
  | [], _, _ :: _, _, he => by simp [parseMSs] at he
  | _ :: _, _, [], _, he => by simp [parseMSs] at he
  | p :: r, k, (k', o) :: m0, d, he => by
    simp only [parseMSs] at he
    cases hb : Nat.beq k k' with
    | false => rw [hb] at he; cases he
    | true =>
      rw [hb] at he
      simp only [cond_true] at he
      have := Nat.eq_of_beq_eq_true hb
      subst this
      split at he
      · rename_i a b e1 e2
        simp only [Option.some.injEq] at he
        subst he
        simp only [putMSs, parseMS_eq e1, parseMSs_eq e2]
      · cases he

theorem parse_some {S : Shape} {args : List SV} {m0 : List (Nat × Option Obj)} {x : S.den} (h : S.parse args m0 = some x) : parsePars S.ps args = some x.1 ∧ parseMSs S.ms 0 m0 = some x.2 := by
  unfold Shape.parse at h
  split at h
  · rename_i a b e1 e2
    simp only [Option.some.injEq] at h
    subst h
    exact ⟨e1, e2⟩
  · cases h

/-- Arguments of a shape are, for all that is said of them, what was read. -/
theorem shape_spec {P : Program} {glob : Nat → Option Gl} {K : FuncId} {S : Shape} {args : List SV} {m0 : List (Nat × Option Obj)} {x : S.den} (hp : S.parse args m0 = some x) {r : SV} {m1 : List (Nat × Option Obj)}
    (h : SpecR P glob K (S.args x) (S.mem x) r m1) : SpecR P glob K args m0 r m1 := by
  obtain ⟨e1, e2⟩ := parse_some hp
  have hm : S.mem x = m0 := parseMSs_eq e2
  rw [hm] at h
  intro w N ρ vs hgl hmr hargs hai hmi
  exact h w N ρ vs hgl hmr (parsePars_ok (.same rfl rfl) e1 hargs) (fun s hs id hid => by
    obtain ⟨s', hs', hid'⟩ := parsePars_ids e1 s hs id hid
    exact hai s' hs' id hid') hmi

theorem spec_or {P : Program} {glob : Nat → Option Gl} {K : FuncId} {c d : Ctr} (hc : Meets P glob K c) (hd : Meets P glob K d) : Meets P glob K (orCtr c d) := by
  refine ⟨hc.1, fun args m0 obs r m1 h hp => ?_⟩
  unfold orCtr at h
  split at h
  · rename_i q hq
    simp only [Option.some.injEq] at h
    subst h
    exact hc.2 _ _ _ _ _ hq hp
  · exact hd.2 _ _ _ _ _ h hp

/-- A FUNCTION MEETS A CONTRACT when the evaluator says so. -/
theorem meets_of {E : Env} (hE : E.Ok) (S : Shape) (A : S.den → Nat → St → Option Ann) {K : FuncId} {fn : Func} (hf : E.P.funcs[K]? = some fn) (hb : fn.body.isSome = true) (hn : (fn.name == "runtime.NumGoroutine") = false)
    (pre : S.den → List Prop) (dead : List Nat) (vs : List Var) (f : S.den → denVars vs)
    (h : ∀ x, (∀ p ∈ pre x, p) → afn E (A x) fn (S.args x) (S.mem x) dead vs fun y => y = f x) : Meets E.P E.glob K (shCtr S pre dead vs f) := by
  refine ⟨⟨fn, hf, hb, hn⟩, fun args m0 obs r m1 hc hp => ?_⟩
  unfold shCtr at hc
  split at hc
  · rename_i x hx
    simp only [Option.some.injEq, Prod.mk.injEq] at hc
    obtain ⟨rfl, rfl, rfl⟩ := hc
    exact shape_spec hx (spec_of hE (A x) hf (h x hp) fun y hy => hy)
  · cases hc

end
end Go.Proofs.YtedjlbcclhgfmaaDoor

/- THE MACHINE OF READINGS, structs that are compared: of a type that is told by a check. -/
namespace Go.Proofs.YtedjlbcclhgfmaaDoor
open Go.RowKit

def isAggT (P : Program) (T : TypeId) : Bool := match P.underlying T with
  | some d => isAggD d
  | none => false
/-- a check that says: compared cell by cell -/
def eqOk (P : Program) (T : TypeId) : Bool := isAggT P T && (eqKs P 16 T).isSome && !(P.eqGuardType P.depth T)

theorem eqCells_cons {a b : C} {as bs : List C} {r : Bool} (h : eqCells (a :: as) (b :: bs) = some r) : ∃ x y, eqCell a b = some x ∧ eqCells as bs = some y ∧ r = (x && y) := by
  cases as with
  | nil => cases bs with
    | nil => exact ⟨r, true, h, rfl, by simp⟩
    | cons b' bs => simp only [eqCells] at h; split at h <;> simp_all
  | cons a' as =>
    simp only [eqCells] at h
    split at h
    · rename_i x y e1 e2
      simp only [Option.some.injEq] at h
      exact ⟨x, y, e1, e2, h.symm⟩
    · cases h

theorem eqCells_of {a b : C} {as bs : List C} {x y : Bool} (h1 : eqCell a b = some x) (h2 : eqCells as bs = some y) : eqCells (a :: as) (b :: bs) = some (x && y) := by
  cases as with
  | nil => cases bs with
    | nil => simp only [eqCells, Option.some.injEq] at h2; subst h2; simp [eqCells, h1]
    | cons b' bs => simp [eqCells] at h2
  | cons a' as =>
    simp only [eqCells, h1]
    rw [h2]
    rfl

theorem eqCells_split : ∀ {as bs : List C} {r : Bool} (k : Nat), eqCells as bs = some r → ∃ x y, eqCells (as.take k) (bs.take k) = some x ∧ eqCells (as.drop k) (bs.drop k) = some y ∧ r = (x && y)
  | as, bs, r, 0, h => ⟨true, r, by simp [eqCells], by simpa using h, by simp⟩
  | [], [], r, k + 1, h => by
    simp only [eqCells, Option.some.injEq] at h
    exact ⟨true, true, by simp [eqCells], by simp [eqCells], by simp [← h]⟩
  | [], _ :: _, r, k + 1, h => by simp [eqCells] at h
  | a :: as, [], r, k + 1, h => by cases as <;> simp [eqCells] at h
  | a :: as, b :: bs, r, k + 1, h => by
    obtain ⟨x, y, h1, h2, rfl⟩ := eqCells_cons h
    obtain ⟨p, q, h3, h4, rfl⟩ := eqCells_split k h2
    refine ⟨x && p, q, ?_, by simpa using h4, by simp [Bool.and_assoc]⟩
    simp only [List.take_succ_cons]
    exact eqCells_of h1 h3

section
variable {P : Program} {w : World} {N : Blk} {ρ : Nat → Pl} {m : Mem}

/-- cells as one value -/
def mkV (P : Program) (T : TypeId) (us : List Value) : Value := if isAggT P T then .agg us.toArray else us.getD 0 undef

theorem run_part {T : TypeId} {d : TypeDesc} (hu : P.underlying T = some d) {k : Nat} (hk : sizeT P T = some k) (h1 : isAggD d = false → k = 1) {us : List Value} {off : Nat} (hl : off + k ≤ us.length) :
    (Go.part T us.toArray off).run P w = .ok (mkV P T ((us.drop off).take k)) w := by
  unfold mkV isAggT
  rw [hu]
  cases hag : isAggD d with
  | true =>
    simp only [Go.part, Sem.run_bind, run_isAggD w hu, hag, Result.andThen_ok, if_true, run_sizeT w hk, Sem.run_pure]
    congr 2
    apply Array.ext'
    simp
  | false =>
    have := h1 hag
    subst this
    have hlt : off < us.length := by omega
    simp only [Go.part, Sem.run_bind, run_isAggD w hu, hag, Result.andThen_ok, Bool.false_eq_true, if_false]
    simp [hlt, List.getD, List.take_one, List.head?_drop]

theorem fit_len : ∀ {ks : List CK} {cs : List C}, fitKs ks cs = true → cs.length = ks.length
  | [], [], _ => rfl
  | [], _ :: _, h => by simp [fitKs] at h
  | _ :: _, [], h => by simp [fitKs] at h
  | k :: ks, c :: cs, h => by
    simp only [fitKs, Bool.and_eq_true] at h
    simp [fit_len h.2]
theorem fit_split : ∀ {k1 k2 : List CK} {cs : List C}, fitKs (k1 ++ k2) cs = true → fitKs k1 (cs.take k1.length) = true ∧ fitKs k2 (cs.drop k1.length) = true
  | [], _, _, h => by simpa [fitKs] using h
  | _ :: _, _, [], h => by simp [fitKs] at h
  | k :: k1, k2, c :: cs, h => by
    simp only [List.cons_append, fitKs, Bool.and_eq_true] at h
    obtain ⟨h1, h2⟩ := fit_split h.2
    simp [fitKs, h.1, h1, h2]

def Fine (P : Program) (w : World) (N : Blk) (ρ : Nat → Pl) (m : Mem) (dp : Nat) (T : TypeId) (ks : List CK) : Prop :=
  (∃ d, P.underlying T = some d ∧ (isAggD d = false → ks.length = 1)) ∧ ∀ {cs ds : List C} {us vs : List Value} {b : Bool}, fitKs ks cs = true → fitKs ks ds = true → All2 (CR w N ρ m) cs us → All2 (CR w N ρ m) ds vs → eqCells cs ds = some b →
      (Op.equalIn dp T (mkV P T us) (mkV P T vs)).run P w = .ok b w

theorem eqFs_ok {g : TypeId → Option (List CK)} {dp : Nat} (hg : ∀ T ks, g T = some ks → Fine P w N ρ m dp T ks) :
    ∀ {fs : List Field} {off : Nat} {ks : List CK} {cs ds : List C} {us vs : List Value} {b : Bool}, eqFs P g fs off = some ks → fitKs ks (cs.drop off) = true → fitKs ks (ds.drop off) = true → off ≤ cs.length → off ≤ ds.length → All2 (CR w N ρ m) cs us → All2 (CR w N ρ m) ds vs →
      eqCells (cs.drop off) (ds.drop off) = some b → (Op.eqFields dp us.toArray vs.toArray fs).run P w = .ok b w
  | [], off, ks, cs, ds, us, vs, b, he, hc, hd, _, _, _, _, h => by
    simp only [eqFs, Option.some.injEq] at he
    subst he
    have h1 := fit_len hc
    have h2 := fit_len hd
    rw [List.eq_nil_of_length_eq_zero h1, List.eq_nil_of_length_eq_zero h2] at h
    simp only [eqCells, Option.some.injEq] at h
    subst h
    rfl
  | f :: fs, off, ks, cs, ds, us, vs, b, he, hc, hd, hlc, hld, hu, hv, h => by
    simp only [eqFs] at he
    split at he
    · rename_i hn
      split at he
      · rename_i k1 k' e1 e2
        split at he
        · rename_i hkk
          subst hkk
          cases hr : eqFs P g fs (off + k1.length) with
          | none => rw [hr] at he; cases he
          | some k2 =>
            rw [hr] at he
            simp only [Option.map_some, Option.some.injEq] at he
            subst he
            obtain ⟨⟨d, hud, h1⟩, hgo⟩ := hg f.type k1 e1
            obtain ⟨x, y, hx, hy, rfl⟩ := eqCells_split k1.length h
            obtain ⟨hc1, hc2⟩ := fit_split hc
            obtain ⟨hd1, hd2⟩ := fit_split hd
            simp only [List.drop_drop] at hy hc2 hd2
            have hlu := hu.len
            have hlv := hv.len
            have l1 := fit_len hc
            have l2 := fit_len hd
            simp only [List.length_drop, List.length_append] at l1 l2
            have ih := eqFs_ok hg hr hc2 hd2 (by omega) (by omega) hu hv hy
            have hf := hgo hc1 hd1 ((hu.drop off).take k1.length) ((hv.drop off).take k1.length) hx
            simp only [Op.eqFields, hn.1, ne_eq, not_false_eq_true, if_true, hn.2, Sem.run_bind, run_part hud e2 h1 (us := us) (off := off) (by omega), run_part hud e2 h1 (us := vs) (off := off) (by omega), Result.andThen_ok, hf]
            cases x with
            | false => simp
            | true => simpa using ih
        · cases he
      · cases he
    · cases he

theorem eqKs_ok : ∀ {n : Nat} {T : TypeId} {ks : List CK}, eqKs P n T = some ks → ∀ j, Fine P w N ρ m (n + j) T ks
  | 0, _, _, h => by simp [eqKs] at h
  | n + 1, T, ks, h => by
    have one : ∀ {k : CK} {cs ds : List C} {us vs : List Value} {b : Bool}, fitKs [k] cs = true → fitKs [k] ds = true → All2 (CR w N ρ m) cs us → All2 (CR w N ρ m) ds vs → eqCells cs ds = some b → ∃ c d u v, us = [u] ∧ vs = [v] ∧ CR w N ρ m c u ∧ CR w N ρ m d v ∧ eqCell c d = some b ∧ fitK k c = true ∧ fitK k d = true := by
      intro k cs ds us vs b hc hd hu hv he
      match cs, ds, hc, hd with
      | [], _, hc, _ => simp [fitKs] at hc
      | _ :: _, [], _, hd => simp [fitKs] at hd
      | _ :: _ :: _, _, hc, _ => simp [fitKs] at hc
      | [_], _ :: _ :: _, _, hd => simp [fitKs] at hd
      | [c], [d], hc, hd =>
        cases hu with
        | cons h1 h2 => cases h2; cases hv with
          | cons h3 h4 => cases h4; exact ⟨_, _, _, _, rfl, rfl, h1, h3, he, by simpa [fitKs] using hc, by simpa [fitKs] using hd⟩
    intro j
    have hj : n + 1 + j = (n + j) + 1 := by omega
    rw [hj]
    unfold eqKs at h
    split at h
    · rename_i kk hu
      simp only [Option.some.injEq] at h
      subst h
      refine ⟨⟨_, hu, fun _ => rfl⟩, fun hc hd ha hb he => ?_⟩
      obtain ⟨c, d, u, v, rfl, rfl, h1, h2, h3, f1, f2⟩ := one hc hd ha hb he
      have e : isAggT P T = false := by unfold isAggT; rw [hu]; rfl
      simp only [mkV, e, Bool.false_eq_true, if_false, List.getD_cons_zero]
      cases c <;> simp only [fitK, Bool.false_eq_true] at f1
      cases d <;> simp only [fitK, Bool.false_eq_true] at f2
      simp only [eqCell] at h3
      split at h3
      · rename_i hkk
        subst hkk
        have h1 : _ = _ := h1
        have h2 : _ = _ := h2
        subst h1; subst h2
        simp only [Option.some.injEq] at h3
        subst h3
        exact run_equalIn_int w _ T _ _ _ _ hu
      · cases h3
    · rename_i hu
      simp only [Option.some.injEq] at h
      subst h
      refine ⟨⟨_, hu, fun _ => rfl⟩, fun hc hd ha hb he => ?_⟩
      obtain ⟨c, d, u, v, rfl, rfl, h1, h2, h3, f1, f2⟩ := one hc hd ha hb he
      have e : isAggT P T = false := by unfold isAggT; rw [hu]; rfl
      simp only [mkV, e, Bool.false_eq_true, if_false, List.getD_cons_zero]
      cases c <;> simp only [fitK, Bool.false_eq_true] at f1
      cases d <;> simp only [fitK, Bool.false_eq_true] at f2
      simp only [eqCell, Option.some.injEq] at h3
      have h1 : _ = _ := h1
      have h2 : _ = _ := h2
      subst h1; subst h2; subst h3
      exact run_equalIn_bool' w _ T _ _ hu
    · rename_i hu
      simp only [Option.some.injEq] at h
      subst h
      refine ⟨⟨_, hu, fun _ => rfl⟩, fun hc hd ha hb he => ?_⟩
      obtain ⟨c, d, u, v, rfl, rfl, h1, h2, h3, f1, f2⟩ := one hc hd ha hb he
      have e : isAggT P T = false := by unfold isAggT; rw [hu]; rfl
      simp only [mkV, e, Bool.false_eq_true, if_false, List.getD_cons_zero]
      cases c <;> simp only [fitK, Bool.false_eq_true] at f1
      cases d <;> simp only [fitK, Bool.false_eq_true] at f2
      simp only [eqCell, Option.some.injEq] at h3
      have h1 : _ = _ := h1
      have h2 : _ = _ := h2
      subst h1; subst h2; subst h3
      simp [Op.equalIn, run_underlying hu, pStrEq']
    · rename_i fs hu
      split at h
      · rename_i hst
        refine ⟨⟨_, hu, fun hc => by cases hc⟩, fun hc hd ha hb he => ?_⟩
        have e : isAggT P T = true := by unfold isAggT; rw [hu]; rfl
        simp only [mkV, e, if_true]
        have hfs : P.fieldsOf T = fs := by unfold Program.fieldsOf; rw [hu]
        rw [run_equalIn_agg w _ T _ _ (by rw [hfs]; exact hu) hst, hfs]
        exact eqFs_ok (g := eqKs P n) (fun T ks hk => eqKs_ok hk j) h (by simpa using hc) (by simpa using hd) (by omega) (by omega) ha hb (by simpa using he)
      · cases h
    · cases h

end

/-- A TYPE THAT PASSES THE CHECK is compared cell by cell. -/
theorem eqT_of {P : Program} {T : TypeId} (h : eqOk P T = true) : EqT P T := by
  unfold eqOk at h
  simp only [Bool.and_eq_true, Bool.not_eq_true'] at h
  refine ⟨h.2, fun w N ρ m cs ds us vs b hc hd ha hb he => ?_⟩
  cases hk : eqKs P 16 T with
  | none => rw [hk] at h; simp at h
  | some ks =>
    rw [hk] at hc hd
    have := (eqKs_ok (w := w) (N := N) (ρ := ρ) (m := m) hk 9984).2 hc hd ha hb he
    simpa [mkV, h.1.1] using this

end Go.Proofs.YtedjlbcclhgfmaaDoor

