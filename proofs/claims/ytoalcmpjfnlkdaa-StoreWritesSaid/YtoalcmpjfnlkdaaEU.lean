/- THE MACHINE OF READINGS, part U: a region that draws its order, carried out. -/
import Derived.Test.YtoalcmpjfnlkdaaET
namespace Go.Proofs.Ytoalcmpjfnlkdaa
open Go.RowKit

section
variable {E : Env} {w0 : World} {X Z : Blk} {a : Act} {w w' : World} {s s' : St} {ρ ρ' : Nat → Pl} {N N' : Blk} {m m' : Mem}

theorem look_none {α : Type} : ∀ {l : List (Nat × α)} {i : Nat}, i ∉ l.map (·.1) → look l i = none
  | [], _, _ => rfl
  | (k, v) :: l, i, h => by
    simp only [List.map_cons, List.mem_cons, not_or] at h
    rw [look_cons, if_neg (fun e => h.1 e.symm)]
    exact look_none h.2

theorem apartS_ne {a b : List Nat} (h : apartS a b = true) : ∀ x ∈ a, x ∉ b := by
  intro x hx
  have := List.all_eq_true.1 h x hx
  simpa using this

theorem offS_ne {lo : Nat} {a : List Nat} (h : offS lo a = true) : ∀ x ∈ a, ¬ (lo ≤ x ∧ x < lo + maxIds) := by
  intro x hx
  have := List.all_eq_true.1 h x hx
  simp only [Bool.or_eq_true, Nat.blt_eq, Nat.ble_eq] at this
  omega

theorem apart_use {ops : Array Oper} {base : Nat} {x y : En} (h : apartSteps ops (stepOf base x) (stepOf base y) = true) (hx : ops[x.i]? = some x.o) (hy : ops[y.i]? = some y.o) :
    (∃ n, ordN ops n x.o y.i = true) ∨ (x.o.apart ops y.o = true ∧ (∀ id ∈ x.e.upd.map (·.1), id ∉ y.ids) ∧ (∀ id ∈ y.e.upd.map (·.1), id ∉ x.ids) ∧ (∀ id ∈ x.e.upd.map (·.1), id ∉ y.e.upd.map (·.1)) ∧
      (∀ id ∈ x.ids, ¬ (base + y.i * maxIds ≤ id ∧ id < base + y.i * maxIds + maxIds)) ∧ ∀ id ∈ x.e.upd.map (·.1), ¬ (base + y.i * maxIds ≤ id ∧ id < base + y.i * maxIds + maxIds)) := by
  unfold apartSteps at h
  simp only [stepOf, hx, hy, Bool.or_eq_true, Bool.and_eq_true] at h
  rcases h with h | ⟨⟨⟨⟨⟨h1, h2⟩, h3⟩, h4⟩, h5⟩, h6⟩ | h
  · exact .inl ⟨_, h⟩
  rotate_left
  · exact .inl ⟨_, h⟩
  · exact .inr ⟨h1, apartS_ne h2, apartS_ne h3, apartS_ne h4, offS_ne h5, offS_ne h6⟩

theorem ordN_use {ops : Array Oper} {P : Nat → Prop} (hcl : ∀ k o, P k → ops[k]? = some o → ∀ e ∈ o.after, Region.binds .any e = true → P e.on) : ∀ {n : Nat} {o : Oper} {i : Nat}, ordN ops n o i = true → (∀ e ∈ o.after, Region.binds .any e = true → P e.on) → P i
  | 0, _, _, h, _ => by simp [ordN] at h
  | n + 1, o, i, h, ho => by
    unfold ordN at h
    obtain ⟨e, he, hb⟩ := Array.any_eq_true'.1 h
    simp only [Bool.and_eq_true, Bool.or_eq_true] at hb
    obtain ⟨hb1, hb2 | ⟨_, hb2⟩⟩ := hb
    · rw [← Nat.eq_of_beq_eq_true hb2]; exact ho e he hb1
    · split at hb2
      · rename_i o' ho'
        exact ordN_use hcl hb2 (hcl e.on o' (ho e he hb1) ho')
      · cases hb2

theorem edges_use {ops : Array Oper} (h : edgesOk ops = true) {i : Nat} {o : Oper} (hi : ops[i]? = some o) : ∀ e ∈ o.after, Region.binds .any e = true → e.on < i := by
  intro e he hb
  have hm : (o, i) ∈ ops.toList.zipIdx := by
    rw [List.mem_zipIdx_iff_getElem?]
    simpa using hi
  have := List.all_eq_true.1 h _ hm
  have := Array.all_eq_true_iff_forall_mem.1 this e he
  simp only [hb, Bool.not_true, Bool.false_or, Nat.blt_eq] at this
  exact this

/-- A region that draws its order: whatever is drawn. -/
theorem drawn_any (hE : E.Ok) {ops : Array Oper} {base : Nat} {Q : Exit → Act → World → Prop} {es : List En} {z0 z' : Sm} (hm : es.map (fun n => (n.o, n.i)) = ops.toList.zipIdx) (hc : Chain E ops base true z0 es z') (hb : ∀ n ∈ es, EnB base true n)
    (hp : es.Pairwise fun e1 e2 => apartSteps ops (stepOf base e2) (stepOf base e1) = true) (hed : edgesOk ops = true) (hwf : WFm z0 base) {sz : Nat} (hd : ∀ o ∈ ops.toList, ∀ d, o.dst = some d → d < sz) {ρ0 : Nat → Pl} {N0 : Blk}
    (hQ : ∀ a' w' s' ρ' N', s'.sem = z' → Rel E w0 X Z a' w' s' ρ' N' → (∀ id, id < base → ρ' id = ρ0 id) → (∀ b, N0 b → N' b) → a'.tmps.size = sz → Q .normal a' w') :
    ∀ (fuel : Nat) (listed : Array Bool) (a : Act) (w : World) (s : St) (ρ : Nat → Pl) (N : Blk), listed.size = ops.size → listed.toList.countP (· == false) ≤ fuel →
      (∀ k o, listed.getD k false = true → ops[k]? = some o → ∀ e ∈ o.after, Region.binds .any e = true → listed.getD e.on false = true) →
      Rel E w0 X Z a w s ρ N → s.sem = appE es (fun i => listed.getD i false) z0 → (∀ id, id < base → ρ id = ρ0 id) → (∀ b, N0 b → N b) → a.tmps.size = sz → wpAny E.P .any ops Q fuel listed a w := by
  have hidx : ∀ n ∈ es, ops[n.i]? = some n.o := by
    intro n hn
    have : (n.o, n.i) ∈ ops.toList.zipIdx := by rw [← hm]; exact List.mem_map.2 ⟨n, hn, rfl⟩
    rw [List.mem_zipIdx_iff_getElem?] at this
    simpa using this
  have hlen : es.length = ops.size := by
    have := congrArg List.length hm
    simpa using this
  have hget : ∀ i (h : i < es.length), es[i].i = i := by
    intro i h
    have : (es.map (fun n => (n.o, n.i)))[i]? = (ops.toList.zipIdx)[i]? := by rw [hm]
    rw [List.getElem?_map, List.getElem?_eq_getElem h] at this
    simp only [Option.map_some, List.getElem?_zipIdx] at this
    cases hq : ops.toList[i]? with
    | none => rw [hq] at this; cases this
    | some o => rw [hq] at this; simp at this; exact this.2
  have fin : ∀ (listed : Array Bool) (a : Act) (w : World) (s : St) (ρ : Nat → Pl) (N : Blk), (∀ j, j < ops.size → listed.getD j false = true) → Rel E w0 X Z a w s ρ N → s.sem = appE es (fun i => listed.getD i false) z0 → (∀ id, id < base → ρ id = ρ0 id) → (∀ b, N0 b → N b) → a.tmps.size = sz → Q .normal a w := by
    intro listed a w s ρ N hall h hz hρ hN hsz
    refine hQ a w s ρ N ?_ h hρ hN hsz
    rw [hz, chain_app hc]
    refine appE_congr fun e he => ?_
    have := (Array.getElem?_eq_some_iff.1 (hidx e he)).1
    exact hall e.i this
  have hready : ∀ (listed : Array Bool), listed.size = ops.size → Region.ready .any ops listed = [] → ∀ j, j < ops.size → listed.getD j false = true := by
    intro listed hsz hr j
    induction j using Nat.strongRecOn with
    | _ j ih =>
      intro hj
      cases hl : listed.getD j false with
      | true => rfl
      | false =>
        exfalso
        have hin : j ∈ Region.ready .any ops listed := by
          rw [mem_ready]
          refine ⟨?_, ops[j], by simp [hj], fun e he hbd => ?_⟩
          · rw [Array.getD_eq_getD_getElem?, Array.getElem?_eq_getElem (by omega)] at hl ⊢
            exact hl
          · have := edges_use hed (i := j) (o := ops[j]) (by simp [hj]) e he hbd
            exact ih e.on this (by omega)
        rw [hr] at hin
        cases hin
  intro fuel
  induction fuel with
  | zero =>
    intro listed a w s ρ N hsz hcnt hcl h hz hρ hN hasz
    have hall : ∀ j, j < ops.size → listed.getD j false = true := by
      intro j hj
      have h0 : listed.toList.countP (· == false) = 0 := by omega
      rw [List.countP_eq_zero] at h0
      have := h0 (listed[j]'(by omega)) (by simp)
      rw [Array.getD_eq_getD_getElem?, Array.getElem?_eq_getElem (by omega)]
      simpa using this
    refine ⟨?_, fin listed a w s ρ N hall h hz hρ hN hasz⟩
    cases hr : Region.ready .any ops listed with
    | nil => rfl
    | cons j r =>
      have hj : j ∈ Region.ready .any ops listed := by rw [hr]; simp
      obtain ⟨h1, o, h2, _⟩ := mem_ready.1 hj
      have hjl := (Array.getElem?_eq_some_iff.1 h2).1
      have := hall j hjl
      rw [Array.getD_eq_getD_getElem?, Array.getElem?_eq_getElem (by omega)] at h1 this
      simp at h1 this
      rw [h1] at this; cases this
  | succ fuel ih =>
    intro listed a w s ρ N hsz hcnt hcl h hz hρ hN hasz
    refine ⟨fun hr => fin listed a w s ρ N (hready listed hsz hr) h hz hρ hN hasz, fun i hi => ?_⟩
    obtain ⟨hun, o, ho, hpre⟩ := mem_ready.1 hi
    have hil : i < ops.size := (Array.getElem?_eq_some_iff.1 ho).1
    have hie : i < es.length := by omega
    have hii := hget i hie
    have hn : es[i] ∈ es := List.getElem_mem hie
    have hsplit : es = es.take i ++ es[i] :: es.drop (i + 1) := by
      rw [List.getElem_cons_drop hie, List.take_append_drop]
    have hpreI : ∀ e ∈ es.take i, e.i < i := by
      intro e he
      obtain ⟨k, hk, rfl⟩ := List.getElem_of_mem he
      have hk2 : k < i := by simp at hk; omega
      rw [List.getElem_take, hget k (by omega)]
      exact hk2
    have hpostI : ∀ e ∈ es.drop (i + 1), i < e.i := by
      intro e he
      obtain ⟨k, hk, rfl⟩ := List.getElem_of_mem he
      rw [List.getElem_drop, hget _ (by simp at hk; omega)]
      omega
    have hno : es[i].o = o := by
      have := hidx _ hn
      rw [hii, ho] at this
      exact (Option.some.inj this).symm
    have hunf : listed.getD i false = false := by
      rw [Array.getD_eq_getD_getElem?, Array.getElem?_eq_getElem (by omega)] at hun ⊢
      exact hun
    have hpp := hp
    rw [hsplit, List.pairwise_append] at hpp
    obtain ⟨_, hpost0, hpre0⟩ := hpp
    have hpreA : ∀ e ∈ es.take i, listed.getD e.i false = false → es[i].o.apart ops e.o = true ∧ (∀ id ∈ e.e.upd.map (·.1), id ∉ es[i].ids) := by
      intro e he hl
      have hap := hpre0 e he es[i] List.mem_cons_self
      rcases apart_use hap (hidx _ hn) (hidx e (List.mem_of_mem_take he)) with ⟨on, hor⟩ | ⟨h1, _, h3, _⟩
      · rw [hno] at hor
        have := ordN_use (P := fun k => listed.getD k false = true) hcl hor hpre
        rw [hl] at this; cases this
      · exact ⟨h1, h3⟩
    have hpostA : ∀ e ∈ es.drop (i + 1), listed.getD e.i false = true → e.o.apart ops es[i].o = true ∧ (∀ id ∈ e.e.upd.map (·.1), id ∉ es[i].ids) ∧ (∀ id ∈ e.e.upd.map (·.1), id ∉ es[i].e.upd.map (·.1)) ∧
        (∀ id ∈ e.ids, ¬ (base + i * maxIds ≤ id ∧ id < base + i * maxIds + maxIds)) ∧ ∀ id ∈ e.e.upd.map (·.1), ¬ (base + i * maxIds ≤ id ∧ id < base + i * maxIds + maxIds) := by
      intro e he hl
      have hap := (List.pairwise_cons.1 hpost0).1 e he
      have hem := List.mem_of_mem_drop he
      rcases apart_use hap (hidx e hem) (hidx _ hn) with ⟨on, hor⟩ | ⟨h1, h2, _, h4, h5, h6⟩
      · have := ordN_use (P := fun k => listed.getD k false = true) hcl hor (hcl e.i e.o hl (hidx e hem))
        rw [hii, hunf] at this; cases this
      · rw [hii] at h5 h6
        exact ⟨h1, h2, h4, h5, h6⟩
    -- the entry fits the state as it stands
    have hok0 : EnOk E ops base true (appE (es.take i) (fun _ => true) z0) es[i] := by
      have hc' := hc
      rw [hsplit] at hc'
      exact chain_split hc'
    have hzz : s.sem = appE (es.drop (i + 1)) (fun k => listed.getD k false) (appE (es.take i) (fun k => listed.getD k false) z0) := by
      rw [hz]
      conv => lhs; rw [hsplit]
      rw [appE_append]
      simp only [appE, hii, hunf, Bool.false_eq_true, if_false]
    have hsl : ∀ t ∈ es[i].o.looksAt ops, s.sem.sl t = (appE (es.take i) (fun _ => true) z0).sl t := by
      intro t ht
      rw [hzz]
      have e1 : (appE (es.drop (i + 1)) (fun k => listed.getD k false) (appE (es.take i) (fun k => listed.getD k false) z0)).sl t = (appE (es.drop (i + 1)) (fun _ => false) (appE (es.take i) (fun _ => true) z0)).sl t := by
        refine appE_sl (fun e he hne hd => ?_) (appE_sl (fun e he hne hd => ?_) rfl)
        · have hl : listed.getD e.i false = true := by simpa using hne
          have := (Oper.apart_spec (hpostA e he hl).1).1 t hd
          exact this ht
        · have hl : listed.getD e.i false = false := by simpa using hne
          have := (Oper.apart_spec (hpreA e he hl).1).2.2 t hd
          exact this ht
      rw [e1]
      have e2 : ∀ (l : List En) (z : Sm), appE l (fun _ => false) z = z := by
        intro l
        induction l with
        | nil => intro z; rfl
        | cons x l ih => intro z; simp only [appE, Bool.false_eq_true, if_false]; exact ih z
      rw [e2]
    have hob : ∀ id ∈ es[i].ids, s.sem.ob id = (appE (es.take i) (fun _ => true) z0).ob id := by
      intro id hid
      rw [hzz]
      have e1 : (appE (es.drop (i + 1)) (fun k => listed.getD k false) (appE (es.take i) (fun k => listed.getD k false) z0)).ob id = (appE (es.drop (i + 1)) (fun _ => false) (appE (es.take i) (fun _ => true) z0)).ob id := by
        refine appE_ob (fun e he hne => look_none fun hk => ?_) (appE_ob (fun e he hne => look_none fun hk => ?_) rfl)
        · have hl : listed.getD e.i false = true := by simpa using hne
          exact (hpostA e he hl).2.1 id hk hid
        · have hl : listed.getD e.i false = false := by simpa using hne
          exact (hpreA e he hl).2 id hk hid
      rw [e1]
      have e2 : ∀ (l : List En) (z : Sm), appE l (fun _ => false) z = z := by
        intro l
        induction l with
        | nil => intro z; rfl
        | cons x l ih => intro z; simp only [appE, Bool.false_eq_true, if_false]; exact ih z
      rw [e2]
    have hok : EnOk E ops base true s.sem es[i] := hok0.congr (fun t ht => by unfold Sm.slot; rw [hsl t ht]) hob
    have hfr : ∀ k, k < 8 → Fresh s (base + es[i].i * maxIds + k) := by
      intro k hk
      rw [hii]
      refine fresh_of fun hnm => ?_
      rw [hz] at hnm
      rcases named_app hnm with hnm | ⟨e, he, hl, hnm⟩
      · have : base + i * maxIds + k < base := by
          rcases hnm with ⟨t, sv, h1, h2⟩ | ⟨j, o', h1, h2⟩
          · exact hwf.1 t sv h1 _ h2
          · rcases h2 with h2 | h2
            · rw [h2]; exact (hwf.2 j o' h1).1
            · exact (hwf.2 j o' h1).2 _ h2
        omega
      · have hcase : e.i < i ∨ i < e.i := by
          rcases Nat.lt_trichotomy e.i i with h1 | h1 | h1
          · exact .inl h1
          · rw [h1, hunf] at hl; cases hl
          · exact .inr h1
        rcases hcase with h1 | h1
        · have hlow := namedE_low (hb e he).low hnm
          have : (e.i + 1) * maxIds ≤ i * maxIds := Nat.mul_le_mul_right _ h1
          omega
        · have hed' : e ∈ es.drop (i + 1) := by
            rw [hsplit] at he
            rcases List.mem_append.1 he with h2 | h2
            · have := hpreI e h2; omega
            · rcases List.mem_cons.1 h2 with h2 | h2
              · rw [h2, hii] at h1; omega
              · exact h2
          obtain ⟨_, _, _, h5, h6⟩ := hpostA e hed' hl
          have hmx : (8 : Nat) = maxIds := rfl
          rcases hnm with hnm | hnm
          · have hin := (hb e he).inn rfl
            have := List.all_eq_true.1 hin _ hnm
            simp only [Bool.or_eq_true] at this
            rcases this with h7 | h7
            · exact h5 _ (by simpa using h7) (by omega)
            · exact h6 _ (by simpa using h7) (by omega)
          · exact h6 _ hnm (by omega)
    have hwp := entry_ok (a := a) (w := w) (ρ := ρ) (N := N) (K := wpAny E.P .any ops Q fuel (listed.setIfInBounds i true)) (Q := Q) h hE (hidx _ hn) hok (fun d hdd => by rw [hasz]; exact hd es[i].o (by rw [hno]; simpa using Array.mem_of_getElem? ho) d hdd) hfr fun v w' ρ' N' h1 h2 h3 => ?_
    · rw [hii] at hwp; exact hwp
    · refine ih (listed.setIfInBounds i true) _ _ _ _ _ (by simpa using hsz) ?_ ?_ h3 ?_ ?_ ?_ ?_
      · have hcs : (listed.setIfInBounds i true).toList.countP (· == false) + 1 = listed.toList.countP (· == false) := by
          rw [Array.toList_setIfInBounds, List.countP_set (by simpa using (by omega : i < listed.size))]
          have hli : listed.toList[i]'(by simpa using (by omega : i < listed.size)) = false := by
            rw [Array.getD_eq_getD_getElem?, Array.getElem?_eq_getElem (by omega)] at hunf
            simpa using hunf
          have hpos : 0 < listed.toList.countP (· == false) := List.countP_pos_iff.2 ⟨false, by rw [← hli]; exact List.getElem_mem _, rfl⟩
          rw [hli]
          generalize listed.toList.countP (fun x => x == false) = q at hpos ⊢
          simp only [beq_self_eq_true, if_true]
          have : ((true == false) = true) ↔ False := by simp
          rw [if_neg (by simp)]
          omega
        omega
      · intro k o' hk ho' e he hbd
        by_cases hki : i = k
        · subst hki
          rw [ho] at ho'
          simp only [Option.some.injEq] at ho'
          subst ho'
          exact getD_set_true (hpre e he hbd)
        · rw [getD_set_ne false hki] at hk
          exact getD_set_true (hcl k o' hk ho' e he hbd)
      · -- the state, by the entries that are listed now
        rw [sem_put, hzz, ← appE_put (n := es[i]) (fun e he hl => ?_)]
        · conv => rhs; rw [hsplit]
          rw [appE_append]
          simp only [appE]
          have h8 : (listed.setIfInBounds i true).getD es[i].i false = true := by rw [hii]; simp [show i < listed.size by omega]
          rw [if_pos h8]
          have e1 : appE (es.take i) (fun k => (listed.setIfInBounds i true).getD k false) z0 = appE (es.take i) (fun k => listed.getD k false) z0 :=
            appE_congr fun e he => getD_set_ne false (by have := hpreI e he; omega)
          rw [e1]
          exact (appE_congr fun e he => getD_set_ne false (by have := hpostI e he; omega)).symm
        · obtain ⟨h5, h6, h7, _⟩ := hpostA e he hl
          refine ⟨fun t ht hd => (Oper.apart_spec h5).2.1 t hd ht, fun id => ?_⟩
          by_cases hk : id ∈ e.e.upd.map (·.1)
          · exact .inl (look_none (h7 id hk))
          · exact .inr (look_none hk)
      · intro id hid
        rw [h1 id fun hc => by have : 0 ≤ es[i].i * maxIds := Nat.zero_le _; omega]
        exact hρ id hid
      · exact fun b hb => h2 b (hN b hb)
      · rw [put_size]; exact hasz

theorem chain_wf {ops : Array Oper} {base : Nat} {draw : Bool} : ∀ (l : List Oper) (k : Nat) (es : List En) (z z' : Sm), es.map (fun n => (n.o, n.i)) = l.zipIdx k → Chain E ops base draw z es z' → (∀ n ∈ es, EnB base draw n) → WFm z (base + k * maxIds) → WFm z' (base + (k + l.length) * maxIds)
  | [], k, es, z, z', hm, hc, _, hwf => by
    have : es = [] := by simpa using hm
    subst this
    cases hc
    simpa using hwf
  | o :: l, k, es, z, z', hm, hc, hb, hwf => by
    cases es with
    | nil => simp at hm
    | cons n es =>
      simp only [List.map_cons, List.zipIdx_cons, List.cons.injEq, Prod.mk.injEq] at hm
      obtain ⟨⟨ho, hi⟩, hm⟩ := hm
      cases hc with
      | cons hn hc =>
        have := chain_wf l (k + 1) es _ z' hm hc (fun n hn => hb n (by simp [hn])) (hwf.put (by rw [Nat.add_mul]; omega) (by have := (hb n (by simp)).low; rw [hi] at this; exact this))
        rw [show k + (o :: l).length = k + 1 + l.length by simp; omega]
        exact this

end
end Go.Proofs.Ytoalcmpjfnlkdaa
