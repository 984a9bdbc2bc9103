/- THE MACHINE OF READINGS, part Y: what the evaluator says of code is so. -/
import Derived.Test.YtoalcmpjfnlkdaaEX
namespace Go.Proofs.Ytoalcmpjfnlkdaa
open Go.RowKit

/-- what code has left as it was -/
structure Went (D : List Nat) (s s' : St) (ρ ρ' : Nat → Pl) : Prop where
  next : s.next ≤ s'.next
  pl : ∀ id, id < s.next → ρ' id = ρ id
  tch : ∀ x ∈ s.tch, x ∈ s'.tch
  obj : ∀ id, id < s.next → id ∉ s'.tch → s'.obj id = s.obj id
  slot : ∀ t, t ∉ D → look s'.slots t = look s.slots t

theorem Went.refl (D : List Nat) (s : St) (ρ : Nat → Pl) : Went D s s ρ ρ := ⟨Nat.le_refl _, fun _ _ => rfl, fun _ h => h, fun _ _ _ => rfl, fun _ _ => rfl⟩
theorem Went.trans {D D' : List Nat} {s s1 s2 : St} {ρ ρ1 ρ2 : Nat → Pl} (h : Went D s s1 ρ ρ1) (k : Went D' s1 s2 ρ1 ρ2) : Went (D ++ D') s s2 ρ ρ2 := by
  refine ⟨Nat.le_trans h.next k.next, fun id hid => ?_, fun x hx => k.tch x (h.tch x hx), fun id hid hn => ?_, fun t ht => ?_⟩
  · rw [k.pl id (Nat.lt_of_lt_of_le hid h.next), h.pl id hid]
  · rw [k.obj id (Nat.lt_of_lt_of_le hid h.next) hn, h.obj id hid fun hx => hn (k.tch id hx)]
  · simp only [List.mem_append, not_or] at ht
    rw [k.slot t ht.2, h.slot t ht.1]
theorem Went.mono {D D' : List Nat} {s s1 : St} {ρ ρ1 : Nat → Pl} (h : Went D s s1 ρ ρ1) (hD : ∀ t ∈ D, t ∈ D') : Went D' s s1 ρ ρ1 :=
  ⟨h.next, h.pl, h.tch, h.obj, fun t ht => h.slot t fun hx => ht (hD t hx)⟩

def exOf : Exit → Option Ex
  | .normal => some .normal
  | .exit id => some (.exit id)
  | .ret => some .ret
  | _ => none

def Post (E : Env) (w0 : World) (X Z : Blk) (n : Nat) (Q : Ex → St → Prop) (D : List Nat) (s : St) (ρ : Nat → Pl) (N : Blk) : Exit → Act → World → Prop := fun ex a' w' =>
  ∃ e s' ρ' N', exOf ex = some e ∧ Q e s' ∧ Rel E w0 X Z a' w' s' ρ' N' ∧ WFm s'.sem s'.next ∧ (∀ b, N b → N' b) ∧ Went D s s' ρ ρ' ∧ a'.tmps.size = n

section
variable {E : Env} {w0 : World} {X Z : Blk} {a : Act} {w w' : World} {s s1 : St} {ρ1 ρ ρ' : Nat → Pl} {N N' : Blk} {m m1 m' : Mem} {n : Nat}

theorem Post.chain {Q : Ex → St → Prop} {D D' : List Nat} {s1 : St} {ex : Exit} (hw : Went D s s1 ρ ρ1) (hN : ∀ b, N b → N' b) (h : Post E w0 X Z n Q D' s1 ρ1 N' ex a w) : Post E w0 X Z n Q (D ++ D') s ρ N ex a w := by
  obtain ⟨e, s', ρ', N2, h1, h2, h3, h4, h5, h6, h7⟩ := h
  exact ⟨e, s', ρ', N2, h1, h2, h3, h4, fun b hb => h5 b (hN b hb), hw.trans h6, h7⟩
theorem Post.mono {Q : Ex → St → Prop} {D D' : List Nat} {ex : Exit} (hD : ∀ t ∈ D, t ∈ D') (h : Post E w0 X Z n Q D s ρ N ex a w) : Post E w0 X Z n Q D' s ρ N ex a w := by
  obtain ⟨e, s', ρ', N2, h1, h2, h3, h4, h5, h6, h7⟩ := h
  exact ⟨e, s', ρ', N2, h1, h2, h3, h4, h5, h6.mono hD, h7⟩

/-- a draw -/
theorem Rel.drawn (h : Rel E w0 X Z a w s ρ N) (k : Nat) : Rel E w0 X Z a { w with drawn := k } s ρ N := by
  have hs : SameOn N w { w with drawn := k } := fun _ _ => rfl
  have ht : Turn ρ s.obj ρ s.obj (fun _ => False) := .same rfl rfl
  refine ⟨fun t sv hl => (h.slots t sv hl).turn ht (fun _ h => h) hs (fun _ _ h => h), ⟨fun id o ho => (h.mr.obj id o ho).turn ht (fun _ h => h) hs (fun h => h) (fun _ _ h => h) (fun _ _ _ => rfl), h.mr.inj, h.mr.nown, h.mr.nlt⟩, h.defers,
    ⟨h.since.os, h.since.tape, h.since.output, h.since.size, h.since.keep⟩, h.own, fun g cs hg => (h.glob g cs hg).step (fun _ h => h) hs, h.nn⟩

theorem region_ok (hE : E.Ok) {id : Nat} {ops : Array Oper} {d : Bool} {Q : Ex → St → Prop} (h : Rel E w0 X Z a w s ρ N) (hwf : WFm s.sem s.next) (hn : a.tmps.size = n)
    (hd : ∀ o ∈ ops.toList, ∀ t, o.dst = some t → t < n)
    (hreg : aRegion E ops d (fun s' tr => cond (!d || (fine ops tr && edgesOk ops && E.P.follows .mixedOrders)) (Q .normal { s' with next := s'.next + ops.size * maxIds }) False) ops.toList.zipIdx s []) :
    (Code.region id ops d).wp E.P (Post E w0 X Z n Q (ops.toList.filterMap (·.dst)) s ρ N) a w := by
  cases d with
  | false =>
    refine wp_region ?_
    have hr : List.range ops.size = List.range' 0 ops.toList.length := by rw [List.range_eq_range']; simp
    rw [hr]
    refine text_ok hE ops.toList 0 s [] a w ρ N (fun p hp => ?_) hreg hd hn h (by simpa using hwf) fun a' w' s' ρ' N' tr' g1 g2 g3 g4 g5 g6 g7 g8 g9 g10 => ?_
    · rw [List.mem_zipIdx_iff_getElem?] at hp
      simpa using hp
    · simp only [Bool.not_false, Bool.true_or, cond_true] at g1
      refine ⟨.normal, { s' with next := s'.next + ops.size * maxIds }, ρ', N', rfl, g1, g2.sem rfl, ?_, g6, ⟨?_, g5, g8, fun id _ hnt => g9 id hnt, fun t ht => g10 t fun o ho => ⟨fun hdst => ht (List.mem_filterMap.2 ⟨o, ho, hdst⟩), fun g want _ hc => ht ?_⟩⟩, g7⟩
      · have e : s.next + (0 + ops.toList.length) * maxIds = s'.next + ops.size * maxIds := by rw [g3]; simp
        rw [e] at g4
        exact g4
      · show s.next ≤ s'.next + ops.size * maxIds
        rw [g3]; omega
      · cases hg : ops[g]? with
        | none => rw [hg] at hc; cases hc
        | some o =>
          rw [hg] at hc
          exact List.mem_filterMap.2 ⟨o, by simpa using Array.mem_of_getElem? hg, hc⟩
  | true =>
  obtain ⟨es, s', h1, h2, h3, h4, h5, h6, h7⟩ := region_chain rfl _ _ _ hreg
  have hlast : (true = true → fine ops (es.reverse.map (stepOf s.next)) = true ∧ edgesOk ops = true ∧ E.P.follows .mixedOrders = true) ∧ Q .normal { s' with next := s'.next + ops.size * maxIds } := by
    cases hc : (!true || (fine ops (es.reverse.map (stepOf s.next) ++ []) && edgesOk ops && E.P.follows .mixedOrders)) with
    | false => rw [hc] at h7; exact h7.elim
    | true =>
      rw [hc] at h7
      refine ⟨fun _ => ?_, h7⟩
      simp only [Bool.not_true, Bool.false_or, Bool.and_eq_true, List.append_nil] at hc
      exact ⟨hc.1.1, hc.1.2, hc.2⟩
  have hwf' : WFm s'.sem (s.next + (0 + ops.toList.length) * maxIds) := chain_wf ops.toList 0 es _ _ h1 h2 h3 (by simpa using hwf)
  have hobj : ∀ id, id < s.next → id ∉ s'.tch → s'.obj id = s.obj id := by
    intro id _ hnt
    have e1 : s'.obj id = (appE es (fun _ => true) s.sem).ob id := by
      have := chain_app h2
      exact congrArg (fun z => z.ob id) this
    rw [e1]
    have key : ∀ (l : List En) (z : Sm), (∀ e ∈ l, look e.e.upd id = none) → (appE l (fun _ => true) z).ob id = z.ob id := by
      intro l
      induction l with
      | nil => intro z _; rfl
      | cons x l ih =>
        intro z hx
        simp only [appE, if_true]
        rw [ih _ fun e he => hx e (by simp [he])]
        simp only [Sm.put, hx x (by simp)]
    rw [key es s.sem fun e he => look_none fun hk => hnt ?_]
    · rfl
    · rw [h5]
      exact List.mem_append_left _ (List.mem_flatMap.2 ⟨e, by simpa using he, hk⟩)
  have hslot : ∀ t, t ∉ ops.toList.filterMap (·.dst) → look s'.slots t = look s.slots t := by
    intro t ht
    refine h6 t fun e he => ⟨fun hdst => ht ?_, fun g want _ hc => ht ?_⟩
    · have : (e.o, e.i) ∈ ops.toList.zipIdx := by rw [← h1]; exact List.mem_map.2 ⟨e, he, rfl⟩
      have hm : e.o ∈ ops.toList := by
        rw [List.mem_zipIdx_iff_getElem?] at this
        exact List.mem_of_getElem? this
      exact List.mem_filterMap.2 ⟨e.o, hm, hdst⟩
    · cases hg : ops[g]? with
      | none => rw [hg] at hc; cases hc
      | some o =>
        rw [hg] at hc
        exact List.mem_filterMap.2 ⟨o, by simpa using Array.mem_of_getElem? hg, hc⟩
  -- whatever state of the model stands for s'
  have fin : ∀ a' w' s2 ρ' N', s2.sem = s'.sem → Rel E w0 X Z a' w' s2 ρ' N' → (∀ id, id < s.next → ρ' id = ρ id) → (∀ b, N b → N' b) → a'.tmps.size = n → Post E w0 X Z n Q (ops.toList.filterMap (·.dst)) s ρ N .normal a' w' := by
    intro a' w' s2 ρ' N' g1 g2 g3 g4 g5
    refine ⟨.normal, { s' with next := s'.next + ops.size * maxIds }, ρ', N', rfl, hlast.2, g2.sem g1, ?_, g4, ⟨?_, g3, ?_, hobj, hslot⟩, g5⟩
    · have e : s.next + (0 + ops.toList.length) * maxIds = s'.next + ops.size * maxIds := by rw [h4]; simp
      rw [e] at hwf'
      exact hwf'
    · show s.next ≤ s'.next + ops.size * maxIds
      rw [h4]; omega
    · intro x hx
      show x ∈ s'.tch
      rw [h5]; exact List.mem_append_right _ hx
  · obtain ⟨hf1, hf2, hf3⟩ := hlast.1 rfl
    refine wp_region_any hf3 ?_
    have hpw : es.Pairwise fun e1 e2 => apartSteps ops (stepOf s.next e2) (stepOf s.next e1) = true := by
      have := fine_pairs (base := s.next) hf1
      rw [List.pairwise_map, List.pairwise_reverse] at this
      exact this
    refine drawn_any hE h1 h2 h3 hpw hf2 hwf hd (ρ0 := ρ) (N0 := N) (fun a' w' s2 ρ' N' g1 g2 g3 g4 g5 => fin a' w' s2 ρ' N' g1 g2 g3 g4 g5) ops.size (Array.replicate ops.size false) a _ s ρ N (by simp) ?_ ?_ (h.drawn _) ?_ (fun _ _ => rfl) (fun _ h => h) hn
    · have := List.countP_le_length (p := (· == false)) (l := (Array.replicate ops.size false).toList)
      simpa using this
    · intro k o hk
      rw [Array.getD_eq_getD_getElem?] at hk
      by_cases hks : k < ops.size
      · simp [hks] at hk
      · simp [hks] at hk
    · have e2 : ∀ (l : List En) (z : Sm) (L : Nat → Bool), (∀ i, L i = false) → appE l L z = z := by
        intro l
        induction l with
        | nil => intro z L _; rfl
        | cons x l ih => intro z L hL; simp only [appE, hL, Bool.false_eq_true, if_false]; exact ih z L hL
      rw [e2]
      intro i
      rw [Array.getD_eq_getD_getElem?]
      by_cases hks : i < ops.size <;> simp [hks]

/-- A loop by a measure that hangs on what is known of a round's head. -/
theorem wp_loop_k {P : Program} {Q : Exit → Act → World → Prop} {c : Code} (I : Nat → Act → World → Prop) {k0 : Nat} (h0 : I k0 a w)
    (round : ∀ k a w, I k a w → c.wp P (Exit.then (fun a' w' => ∃ k', k' < k ∧ I k' a' w') Q) a w) : (Code.loop c).wp P Q a w := by
  intro b k cs
  have key : ∀ n a w, I n a w → ∃ e a' w', Q e a' w' ∧ Arrives P (lone (b.at a (.code c :: .inLoop c :: k)) cs w) b k cs e a' w' := by
    intro n
    induction n using Nat.strongRecOn with
    | _ n ih =>
      intro a w hI
      obtain ⟨e, a₁, w₁, hq, harr⟩ := round n a w hI b (.inLoop c :: k) cs
      cases e with
      | normal =>
        obtain ⟨k', hlt, hI₁⟩ := hq
        obtain ⟨e₂, a₂, w₂, hq₂, harr₂⟩ := ih k' hlt a₁ w₁ hI₁
        exact ⟨e₂, a₂, w₂, hq₂, .of_steps (Steps.trans harr (.one step_inLoop)) harr₂⟩
      | exit id => exact ⟨_, a₁, w₁, hq, .pass (x := .inLoop c) rfl (fun _ _ => .inl (by simp)) harr⟩
      | goto l => exact ⟨_, a₁, w₁, hq, .pass (x := .inLoop c) rfl (fun _ _ => .inl (by simp)) harr⟩
      | ret => exact ⟨_, a₁, w₁, hq, .pass (x := .inLoop c) rfl (fun _ _ => .inl (by simp)) harr⟩
      | panic ch => exact ⟨_, a₁, w₁, hq, .pass (x := .inLoop c) rfl (fun _ _ => .inl (by simp)) harr⟩
      | outgrown => exact ⟨_, a₁, w₁, hq, .pass (x := .inLoop c) rfl (fun _ _ => .inl (by simp)) harr⟩
  obtain ⟨e, a', w', hq, harr⟩ := key _ a w h0
  exact ⟨e, a', w', hq, .of_steps (.one step_loop) harr⟩

theorem readVars_box {vs : List Var} : ∀ {x : denVars vs}, readVars s vs = some x → ∀ id ∈ boxVars vs, ∃ o, s.obj id = some o := by
  induction vs with
  | nil => intro x _ id hid; cases hid
  | cons v vs ih =>
    intro x hx id hid
    cases v with
    | slot t0 own t =>
      simp only [readVars] at hx
      split at hx
      · split at hx
        · rename_i y z hy hz; exact ih hz id hid
        · cases hx
      · cases hx
    | agg t0 ks =>
      simp only [readVars] at hx
      split at hx
      · split at hx
        · rename_i y z hy hz; exact ih hz id hid
        · cases hx
      · cases hx
    | box id0 ks =>
      simp only [readVars] at hx
      split at hx
      · rename_i cs hob
        split at hx
        · rename_i y z hy hz
          rcases List.mem_cons.1 hid with rfl | hid
          · exact ⟨_, hob⟩
          · exact ih hz id hid
        · cases hx
      · cases hx

/-- WHAT THE EVALUATOR SAYS OF CODE IS SO. -/
theorem awp_ok (hE : E.Ok) (A : Nat → St → Option Ann) (n : Nat) : ∀ (c : Code) (Q : Ex → St → Prop) (s : St) (a : Act) (w : World) (ρ : Nat → Pl) (N : Blk), awp E A n c Q s → Rel E w0 X Z a w s ρ N → WFm s.sem s.next → a.tmps.size = n → c.wp E.P (Post E w0 X Z n Q (Code.dsts c) s ρ N) a w
  | .skip, Q, s, a, w, ρ, N, hq, h, hwf, hn => wp_skip ⟨.normal, s, ρ, N, rfl, hq, h, hwf, fun _ h => h, .refl _ _ _, hn⟩
  | .exit id, Q, s, a, w, ρ, N, hq, h, hwf, hn => wp_exit ⟨.exit id, s, ρ, N, rfl, hq, h, hwf, fun _ h => h, .refl _ _ _, hn⟩
  | .ret, Q, s, a, w, ρ, N, hq, h, hwf, hn => wp_ret ⟨.ret, s, ρ, N, rfl, hq, h, hwf, fun _ h => h, .refl _ _ _, hn⟩
  | .region id ops d, Q, s, a, w, ρ, N, hq, h, hwf, hn => by
    simp only [awp] at hq
    cases hc : ops.toList.all (dstBelow n) with
    | false => rw [hc] at hq; exact hq.elim
    | true =>
      rw [hc] at hq
      refine region_ok hE h hwf hn (fun o ho t ht => ?_) hq
      have := List.all_eq_true.1 hc o ho
      unfold dstBelow at this
      rw [ht] at this
      simpa [Nat.blt_eq] using this
  | .seq x y, Q, s, a, w, ρ, N, hq, h, hwf, hn => by
    refine wp_seq (wp_mono (awp_ok hE A n x _ s a w ρ N hq h hwf hn) fun ex a' w' hp => ?_)
    obtain ⟨e, s', ρ', N', h1, h2, h3, h4, h5, h6, h7⟩ := hp
    cases ex with
    | normal =>
      simp only [exOf, Option.some.injEq] at h1
      subst h1
      exact wp_mono (awp_ok hE A n y Q s' a' w' ρ' N' h2 h3 h4 h7) fun ex2 a2 w2 hp2 => hp2.chain h6 h5
    | exit id =>
      simp only [exOf, Option.some.injEq] at h1
      subst h1
      exact ⟨_, s', ρ', N', rfl, h2, h3, h4, h5, h6.mono fun t ht => List.mem_append_left _ ht, h7⟩
    | ret =>
      simp only [exOf, Option.some.injEq] at h1
      subst h1
      exact ⟨_, s', ρ', N', rfl, h2, h3, h4, h5, h6.mono fun t ht => List.mem_append_left _ ht, h7⟩
    | goto l => cases h1
    | panic ch => cases h1
    | outgrown => cases h1
  | .cond c x y, Q, s, a, w, ρ, N, hq, h, hwf, hn => by
    simp only [awp] at hq
    split at hq
    · rename_i t hg
      have hv := h.get c
      rw [hg] at hv
      have hv : a.eval c = .bool t := vr1 hv
      cases t with
      | true => exact wp_cond_true hv (wp_mono (awp_ok hE A n x Q s a w ρ N hq h hwf hn) fun _ _ _ hp => hp.mono fun t ht => List.mem_append_left _ ht)
      | false => exact wp_cond_false hv (wp_mono (awp_ok hE A n y Q s a w ρ N hq h hwf hn) fun _ _ _ hp => hp.mono fun t ht => List.mem_append_right _ ht)
    · exact hq.elim
  | .block id b, Q, s, a, w, ρ, N, hq, h, hwf, hn => by
    refine wp_block (wp_mono (awp_ok hE A n b _ s a w ρ N hq h hwf hn) fun ex a' w' hp => ?_)
    obtain ⟨e, s', ρ', N', h1, h2, h3, h4, h5, h6, h7⟩ := hp
    cases ex with
    | normal =>
      simp only [exOf, Option.some.injEq] at h1
      subst h1
      exact ⟨_, s', ρ', N', rfl, h2, h3, h4, h5, h6, h7⟩
    | exit id' =>
      simp only [exOf, Option.some.injEq] at h1
      subst h1
      simp only [Exit.inBlock]
      by_cases hid : id' = id
      · subst hid
        simp only [Nat.beq_refl, cond_true] at h2
        rw [if_pos rfl]
        exact ⟨_, s', ρ', N', rfl, h2, h3, h4, h5, h6, h7⟩
      · have hb : Nat.beq id' id = false := by
          cases hq : Nat.beq id' id with
          | true => exact absurd (Nat.eq_of_beq_eq_true hq) hid
          | false => rfl
        simp only [hb, cond_false] at h2
        rw [if_neg hid]
        exact ⟨_, s', ρ', N', rfl, h2, h3, h4, h5, h6, h7⟩
    | ret =>
      simp only [exOf, Option.some.injEq] at h1
      subst h1
      exact ⟨_, s', ρ', N', rfl, h2, h3, h4, h5, h6, h7⟩
    | goto l => cases h1
    | panic ch => cases h1
    | outgrown => cases h1
  | .loop b, Q, s, a, w, ρ, N, hq, h, hwf, hn => by
    simp only [awp] at hq
    split at hq
    · exact hq.elim
    · rename_i L hL
      cases hsv : ((slotVars L.vars).all fun t => (Code.dsts b).contains t) with
      | false => rw [hsv] at hq; exact hq.elim
      | true =>
        rw [hsv] at hq
        simp only [cond_true] at hq
        have hsv' : ∀ t ∈ slotVars L.vars, t ∈ Code.dsts b := fun t ht => by
          have := List.all_eq_true.1 hsv t ht
          simpa using this
        unfold loopIn at hq
        split at hq
        · rename_i x0 hx0
          cases hdc : (distinct (idsVars s L.vars) && (idsVars s L.vars).all fun _ => true) with
          | false => rw [hdc] at hq; exact hq.elim
          | true =>
            rw [hdc] at hq
            simp only [Bool.and_eq_true] at hdc
            obtain ⟨hinv0, hround⟩ := hq
            have hbx : ∀ id ∈ boxVars L.vars, id < s.next := fun id hid => by
              obtain ⟨o, ho⟩ := readVars_box hx0 id hid
              exact (hwf.2 id o ho).1
            let hd : denVars L.vars → St := fun y => loopHead s (Code.dsts b) (idsVars s L.vars) L.vars y
            refine wp_loop_k (fun k a w => ∃ y ρ' N', L.mu y = k ∧ L.inv y ∧ Rel E w0 X Z a w (hd y) ρ' N' ∧ WFm (hd y).sem (hd y).next ∧ s.next ≤ (hd y).next ∧ (∀ id, id < s.next → ρ' id = ρ id) ∧ (∀ b, N b → N' b) ∧ a.tmps.size = n) (k0 := L.mu x0) ?_ ?_
            · obtain ⟨g1, g2, ρ', g3, g4⟩ := head_ok h (s := s) (ds := Code.dsts b) (dead := idsVars s L.vars) hx0 hdc.1 (fun _ _ _ => rfl) (fun _ _ _ _ => rfl) (fun i hi => .inl hi) hwf hbx
              exact ⟨x0, ρ', N, rfl, hinv0, g3, g1, g2, g4, fun _ h => h, hn⟩
            · rintro k a w ⟨y, ρy, Ny, rfl, hiy, hrel, hwfy, hny, hρy, hNy, hay⟩
              refine wp_mono (awp_ok hE A n b _ (hd y) a w ρy Ny (hround y hiy) hrel hwfy hay) fun ex a' w' hp => ?_
              obtain ⟨e, s', ρ', N', h1, h2, h3, h4, h5, h6, h7⟩ := hp
              -- what the head keeps of s
              have hhs : ∀ t, t ∉ Code.dsts b → t ∉ slotVars L.vars → look (hd y).slots t = look s.slots t := by
                intro t ht1 ht2
                rw [head_slot]
                cases hq : look (putVars L.vars y s.next).slots t with
                | some v =>
                  have : t ∈ slotVars L.vars := by
                    have key : ∀ {vs : List Var} {x : denVars vs} {k : Nat}, look (putVars vs x k).slots t = some v → t ∈ slotVars vs := by
                      intro vs
                      induction vs with
                      | nil => intro x k h; simp [putVars, look] at h
                      | cons u vs ih =>
                        intro x k h
                        cases u with
                        | slot t0 own ty =>
                          simp only [putVars] at h
                          rw [look_cons] at h
                          split at h
                          · rename_i e; subst e; simp [slotVars]
                          · simp only [slotVars, List.mem_cons]; exact .inr (ih h)
                        | agg t0 ks =>
                          simp only [putVars] at h
                          rw [look_cons] at h
                          split at h
                          · rename_i e; subst e; simp [slotVars]
                          · simp only [slotVars, List.mem_cons]; exact .inr (ih h)
                        | box id0 ks => exact ih h
                    exact key hq
                  exact absurd this ht2
                | none => simp only; rw [if_pos ⟨ht1, ht2⟩]
              have hho : ∀ id, id < s.next → id ∉ boxVars L.vars → id ∉ idsVars s L.vars → (hd y).obj id = s.obj id := by
                intro id hid hb hdd
                rw [head_obj]
                cases hq : look (putVars L.vars y s.next).mem id with
                | some o =>
                  exfalso
                  have key : ∀ {vs : List Var} {x : denVars vs} {k : Nat}, s.next ≤ k → look (putVars vs x k).mem id = some o → id ∈ boxVars vs := by
                    have cellsKey : ∀ {ks : List (Bool × Ty)} {x : denCells ks} {k : Nat}, s.next ≤ k → look (putCells ks x k).2.1 id = some o → False := by
                      intro ks
                      induction ks with
                      | nil => intro x k _ h; simp [putCells, look] at h
                      | cons q ks ih =>
                        intro x k hk h
                        obtain ⟨own, t⟩ := q
                        simp only [putCells] at h
                        rw [look_append] at h
                        cases own with
                        | false => exact ih (k := kNext false k) (by simpa [kNext] using hk) (by simpa [kMem, look] using h)
                        | true =>
                          simp only [kMem] at h
                          rw [look_cons] at h
                          by_cases he : k = id
                          · omega
                          · rw [if_neg he] at h
                            simp only [look] at h
                            exact ih (by simp only [kNext]; omega) h
                    have cellsNext : ∀ {ks : List (Bool × Ty)} {x : denCells ks} {k : Nat}, k ≤ (putCells ks x k).2.2 := by
                      intro ks
                      induction ks with
                      | nil => intro x k; exact Nat.le_refl _
                      | cons q ks ih =>
                        intro x k
                        obtain ⟨own, t⟩ := q
                        simp only [putCells]
                        have := ih (x := x.2) (k := kNext own k)
                        have : k ≤ kNext own k := by cases own <;> simp [kNext]
                        omega
                    intro vs
                    induction vs with
                    | nil => intro x k _ h; simp [putVars, look] at h
                    | cons u vs ih =>
                      intro x k hk h
                      cases u with
                      | slot t0 own ty =>
                        simp only [putVars] at h
                        rw [look_append] at h
                        cases own with
                        | false => exact ih (k := kNext false k) (by simpa [kNext] using hk) (by simpa [kMem, look] using h)
                        | true =>
                          simp only [kMem] at h
                          rw [look_cons] at h
                          by_cases he : k = id
                          · omega
                          · rw [if_neg he] at h
                            simp only [look] at h
                            exact ih (by simp only [kNext]; omega) h
                      | agg t0 ks =>
                        simp only [putVars] at h
                        rw [look_append] at h
                        cases hq2 : look (putCells ks x.1 k).2.1 id with
                        | some o2 =>
                          rw [hq2] at h
                          simp only [Option.some.injEq] at h
                          subst h
                          exact (cellsKey hk hq2).elim
                        | none =>
                          rw [hq2] at h
                          have := cellsNext (x := x.1) (k := k)
                          exact ih (by omega) h
                      | box id0 ks =>
                        simp only [putVars] at h
                        rw [look_append] at h
                        cases hq2 : look (putCells ks x.1 k).2.1 id with
                        | some o2 =>
                          rw [hq2] at h
                          simp only [Option.some.injEq] at h
                          subst h
                          exact (cellsKey hk hq2).elim
                        | none =>
                          rw [hq2] at h
                          simp only at h
                          rw [look_cons] at h
                          by_cases he : id0 = id
                          · subst he; simp [boxVars]
                          · rw [if_neg he] at h
                            have := cellsNext (x := x.1) (k := k)
                            simp only [boxVars, List.mem_cons]
                            exact .inr (ih (by omega) h)
                  exact hb (key (Nat.le_refl _) hq)
                | none => simp only; rw [if_neg hdd]
              have out : ∀ (e : Ex), Q e { s' with tch := s'.tch ++ boxVars L.vars ++ idsVars s L.vars ++ s.tch } → ∀ ex, exOf ex = some e → Post E w0 X Z n Q (Code.dsts b) s ρ N ex a' w' := by
                intro e hqe ex hex
                refine ⟨e, { s' with tch := s'.tch ++ boxVars L.vars ++ idsVars s L.vars ++ s.tch }, ρ', N', hex, hqe, h3.sem rfl, h4, fun b hb => h5 b (hNy b hb), ⟨Nat.le_trans hny h6.next, fun id hid => ?_, fun x hx => ?_, fun id hid hnt => ?_, fun t ht => ?_⟩, h7⟩
                · rw [h6.pl id (by omega), hρy id hid]
                · exact List.mem_append_right _ hx
                · simp only [List.mem_append, not_or] at hnt
                  have e1 := h6.obj id (by omega) hnt.1.1.1
                  have e2 := hho id hid hnt.1.1.2 hnt.1.2
                  exact e1.trans e2
                · have e1 := h6.slot t ht
                  exact e1.trans (hhs t ht fun hc => ht (hsv' t hc))
              cases ex with
              | normal =>
                simp only [exOf, Option.some.injEq] at h1
                subst h1
                simp only at h2
                cases htc : (s'.tch.all fun id => Nat.ble s.next id || (boxVars L.vars).contains id) with
                | false => rw [htc] at h2; exact h2.elim
                | true =>
                  rw [htc] at h2
                  simp only [cond_true] at h2
                  split at h2
                  · rename_i z hz
                    cases hdz : (distinct (idsVars s' L.vars) && (idsVars s' L.vars).all fun id => Nat.ble s.next id) with
                    | false => rw [hdz] at h2; exact h2.elim
                    | true =>
                      rw [hdz] at h2
                      simp only [Bool.and_eq_true] at hdz
                      obtain ⟨hiz, hmu⟩ := h2
                      have htch : ∀ id ∈ s'.tch, s.next ≤ id ∨ id ∈ boxVars L.vars := fun id hid => by
                        have := List.all_eq_true.1 htc id hid
                        simp only [Bool.or_eq_true, Nat.ble_eq] at this
                        rcases this with h8 | h8
                        · exact .inl h8
                        · exact .inr (by simpa using h8)
                      obtain ⟨g1, g2, ρz, g3, g4⟩ := head_ok h3 (s := s) (ds := Code.dsts b) (dead := idsVars s L.vars) hz hdz.1
                        (fun t ht1 ht2 => (h6.slot t ht1).trans (hhs t ht1 ht2))
                        (fun id hid hb hdd => (h6.obj id (by omega) fun hc => by rcases htch id hc with h8 | h8; omega; exact hb h8).trans (hho id hid hb hdd))
                        (fun i hi => .inr (by have := List.all_eq_true.1 hdz.2 i hi; simpa [Nat.ble_eq] using this)) hwf hbx
                      exact ⟨L.mu z, hmu, z, ρz, N', rfl, hiz, g3, g1, g2, fun id hid => by rw [g4 id hid, h6.pl id (by omega), hρy id hid], fun b hb => h5 b (hNy b hb), h7⟩
                  · exact h2.elim
              | exit id =>
                simp only [exOf, Option.some.injEq] at h1
                subst h1
                exact out _ h2 _ rfl
              | ret =>
                simp only [exOf, Option.some.injEq] at h1
                subst h1
                exact out _ h2 _ rfl
              | goto l => cases h1
              | panic ch => cases h1
              | outgrown => cases h1
        · exact hq.elim
  | .rangeFunc .., _, _, _, _, _, _, hq, _, _, _ => hq.elim
  | .scope _, _, _, _, _, _, _, hq, _, _, _ => hq.elim
  | .label _, _, _, _, _, _, _, hq, _, _, _ => hq.elim
  | .goto _, _, _, _, _, _, _, hq, _, _, _ => hq.elim
  | .refuse _, _, _, _, _, _, _, hq, _, _, _ => hq.elim

end
end Go.Proofs.Ytoalcmpjfnlkdaa
