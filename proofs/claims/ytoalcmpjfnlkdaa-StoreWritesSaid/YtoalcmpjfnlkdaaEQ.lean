/- THE MACHINE OF READINGS, part Q: every operation. -/
import Derived.Test.YtoalcmpjfnlkdaaEP
namespace Go.Proofs.Ytoalcmpjfnlkdaa
open Go.RowKit

section
variable {E : Env} {w0 : World} {X Z : Blk} {a : Act} {w w' : World} {s : St} {ρ ρ' : Nat → Pl} {N N' : Blk} {m m' : Mem}

theorem renSs_ids {f : Nat → Option Nat} {L : Nat} (hL : ∀ i j, f i = some j → j < L) : ∀ {l l' : List SV}, renSs f l = some l' → ∀ s ∈ l', ∀ id ∈ idsS s, id < L
  | [], _, he, s, hs, _, _ => by
    simp only [renSs, Option.some.injEq] at he
    subst he; cases hs
  | x :: l, _, he, s, hs, id, hid => by
    simp only [renSs] at he
    split at he
    · rename_i x' l' e1 e2
      simp only [Option.some.injEq] at he
      subst he
      rcases List.mem_cons.1 hs with rfl | hs
      · cases x with
        | un => exact renS_ids hL (by simp) e1 id hid
        | v ag cs => exact renS_ids hL (by simp) e1 id hid
        | tup vs =>
          simp only [renS] at e1
          cases hv : renVs f vs with
          | none => simp [hv] at e1
          | some vs' =>
            simp only [hv, Option.map_some, Option.some.injEq] at e1
            subst e1
            have key : ∀ {vs vs' : List (Bool × List C)}, renVs f vs = some vs' → ∀ id ∈ vs'.flatMap (fun p => idsCs p.2), id < L := by
              intro vs
              induction vs with
              | nil => intro vs' he id hid; simp only [renVs, Option.some.injEq] at he; subst he; cases hid
              | cons p vs ih =>
                intro vs' he id hid
                obtain ⟨ag, cs⟩ := p
                simp only [renVs] at he
                split at he
                · rename_i c' l e1 e2
                  simp only [Option.some.injEq] at he
                  subst he
                  simp only [List.flatMap_cons, List.mem_append] at hid
                  rcases hid with hid | hid
                  · exact renCs_ids hL e1 id hid
                  · exact ih e2 id hid
                · cases he
            exact key hv id hid
      · exact renSs_ids hL e2 s hs id hid
    · cases he

theorem caps_ok {caps : List (Nat × Nat)} {cv : List Value} (h : All2 (fun (p : Nat × Nat) u => ∃ b, (ρ p.1).A = some ⟨b, 0, none⟩ ∧ u = .pointer (some ⟨b, p.2, none⟩)) caps cv) : All2 (SVR w N ρ m) (caps.map fun (p : Nat × Nat) => one (.pt p.1 p.2)) cv := by
  induction h with
  | nil => exact .nil
  | cons h1 _ ih =>
    obtain ⟨b, hb, hu⟩ := h1
    exact .cons ⟨_, rfl, b, hb, hu⟩ ih

theorem call_ok (h : Rel E w0 X Z a w s ρ N) (hE : E.Ok) (hm : ∀ id ob, m id = some ob → s.obj id = some ob) {o : Oper} (hd : ∀ d, o.dst = some d → d < a.tmps.size) {nx : Nat} (hf : ∀ k, k < 8 → Fresh s (nx + k)) {c : Call} {g : Operand} {f : FuncId} {caps : List (Nat × Nat)} (ho : o.op = .call c) (hc : c.callee = .value g) (hg : s.get g = .v false [.fn f caps])
    {obs : List Prop} {e : Eff} (he : aCall E m nx f (c.args.toList.map s.get ++ caps.map fun (p : Nat × Nat) => one (.pt p.1 p.2)) = some (obs, e)) (hob : ∀ p ∈ obs, p) : OpGood E w0 X Z a o w s ρ N e (fun id => nx ≤ id ∧ id < nx + 8) := by
  have hgv := h.get g
  rw [hg] at hgv
  obtain ⟨cv, hcv, hcr⟩ := vr1 hgv
  -- the arguments
  have hargs : All2 (SVR w N ρ s.obj) (c.args.toList.map s.get ++ caps.map fun (p : Nat × Nat) => one (.pt p.1 p.2)) (c.args.toList.map a.eval ++ cv) := by
    exact (h.gets _).append (caps_ok hcr)
  generalize c.args.toList.map s.get ++ caps.map (fun (p : Nat × Nat) => one (.pt p.1 p.2)) = args at he hargs
  unfold aCall at he
  split at he
  · cases he
  · rename_i keep ct hct
    obtain ⟨⟨fn, hfn, hbody, hname⟩, hmeets⟩ := hE.ctr f keep ct hct
    simp only at he
    generalize hlent : (if keep then [] else args.flatMap hsS) = lent at he
    generalize hargs1 : (if keep then args else args.map (roS m)) = args1 at he
    generalize reach m 3 (addNew [] (args1.flatMap (metS true))) = ids at he
    split at he
    · rename_i args' m0 hra hm0
      split at he
      · rename_i obs1 r m1 hctr
        split at he
        · rename_i obs' r' u hta hr' hu
          cases hcond : (distinct ids && lent.all (fun id => !ids.contains id) && (lent.isEmpty || (flatS r && (m1.all (fun x => flatO x.2) && m0.all fun x => flatO x.2)))) with
          | false => rw [hcond] at he; cases he
          | true =>
            rw [hcond] at he
            simp only [cond_true, Option.some.injEq, Prod.mk.injEq] at he
            obtain ⟨rfl, rfl⟩ := he
            simp only [Bool.and_eq_true] at hcond
            obtain ⟨⟨hids, hln⟩, hfl⟩ := hcond
            have hln' : ∀ id ∈ lent, id ∉ ids := by
              intro id hid
              have := List.all_eq_true.1 hln id hid
              simpa using this
            have hflat : lent = [] ∨ (flatS r = true ∧ (∀ n o, look m1 n = some o → flatO o = true) ∧ ∀ n o, look m0 n = some o → flatO o = true) := by
              rcases Bool.or_eq_true _ _ ▸ hfl with hl | hl
              · left; simpa using hl
              · right
                simp only [Bool.and_eq_true] at hl
                have key : ∀ {l : List (Nat × Option Obj)} (n : Nat) (o : Option Obj), (l.all fun x => flatO x.2) = true → look l n = some o → flatO o = true := by
                  intro l n o
                  induction l with
                  | nil => intro _ h; simp [look] at h
                  | cons p l ih =>
                    intro ha hk
                    obtain ⟨k, x⟩ := p
                    simp only [List.all_cons, Bool.and_eq_true] at ha
                    rw [look_cons] at hk
                    split at hk
                    · simp only [Option.some.injEq] at hk; subst hk; exact ha.1
                    · exact ih ha.2 hk
                exact ⟨hl.1, fun n o hlk => key n o hl.2.1 hlk, fun n o hlk => key n o hl.2.2 hlk⟩
            let Nc : Blk := fun b => N b ∨ Gone ρ s.obj lent b
            let ρc : Nat → Pl := fun n => match ids[n]? with
              | some id => ρ id
              | none => ⟨none, 0⟩
            have hρc : ∀ n id, ids[n]? = some id → ρc n = ρ id := fun n id hn => by simp only [ρc, hn]
            obtain ⟨hlen, hlook⟩ := memFor_look (ids := ids) hm0
            have hin : ∀ n o1, memOf m0 n = some o1 → ∃ id o, ids[n]? = some id ∧ s.obj id = some o ∧ renO (fun id => numAt id 0 ids) o = some o1 := by
              intro n o1 hn
              obtain ⟨_, id, o, o2, e1, e2, e3, e4⟩ := (hlook n).1 _ (memOf_some hn)
              simp only [Option.some.injEq] at e4
              subst e4
              exact ⟨id, o, by simpa using e1, hm id o e2, e3⟩
            have hnum : ∀ i j, numAt i 0 ids = some j → j < m0.length := fun i j hij => by rw [hlen]; exact (List.getElem?_eq_some_iff.1 (numAt_get hij)).1
            have hren : RenOk (fun id => numAt id 0 ids) ρ s.obj ρc (memOf m0) := by
              intro id n hn
              have hg := numAt_get hn
              refine ⟨hρc n id hg, fun t xs hmo => ?_⟩
              obtain ⟨id', o, e1, e2, e3⟩ := hin n _ hmo
              rw [hg] at e1
              simp only [Option.some.injEq] at e1
              subst e1
              rw [renO_row e3] at e2
              exact e2
            have hNc : ∀ b, N b → Nc b := fun b hb => .inl hb
            have hargs2 : All2 (SVR w Nc ρ s.obj) args1 (c.args.toList.map a.eval ++ cv) := by
              subst hargs1 hlent
              cases keep with
              | true => exact hargs.mono fun sv v hv => hv.sub hNc
              | false => exact roSs_ok h.mr hm hargs fun id hid => hid
            have hmr : MR w Nc ρc (memOf m0) := by
              refine ⟨fun n o1 hn => ?_, fun n n' o1 o2 e1 e2 hh1 hh2 hA => ?_, fun b hb ho => ?_, fun b hb => ?_⟩
              · obtain ⟨id, o, e1, e2, e3⟩ := hin n o1 hn
                have hnn : numAt id 0 ids = some n := by
                  have hmem : id ∈ ids := List.mem_of_getElem? e1
                  cases hq : numAt id 0 ids with
                  | none =>
                    exfalso
                    have : ∀ {l : List Nat} {k : Nat}, id ∈ l → numAt id k l ≠ none := by
                      intro l
                      induction l with
                      | nil => intro k h; cases h
                      | cons x l ih =>
                        intro k h
                        simp only [numAt]
                        cases hb : Nat.beq x id with
                        | true => simp
                        | false =>
                          simp only [cond_false]
                          rcases List.mem_cons.1 h with rfl | h
                          · simp at hb
                          · exact ih h
                    exact this hmem hq
                  | some n2 =>
                    have := distinct_inj hids (numAt_get hq) e1
                    rw [this]
                exact ((h.mr.obj id o e2).sub hNc).ren hren hnn e3
              · obtain ⟨i1, q1, a1, a2, a3⟩ := hin n o1 e1
                obtain ⟨i2, q2, b1, b2, b3⟩ := hin n' o2 e2
                rw [hρc n i1 a1] at hh1 hA
                rw [hρc n' i2 b1] at hh2 hA
                have := h.mr.inj i1 i2 q1 q2 a2 b2 ((renO_holds a3).2 hh1) ((renO_holds b3).2 hh2) hA
                subst this
                exact distinct_inj hids a1 b1
              · obtain ⟨n, o1, e1, hh, hA⟩ := ho
                obtain ⟨i1, q1, a1, a2, a3⟩ := hin n o1 e1
                rw [hρc n i1 a1] at hh hA
                have hh' := (renO_holds a3).2 hh
                rcases hb with hb | ⟨i2, hi2, t, xs, b1, b2, b3⟩
                · exact h.mr.nown b hb ⟨i1, q1, a2, hh', hA⟩
                · have := h.mr.inj i1 i2 q1 _ a2 b1 hh' b2 (by rw [hA, b3])
                  subst this
                  exact hln' i1 hi2 (List.mem_of_getElem? a1)
              · rcases hb with hb | hb
                · exact h.mr.nlt b hb
                · exact gone_lt h.mr hb
            have hspec := hmeets args' m0 obs1 r m1 hctr (fun p hp => hob p (by simp [hp])) w Nc ρc (c.args.toList.map a.eval ++ cv)
              (fun gl cs hgl => (h.glob gl cs hgl).step hNc (fun _ _ => rfl)) hmr (renSs_ok hren hra hargs2) (renSs_ids hnum hra)
              (fun n o1 hn => by
                obtain ⟨id, o, e1, e2, e3⟩ := hin n o1 hn
                exact ⟨by rw [hlen]; exact (List.getElem?_eq_some_iff.1 e1).1, renO_ids hnum e3⟩)
            intro K Q hK
            have hrun : (execOp a.eval o).run E.P w = .ok (.enter f (c.args.toList.map a.eval ++ cv).toArray) w := by
              have hcf : (callFunc f (c.args.toList.map a.eval ++ cv).toArray).run E.P w = .ok (.enter f (c.args.toList.map a.eval ++ cv).toArray) w := by
                have hb : fn.body.isNone = false := by cases hx : fn.body <;> simp_all
                simp only [callFunc, Sem.run_bind, run_program, Result.andThen_ok, hfn, hname, hb, Bool.false_eq_true, if_false]
                rfl
              have e1 : c.args.map a.eval ++ cv.toArray = (c.args.toList.map a.eval ++ cv).toArray := by apply Array.ext'; simp
              simp only [execOp, ho, resolve, hc, hcv, Deferred.ofValue, Sem.run_bind, Sem.run_pure, Result.andThen_ok, invoke, Array.empty_append]
              rw [e1]; exact hcf
            unfold Oper.wp
            rw [hrun]
            refine hspec.mono fun en w1 hpost => ?_
            obtain ⟨v, ρ2, N2, rfl, p1, p2, p3, p4, p5, p6, p7⟩ := hpost
            obtain ⟨ρ', N', q1, q2, q3, q4⟩ := call_back h hm (dst := o.dst) hd hf hids hm0 hta (fun p hp => hob p (by simp [hp])) hr' hu hflat hρc p1 p2 p3 p4 p5 p6 p7
            exact hK v w1 ρ' N' q1 q2 q3 q4
        · cases he
      · cases he
    · cases he

theorem out_map {β : Type} {x : Option β} {g : β → List Prop × Eff} {y : List Prop × Eff} (h : x.map g = some y) : ∃ z, x = some z ∧ g z = y := by
  cases x with
  | none => simp at h
  | some z => exact ⟨z, rfl, by simpa using h⟩

/-- EVERY OPERATION OF THE EVALUATOR is the model's. -/
theorem aop_ok (h : Rel E w0 X Z a w s ρ N) (hE : E.Ok) (hm : ∀ id ob, m id = some ob → s.obj id = some ob) {o : Oper} (hd : ∀ d, o.dst = some d → d < a.tmps.size) {nx : Nat} (hf : ∀ k, k < 8 → Fresh s (nx + k))
    {obs : List Prop} {e : Eff} (he : aop E m nx s.get o.op = some (obs, e)) (hob : ∀ p ∈ obs, p) : OpGood E w0 X Z a o w s ρ N e (fun id => nx ≤ id ∧ id < nx + 8) := by
  have pure : PureR E a o w N ρ s.obj e → OpGood E w0 X Z a o w s ρ N e (fun id => nx ≤ id ∧ id < nx + 8) := fun hp => (hp.good h hd (fun _ => False)).op fun _ hf => hf.elim
  have new : Good E w0 X Z a o w s ρ N e (· = nx) → OpGood E w0 X Z a o w s ρ N e (fun id => nx ≤ id ∧ id < nx + 8) := fun hg => hg.op fun id hid => by have hid : id = nx := hid; omega
  have hf0 : Fresh s nx := by simpa using hf 0 (by omega)
  unfold aop at he
  split at he
  · rename_i x ho
    simp only [Option.some.injEq, Prod.mk.injEq] at he
    obtain ⟨_, rfl⟩ := he
    exact pure (move_ok h (.inl ho))
  · rename_i x ho
    simp only [Option.some.injEq, Prod.mk.injEq] at he
    obtain ⟨_, rfl⟩ := he
    exact pure (move_ok h (.inr ho))
  · rename_i T ho
    obtain ⟨cs, hz, hy⟩ := out_map he
    simp only [Prod.mk.injEq] at hy
    obtain ⟨_, rfl⟩ := hy
    exact new (alloc_ok h hd hf0 ho hz)
  · rename_i T x ho
    split at he
    · rename_i b cs hg
      simp only [Option.some.injEq, Prod.mk.injEq] at he
      obtain ⟨_, rfl⟩ := he
      exact new (box_ok h hd hf0 ho hg)
    · cases he
  · rename_i T ps ho; exact pure (build_ok h ho he)
  · rename_i T n ps ho
    cases hz : Nat.beq n 0 with
    | true =>
      rw [hz] at he
      have := Nat.eq_of_beq_eq_true hz
      subst this
      exact new (empty_ok h hd hf0 ho he)
    | false =>
      rw [hz] at he
      exact new (buildSlice_ok h hm hd hf0 ho he)
  · rename_i T x ho; exact pure (load_ok h hm ho he)
  · rename_i T x y ho; exact (store_ok h hm hd ho he).op fun _ hf => hf.elim
  · rename_i x ho
    split at he
    · rename_i id off hg
      simp only [ret, Option.some.injEq, Prod.mk.injEq] at he
      obtain ⟨_, rfl⟩ := he
      exact pure (nilCheck_ok h ho hg fun v hv => by obtain ⟨b, _, rfl⟩ := hv; exact ⟨_, rfl⟩)
    · rename_i t xs i off hg
      simp only [ret, Option.some.injEq, Prod.mk.injEq] at he
      obtain ⟨_, rfl⟩ := he
      exact pure (nilCheck_ok h ho hg fun v hv => by obtain ⟨b, o, rfl, _⟩ := hv; exact ⟨_, rfl⟩)
    · rename_i id i off hg
      simp only [ret, Option.some.injEq, Prod.mk.injEq] at he
      obtain ⟨_, rfl⟩ := he
      exact pure (nilCheck_ok h ho hg fun v hv => hv.1)
    · rename_i g off hg
      simp only [ret, Option.some.injEq, Prod.mk.injEq] at he
      obtain ⟨_, rfl⟩ := he
      exact pure (nilCheck_ok h ho hg fun v hv => ⟨_, hv⟩)
    · cases he
  · rename_i op T x y T' ho; exact pure (bin_ok h hE.eqs ho he hob)
  · rename_i T x ho
    split at he
    · rename_i b hg
      simp only [ret, Option.some.injEq, Prod.mk.injEq] at he
      obtain ⟨_, rfl⟩ := he
      exact pure (not_ok h ho hg)
    · cases he
  · rename_i T x ho
    split at he
    · rename_i k n hg
      simp only [ret, Option.some.injEq, Prod.mk.injEq] at he
      obtain ⟨_, rfl⟩ := he
      exact pure (neg_ok h ho hg)
    · cases he
  · rename_i S D x ho; exact pure (convert_ok h ho he)
  · rename_i f first cs ho
    split at he
    · rename_i hfi
      obtain ⟨l, hl, hy⟩ := out_map he
      simp only [Prod.mk.injEq] at hy
      obtain ⟨_, rfl⟩ := hy
      exact pure (makeFunc_ok h ho hfi hl)
    · cases he
  · rename_i T x lo hi mx ho; exact pure (slice_ok h ho he hob)
  · rename_i T x f ho; exact pure (fieldAddr_ok h ho he)
  · rename_i T x f ho; exact pure (field_ok h ho he)
  · rename_i T x i ho; exact pure (indexAddr_ok h hm ho he hob)
  · rename_i T x i ho; exact pure (index_ok h ho he hob)
  · rename_i x i ho
    split at he
    · rename_i vs hg
      split at he
      · rename_i b cs hi
        simp only [Option.some.injEq, Prod.mk.injEq] at he
        obtain ⟨_, rfl⟩ := he
        exact pure (extract_ok h ho hg hi)
      · cases he
    · cases he
  · rename_i c ho
    split at he
    · rename_i hc
      split at he
      · rename_i x T Ts ha hT; exact pure (len_ok h hm ho hc ha hT he)
      · cases he
    · rename_i hc
      split at he
      · rename_i x y T T' ha hT
        split at he
        · rename_i hTT
          subst hTT
          exact new (append_ok h hm hd hf0 ho hc ha hT he hob)
        · cases he
      · cases he
    · rename_i hc
      split at he
      · rename_i k n k' n' ha
        simp only [ret, Option.some.injEq, Prod.mk.injEq] at he
        obtain ⟨_, rfl⟩ := he
        exact pure (min_ok h ho hc ha)
      · cases he
    · rename_i hc
      split at he
      · rename_i k n k' n' ha
        simp only [ret, Option.some.injEq, Prod.mk.injEq] at he
        obtain ⟨_, rfl⟩ := he
        exact pure (max_ok h ho hc ha)
      · cases he
    · rename_i g hc
      split at he
      · rename_i f caps hg; exact call_ok h hE hm hd hf ho hc hg he hob
      · cases he
    · cases he
  · cases he

end
end Go.Proofs.Ytoalcmpjfnlkdaa
