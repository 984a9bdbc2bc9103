/- THE MACHINE OF READINGS, part Z: functions: what the evaluator says is a contract. -/
import Derived.Test.YtoalcmpjfnlkdaaEY
namespace Go.Proofs.Ytoalcmpjfnlkdaa
open Go.RowKit

section
variable {E : Env} {w0 : World} {X Z : Blk} {a : Act} {w w' : World} {s s1 : St} {ρ1 ρ ρ' : Nat → Pl} {N N' : Blk} {m m1 m' : Mem} {n : Nat}

theorem look_zip {α : Type} : ∀ (l : List α) (k t : Nat), look ((l.zipIdx k).map fun x => (x.2, x.1)) t = if k ≤ t then l[t - k]? else none
  | [], k, t => by simp [look]
  | x :: l, k, t => by
    simp only [List.zipIdx_cons, List.map_cons]
    rw [look_cons, look_zip l (k + 1) t]
    by_cases h : k = t
    · subst h; simp
    · rw [if_neg h]
      by_cases h2 : k ≤ t
      · rw [if_pos (by omega), if_pos h2]
        rw [show t - k = (t - (k + 1)) + 1 by omega]
        simp
      · rw [if_neg (by omega), if_neg h2]

theorem run_resOf (h : Rel E w0 X Z a w s ρ N) {r : ResultVar} {p : Bool × List C} (he : resOf E s r = some p) :
    ∃ v, (match r with | .tmp t => (Pure.pure (a.tmps.getD t undef) : Sem Value) | .cell b T => do loadVar T (← asAddr (a.tmps.getD b undef))).run E.P w = .ok v w ∧ VR w N ρ s.obj p.1 p.2 v := by
  cases r with
  | tmp t =>
    simp only [resOf] at he
    split at he
    · rename_i ag cs hs
      simp only [Option.some.injEq] at he
      subst he
      have := h.get (.tmp t)
      have e : s.get (.tmp t) = .v ag cs := hs
      rw [e] at this
      exact ⟨_, rfl, this⟩
    · cases he
  | cell b T =>
    simp only [resOf] at he
    split at he
    · rename_i obs ag cs upd hl
      simp only [Option.some.injEq] at he
      subst he
      obtain ⟨v, hr, hv, _⟩ := load_ok h (fun _ _ h => h) (o := { dst := none, op := .load T (.tmp b), type := 0, pos := "", after := #[], guard := none }) (T := T) (x := .tmp b) rfl hl
      refine ⟨v, ?_, hv⟩
      have ev : a.eval (.tmp b) = a.tmps.getD b undef := rfl
      simp only [execOp, Instr.loadAt, ev] at hr
      simp only
      cases hq : a.tmps.getD b undef with
      | pointer ad =>
        rw [hq] at hr
        cases ad with
        | none => simp [Instr.sureAddr] at hr
        | some ad =>
          simp only [Instr.sureAddr, Sem.run_bind, Sem.run_pure, Result.andThen_ok] at hr
          simp only [asAddr, Sem.run_bind, Sem.run_pure, Result.andThen_ok]
          cases hq2 : (loadVar T ad).run E.P w with
          | ok v' w' => rw [hq2] at hr; simp at hr; obtain ⟨rfl, rfl⟩ := hr; rfl
          | halt x w' => rw [hq2] at hr; simp at hr
      | _ => rw [hq] at hr; simp [Instr.sureAddr] at hr
    · cases he

theorem run_resAll (h : Rel E w0 X Z a w s ρ N) : ∀ {rs : List ResultVar} {l : List (Bool × List C)}, resAll E s rs = some l →
    ∃ us : List Value, (rs.mapM (m := Sem) fun r => match r with | .tmp t => Pure.pure (a.tmps.getD t undef) | .cell b T => do loadVar T (← asAddr (a.tmps.getD b undef))).run E.P w = .ok us w ∧ All2 (fun (p : Bool × List C) u => VR w N ρ s.obj p.1 p.2 u) l us
  | [], l, he => by
    simp only [resAll, Option.some.injEq] at he
    subst he
    exact ⟨[], by simp, .nil⟩
  | r :: rs, l, he => by
    simp only [resAll] at he
    split at he
    · rename_i p l' e1 e2
      simp only [Option.some.injEq] at he
      subst he
      obtain ⟨v, hr, hv⟩ := run_resOf h e1
      obtain ⟨us, hrs, hus⟩ := run_resAll h e2
      refine ⟨v :: us, ?_, .cons hv hus⟩
      simp only [List.mapM_cons, Sem.run_bind, hr, Result.andThen_ok, hrs, Sem.run_pure]
    · cases he

theorem slots_v {vs : List Var} : ∀ {x : denVars vs} {k t : Nat} {sv : SV}, look (putVars vs x k).slots t = some sv → ∃ ag cs, sv = .v ag cs := by
  induction vs with
  | nil => intro x k t sv h; simp [putVars, look] at h
  | cons u vs ih =>
    intro x k t sv h
    cases u with
    | slot t0 own ty =>
      simp only [putVars] at h
      rw [look_cons] at h
      split at h
      · simp only [Option.some.injEq] at h; subst h; exact ⟨_, _, rfl⟩
      · exact ih h
    | agg t0 ks =>
      simp only [putVars] at h
      rw [look_cons] at h
      split at h
      · simp only [Option.some.injEq] at h; subst h; exact ⟨_, _, rfl⟩
      · exact ih h
    | box id0 ks => exact ih h

/-- WHAT THE EVALUATOR SAYS OF A FUNCTION is what a call comes to. -/
theorem spec_of (hE : E.Ok) (A : Nat → St → Option Ann) {K : FuncId} {f : Func} (hf : E.P.funcs[K]? = some f) {args : List SV} {m0 : List (Nat × Option Obj)} {dead : List Nat} {vs : List Var} {Q : denVars vs → Prop} (h : afn E A f args m0 dead vs Q) {x : denVars vs} (hQ : ∀ y, Q y → y = x) :
    SpecR E.P E.glob K args m0 (outOf vs dead x m0).1 (outOf vs dead x m0).2 := by
  intro w N ρ vals hgl hmr hargs hai hmi
  unfold afn at h
  split at h
  · exact h.elim
  · rename_i c hb
    cases hck : (Nat.ble args.length f.ntmps && (slotVars vs == List.range f.results.size) && (boxVars vs).all (Nat.blt · m0.length)) with
    | false => rw [hck] at h; exact h.elim
    | true =>
      rw [hck] at h
      simp only [Bool.and_eq_true, Nat.ble_eq, beq_iff_eq] at hck
      obtain ⟨⟨hlen, hsv⟩, hbv⟩ := hck
      have hbx : ∀ id ∈ boxVars vs, id < m0.length := allBlt.1 hbv
      have hal := hargs.len
      refine calls_of_wp hf hb ?_
      -- the state at the start
      have hrel : Rel E w (Own ρ (memOf m0)) N { tmps := vals.toArray ++ Array.replicate (f.ntmps - vals.toArray.size) undef, defers := [] } w (startSt args m0) ρ N := by
        refine ⟨fun t sv hl => ?_, hmr, rfl, .refl w _, fun b hb => .inl hb, hgl, fun b hb => .inl hb⟩
        have hl : look (args.zipIdx.map fun x => (x.2, x.1)) t = some sv := hl
        rw [look_zip] at hl
        simp only [Nat.zero_le, if_true, Nat.sub_zero] at hl
        obtain ⟨v, hv, hr⟩ := hargs.get t hl
        have ht : t < vals.length := (List.getElem?_eq_some_iff.1 hv).1
        have : (vals.toArray ++ Array.replicate (f.ntmps - vals.toArray.size) undef).getD t undef = v := by
          rw [Array.getD_eq_getD_getElem?, Array.getElem?_append_left (by simpa using ht)]
          simp [hv]
        simp only
        rw [this]
        exact hr
      have hwf : WFm (startSt args m0).sem (startSt args m0).next := by
        refine ⟨fun t sv hl id hid => ?_, fun id o ho => hmi id o ho⟩
        have hl : look (args.zipIdx.map fun x => (x.2, x.1)) t = some sv := hl
        rw [look_zip] at hl
        simp only [Nat.zero_le, if_true, Nat.sub_zero] at hl
        exact hai sv (List.mem_of_getElem? hl) id hid
      have hsize : (vals.toArray ++ Array.replicate (f.ntmps - vals.toArray.size) undef).size = f.ntmps := by simp; omega
      refine wp_mono (awp_ok hE A f.ntmps c _ _ _ w ρ N h hrel hwf hsize) fun ex a' w' hp => ?_
      obtain ⟨e, s', ρ', N', h1, h2, h3, h4, h5, h6, h7⟩ := hp
      have main : (match resAll E s' f.results.toList with
        | some l => cond (s'.tch.all fun id => Nat.ble m0.length id || (boxVars vs).contains id || dead.contains id) (loopIn (fun id => Nat.ble m0.length id || dead.contains id) (endSt s' l) vs Q) False
        | none => False) → a'.defers = [] ∧ ∃ v, (results f a'.tmps).run E.P w' = .ok v w' ∧ ∃ v_1 ρ'_1 N'_1, Ending.returned v = .returned v_1 ∧ (∀ n, n < m0.length → ρ'_1 n = ρ n) ∧ (∀ b, N b → N'_1 b) ∧ MR w' N'_1 ρ'_1 (memOf ((outOf vs dead x m0).2 ++ m0)) ∧ SVR w' N'_1 ρ'_1 (memOf ((outOf vs dead x m0).2 ++ m0)) (outOf vs dead x m0).1 v_1 ∧
          Since w (Own ρ (memOf m0)) w' ∧ (∀ b, Own ρ'_1 (memOf ((outOf vs dead x m0).2 ++ m0)) b → Own ρ (memOf m0) b ∨ w.heap.size ≤ b) ∧ ∀ b, N'_1 b → N b ∨ w.heap.size ≤ b ∨ Own ρ (memOf m0) b := by
        intro hm
        split at hm
        · rename_i l hl
          cases htc : (s'.tch.all fun id => Nat.ble m0.length id || (boxVars vs).contains id || dead.contains id) with
          | false => rw [htc] at hm; exact hm.elim
          | true =>
            rw [htc] at hm
            simp only [cond_true] at hm
            unfold loopIn at hm
            split at hm
            · rename_i y hy
              cases hdc : (distinct (idsVars (endSt s' l) vs) && (idsVars (endSt s' l) vs).all fun id => Nat.ble m0.length id || dead.contains id) with
              | false => rw [hdc] at hm; exact hm.elim
              | true =>
                rw [hdc] at hm
                simp only [cond_true] at hm
                have hyx := hQ y hm
                subst hyx
                simp only [Bool.and_eq_true] at hdc
                obtain ⟨us, hrun, hus⟩ := run_resAll h3 hl
                have hlu := hus.len
                let a2 : Act := { tmps := us.toArray, defers := [] }
                have hrel2 : Rel E w (Own ρ (memOf m0)) N a2 w' (endSt s' l) ρ' N' := by
                  refine ⟨fun t sv hl2 => ?_, h3.mr, rfl, h3.since, h3.own, h3.glob, h3.nn⟩
                  have e0 : (endSt s' l).slots = ((l.map fun p => SV.v p.1 p.2).zipIdx.map fun x => (x.2, x.1)) := by
                    simp only [endSt, List.zipIdx_map, List.map_map]
                    rfl
                  rw [e0, look_zip] at hl2
                  simp only [Nat.zero_le, if_true, Nat.sub_zero, List.getElem?_map] at hl2
                  cases hlt : l[t]? with
                  | none => rw [hlt] at hl2; cases hl2
                  | some p =>
                    rw [hlt] at hl2
                    simp only [Option.map_some, Option.some.injEq] at hl2
                    subst hl2
                    obtain ⟨u, hu, hr⟩ := hus.get t hlt
                    have : us.toArray.getD t undef = u := by rw [Array.getD_eq_getD_getElem?]; simp [hu]
                    show SVR w' N' ρ' s'.obj (.v p.1 p.2) (us.toArray.getD t undef)
                    rw [this]
                    exact hr
                have hll : l.length = f.results.size := by
                  have : ∀ {rs : List ResultVar} {l : List (Bool × List C)}, resAll E s' rs = some l → l.length = rs.length := by
                    intro rs
                    induction rs with
                    | nil => intro l h; simp only [resAll, Option.some.injEq] at h; subst h; rfl
                    | cons r rs ih =>
                      intro l h
                      simp only [resAll] at h
                      split at h
                      · rename_i p l' e1 e2
                        simp only [Option.some.injEq] at h
                        subst h
                        simp [ih e2]
                      · cases h
                  have := this hl
                  simpa using this
                have htch : ∀ id ∈ s'.tch, m0.length ≤ id ∨ id ∈ boxVars vs ∨ id ∈ dead := fun id hid => by
                  have := List.all_eq_true.1 htc id hid
                  simp only [Bool.or_eq_true, Nat.ble_eq] at this
                  rcases this with (h8 | h8) | h8
                  · exact .inl h8
                  · exact .inr (.inl (by simpa using h8))
                  · exact .inr (.inr (by simpa using h8))
                obtain ⟨g1, g2, ρ2, g3, g4⟩ := head_ok hrel2 (s := { slots := [], mem := m0, next := m0.length, tch := [] }) (ds := []) (dead := dead) hy hdc.1
                  (fun t _ ht => by
                    have e0 : (endSt s' l).slots = ((l.map fun p => SV.v p.1 p.2).zipIdx.map fun x => (x.2, x.1)) := by
                      simp only [endSt, List.zipIdx_map, List.map_map]
                      rfl
                    rw [e0, look_zip]
                    simp only [Nat.zero_le, if_true, Nat.sub_zero]
                    rw [hsv] at ht
                    rw [List.getElem?_eq_none (by simp only [List.length_map, hll]; simpa using ht)]
                    rfl)
                  (fun id (hid : id < m0.length) hb hd => (h6.obj id hid fun hc => (htch id hc).elim (fun h8 => absurd hid (Nat.not_lt.2 h8)) fun h8 => h8.elim hb hd))
                  (fun i hi => by
                    have := List.all_eq_true.1 hdc.2 i hi
                    simp only [Bool.or_eq_true, Nat.ble_eq] at this
                    rcases this with h8 | h8
                    · exact .inr h8
                    · exact .inl (by simpa using h8))
                  ⟨(fun t sv h => by cases h), fun id o ho => hmi id o ho⟩ hbx
                have hobj : (loopHead { slots := [], mem := m0, next := m0.length, tch := [] } [] dead vs y).obj = memOf ((outOf vs dead y m0).2 ++ m0) := by
                  rfl
                have hres : (results f a'.tmps).run E.P w' = .ok (if h : us.toArray.size = 1 then us.toArray[0] else .tuple us.toArray) w' := by
                  have e : results f a'.tmps = (f.results.mapM (m := Sem) fun r => match r with | .tmp t => Pure.pure (a'.tmps.getD t undef) | .cell b T => do loadVar T (← asAddr (a'.tmps.getD b undef))) >>= fun vs => Pure.pure (if h : vs.size = 1 then vs[0] else .tuple vs) := rfl
                  rw [e, Array.mapM_eq_mapM_toList]
                  simp only [Sem.run_bind, Sem.run_map, hrun]
                  rfl
                refine ⟨h3.defers, _, hres, _, ρ2, N', rfl, fun n hn => by rw [g4 n hn, h6.pl n hn], h5, by rw [← hobj]; exact g3.mr, ?_, g3.since, fun b hb => by rw [← hobj] at hb; exact g3.own b hb, g3.nn⟩
                -- the results
                rw [← hobj]
                have hall : All2 (fun (p : Bool × List C) u => VR w' N' ρ2 (loopHead { slots := [], mem := m0, next := m0.length, tch := [] } [] dead vs y).obj p.1 p.2 u)
                    ((slotVars vs).map fun t => match look (putVars vs y m0.length).slots t with
                      | some (.v a cs) => (a, cs)
                      | _ => (false, [])) us := by
                  rw [hsv]
                  have hul : us.length = f.results.size := by omega
                  rw [← hul]
                  have hkey : ∀ t, t < us.length → ∃ ag cs, look (putVars vs y m0.length).slots t = some (.v ag cs) ∧ VR w' N' ρ2 (loopHead { slots := [], mem := m0, next := m0.length, tch := [] } [] dead vs y).obj ag cs (us.getD t undef) := by
                    intro t ht
                    obtain ⟨_, _, _, _, hs2, _⟩ := vars_ok hrel2 m0.length hy hdc.1
                    have hts : t ∈ slotVars vs := by rw [hsv]; simpa [hul] using ht
                    cases hq : look (putVars vs y m0.length).slots t with
                    | none => exact absurd hq ((hs2 t).2 hts)
                    | some sv =>
                      obtain ⟨ag, cs, rfl⟩ := slots_v hq
                      refine ⟨ag, cs, rfl, ?_⟩
                      have hsl := g3.slots t (.v ag cs) (by rw [head_slot]; simp only [hq])
                      have e : a2.tmps.getD t undef = us.getD t undef := by
                        show us.toArray.getD t undef = _
                        rw [Array.getD_eq_getD_getElem?]; simp [List.getD]
                      rw [e] at hsl
                      exact hsl
                  clear hrun hus hlu hrel2 hres hul hy hdc
                  have gen : ∀ (us : List Value) (k : Nat) (F : Nat → Bool × List C), (∀ t, t < us.length → VR w' N' ρ2 (loopHead { slots := [], mem := m0, next := m0.length, tch := [] } [] dead vs y).obj (F (k + t)).1 (F (k + t)).2 (us.getD t undef)) → All2 (fun (p : Bool × List C) u => VR w' N' ρ2 (loopHead { slots := [], mem := m0, next := m0.length, tch := [] } [] dead vs y).obj p.1 p.2 u) ((List.range' k us.length).map F) us := by
                    intro us
                    induction us with
                    | nil => intro k F _; exact .nil
                    | cons u us ih =>
                      intro k F hF
                      rw [List.length_cons, List.range'_succ, List.map_cons]
                      refine .cons (by simpa [List.getD] using hF 0 (by simp)) (ih (k + 1) F fun t ht => ?_)
                      have := hF (t + 1) (by simp; omega)
                      rw [show k + (t + 1) = k + 1 + t by omega] at this
                      simpa [List.getD] using this
                  rw [List.range_eq_range']
                  refine gen us 0 _ fun t ht => ?_
                  obtain ⟨ag, cs, e1, e2⟩ := hkey t ht
                  simp only [Nat.zero_add, e1]
                  exact e2
                show SVR _ _ _ _ (resSV _) _
                generalize ((slotVars vs).map fun t => match look (putVars vs y m0.length).slots t with
                      | some (.v a cs) => (a, cs)
                      | _ => (false, [])) = rl at hall
                cases hall with
                | nil => exact ⟨[], rfl, .nil⟩
                | @cons p u rl us h8 h9 =>
                  cases h9 with
                  | nil =>
                    obtain ⟨ag, cs⟩ := p
                    exact h8
                  | @cons p2 u2 rl us h10 h11 =>
                    refine ⟨u :: u2 :: us, ?_, .cons h8 (.cons h10 h11)⟩
                    rw [dif_neg (by simp)]
            · exact hm.elim
        · exact hm.elim
      cases ex with
      | normal =>
        simp only [exOf, Option.some.injEq] at h1
        subst h1
        exact main h2
      | ret =>
        simp only [exOf, Option.some.injEq] at h1
        subst h1
        exact main h2
      | exit id =>
        simp only [exOf, Option.some.injEq] at h1
        subst h1
        exact h2.elim
      | goto l => cases h1
      | panic ch => cases h1
      | outgrown => cases h1

end
end Go.Proofs.Ytoalcmpjfnlkdaa
