/- THE MACHINE OF READINGS, part S: a region in the order of its text, carried out. -/
import Derived.Test.YtoalcmpjfnlkdaaER
namespace Go.Proofs.Ytoalcmpjfnlkdaa
open Go.RowKit

/-- all numbers below a bound -/
def WFm (z : Sm) (B : Nat) : Prop := (∀ t sv, z.sl t = some sv → ∀ id ∈ idsS sv, id < B) ∧ ∀ id o, z.ob id = some o → id < B ∧ ∀ i ∈ idsO o, i < B

theorem belowC_ids {n : Nat} {cs : List C} (h : belowC n cs = true) : ∀ id ∈ idsCs cs, id < n := by
  intro id hid
  obtain ⟨c, hc, hi⟩ := List.mem_flatMap.1 hid
  have := List.all_eq_true.1 h c hc
  exact allBlt.1 this id hi
theorem belowS_ids {n : Nat} {sv : SV} (h : belowS n sv = true) : ∀ id ∈ idsS sv, id < n := by
  cases sv with
  | un => intro id hid; cases hid
  | v ag cs => exact belowC_ids h
  | tup vs =>
    intro id hid
    obtain ⟨p, hp, hi⟩ := List.mem_flatMap.1 hid
    exact belowC_ids (List.all_eq_true.1 h p hp) id hi
theorem look_mem {α : Type} : ∀ {l : List (Nat × α)} {i : Nat} {x : α}, look l i = some x → (i, x) ∈ l
  | [], _, _, h => by simp [look] at h
  | (k, v) :: l, i, x, h => by
    rw [look_cons] at h
    split at h
    · rename_i e; subst e; simp only [Option.some.injEq] at h; subst h; simp
    · exact List.mem_cons_of_mem _ (look_mem h)
theorem belowE_upd {n : Nat} {e : Eff} (h : belowE n e = true) : (∀ id ∈ idsS e.res, id < n) ∧ ∀ id x, look e.upd id = some x → id < n ∧ ∀ o, x = some o → ∀ i ∈ idsO o, i < n := by
  unfold belowE at h
  simp only [Bool.and_eq_true] at h
  refine ⟨belowS_ids h.1, fun id x hl => ?_⟩
  have := List.all_eq_true.1 h.2 _ (look_mem hl)
  simp only [Bool.and_eq_true, Nat.blt_eq] at this
  refine ⟨this.1, fun o ho => ?_⟩
  subst ho
  cases o with
  | box cs => exact belowC_ids this.2
  | row t xs => intro i hi; cases hi

theorem WFm.put {z : Sm} {B B' : Nat} {dst : Option Tmp} {e : Eff} (h : WFm z B) (hB : B ≤ B') (he : belowE B' e = true) : WFm (z.put dst e) B' := by
  obtain ⟨h1, h2⟩ := belowE_upd he
  refine ⟨fun t sv hl id hid => ?_, fun id o hl => ?_⟩
  · simp only [Sm.put] at hl
    cases dst with
    | none => have := h.1 t sv hl id hid; omega
    | some d =>
      simp only at hl
      split at hl
      · simp only [Option.some.injEq] at hl; subst hl; exact h1 id hid
      · have := h.1 t sv hl id hid; omega
  · simp only [Sm.put] at hl
    cases hu : look e.upd id with
    | some x =>
      rw [hu] at hl
      simp only at hl
      obtain ⟨h3, h4⟩ := h2 id x hu
      exact ⟨h3, h4 o hl⟩
    | none =>
      rw [hu] at hl
      obtain ⟨h3, h4⟩ := h.2 id o hl
      exact ⟨by omega, fun i hi => by have := h4 i hi; omega⟩

theorem WFm.fresh {s : St} {B id : Nat} (h : WFm s.sem B) (hid : B ≤ id) : Fresh s id := by
  refine ⟨fun t sv hl hin => ?_, fun id' o ho hin => ?_, ?_⟩
  · have := h.1 t sv hl id hin; omega
  · have := (h.2 id' o ho).2 id hin; omega
  · cases ho : s.obj id with
    | none => rfl
    | some o => have := (h.2 id o ho).1; omega

section
variable {E : Env} {w0 : World} {X Z : Blk} {a : Act} {w w' : World} {s s' : St} {ρ ρ' : Nat → Pl} {N N' : Blk} {m m' : Mem}

theorem put_size (a : Act) (d : Option Tmp) (v : Value) : (a.put d v).tmps.size = a.tmps.size := by
  cases d <;> simp [Act.put]

theorem upd_look {u : List (Nat × Option Obj)} {id : Nat} (h : id ∉ u.map (·.1)) : look u id = none := by
  cases hl : look u id with
  | none => rfl
  | some o => exact absurd (List.mem_map.2 ⟨_, look_mem hl, rfl⟩) h

/-- A region in the order of its text, out of the evaluator. -/
theorem text_ok (hE : E.Ok) {ops : Array Oper} {n : Nat} {K : St → List Step → Prop} {Q : Exit → Act → World → Prop} : ∀ (l : List Oper) (k : Nat) (s : St) (tr : List Step) (a : Act) (w : World) (ρ : Nat → Pl) (N : Blk),
    (∀ p ∈ l.zipIdx k, ops[p.2]? = some p.1) → aRegion E ops false K (l.zipIdx k) s tr → (∀ o ∈ l, ∀ d, o.dst = some d → d < n) → a.tmps.size = n →
    Rel E w0 X Z a w s ρ N → WFm s.sem (s.next + k * maxIds) →
    (∀ a' w' s' ρ' N' tr', K s' tr' → Rel E w0 X Z a' w' s' ρ' N' → s'.next = s.next → WFm s'.sem (s.next + (k + l.length) * maxIds) → (∀ id, id < s.next → ρ' id = ρ id) → (∀ b, N b → N' b) → a'.tmps.size = n →
      (∀ x ∈ s.tch, x ∈ s'.tch) → (∀ id, id ∉ s'.tch → s'.obj id = s.obj id) → (∀ t, (∀ o ∈ l, o.dst ≠ some t ∧ ∀ g want, o.guard = some (g, want) → (ops[g]?).bind (·.dst) ≠ some t) → look s'.slots t = look s.slots t) → Q .normal a' w') →
    wpOps E.P ops Q (List.range' k l.length) a w
  | [], k, s, tr, a, w, ρ, N, _, hr, _, hn, h, hwf, hQ => hQ a w s ρ N tr hr h rfl (by simpa using hwf) (fun _ _ => rfl) (fun _ h => h) hn (fun _ h => h) (fun _ _ => rfl) (fun _ _ => rfl)
  | o :: l, k, s, tr, a, w, ρ, N, hops, hr, hd, hn, h, hwf, hQ => by
    simp only [List.length_cons, List.range'_succ]
    rw [wpOps_cons]
    have hok : ops[k]? = some o := hops (o, k) (by simp)
    rw [List.zipIdx_cons] at hr
    -- behind the first operation
    have go : ∀ (s1 : St) (e : Eff) (v : Value) (w1 : World) (ρ1 : Nat → Pl) (N1 : Blk) (tr1 : List Step), s1.sem = s.sem → s1.next = s.next → s1.tch = s.tch →
        (∀ t, (∀ g want, o.guard = some (g, want) → (ops[g]?).bind (·.dst) ≠ some t) → look s1.slots t = look s.slots t) → belowE (s.next + (k + 1) * maxIds) e = true →
        aRegion E ops false K (l.zipIdx (k + 1)) (s1.put o.dst e) tr1 → (∀ id, id < s.next → ρ1 id = ρ id) → (∀ b, N b → N1 b) → Rel E w0 X Z (a.put o.dst v) w1 (s1.put o.dst e) ρ1 N1 →
        wpOps E.P ops Q (List.range' (k + 1) l.length) (a.put o.dst v) w1 := by
      intro s1 e v w1 ρ1 N1 tr1 hsem hnext htch hlook hbe hreg hρ hN hrel
      have hnx : (s1.put o.dst e).next = s.next := hnext
      have hobj : ∀ id, id ∉ e.upd.map (·.1) → (s1.put o.dst e).obj id = s.obj id := by
        intro id hid
        rw [St.obj_put, upd_look hid]
        exact congrArg (fun z => z.ob id) hsem
      refine text_ok hE l (k + 1) _ tr1 _ _ _ _ (fun p hp => hops p (by rw [List.zipIdx_cons]; exact List.mem_cons_of_mem _ hp)) hreg (fun o' ho' => hd o' (List.mem_cons_of_mem _ ho')) (by rw [put_size]; exact hn) hrel ?_ ?_
      · rw [sem_put, hsem, hnx]
        exact hwf.put (by rw [Nat.add_mul]; omega) hbe
      · intro a' w' s' ρ' N' tr' g1 g2 g3 g4 g5 g6 g7 g8 g9 g10
        rw [hnx] at g3 g4 g5
        refine hQ a' w' s' ρ' N' tr' g1 g2 g3 (by rw [List.length_cons, show k + (l.length + 1) = k + 1 + l.length by omega]; exact g4) (fun id hid => by rw [g5 id hid, hρ id hid]) (fun b hb => g6 b (hN b hb)) g7 (fun x hx => g8 x ?_) (fun id hid => ?_) (fun t ht => ?_)
        · show x ∈ e.upd.map (·.1) ++ s1.tch
          rw [htch]; exact List.mem_append_right _ hx
        · rw [g9 id hid]
          exact hobj id fun hc => hid (g8 id (List.mem_append_left _ hc))
        · rw [g10 t fun o' ho' => ht o' (List.mem_cons_of_mem _ ho')]
          have h8 := ht o List.mem_cons_self
          show look (match o.dst with | some d => (d, e.res) :: s1.slots | none => s1.slots) t = _
          cases hdst : o.dst with
          | none => exact hlook t h8.2
          | some d =>
            simp only
            rw [look_cons, if_neg (fun e => h8.1 (by simp only [hdst, e]))]
            exact hlook t h8.2
    have hdo : ∀ d, o.dst = some d → d < a.tmps.size := fun d hdd => by rw [hn]; exact hd o List.mem_cons_self d hdd
    rcases region_step hr with ⟨s1, ids, e, hsem, hnext, htch, hlook, hen, hb, hreg⟩ | ⟨_, s1, b, m, hsem, hnext, htch, hlook, hg, hnt, hreg1, hreg2⟩
    · have h1 : Rel E w0 X Z a w s1 ρ N := h.sem hsem.symm
      have hen1 : EnOk E ops s.next false s1.sem ⟨k, o, ids, e⟩ := by rw [hsem]; exact hen
      refine entry_ok (n := ⟨k, o, ids, e⟩) h1 hE hok hen1 hdo (fun j hj => WFm.fresh (B := s.next + k * maxIds) (by rw [hsem]; exact hwf) (Nat.le_add_right _ _)) fun v w' ρ' N' g1 g2 g3 => ?_
      exact go s1 e v w' ρ' N' _ hsem hnext htch hlook hb.low hreg (fun id hid => g1 id (by have : 0 ≤ k * maxIds := Nat.zero_le _; simp only; omega)) g2 g3
    · have h1 : Rel E w0 X Z a w s1 ρ N := h.sem hsem.symm
      have hnt1 : nilTest E.P s1 o.op = some (b, m) := by
        have hget : s1.get = s.get := by rw [← sem_get, ← sem_get, hsem]
        have hobj : s1.obj = s.obj := congrArg Sm.ob hsem
        unfold nilTest at hnt ⊢
        rw [hget, hobj]; exact hnt
      have hg1 : GuardOk ops s1.sem o := by rw [hsem]; exact hg
      rcases nil_ok h1 hnt1 with ⟨h0, hp⟩ | hp
      · exact entry_pure h1 hok hg1 hp hdo fun v w' ρ' N' g1 g2 g3 => go s1 _ v w' ρ' N' _ hsem hnext htch hlook rfl (hreg1 h0) (fun id _ => g1 id) g2 g3
      · exact entry_pure h1 hok hg1 hp hdo fun v w' ρ' N' g1 g2 g3 => go s1 _ v w' ρ' N' _ hsem hnext htch hlook rfl hreg2 (fun id _ => g1 id) g2 g3

end
end Go.Proofs.Ytoalcmpjfnlkdaa
