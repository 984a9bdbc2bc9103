/- THE MACHINE OF READINGS, part X: code. -/
import Derived.Test.YtoalcmpjfnlkdaaEW
namespace Go.Proofs.Ytoalcmpjfnlkdaa
open Go.RowKit

theorem look_filter {α : Type} (q : Nat → Bool) : ∀ (l : List (Nat × α)) (t : Nat), look (l.filter fun p => q p.1) t = if q t = true then look l t else none
  | [], t => by simp [look]
  | (k, v) :: l, t => by
    rw [look_cons]
    by_cases hk : k = t
    · subst hk
      by_cases hq : q k = true
      · simp only [List.filter_cons, hq, if_true, look_cons]
      · simp only [List.filter_cons, hq, Bool.false_eq_true, if_false]
        rw [look_filter q l k]
        simp [hq]
    · rw [if_neg hk]
      by_cases hq : q k = true
      · simp only [List.filter_cons, hq, if_true, look_cons, if_neg hk]
        exact look_filter q l t
      · simp only [List.filter_cons, hq, Bool.false_eq_true, if_false]
        exact look_filter q l t

section
variable {E : Env} {w0 : World} {X Z : Blk} {a : Act} {w w' : World} {s s1 : St} {ρ1 ρ ρ' : Nat → Pl} {N N' : Blk} {m m1 m' : Mem}

theorem head_obj {s : St} {ds dead : List Nat} {vs : List Var} {x : denVars vs} (id : Nat) : (loopHead s ds dead vs x).obj id = match look (putVars vs x s.next).mem id with
    | some o => o
    | none => if id ∈ dead then none else s.obj id := by
  show (look ((putVars vs x s.next).mem ++ (dead.map fun id => (id, (none : Option Obj))) ++ s.mem) id).getD none = _
  rw [List.append_assoc, look_append, look_append, look_dead]
  cases look (putVars vs x s.next).mem id with
  | some o => rfl
  | none =>
    simp only
    by_cases hd : id ∈ dead
    · simp [hd]
    · simp [hd]; rfl

theorem head_slot {s : St} {ds dead : List Nat} {vs : List Var} {x : denVars vs} (t : Nat) : look (loopHead s ds dead vs x).slots t = match look (putVars vs x s.next).slots t with
    | some v => some v
    | none => if t ∉ ds ∧ t ∉ slotVars vs then look s.slots t else none := by
  show look ((putVars vs x s.next).slots ++ s.slots.filter (fun p => !(ds.contains p.1) && !((slotVars vs).contains p.1))) t = _
  rw [look_append, look_filter (fun k => !(ds.contains k) && !((slotVars vs).contains k))]
  cases look (putVars vs x s.next).slots t with
  | some v => rfl
  | none =>
    simp only
    by_cases h1 : t ∈ ds <;> by_cases h2 : t ∈ slotVars vs <;> simp [h1, h2]

/-- The relation of states at a round's head. -/
theorem head_ok (h : Rel E w0 X Z a w s1 ρ1 N) {s : St} {ds dead : List Nat} {vs : List Var} {x : denVars vs} (hr : readVars s1 vs = some x) (hd : distinct (idsVars s1 vs) = true)
    (hslot : ∀ t, t ∉ ds → t ∉ slotVars vs → look s1.slots t = look s.slots t) (hobj : ∀ id, id < s.next → id ∉ boxVars vs → id ∉ dead → s1.obj id = s.obj id)
    (hsrc : ∀ i ∈ idsVars s1 vs, i ∈ dead ∨ s.next ≤ i) (hwf : WFm s.sem s.next) (hbx : ∀ id ∈ boxVars vs, id < s.next) :
    WFm (loopHead s ds dead vs x).sem (loopHead s ds dead vs x).next ∧ s.next ≤ (loopHead s ds dead vs x).next ∧ ∃ ρ', Rel E w0 X Z a w (loopHead s ds dead vs x) ρ' N ∧ ∀ id, id < s.next → ρ' id = ρ1 id := by
  obtain ⟨hle, pl, src, hT, hs2, hm2, hb2, hws, hwm, hk⟩ := vars_ok h s.next hr hd
  have hnx : (loopHead s ds dead vs x).next = (putVars vs x s.next).next := rfl
  let ρ' : Nat → Pl := fun id => if s.next ≤ id ∧ id < (putVars vs x s.next).next then pl id else ρ1 id
  let m' := (loopHead s ds dead vs x).obj
  have hm' : ∀ id, m' id = match look (putVars vs x s.next).mem id with
    | some o => o
    | none => if id ∈ dead then none else s.obj id := fun id => head_obj id
  have hlow : ∀ id, id < s.next → ρ' id = ρ1 id := fun id hid => by simp only [ρ']; rw [if_neg (by omega)]
  obtain ⟨hsl, hmm⟩ := hk ρ' m' (fun id h1 h2 => by simp only [ρ']; rw [if_pos ⟨h1, h2⟩]) (fun id hid => hlow id (hbx id hid)) (fun id t ys h1 h2 hmi => by
    rw [hm'] at hmi
    cases hq : look (putVars vs x s.next).mem id with
    | some o => rw [hq] at hmi; simp only at hmi; rw [hmi]
    | none =>
      rw [hq] at hmi
      simp only at hmi
      split at hmi
      · cases hmi
      · have := (hwf.2 id _ hmi).1; omega) hbx
  -- objects that are kept
  have hkept : ∀ id o, m' id = some o → look (putVars vs x s.next).mem id = none → s1.obj id = some o ∧ id < s.next ∧ id ∉ dead ∧ id ∉ boxVars vs ∧ s.obj id = some o := by
    intro id o hmi hl
    rw [hm', hl] at hmi
    simp only at hmi
    split at hmi
    · cases hmi
    · rename_i hnd
      have h1 := (hwf.2 id o hmi).1
      have h2 : id ∉ boxVars vs := fun hc => (hb2 id hc).1 hl
      exact ⟨by rw [hobj id h1 h2 hnd]; exact hmi, h1, hnd, h2, hmi⟩
  have ht : Turn ρ1 s1.obj ρ' m' (fun id => s.next ≤ id ∧ id < (putVars vs x s.next).next) := by
    refine ⟨fun id hid => by simp only [ρ']; rw [if_neg hid], fun id t xs hid hmi => ?_⟩
    cases hq : look (putVars vs x s.next).mem id with
    | some o =>
      have hmi' := hmi
      rw [hm', hq] at hmi'
      simp only at hmi'
      subst hmi'
      rcases hm2 id _ hq with ⟨g1, g2, _⟩ | ⟨_, cs, e⟩
      · exact absurd ⟨g1, g2⟩ hid
      · simp at e
    | none => exact ⟨xs, (hkept id _ hmi hq).1, rfl⟩
  -- places that are held
  have hheld : ∀ id o, m' id = some o → Holds (ρ' id) o → ∃ i o2, s1.obj i = some o2 ∧ Holds (ρ1 i) o2 ∧ (ρ1 i).A = (ρ' id).A ∧
      ((s.next ≤ id ∧ id < (putVars vs x s.next).next ∧ 0 < (pl id).cap ∧ i = src id ∧ i ∈ idsVars s1 vs) ∨ (i = id ∧ id < s.next ∧ (i ∈ idsVars s1 vs → False))) := by
    intro id o hmi hh
    cases hq : look (putVars vs x s.next).mem id with
    | some o' =>
      have hmi' := hmi
      rw [hm', hq] at hmi'
      simp only at hmi'
      subst hmi'
      rcases hm2 id _ hq with ⟨g1, g2, t, ys, e⟩ | ⟨g1, cs, e⟩
      · simp only [Option.some.injEq] at e
        subst e
        have hp : ρ' id = pl id := by simp only [ρ']; rw [if_pos ⟨g1, g2⟩]
        rw [hp] at hh ⊢
        obtain ⟨a1, a2, t', xs', a3⟩ := hT.was id g1 g2 hh
        exact ⟨src id, _, a3, by rw [← a2]; exact hh, by rw [a2], .inl ⟨g1, g2, hh, rfl, a1⟩⟩
      · simp only [Option.some.injEq] at e
        subst e
        obtain ⟨cs', hcs'⟩ := (hb2 id g1).2
        refine ⟨id, _, hcs', trivial, by rw [hlow id (hbx id g1)], .inr ⟨rfl, hbx id g1, fun hin => ?_⟩⟩
        -- a box is no row
        have rowsrc : ∀ {vs : List Var} {i : Nat}, i ∈ idsVars s1 vs → ∀ {x : denVars vs}, readVars s1 vs = some x → ∃ t, ∃ xs : List (Ty.den t), s1.obj i = some (.row t xs) := by
          have kk : ∀ {own : Bool} {t : Ty} {c : C} {i : Nat} {y : kden own t}, i ∈ kId own c → kRead s1.obj own t c = some y → ∃ t, ∃ xs : List (Ty.den t), s1.obj i = some (.row t xs) := by
            intro own t c i y hi hy
            cases own with
            | false => simp [kId] at hi
            | true =>
              cases c with
              | hs j =>
                simp only [kId, List.mem_singleton] at hi
                subst hi
                simp only [kRead, aElems] at hy
                split at hy
                · rename_i t' xs' hm0; exact ⟨t', xs', hm0⟩
                · cases hy
              | _ => simp [kId] at hi
          have cc : ∀ {ks : List (Bool × Ty)} {cs : List C} {i : Nat} {y : denCells ks}, i ∈ idsCells ks cs → readCells s1.obj ks cs = some y → ∃ t, ∃ xs : List (Ty.den t), s1.obj i = some (.row t xs) := by
            intro ks
            induction ks with
            | nil => intro cs i y hi _; simp [idsCells] at hi
            | cons k ks ih =>
              intro cs i y hi hy
              obtain ⟨own, t⟩ := k
              cases cs with
              | nil => simp [idsCells] at hi
              | cons c cs =>
                simp only [idsCells, List.mem_append] at hi
                simp only [readCells] at hy
                split at hy
                · rename_i y1 y2 e1 e2
                  rcases hi with hi | hi
                  · exact kk hi e1
                  · exact ih hi e2
                · cases hy
          intro vs
          induction vs with
          | nil => intro i hi; simp [idsVars] at hi
          | cons v vs ih =>
            intro i hi x hx
            cases v with
            | slot t0 own t =>
              simp only [readVars] at hx
              split at hx
              · rename_i c hsl'
                simp only [idsVars, hsl', List.mem_append] at hi
                split at hx
                · rename_i y1 y2 e1 e2
                  rcases hi with hi | hi
                  · exact kk hi e1
                  · exact ih hi e2
                · cases hx
              · cases hx
            | agg t0 ks =>
              simp only [readVars] at hx
              split at hx
              · rename_i cs0 hsl'
                simp only [idsVars, hsl', List.mem_append] at hi
                split at hx
                · rename_i y1 y2 e1 e2
                  rcases hi with hi | hi
                  · exact cc hi e1
                  · exact ih hi e2
                · cases hx
              · cases hx
            | box id0 ks =>
              simp only [readVars] at hx
              split at hx
              · rename_i cs0 hob'
                simp only [idsVars, hob', List.mem_append] at hi
                split at hx
                · rename_i y1 y2 e1 e2
                  rcases hi with hi | hi
                  · exact cc hi e1
                  · exact ih hi e2
                · cases hx
              · cases hx
        obtain ⟨t, xs, hrow⟩ := rowsrc hin hr
        rw [hcs'] at hrow
        cases hrow
    | none =>
      obtain ⟨g1, g2, g3, g4, _⟩ := hkept id o hmi hq
      rw [hlow id g2] at hh ⊢
      refine ⟨id, o, g1, hh, rfl, .inr ⟨rfl, g2, fun hin => ?_⟩⟩
      rcases hsrc id hin with h5 | h5
      · exact g3 h5
      · omega
  have hown : ∀ b, Own ρ' m' b → Own ρ1 s1.obj b := by
    rintro b ⟨id, o, hmi, hh, hA⟩
    obtain ⟨i, o2, e1, e2, e3, _⟩ := hheld id o hmi hh
    exact ⟨i, o2, e1, e2, by rw [e3]; exact hA⟩
  have hmr : MR w N ρ' m' := by
    refine ⟨fun id o hmi => ?_, fun id id' o1 o2 e1 e2 hh1 hh2 hA => ?_, fun b hb ho => h.mr.nown b hb (hown b ho), h.mr.nlt⟩
    · cases hq : look (putVars vs x s.next).mem id with
      | some o' =>
        have hmi' := hmi
        rw [hm', hq] at hmi'
        simp only at hmi'
        subst hmi'
        obtain ⟨ob, e1, e2⟩ := hmm id _ hq
        simp only [Option.some.injEq] at e1
        subst e1
        exact e2
      | none =>
        obtain ⟨g1, g2, g3, g4, g5⟩ := hkept id o hmi hq
        exact (h.mr.obj id o g1).turn ht (fun _ h => h) (fun _ _ => rfl) (by omega) (fun i hi hF => by have := (hwf.2 id o g5).2 i hi; omega) fun _ _ _ => rfl
    · obtain ⟨i1, q1, a1, a2, a3, a4⟩ := hheld id o1 e1 hh1
      obtain ⟨i2, q2, b1, b2, b3, b4⟩ := hheld id' o2 e2 hh2
      have hii := h.mr.inj i1 i2 q1 q2 a1 b1 a2 b2 (by rw [a3, b3, hA])
      rcases a4 with ⟨c1, c2, c3, c4, c5⟩ | ⟨c1, c2, c3⟩ <;> rcases b4 with ⟨d1, d2, d3, d4, d5⟩ | ⟨d1, d2, d3⟩
      · exact hT.inj id id' c1 c2 d1 d2 c3 d3 (by rw [← c4, ← d4, hii])
      · exfalso; rw [hii] at c5; exact d3 c5
      · exfalso; rw [← hii] at d5; exact c3 d5
      · rw [← c1, ← d1, hii]
  have hfin : Rel E w0 X Z a w (loopHead s ds dead vs x) ρ' N := by
    refine ⟨fun t sv hl => ?_, hmr, h.defers, h.since, fun b hb => h.own b (hown b hb), h.glob, h.nn⟩
    rw [head_slot] at hl
    cases hq : look (putVars vs x s.next).slots t with
    | some v =>
      rw [hq] at hl
      simp only [Option.some.injEq] at hl
      subst hl
      exact hsl t v hq
    | none =>
      rw [hq] at hl
      simp only at hl
      split at hl
      · rename_i hc
        have hl1 : look s1.slots t = some sv := by rw [hslot t hc.1 hc.2]; exact hl
        exact (h.slots t sv hl1).turn ht (fun _ h => h) (fun _ _ => rfl) fun id hid hF => by have := hwf.1 t sv hl id hid; omega
      · cases hl
  refine ⟨⟨fun t sv hl id hid => ?_, fun id o hl => ?_⟩, by rw [hnx]; exact hle, ρ', hfin, hlow⟩
  · have hl : look (loopHead s ds dead vs x).slots t = some sv := hl
    rw [head_slot] at hl
    rw [hnx]
    cases hq : look (putVars vs x s.next).slots t with
    | some v =>
      rw [hq] at hl
      simp only [Option.some.injEq] at hl
      subst hl
      exact hws t v hq id hid
    | none =>
      rw [hq] at hl
      simp only at hl
      split at hl
      · have := hwf.1 t sv hl id hid; omega
      · cases hl
  · have hl' : m' id = some o := hl
    rw [hnx]
    cases hq : look (putVars vs x s.next).mem id with
    | some o' =>
      have hmi' := hl'
      rw [hm', hq] at hmi'
      simp only at hmi'
      subst hmi'
      refine ⟨?_, hwm id o hq⟩
      rcases hm2 id _ hq with ⟨g1, g2, _⟩ | ⟨g1, _⟩
      · exact g2
      · have := hbx id g1; omega
    | none =>
      obtain ⟨_, g2, _, _, g5⟩ := hkept id o hl' hq
      refine ⟨by omega, fun i hi => ?_⟩
      have := (hwf.2 id o g5).2 i hi
      omega

end
end Go.Proofs.Ytoalcmpjfnlkdaa
