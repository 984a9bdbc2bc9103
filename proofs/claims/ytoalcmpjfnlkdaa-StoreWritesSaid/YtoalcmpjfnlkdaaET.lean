/- THE MACHINE OF READINGS, part T: a region that draws its order. -/
import Derived.Test.YtoalcmpjfnlkdaaES
namespace Go.Proofs.Ytoalcmpjfnlkdaa
open Go.RowKit

section
variable {E : Env} {w0 : World} {X Z : Blk} {a : Act} {w w' : World} {s s' : St} {ρ ρ' : Nat → Pl} {N N' : Blk} {m m' : Mem}

theorem partsC_congr {g g' : Operand → SV} : ∀ {ps : List (Nat × Operand)}, (∀ p ∈ ps, g p.2 = g' p.2) → partsC g ps = partsC g' ps
  | [], _ => rfl
  | (i, x) :: ps, h => by
    simp only [partsC]
    rw [h (i, x) (by simp), partsC_congr (ps := ps) fun p hp => h p (by simp [hp])]

theorem map_congr' {g g' : Operand → SV} {l : List Operand} (h : ∀ x ∈ l, g x = g' x) : l.map g = l.map g' := List.map_congr_left h

theorem aop_congr {nx : Nat} {g g' : Operand → SV} {op : Op} (h : ∀ x ∈ op.operands, g x = g' x) : aop E m nx g op = aop E m nx g' op := by
  cases op <;> simp only [Op.operands] at h <;> simp only [aop]
  case move x => rw [h x (by simp)]
  case assign x => rw [h x (by simp)]
  case box T x => rw [h x (by simp)]
  case build T ps => rw [partsC_congr fun p hp => h p.2 (by simp only [List.mem_toArray, List.mem_map]; exact ⟨p, hp, rfl⟩)]
  case buildSlice T n ps => rw [partsC_congr fun p hp => h p.2 (by simp only [List.mem_toArray, List.mem_map]; exact ⟨p, hp, rfl⟩)]
  case load T x => rw [h x (by simp)]
  case store T x y => rw [h x (by simp), h y (by simp)]
  case nilCheck x => rw [h x (by simp)]
  case binOp op T x y T' => rw [h x (by simp), h y (by simp)]
  case unOp op T x => cases op <;> first | rfl | (simp only; rw [h x (by simp)])
  case convert S D x => rw [h x (by simp)]
  case makeFunc f first cs => cases f <;> first | rfl | (simp only; rw [map_congr' (g := g) (g' := g') (l := cs.toList) fun x hx => h x (by simp at hx ⊢; exact Or.inr hx)])
  case slice T x lo hi mx =>
    rw [h x (by simp)]
    have e1 : lo.map g = lo.map g' := by cases lo with | none => rfl | some y => simp only [Option.map_some]; rw [h y (by simp)]
    have e2 : hi.map g = hi.map g' := by cases hi with | none => rfl | some y => simp only [Option.map_some]; rw [h y (by simp)]
    have e3 : mx.map g = mx.map g' := by cases mx with | none => rfl | some y => simp only [Option.map_some]; rw [h y (by simp)]
    rw [e1, e2, e3]
  case fieldAddr T x f => rw [h x (by simp)]
  case field T x f => rw [h x (by simp)]
  case indexAddr T x i => rw [h x (by simp), h i (by simp)]
  case index T x i => rw [h x (by simp), h i (by simp)]
  case extract x i => rw [h x (by simp)]
  case call c =>
    have ha : ∀ x ∈ c.args.toList, g x = g' x := fun x hx => h x (by simp only [Call.operands, Array.mem_append]; exact Or.inr (by simpa using hx))
    have e := map_congr' ha
    split
    · split
      · rename_i x T Ts hx hT
        rw [ha x (by rw [hx]; simp)]
      · rfl
    · split
      · rename_i x y T T' hx hT
        rw [ha x (by rw [hx]; simp), ha y (by rw [hx]; simp)]
      · rfl
    · rw [e]
    · rw [e]
    · rename_i f hc
      have hf : g f = g' f := h f (by simp [Call.operands, hc])
      rw [hf, e]
    · rfl

theorem only_congr {ids : List Nat} {m m' : Mem} (h : ∀ id ∈ ids, m id = m' id) : only ids m = only ids m' := by
  funext id
  unfold only
  split
  · rename_i hc; exact h id (by simpa using hc)
  · rfl

theorem tmp_looksAt {ops : Array Oper} {o : Oper} {t : Nat} (h : Operand.tmp t ∈ o.op.operands) : t ∈ o.looksAt ops :=
  List.mem_append_left _ (List.mem_filterMap.2 ⟨.tmp t, by simpa using h, rfl⟩)

theorem EnOk.congr {ops : Array Oper} {base : Nat} {z z' : Sm} {n : En} (h : EnOk E ops base true z n) (hs : ∀ t ∈ n.o.looksAt ops, z'.slot t = z.slot t) (ho : ∀ id ∈ n.ids, z'.ob id = z.ob id) : EnOk E ops base true z' n := by
  have hg : ∀ {g want c}, n.o.guard = some (g, want) → (ops[g]?).bind (·.dst) = some c → z'.slot c = z.slot c := by
    intro g want c hg hc
    refine hs c (List.mem_append_right _ ?_)
    rw [hg]
    simp [hc]
  have hx : ∀ x ∈ n.o.op.operands, z'.get x = z.get x := by
    intro x hx
    cases x with
    | tmp t => exact hs t (tmp_looksAt hx)
    | _ => rfl
  rcases h with ⟨g, want, c, h1, h2, h3, h4⟩ | ⟨h1, h2⟩
  · left
    exact ⟨g, want, c, h1, h2, by rw [hg h1 h2]; exact h3, h4⟩
  · right
    refine ⟨?_, ?_⟩
    · rcases h1 with h1 | ⟨g, want, c, h1, h3, h4⟩
      · exact .inl h1
      · exact .inr ⟨g, want, c, h1, h3, by rw [hg h1 h3]; exact h4⟩
    · rcases h2 with ⟨c, x, y, t, h3, h4, h5⟩ | ⟨obs, h3, h4⟩
      · left
        have hops : n.o.op.operands = #[.tmp c, x, y] := by rw [h3]; rfl
        refine ⟨c, x, y, t, h3, ?_, ?_⟩
        · have := hx (.tmp c) (by rw [hops]; simp)
          have h4' : z.get (.tmp c) = .v false [.bool t] := h4
          rw [h4'] at this
          exact this
        · rw [h5]
          have := hx (if t = true then x else y) (by rw [hops]; split <;> simp)
          rw [this]
      · right
        refine ⟨obs, h3, ?_⟩
        simp only [if_true] at h4 ⊢
        rw [only_congr ho, aop_congr hx]
        exact h4

/-- entries that are listed, in the order of the text -/
def appE : List En → (Nat → Bool) → Sm → Sm
  | [], _, z => z
  | n :: es, L, z => appE es L (if L n.i then z.put n.o.dst n.e else z)

theorem appE_append : ∀ (es fs : List En) (L : Nat → Bool) (z : Sm), appE (es ++ fs) L z = appE fs L (appE es L z)
  | [], _, _, _ => rfl
  | n :: es, fs, L, z => by simp only [List.cons_append, appE]; exact appE_append es fs L _

theorem chain_app {ops : Array Oper} {base : Nat} {draw : Bool} : ∀ {z z' : Sm} {es : List En}, Chain E ops base draw z es z' → z' = appE es (fun _ => true) z
  | _, _, _, .nil z => rfl
  | _, _, _, .cons _ hc => by simp only [appE, if_true]; exact chain_app hc

theorem chain_split {ops : Array Oper} {base : Nat} {draw : Bool} : ∀ {pre post : List En} {n : En} {z z' : Sm}, Chain E ops base draw z (pre ++ n :: post) z' → EnOk E ops base draw (appE pre (fun _ => true) z) n
  | [], post, n, z, z', h => by cases h with | cons h1 _ => exact h1
  | x :: pre, post, n, z, z', h => by
    cases h with
    | cons _ h2 => simp only [appE, if_true]; exact chain_split h2

theorem appE_congr {L L' : Nat → Bool} : ∀ {es : List En} {z : Sm}, (∀ e ∈ es, L e.i = L' e.i) → appE es L z = appE es L' z
  | [], _, _ => rfl
  | n :: es, z, h => by
    simp only [appE]
    rw [h n (by simp)]
    exact appE_congr fun e he => h e (by simp [he])

theorem appE_sl {t : Nat} {L L' : Nat → Bool} : ∀ {es : List En} {z z' : Sm}, (∀ e ∈ es, L e.i ≠ L' e.i → e.o.dst ≠ some t) → z.sl t = z'.sl t → (appE es L z).sl t = (appE es L' z').sl t
  | [], _, _, _, h => h
  | n :: es, z, z', hd, h => by
    simp only [appE]
    refine appE_sl (fun e he => hd e (by simp [he])) ?_
    have hn := hd n (by simp)
    have put_ne : ∀ {z : Sm}, n.o.dst ≠ some t → (z.put n.o.dst n.e).sl t = z.sl t := by
      intro z hne
      simp only [Sm.put]
      cases hq : n.o.dst with
      | none => rfl
      | some d => simp only; rw [if_neg]; intro e; exact hne (by rw [hq, e])
    have put_eq : (z.put n.o.dst n.e).sl t = (z'.put n.o.dst n.e).sl t := by
      simp only [Sm.put]
      cases n.o.dst with
      | none => exact h
      | some d => simp only; split <;> first | rfl | exact h
    cases h1 : L n.i <;> cases h2 : L' n.i
    · simpa using h
    · simp only [if_true, Bool.false_eq_true, if_false]; rw [put_ne (hn (by rw [h1, h2]; simp))]; exact h
    · simp only [if_true, Bool.false_eq_true, if_false]; rw [put_ne (hn (by rw [h1, h2]; simp))]; exact h
    · simpa using put_eq

theorem appE_ob {id : Nat} {L L' : Nat → Bool} : ∀ {es : List En} {z z' : Sm}, (∀ e ∈ es, L e.i ≠ L' e.i → look e.e.upd id = none) → z.ob id = z'.ob id → (appE es L z).ob id = (appE es L' z').ob id
  | [], _, _, _, h => h
  | n :: es, z, z', hd, h => by
    simp only [appE]
    refine appE_ob (fun e he => hd e (by simp [he])) ?_
    have hn := hd n (by simp)
    have put_ne : ∀ {z : Sm}, look n.e.upd id = none → (z.put n.o.dst n.e).ob id = z.ob id := by
      intro z hne
      simp only [Sm.put, hne]
    have put_eq : (z.put n.o.dst n.e).ob id = (z'.put n.o.dst n.e).ob id := by
      simp only [Sm.put]
      split <;> first | rfl | exact h
    cases h1 : L n.i <;> cases h2 : L' n.i
    · simpa using h
    · simp only [if_true, Bool.false_eq_true, if_false]; rw [put_ne (hn (by rw [h1, h2]; simp))]; exact h
    · simp only [if_true, Bool.false_eq_true, if_false]; rw [put_ne (hn (by rw [h1, h2]; simp))]; exact h
    · simpa using put_eq

theorem put_comm {z : Sm} {d d' : Option Tmp} {e e' : Eff} (hd : ∀ t, d = some t → d' ≠ some t) (hu : ∀ id, look e.upd id = none ∨ look e'.upd id = none) : (z.put d e).put d' e' = (z.put d' e').put d e := by
  unfold Sm.put
  congr 1
  · funext t
    cases d with
    | none => rfl
    | some d =>
      cases d' with
      | none => rfl
      | some d' =>
        have hne : d' ≠ d := fun h => hd d rfl (by rw [h])
        simp only
        by_cases h1 : d' = t
        · rw [if_pos h1, if_neg (fun h2 => hne (by rw [h1, h2])), if_pos h1]
        · rw [if_neg h1]
          by_cases h2 : d = t
          · rw [if_pos h2, if_pos h2]
          · rw [if_neg h2, if_neg h2, if_neg h1]
  · funext id
    rcases hu id with h | h
    · simp only [h]
    · simp only [h]

theorem appE_put {L : Nat → Bool} {n : En} : ∀ {es : List En} {z : Sm}, (∀ e ∈ es, L e.i = true → (∀ t, n.o.dst = some t → e.o.dst ≠ some t) ∧ ∀ id, look n.e.upd id = none ∨ look e.e.upd id = none) → appE es L (z.put n.o.dst n.e) = (appE es L z).put n.o.dst n.e
  | [], _, _ => rfl
  | x :: es, z, h => by
    simp only [appE]
    by_cases hx : L x.i = true
    · rw [if_pos hx, if_pos hx]
      obtain ⟨h1, h2⟩ := h x (by simp) hx
      rw [put_comm h1 h2]
      exact appE_put fun e he => h e (by simp [he])
    · rw [if_neg hx, if_neg hx]
      exact appE_put fun e he => h e (by simp [he])

/-- a number is named -/
def Named (z : Sm) (id : Nat) : Prop := (∃ t sv, z.sl t = some sv ∧ id ∈ idsS sv) ∨ ∃ i o, z.ob i = some o ∧ (id = i ∨ id ∈ idsO o)
def NamedE (e : Eff) (id : Nat) : Prop := id ∈ idsE e ∨ id ∈ e.upd.map (·.1)

theorem fresh_of {id : Nat} (h : ¬ Named s.sem id) : Fresh s id := by
  refine ⟨fun t sv hl hin => h (.inl ⟨t, sv, hl, hin⟩), fun i o ho hin => h (.inr ⟨i, o, ho, .inr hin⟩), ?_⟩
  cases ho : s.obj id with
  | none => rfl
  | some o => exact absurd (.inr ⟨id, o, ho, .inl rfl⟩) h

theorem named_put {z : Sm} {d : Option Tmp} {e : Eff} {id : Nat} (h : Named (z.put d e) id) : Named z id ∨ NamedE e id := by
  have hres : id ∈ idsS e.res → NamedE e id := by
    intro hin
    left
    unfold idsE
    refine List.mem_append_left _ ?_
    cases hr : e.res with
    | un => rw [hr] at hin; cases hin
    | v ag cs => rw [hr] at hin; exact hin
    | tup vs => rw [hr] at hin; exact hin
  rcases h with ⟨t, sv, hl, hin⟩ | ⟨i, o, ho, hin⟩
  · simp only [Sm.put] at hl
    cases d with
    | none => exact .inl (.inl ⟨t, sv, hl, hin⟩)
    | some d =>
      simp only at hl
      split at hl
      · simp only [Option.some.injEq] at hl; subst hl; exact .inr (hres hin)
      · exact .inl (.inl ⟨t, sv, hl, hin⟩)
  · simp only [Sm.put] at ho
    cases hu : look e.upd i with
    | none => rw [hu] at ho; exact .inl (.inr ⟨i, o, ho, hin⟩)
    | some x =>
      rw [hu] at ho
      simp only at ho
      subst ho
      have hm := look_mem hu
      right
      rcases hin with rfl | hin
      · right; exact List.mem_map.2 ⟨_, hm, rfl⟩
      · left
        unfold idsE
        refine List.mem_append_right _ (List.mem_flatMap.2 ⟨_, hm, ?_⟩)
        cases o with
        | box cs => exact hin
        | row t xs => cases hin

theorem named_app {L : Nat → Bool} {id : Nat} : ∀ {es : List En} {z : Sm}, Named (appE es L z) id → Named z id ∨ ∃ e ∈ es, L e.i = true ∧ NamedE e.e id
  | [], _, h => .inl h
  | n :: es, z, h => by
    simp only [appE] at h
    rcases named_app h with h | ⟨e, he, h1, h2⟩
    · by_cases hn : L n.i = true
      · rw [if_pos hn] at h
        rcases named_put h with h | h
        · exact .inl h
        · exact .inr ⟨n, by simp, hn, h⟩
      · rw [if_neg hn] at h; exact .inl h
    · exact .inr ⟨e, by simp [he], h1, h2⟩

theorem namedE_low {n : Nat} {e : Eff} {id : Nat} (hb : belowE n e = true) (h : NamedE e id) : id < n := by
  unfold belowE at hb
  simp only [Bool.and_eq_true] at hb
  rcases h with h | h
  · unfold idsE at h
    rcases List.mem_append.1 h with h | h
    · refine belowS_ids hb.1 id ?_
      cases hr : e.res with
      | un => rw [hr] at h; cases h
      | v ag cs => rw [hr] at h; exact h
      | tup vs => rw [hr] at h; exact h
    · obtain ⟨x, hx, hi⟩ := List.mem_flatMap.1 h
      have := List.all_eq_true.1 hb.2 x hx
      simp only [Bool.and_eq_true] at this
      obtain ⟨k, o⟩ := x
      cases o with
      | none => cases hi
      | some o => cases o with
        | box cs => exact belowC_ids this.2 id hi
        | row t xs => cases hi
  · obtain ⟨x, hx, rfl⟩ := List.mem_map.1 h
    have := List.all_eq_true.1 hb.2 x hx
    simp only [Bool.and_eq_true, Nat.blt_eq] at this
    exact this.1

theorem fine_pairs {ops : Array Oper} {base : Nat} : ∀ {l : List Step}, fine ops l = true → l.Pairwise fun x y => apartSteps ops x y = true
  | [], _ => .nil
  | x :: l, h => by
    simp only [fine, Bool.and_eq_true] at h
    exact .cons (fun y hy => List.all_eq_true.1 h.1 y hy) (fine_pairs (base := base) h.2)

end
end Go.Proofs.Ytoalcmpjfnlkdaa
