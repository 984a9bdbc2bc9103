/- THE MACHINE OF READINGS, part P: a call by contract, proved. -/
import Derived.Test.YtoalcmpjfnlkdaaEO
namespace Go.Proofs.Ytoalcmpjfnlkdaa
open Go.RowKit

section
variable {E : Env} {w0 : World} {X Z : Blk} {a : Act} {w w' : World} {s : St} {ρ ρ' : Nat → Pl} {N N' : Blk} {m m' : Mem}

theorem memOf_some {l : List (Nat × Option Obj)} {n : Nat} {o : Obj} (h : memOf l n = some o) : look l n = some (some o) := by
  unfold memOf at h
  cases hl : look l n with
  | none => simp [hl] at h
  | some x => simp [hl] at h; rw [h]

theorem memOf_append {l r : List (Nat × Option Obj)} {n : Nat} {o : Option Obj} (h : look l n = some o) : memOf (l ++ r) n = o := by
  unfold memOf
  rw [look_append, h]
  rfl

theorem renO_row {f : Nat → Option Nat} {o : Obj} {t : Ty} {xs : List t.den} (h : renO f o = some (.row t xs)) : o = .row t xs := by
  cases o with
  | box cs =>
    simp only [renO] at h
    cases hc : renCs f cs with
    | none => simp [hc] at h
    | some x => simp [hc] at h
  | row t' ys => simpa [renO] using h

theorem renO_holds {f : Nat → Option Nat} {o o' : Obj} {p : Pl} (h : renO f o = some o') : Holds p o ↔ Holds p o' := by
  cases o with
  | box cs =>
    simp only [renO] at h
    cases hc : renCs f cs with
    | none => simp [hc] at h
    | some x => simp only [hc, Option.map_some, Option.some.injEq] at h; subst h; exact Iff.rfl
  | row t' ys => simp only [renO, Option.some.injEq] at h; subst h; exact Iff.rfl

theorem ObjR.sub {id : Nat} {o : Obj} (h : ObjR w N ρ m id o) (hN : ∀ b, N b → N' b) : ObjR w N' ρ m id o :=
  h.turn (F := fun _ => False) (.same rfl rfl) hN (fun _ _ => rfl) (fun h => h) (fun _ _ h => h) fun _ _ _ => rfl

theorem SVR.sub {sv : SV} {v : Value} (h : SVR w N ρ m sv v) (hN : ∀ b, N b → N' b) : SVR w N' ρ m sv v :=
  h.turn (F := fun _ => False) (.same rfl rfl) hN (fun _ _ => rfl) (fun _ _ h => h)

/-- there and back -/
theorem renCaps_back {f g : Nat → Option Nat} (hfg : ∀ i j, f i = some j → g j = some i) : ∀ {l l' : List (Nat × Nat)}, renCaps f l = some l' → renCaps g l' = some l
  | [], l', h => by simp only [renCaps, Option.some.injEq] at h; subst h; rfl
  | (id, off) :: l, l', h => by
    simp only [renCaps] at h
    split at h
    · rename_i i r e1 e2
      simp only [Option.some.injEq] at h
      subst h
      simp only [renCaps, hfg _ _ e1, renCaps_back hfg e2]
    · cases h
theorem renC_back {f g : Nat → Option Nat} (hfg : ∀ i j, f i = some j → g j = some i) {c c' : C} (h : renC f c = some c') : renC g c' = some c := by
  cases c with
  | hs id =>
    simp only [renC] at h
    cases hf : f id with
    | none => simp [hf] at h
    | some j => simp only [hf, Option.map_some, Option.some.injEq] at h; subst h; simp [renC, hfg _ _ hf]
  | pt id off =>
    simp only [renC] at h
    cases hf : f id with
    | none => simp [hf] at h
    | some j => simp only [hf, Option.map_some, Option.some.injEq] at h; subst h; simp [renC, hfg _ _ hf]
  | pr id i off =>
    simp only [renC] at h
    cases hf : f id with
    | none => simp [hf] at h
    | some j => simp only [hf, Option.map_some, Option.some.injEq] at h; subst h; simp [renC, hfg _ _ hf]
  | fn k caps =>
    simp only [renC] at h
    cases hf : renCaps f caps with
    | none => simp [hf] at h
    | some j => simp only [hf, Option.map_some, Option.some.injEq] at h; subst h; simp [renC, renCaps_back hfg hf]
  | _ => simp only [renC, Option.some.injEq] at h; subst h; rfl
theorem renCs_back {f g : Nat → Option Nat} (hfg : ∀ i j, f i = some j → g j = some i) : ∀ {l l' : List C}, renCs f l = some l' → renCs g l' = some l
  | [], l', h => by simp only [renCs, Option.some.injEq] at h; subst h; rfl
  | c :: l, l', h => by
    simp only [renCs] at h
    split at h
    · rename_i c' r e1 e2
      simp only [Option.some.injEq] at h
      subst h
      simp only [renCs, renC_back hfg e1, renCs_back hfg e2]
    · cases h
theorem renO_back {f g : Nat → Option Nat} (hfg : ∀ i j, f i = some j → g j = some i) {o o' : Obj} (h : renO f o = some o') : renO g o' = some o := by
  cases o with
  | box cs =>
    simp only [renO] at h
    cases hf : renCs f cs with
    | none => simp [hf] at h
    | some j => simp only [hf, Option.map_some, Option.some.injEq] at h; subst h; simp [renO, renCs_back hfg hf]
  | row t xs => simp only [renO, Option.some.injEq] at h; subst h; rfl

/-- The heart: behind the contract the caller's relation goes on. -/
theorem call_back (h : Rel E w0 X Z a w s ρ N) (hm : ∀ id ob, m id = some ob → s.obj id = some ob) {dst : Option Tmp} (hd : ∀ d, dst = some d → d < a.tmps.size) {nx : Nat} (hf : ∀ k, k < 8 → Fresh s (nx + k))
    {ids lent : List Nat} {m0 m1 u : List (Nat × Option Obj)} {r r' : SV} {obs' : List Prop} (hids : distinct ids = true)
    (hm0 : memFor m (fun id => numAt id 0 ids) ids 0 = some m0) (hta : turnAll m1 m0 = some obs') (hob' : ∀ p ∈ obs', p) (hr' : renS (back ids nx) r = some r') (hu : memBack (back ids nx) m1 = some u)
    (hflat : lent = [] ∨ (flatS r = true ∧ (∀ n o, look m1 n = some o → flatO o = true) ∧ ∀ n o, look m0 n = some o → flatO o = true))
    {ρc : Nat → Pl} (hρc : ∀ n id, ids[n]? = some id → ρc n = ρ id) {v : Value} {ρ2 : Nat → Pl} {N2 : Blk}
    (h1 : ∀ n, n < m0.length → ρ2 n = ρc n) (h2 : ∀ b, (N b ∨ Gone ρ s.obj lent b) → N2 b) (h3 : MR w' N2 ρ2 (memOf (m1 ++ m0))) (h4 : SVR w' N2 ρ2 (memOf (m1 ++ m0)) r v) (h5 : Since w (Own ρc (memOf m0)) w')
    (h6 : ∀ b, Own ρ2 (memOf (m1 ++ m0)) b → Own ρc (memOf m0) b ∨ w.heap.size ≤ b) (h7 : ∀ b, N2 b → (N b ∨ Gone ρ s.obj lent b) ∨ w.heap.size ≤ b ∨ Own ρc (memOf m0) b) :
    ∃ ρ' N', (∀ id, ¬ (nx ≤ id ∧ id < nx + 8) → ρ' id = ρ id) ∧ (∀ b, N b → N' b) ∧ SameOn N w w' ∧ Rel E w0 X Z (a.put dst v) w' (s.put dst ⟨r', u⟩) ρ' N' := by
  obtain ⟨hlen, hlook⟩ := memFor_look (ids := ids) hm0
  have hobj : ∀ id ∈ ids, ∃ o, s.obj id = some o := by
    intro id hid
    obtain ⟨n, hn, rfl⟩ := List.getElem_of_mem hid
    obtain ⟨o1, ho1⟩ := (hlook n).2 (by omega) (by omega)
    obtain ⟨_, id', o, o2, e1, e2, _⟩ := (hlook n).1 _ ho1
    simp only [Nat.sub_zero, List.getElem?_eq_getElem hn, Option.some.injEq] at e1
    subst e1
    exact ⟨o, hm _ o e2⟩
  have hnF : ∀ id, (nx ≤ id ∧ id < nx + 8) → Fresh s id := by
    intro id hid
    have := hf (id - nx) (by omega)
    rw [show nx + (id - nx) = id by omega] at this
    exact this
  have hidsF : ∀ id ∈ ids, ¬ (nx ≤ id ∧ id < nx + 8) := by
    intro id hid hF
    obtain ⟨o, ho⟩ := hobj id hid
    rw [(hnF id hF).2.2] at ho
    cases ho
  have hinj := back_inj (nx := nx) hids fun id hid => by have := hidsF id hid; omega
  let ρ' : Nat → Pl := fun id => if nx ≤ id ∧ id < nx + 8 then ρ2 (ids.length + (id - nx)) else ρ id
  let N' : Blk := fun b => N b ∨ (N2 b ∧ (w.heap.size ≤ b ∨ Own ρc (memOf m0) b))
  let m' := (s.put dst ⟨r', u⟩).obj
  have hm' : ∀ id, m' id = match look u id with
    | some o => o
    | none => s.obj id := fun id => St.obj_put s dst ⟨r', u⟩ id
  -- what goes in, by its number
  have hin : ∀ n o1, look m0 n = some (some o1) → ∃ id o, ids[n]? = some id ∧ s.obj id = some o ∧ renO (fun id => numAt id 0 ids) o = some o1 := by
    intro n o1 hn
    obtain ⟨_, id, o, o2, e1, e2, e3, e4⟩ := (hlook n).1 _ hn
    simp only [Option.some.injEq] at e4
    subst e4
    exact ⟨id, o, by simpa using e1, hm id o e2, e3⟩
  have hback : ∀ n id, back ids nx n = some id → (n < ids.length ∧ ids[n]? = some id) ∨ (ids.length ≤ n ∧ n < ids.length + 8 ∧ id = nx + (n - ids.length)) := by
    intro n id hb
    unfold back at hb
    split at hb
    · rename_i hn; exact .inl ⟨hn, hb⟩
    · split at hb
      · simp only [Option.some.injEq] at hb; exact .inr ⟨by omega, by omega, hb.symm⟩
      · cases hb
  have hpl : ∀ n id, back ids nx n = some id → ρ' id = ρ2 n := by
    intro n id hb
    rcases hback n id hb with ⟨hn, e⟩ | ⟨hn, hn2, rfl⟩
    · have := hidsF id (List.mem_of_getElem? e)
      simp only [ρ', if_neg this]
      rw [h1 n (by omega), hρc n id e]
    · simp only [ρ']
      rw [if_pos (by omega)]
      congr 1; omega
  -- the objects behind the call
  have hnb : ∀ i j, numAt i 0 ids = some j → back ids nx j = some i := by
    intro i j hij
    have hg := numAt_get hij
    have := (List.getElem?_eq_some_iff.1 hg).1
    unfold back
    rw [if_pos this]; exact hg
  have hcase : ∀ id o, m' id = some o → (∃ n o2, back ids nx n = some id ∧ memOf (m1 ++ m0) n = some o2 ∧ (look m1 n = some (some o2) ∨ (look m1 n = none ∧ look m0 n = some (some o2))) ∧ renO (back ids nx) o2 = some o) ∨ (s.obj id = some o ∧ id ∉ ids ∧ ¬ (nx ≤ id ∧ id < nx + 8)) := by
    intro id o hmo
    rw [hm'] at hmo
    cases hl : look u id with
    | some x =>
      rw [hl] at hmo
      simp only at hmo
      subst hmo
      obtain ⟨n, hn⟩ := memBack_keys hu id _ hl
      obtain ⟨g1, g2, g3⟩ := memBack_look hu hinj n id hn
      left
      cases hl1 : look m1 n with
      | none => rw [g1 hl1] at hl; cases hl
      | some y =>
        cases y with
        | none => rw [g2 hl1] at hl; cases hl
        | some o2 =>
          obtain ⟨o', e1, e2⟩ := g3 o2 hl1
          rw [e2] at hl
          simp only [Option.some.injEq] at hl
          subst hl
          exact ⟨n, o2, hn, memOf_append hl1, .inl hl1, e1⟩
    | none =>
      rw [hl] at hmo
      simp only at hmo
      by_cases hid : id ∈ ids
      · left
        obtain ⟨n, hn, rfl⟩ := List.getElem_of_mem hid
        have hb : back ids nx n = some ids[n] := by unfold back; rw [if_pos hn, List.getElem?_eq_getElem hn]
        obtain ⟨o1, ho1⟩ := (hlook n).2 (by omega) (by omega)
        obtain ⟨g1, g2, g3⟩ := memBack_look hu hinj n _ hb
        have hl1 : look m1 n = none := by
          cases hl1 : look m1 n with
          | none => rfl
          | some o' => cases o' with
            | none => rw [g2 hl1] at hl; cases hl
            | some o' => obtain ⟨_, _, e⟩ := g3 o' hl1; rw [e] at hl; cases hl
        obtain ⟨id2, o3, e1, e2, e3⟩ := hin n o1 ho1
        rw [List.getElem?_eq_getElem hn] at e1
        simp only [Option.some.injEq] at e1
        subst e1
        rw [hmo] at e2
        simp only [Option.some.injEq] at e2
        subst e2
        refine ⟨n, o1, hb, ?_, .inr ⟨hl1, ho1⟩, renO_back hnb e3⟩
        unfold memOf
        rw [look_append, hl1, ho1]
        rfl
      · refine .inr ⟨hmo, hid, fun hF => ?_⟩
        rw [(hnF id hF).2.2] at hmo; cases hmo
  have hren : RenOk (back ids nx) ρ2 (memOf (m1 ++ m0)) ρ' m' := by
    intro n id hb
    refine ⟨hpl n id hb, fun t xs hmo => ?_⟩
    rcases hcase id _ hmo with ⟨n2, o2, hb2, hl2, _, hr2⟩ | ⟨hso, hni, hnf⟩
    · have := hinj n n2 id hb hb2
      subst this
      have := renO_row hr2
      subst this
      exact hl2
    · rcases hback n id hb with ⟨hn, e⟩ | ⟨hn, hn2, rfl⟩
      · exact absurd (List.mem_of_getElem? e) hni
      · exact absurd (by omega) hnf
  -- blocks that went in
  have hownc : ∀ b, Own ρc (memOf m0) b → ∃ id ∈ ids, ∃ o, s.obj id = some o ∧ Holds (ρ id) o ∧ (ρ id).A = some ⟨b, 0, none⟩ := by
    rintro b ⟨n, o1, hmo, hh, hA⟩
    obtain ⟨id, o, e1, e2, e3⟩ := hin n o1 (memOf_some hmo)
    rw [hρc n id e1] at hh hA
    exact ⟨id, List.mem_of_getElem? e1, o, e2, (renO_holds e3).2 hh, hA⟩
  have hownc' : ∀ b, Own ρc (memOf m0) b → Own ρ s.obj b := fun b hb => let ⟨id, _, o, h1, h2, h3⟩ := hownc b hb; ⟨id, o, h1, h2, h3⟩
  have hout : ∀ id o b, s.obj id = some o → id ∉ ids → Holds (ρ id) o → (ρ id).A = some ⟨b, 0, none⟩ → ¬ Own ρc (memOf m0) b := by
    intro id o b hso hni hh hA hb
    obtain ⟨id2, hi2, o2, e1, e2, e3⟩ := hownc b hb
    have := h.mr.inj id id2 o o2 hso e1 hh e2 (by rw [hA, e3])
    subst this
    exact hni hi2
  have hheld : ∀ id o b, m' id = some o → Holds (ρ' id) o → (ρ' id).A = some ⟨b, 0, none⟩ → (∃ n o2, back ids nx n = some id ∧ memOf (m1 ++ m0) n = some o2 ∧ Holds (ρ2 n) o2 ∧ (ρ2 n).A = some ⟨b, 0, none⟩) ∨ (s.obj id = some o ∧ id ∉ ids ∧ Holds (ρ id) o ∧ (ρ id).A = some ⟨b, 0, none⟩) := by
    intro id o b hmo hh hA
    rcases hcase id o hmo with ⟨n, o2, hb, hl, _, hro⟩ | ⟨hso, hni, hnf⟩
    · rw [hpl n id hb] at hh hA
      exact .inl ⟨n, o2, hb, hl, (renO_holds hro).2 hh, hA⟩
    · simp only [ρ', if_neg hnf] at hh hA
      exact .inr ⟨hso, hni, hh, hA⟩
  have hNN : ∀ b, N b → N' b := fun b hb => .inl hb
  have hkeep : ∀ b, b < w.heap.size → ¬ Own ρc (memOf m0) b → w'.heap[b]? = w.heap[b]? := fun b hb ho => h5.keep b hb ho
  have hs : SameOn N w w' := fun b hb => hkeep b (h.mr.nlt b hb) fun ho => h.mr.nown b hb (hownc' b ho)
  have hsub : lent = [] → ∀ b, N2 b → N' b := by
    intro hl b hb
    rcases h7 b hb with (h8 | ⟨id, hid, _⟩) | h8
    · exact .inl h8
    · rw [hl] at hid; cases hid
    · exact .inr ⟨hb, h8⟩
  have ht : Turn ρ s.obj ρ' m' (fun id => nx ≤ id ∧ id < nx + 8) := by
    refine ⟨fun id hid => by simp only [ρ', if_neg hid], fun id t xs hid hmo => ?_⟩
    rcases hcase id _ hmo with ⟨n, o2, hb, _, hl, hro⟩ | ⟨hso, _, _⟩
    · have := renO_row hro
      subst this
      rcases hback n id hb with ⟨hn, e⟩ | ⟨hn, hn2, rfl⟩
      · obtain ⟨o1, ho1⟩ := (hlook n).2 (by omega) (by omega)
        obtain ⟨id2, o3, e1, e2, e3⟩ := hin n o1 ho1
        rw [e] at e1
        simp only [Option.some.injEq] at e1
        subst e1
        rcases hl with hl | ⟨_, hl⟩
        · have hk := turnAll_look hta hob' n o1 ho1 _ hl
          cases o1 with
          | box _ => exact hk.elim
          | row t2 ys =>
            have := renO_row e3
            subst this
            obtain ⟨rfl, hle⟩ := hk
            exact ⟨ys, e2, hle.symm⟩
        · rw [ho1] at hl
          simp only [Option.some.injEq] at hl
          subst hl
          have := renO_row e3
          subst this
          exact ⟨xs, e2, rfl⟩
      · exact absurd (by omega) hid
    · exact ⟨xs, hso, rfl⟩
  have hmr : MR w' N' ρ' m' := by
    refine ⟨fun id o hmo => ?_, fun id id' o1 o2 e1 e2 hh1 hh2 hA => ?_, fun b hb ho => ?_, fun b hb => ?_⟩
    · rcases hcase id o hmo with ⟨n, o2, hb, hl, hl2, hro⟩ | ⟨hso, hni, hnf⟩
      · have ho2 := h3.obj n o2 hl
        have ho3 : ObjR w' N' ρ2 (memOf (m1 ++ m0)) n o2 := by
          rcases hflat with hl0 | ⟨_, hfl, hfl0⟩
          · exact ho2.sub (hsub hl0)
          · rcases hl2 with hl2 | ⟨_, hl2⟩
            · exact ho2.flat (hfl n _ hl2)
            · exact ho2.flat (hfl0 n _ hl2)
        exact ho3.ren hren hb hro
      · refine (h.mr.obj id o hso).turn ht hNN hs hnf (fun i hi hF => (hnF i hF).2.1 id o hso hi) fun b hA hh => ?_
        exact hkeep b (own_lt h.mr ⟨id, o, hso, hh, hA⟩) (hout id o b hso hni hh hA)
    · have hA1 : ∃ b, (ρ' id).A = some ⟨b, 0, none⟩ := by
        have place : ∀ {n : Nat} {o : Obj} {w : World} {N : Blk} {ρ : Nat → Pl} {m : Mem}, ObjR w N ρ m n o → Holds (ρ n) o → ∃ b, (ρ n).A = some ⟨b, 0, none⟩ := by
          intro n o w N ρ m ho hh
          cases o with
          | box cs => obtain ⟨b, _, _, hb, _⟩ := ho; exact ⟨b, hb⟩
          | row t xs => obtain ⟨b, _, _, hb, _⟩ := ho.2 hh; exact ⟨b, hb⟩
        rcases hcase id o1 e1 with ⟨n, o3, hb, hl, _, hro⟩ | ⟨hso, hni, hnf⟩
        · rw [hpl n id hb] at hh1 ⊢
          exact place (h3.obj n o3 hl) ((renO_holds hro).2 hh1)
        · simp only [ρ', if_neg hnf] at hh1 ⊢
          exact place (h.mr.obj id o1 hso) hh1
      obtain ⟨b, hb⟩ := hA1
      have hb2 : (ρ' id').A = some ⟨b, 0, none⟩ := by rw [← hA]; exact hb
      rcases hheld id o1 b e1 hh1 hb with ⟨n, q, g1, g2, g3, g4⟩ | ⟨g1, g2, g3, g4⟩ <;> rcases hheld id' o2 b e2 hh2 hb2 with ⟨n', q', g1', g2', g3', g4'⟩ | ⟨g1', g2', g3', g4'⟩
      · have := h3.inj n n' q q' g2 g2' g3 g3' (by rw [g4, g4'])
        subst this
        rw [g1] at g1'
        exact Option.some.inj g1'
      · exfalso
        rcases h6 b ⟨n, q, g2, g3, g4⟩ with h8 | h8
        · exact hout id' o2 b g1' g2' g3' g4' h8
        · have := own_lt h.mr ⟨id', o2, g1', g3', g4'⟩; omega
      · exfalso
        rcases h6 b ⟨n', q', g2', g3', g4'⟩ with h8 | h8
        · exact hout id o1 b g1 g2 g3 g4 h8
        · have := own_lt h.mr ⟨id, o1, g1, g3, g4⟩; omega
      · exact h.mr.inj id id' o1 o2 g1 g1' g3 g3' (by rw [g4, g4'])
    · obtain ⟨id, o, hmo, hh, hA⟩ := ho
      rcases hheld id o b hmo hh hA with ⟨n, q, g1, g2, g3, g4⟩ | ⟨g1, g2, g3, g4⟩
      · have hn2 : N2 b := by
          rcases hb with hb | hb
          · exact h2 b (.inl hb)
          · exact hb.1
        exact h3.nown b hn2 ⟨n, q, g2, g3, g4⟩
      · rcases hb with hb | ⟨_, hb | hb⟩
        · exact h.mr.nown b hb ⟨id, o, g1, g3, g4⟩
        · have := own_lt h.mr ⟨id, o, g1, g3, g4⟩; omega
        · exact hout id o b g1 g2 g3 g4 hb
    · rcases hb with hb | hb
      · have := h.mr.nlt b hb; have := h5.size; omega
      · exact h3.nlt b hb.1
  have hres : SVR w' N' ρ' m' r' v := by
    have : SVR w' N' ρ2 (memOf (m1 ++ m0)) r v := by
      rcases hflat with hl0 | ⟨hfr, _⟩
      · exact h4.sub (hsub hl0)
      · exact h4.flat hfr
    exact this.ren hren hr'
  refine ⟨ρ', N', fun id hid => by simp only [ρ', if_neg hid], hNN, hs, h.put hd hnF ht hNN hs hres hmr ?_ (fun b hb => ?_) fun b hb => ?_⟩
  · refine ⟨h5.os.trans h.since.os, h5.tape.trans h.since.tape, h5.output.trans h.since.output, Nat.le_trans h.since.size h5.size, fun b hb hx => ?_⟩
    rw [hkeep b (by have := h.since.size; omega) fun ho => ?_]
    · exact h.since.keep b hb hx
    · rcases h.own b (hownc' b ho) with h8 | h8
      · exact hx h8
      · omega
  · obtain ⟨id, o, hmo, hh, hA⟩ := hb
    rcases hheld id o b hmo hh hA with ⟨n, q, g1, g2, g3, g4⟩ | ⟨g1, g2, g3, g4⟩
    · rcases h6 b ⟨n, q, g2, g3, g4⟩ with h8 | h8
      · exact h.own b (hownc' b h8)
      · exact .inr (by have := h.since.size; omega)
    · exact h.own b ⟨id, o, g1, g3, g4⟩
  · rcases hb with hb | ⟨_, hb | hb⟩
    · exact h.nn b hb
    · exact .inr (.inl (by have := h.since.size; omega))
    · rcases h.own b (hownc' b hb) with h8 | h8
      · exact .inr (.inr h8)
      · exact .inr (.inl h8)

end
end Go.Proofs.Ytoalcmpjfnlkdaa
