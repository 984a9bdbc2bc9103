/- THE MACHINE OF READINGS, part N: numbers of objects, renamed. -/
import Derived.Test.YtoalcmpjfnlkdaaEM
namespace Go.Proofs.Ytoalcmpjfnlkdaa
open Go.RowKit

section
variable {w w' : World} {ρ ρ' : Nat → Pl} {N N' : Blk} {m m' : Mem} {f : Nat → Option Nat}

/-- what a renaming asks of places and rows -/
def RenOk (f : Nat → Option Nat) (ρ : Nat → Pl) (m : Mem) (ρ' : Nat → Pl) (m' : Mem) : Prop :=
  ∀ i j, f i = some j → ρ' j = ρ i ∧ ∀ t xs, m' j = some (.row t xs) → m i = some (.row t xs)

theorem renCaps_ok (hr : RenOk f ρ m ρ' m') : ∀ {caps caps' : List (Nat × Nat)} {vs : List Value}, renCaps f caps = some caps' → All2 (fun (p : Nat × Nat) u => ∃ b, (ρ p.1).A = some ⟨b, 0, none⟩ ∧ u = .pointer (some ⟨b, p.2, none⟩)) caps vs →
    All2 (fun (p : Nat × Nat) u => ∃ b, (ρ' p.1).A = some ⟨b, 0, none⟩ ∧ u = .pointer (some ⟨b, p.2, none⟩)) caps' vs
  | [], _, _, he, h => by
    cases h
    simp only [renCaps, Option.some.injEq] at he
    subst he; exact .nil
  | (id, off) :: caps, _, _, he, h => by
    cases h with
    | cons h1 h2 =>
      simp only [renCaps] at he
      split at he
      · rename_i i l e1 e2
        simp only [Option.some.injEq] at he
        subst he
        obtain ⟨b, hb, hu⟩ := h1
        exact .cons ⟨b, by rw [(hr id i e1).1]; exact hb, hu⟩ (renCaps_ok hr e2 h2)
      · cases he

theorem CR.ren (hr : RenOk f ρ m ρ' m') {c c' : C} {v : Value} (he : renC f c = some c') (h : CR w N ρ m c v) : CR w N ρ' m' c' v := by
  cases c with
  | hs id =>
    simp only [renC] at he
    cases hf : f id with
    | none => simp [hf] at he
    | some j =>
      simp only [hf, Option.map_some, Option.some.injEq] at he
      subst he
      refine ⟨h.1, fun t xs hm => ?_⟩
      obtain ⟨h1, h2⟩ := hr id j hf
      rw [h1]
      exact h.2 t xs (h2 t xs hm)
  | pt id off =>
    simp only [renC] at he
    cases hf : f id with
    | none => simp [hf] at he
    | some j =>
      simp only [hf, Option.map_some, Option.some.injEq] at he
      subst he
      obtain ⟨b, hb, hv⟩ := h
      exact ⟨b, by rw [(hr id j hf).1]; exact hb, hv⟩
  | pr id i off =>
    simp only [renC] at he
    cases hf : f id with
    | none => simp [hf] at he
    | some j =>
      simp only [hf, Option.map_some, Option.some.injEq] at he
      subst he
      refine ⟨h.1, fun t xs hm => ?_⟩
      obtain ⟨h1, h2⟩ := hr id j hf
      rw [h1]
      exact h.2 t xs (h2 t xs hm)
  | fn g caps =>
    simp only [renC] at he
    cases hf : renCaps f caps with
    | none => simp [hf] at he
    | some l =>
      simp only [hf, Option.map_some, Option.some.injEq] at he
      subst he
      obtain ⟨vs, hv, ha⟩ := h
      exact ⟨vs, hv, renCaps_ok hr hf ha⟩
  | _ =>
    simp only [renC, Option.some.injEq] at he
    subst he
    exact h

theorem renCs_ok (hr : RenOk f ρ m ρ' m') : ∀ {cs cs' : List C} {vs : List Value}, renCs f cs = some cs' → All2 (CR w N ρ m) cs vs → All2 (CR w N ρ' m') cs' vs
  | [], _, _, he, h => by
    cases h
    simp only [renCs, Option.some.injEq] at he
    subst he; exact .nil
  | c :: cs, _, _, he, h => by
    cases h with
    | cons h1 h2 =>
      simp only [renCs] at he
      split at he
      · rename_i c' l e1 e2
        simp only [Option.some.injEq] at he
        subst he
        exact .cons (h1.ren hr e1) (renCs_ok hr e2 h2)
      · cases he

theorem VR.ren (hr : RenOk f ρ m ρ' m') {ag : Bool} {cs cs' : List C} {v : Value} (he : renCs f cs = some cs') (h : VR w N ρ m ag cs v) : VR w N ρ' m' ag cs' v := by
  cases ag with
  | true => obtain ⟨vs, hv, ha⟩ := h; exact ⟨vs, hv, renCs_ok hr he ha⟩
  | false =>
    obtain ⟨c, rfl, hc⟩ := h
    have := renCs_ok (vs := [v]) hr he (.cons hc .nil)
    cases this with
    | cons h1 h2 => cases h2; exact ⟨_, rfl, h1⟩

theorem renVs_ok (hr : RenOk f ρ m ρ' m') : ∀ {l l' : List (Bool × List C)} {vs : List Value}, renVs f l = some l' → All2 (fun (p : Bool × List C) u => VR w N ρ m p.1 p.2 u) l vs → All2 (fun (p : Bool × List C) u => VR w N ρ' m' p.1 p.2 u) l' vs
  | [], _, _, he, h => by
    cases h
    simp only [renVs, Option.some.injEq] at he
    subst he; exact .nil
  | (ag, cs) :: l, _, _, he, h => by
    cases h with
    | cons h1 h2 =>
      simp only [renVs] at he
      split at he
      · rename_i c' l e1 e2
        simp only [Option.some.injEq] at he
        subst he
        exact .cons (VR.ren hr e1 h1) (renVs_ok hr e2 h2)
      · cases he

theorem SVR.ren (hr : RenOk f ρ m ρ' m') {s s' : SV} {v : Value} (he : renS f s = some s') (h : SVR w N ρ m s v) : SVR w N ρ' m' s' v := by
  cases s with
  | un => simp only [renS, Option.some.injEq] at he; subst he; trivial
  | v ag cs =>
    simp only [renS] at he
    cases hc : renCs f cs with
    | none => simp [hc] at he
    | some cs' =>
      simp only [hc, Option.map_some, Option.some.injEq] at he
      subst he
      exact VR.ren hr hc h
  | tup l =>
    simp only [renS] at he
    cases hc : renVs f l with
    | none => simp [hc] at he
    | some l' =>
      simp only [hc, Option.map_some, Option.some.injEq] at he
      subst he
      obtain ⟨vs, hv, ha⟩ := h
      exact ⟨vs, hv, renVs_ok hr hc ha⟩

theorem renSs_ok (hr : RenOk f ρ m ρ' m') : ∀ {l l' : List SV} {vs : List Value}, renSs f l = some l' → All2 (SVR w N ρ m) l vs → All2 (SVR w N ρ' m') l' vs
  | [], _, _, he, h => by
    cases h
    simp only [renSs, Option.some.injEq] at he
    subst he; exact .nil
  | s :: l, _, _, he, h => by
    cases h with
    | cons h1 h2 =>
      simp only [renSs] at he
      split at he
      · rename_i c' l e1 e2
        simp only [Option.some.injEq] at he
        subst he
        exact .cons (h1.ren hr e1) (renSs_ok hr e2 h2)
      · cases he

theorem ObjR.ren (hr : RenOk f ρ m ρ' m') {i j : Nat} (hf : f i = some j) {o o' : Obj} (he : renO f o = some o') (h : ObjR w N ρ m i o) : ObjR w N ρ' m' j o' := by
  have hp := (hr i j hf).1
  cases o with
  | box cs =>
    simp only [renO] at he
    cases hc : renCs f cs with
    | none => simp [hc] at he
    | some cs' =>
      simp only [hc, Option.map_some, Option.some.injEq] at he
      subst he
      obtain ⟨b, vals, T, hA, hh, ha⟩ := h
      exact ⟨b, vals, T, by rw [hp]; exact hA, hh, renCs_ok hr hc ha⟩
  | row t xs =>
    simp only [renO, Option.some.injEq] at he
    subst he
    unfold ObjR at h ⊢
    simp only [hp]
    exact h

/- the numbers that a renaming leaves -/
theorem renCaps_ids {L : Nat} (hL : ∀ i j, f i = some j → j < L) : ∀ {caps caps' : List (Nat × Nat)}, renCaps f caps = some caps' → ∀ id ∈ caps'.map (·.1), id < L
  | [], _, he, id, hid => by
    simp only [renCaps, Option.some.injEq] at he
    subst he; cases hid
  | (i, off) :: caps, _, he, id, hid => by
    simp only [renCaps] at he
    split at he
    · rename_i j l e1 e2
      simp only [Option.some.injEq] at he
      subst he
      rcases List.mem_cons.1 hid with rfl | hid
      · exact hL i _ e1
      · exact renCaps_ids hL e2 id hid
    · cases he
theorem renC_ids {L : Nat} (hL : ∀ i j, f i = some j → j < L) {c c' : C} (he : renC f c = some c') : ∀ id ∈ idsC c', id < L := by
  intro id hid
  cases c with
  | hs i =>
    simp only [renC] at he
    cases hf : f i with
    | none => simp [hf] at he
    | some j =>
      simp only [hf, Option.map_some, Option.some.injEq] at he
      subst he
      simp only [idsC, List.mem_singleton] at hid
      subst hid; exact hL i _ hf
  | pt i off =>
    simp only [renC] at he
    cases hf : f i with
    | none => simp [hf] at he
    | some j =>
      simp only [hf, Option.map_some, Option.some.injEq] at he
      subst he
      simp only [idsC, List.mem_singleton] at hid
      subst hid; exact hL i _ hf
  | pr i k off =>
    simp only [renC] at he
    cases hf : f i with
    | none => simp [hf] at he
    | some j =>
      simp only [hf, Option.map_some, Option.some.injEq] at he
      subst he
      simp only [idsC, List.mem_singleton] at hid
      subst hid; exact hL i _ hf
  | fn g caps =>
    simp only [renC] at he
    cases hf : renCaps f caps with
    | none => simp [hf] at he
    | some l =>
      simp only [hf, Option.map_some, Option.some.injEq] at he
      subst he
      exact renCaps_ids hL hf id hid
  | _ =>
    simp only [renC, Option.some.injEq] at he
    subst he
    simp [idsC] at hid
theorem renCs_ids {L : Nat} (hL : ∀ i j, f i = some j → j < L) : ∀ {cs cs' : List C}, renCs f cs = some cs' → ∀ id ∈ idsCs cs', id < L
  | [], _, he, id, hid => by
    simp only [renCs, Option.some.injEq] at he
    subst he; simp [idsCs] at hid
  | c :: cs, _, he, id, hid => by
    simp only [renCs] at he
    split at he
    · rename_i c' l e1 e2
      simp only [Option.some.injEq] at he
      subst he
      simp only [idsCs, List.flatMap_cons, List.mem_append] at hid
      rcases hid with hid | hid
      · exact renC_ids hL e1 id hid
      · exact renCs_ids hL e2 id hid
    · cases he
theorem renS_ids {L : Nat} (hL : ∀ i j, f i = some j → j < L) {s s' : SV} (hs : ∀ l, s ≠ .tup l) (he : renS f s = some s') : ∀ id ∈ idsS s', id < L := by
  cases s with
  | un => simp only [renS, Option.some.injEq] at he; subst he; simp [idsS]
  | v ag cs =>
    simp only [renS] at he
    cases hc : renCs f cs with
    | none => simp [hc] at he
    | some cs' =>
      simp only [hc, Option.map_some, Option.some.injEq] at he
      subst he
      exact renCs_ids hL hc
  | tup l => exact absurd rfl (hs l)
theorem renO_ids {L : Nat} (hL : ∀ i j, f i = some j → j < L) {o o' : Obj} (he : renO f o = some o') : ∀ id ∈ idsO o', id < L := by
  cases o with
  | box cs =>
    simp only [renO] at he
    cases hc : renCs f cs with
    | none => simp [hc] at he
    | some cs' =>
      simp only [hc, Option.map_some, Option.some.injEq] at he
      subst he
      exact renCs_ids hL hc
  | row t xs => simp only [renO, Option.some.injEq] at he; subst he; simp [idsO]

/- what reads so whatever is stable -/
theorem Rd.flat : ∀ {t : Ty} {us : List Value} {x : t.den}, flatT t = true → Rd t w N us x → Rd t w N' us x
  | .unit, _, _, _, h => h
  | .int _, _, _, _, h => h
  | .bool, _, _, _, h => h
  | .str, _, _, _, h => h
  | .sl _, _, _, hf, _ => by simp [flatT] at hf
  | .pair _ _, _, _, hf, h => by
    simp only [flatT, Bool.and_eq_true] at hf
    obtain ⟨v1, v2, rfl, h1, h2⟩ := h
    exact ⟨v1, v2, rfl, h1.flat hf.1, h2.flat hf.2⟩
theorem CR.flat {c : C} {v : Value} (hf : flatC c = true) (h : CR w N ρ m c v) : CR w N' ρ m c v := by
  cases c <;> first
    | exact h
    | (simp [flatC] at hf; done)
theorem All2.flat {cs : List C} {vs : List Value} (hf : cs.all flatC = true) (h : All2 (CR w N ρ m) cs vs) : All2 (CR w N' ρ m) cs vs :=
  h.mono' fun c hc _ hv => hv.flat (List.all_eq_true.1 hf c hc)
theorem VR.flat {ag : Bool} {cs : List C} {v : Value} (hf : cs.all flatC = true) (h : VR w N ρ m ag cs v) : VR w N' ρ m ag cs v := by
  cases ag with
  | true => obtain ⟨vs, hv, ha⟩ := h; exact ⟨vs, hv, ha.flat hf⟩
  | false => obtain ⟨c, rfl, hc⟩ := h; exact ⟨c, rfl, hc.flat (List.all_eq_true.1 hf c (by simp))⟩
theorem SVR.flat {s : SV} {v : Value} (hf : flatS s = true) (h : SVR w N ρ m s v) : SVR w N' ρ m s v := by
  cases s with
  | un => trivial
  | v ag cs => exact VR.flat hf h
  | tup l =>
    obtain ⟨vs, hv, ha⟩ := h
    exact ⟨vs, hv, ha.mono' fun p hp u hu => VR.flat (List.all_eq_true.1 hf p hp) hu⟩
theorem ObjR.flat {id : Nat} {o : Obj} (hf : flatO (some o) = true) (h : ObjR w N ρ m id o) : ObjR w N' ρ m id o := by
  cases o with
  | box cs => obtain ⟨b, vals, T, hA, hh, ha⟩ := h; exact ⟨b, vals, T, hA, hh, ha.flat hf⟩
  | row t xs =>
    obtain ⟨hl, hr⟩ := h
    refine ⟨hl, fun hc => ?_⟩
    obtain ⟨b, vals, T, hA, hh, hs, hx⟩ := hr hc
    exact ⟨b, vals, T, hA, hh, hs, fun k hk => let ⟨us, h1, h2⟩ := hx k hk; ⟨us, h1.flat hf, h2⟩⟩

/- numbers -/
theorem numAt_some {id : Nat} : ∀ {l : List Nat} {k n : Nat}, numAt id k l = some n → k ≤ n ∧ l[n - k]? = some id
  | [], _, _, h => by simp [numAt] at h
  | a :: r, k, n, h => by
    simp only [numAt] at h
    cases hb : Nat.beq a id with
    | true =>
      rw [hb] at h
      simp only [cond_true, Option.some.injEq] at h
      subst h
      have := Nat.eq_of_beq_eq_true hb
      subst this
      simp
    | false =>
      rw [hb] at h
      simp only [cond_false] at h
      obtain ⟨h1, h2⟩ := numAt_some h
      refine ⟨by omega, ?_⟩
      rw [show n - k = (n - (k + 1)) + 1 by omega]
      simpa using h2
theorem numAt_get {id : Nat} {l : List Nat} {n : Nat} (h : numAt id 0 l = some n) : l[n]? = some id := by
  have := (numAt_some h).2
  simpa using this
theorem distinct_inj : ∀ {l : List Nat}, distinct l = true → ∀ {i j x : Nat}, l[i]? = some x → l[j]? = some x → i = j
  | [], _, i, j, x, h1, _ => by simp at h1
  | a :: r, hd, i, j, x, h1, h2 => by
    simp only [distinct, Bool.and_eq_true, Bool.not_eq_true'] at hd
    have hna : ∀ k, r[k]? = some a → False := fun k hk => by
      have := List.mem_of_getElem? hk
      have h3 : r.contains a = true := by simpa using this
      rw [hd.1] at h3; cases h3
    cases i with
    | zero =>
      cases j with
      | zero => rfl
      | succ j =>
        simp at h1 h2
        subst h1
        exact (hna j h2).elim
    | succ i =>
      cases j with
      | zero =>
        simp at h1 h2
        subst h2
        exact (hna i h1).elim
      | succ j =>
        simp at h1 h2
        have := distinct_inj hd.2 h1 h2
        omega

/-- the objects that go into a call -/
theorem memFor_look {ids : List Nat} : ∀ {r : List Nat} {k : Nat} {m0 : List (Nat × Option Obj)}, memFor m f r k = some m0 → m0.length = r.length ∧ ∀ n, (∀ o', look m0 n = some o' → k ≤ n ∧ ∃ id o o1, r[n - k]? = some id ∧ m id = some o ∧ renO f o = some o1 ∧ o' = some o1) ∧ (k ≤ n → n < k + r.length → ∃ o1, look m0 n = some (some o1))
  | [], k, m0, h => by
    simp only [memFor, Option.some.injEq] at h
    subst h
    exact ⟨rfl, fun n => ⟨fun o' h => by simp [look] at h, fun h1 h2 => by simp at h2; omega⟩⟩
  | id :: r, k, m0, h => by
    simp only [memFor] at h
    split at h
    · rename_i o l e1 e2
      split at h
      · rename_i o1 e3
        simp only [Option.some.injEq] at h
        subst h
        obtain ⟨hl, ih⟩ := memFor_look (ids := ids) e2
        refine ⟨by simp [hl], fun n => ⟨fun o' h => ?_, fun h1 h2 => ?_⟩⟩
        · rw [look_cons] at h
          split at h
          · rename_i hk
            subst hk
            simp only [Option.some.injEq] at h
            subst h
            exact ⟨Nat.le_refl _, id, o, o1, by simp, e1, e3, rfl⟩
          · obtain ⟨h1, id', o2, o3, h3, h4, h5, h6⟩ := (ih n).1 o' h
            refine ⟨by omega, id', o2, o3, ?_, h4, h5, h6⟩
            rw [show n - k = (n - (k + 1)) + 1 by omega]
            simpa using h3
        · rw [look_cons]
          by_cases hk : k = n
          · subst hk; exact ⟨o1, by simp⟩
          · rw [if_neg hk]
            exact (ih n).2 (by omega) (by simp at h2; omega)
      · cases h
    · cases h

theorem memBack_look : ∀ {m1 u : List (Nat × Option Obj)}, memBack f m1 = some u → (∀ i j k, f i = some k → f j = some k → i = j) → ∀ n id, f n = some id → (look m1 n = none → look u id = none) ∧ (look m1 n = some none → look u id = some none) ∧ ∀ o, look m1 n = some (some o) → ∃ o', renO f o = some o' ∧ look u id = some (some o')
  | [], u, h, _, n, id, _ => by
    simp only [memBack, Option.some.injEq] at h
    subst h
    refine ⟨fun _ => rfl, fun h => by simp [look] at h, fun o h => by simp [look] at h⟩
  | (n0, o0) :: m1, u, h, hinj, n, id, hf => by
    simp only [memBack] at h
    split at h
    · rename_i id0 l e1 e2
      have ih := memBack_look e2 hinj n id hf
      have hiff : (n0 = n) ↔ (id0 = id) := ⟨fun e => by subst e; rw [e1] at hf; exact Option.some.inj hf, fun e => by subst e; exact hinj n0 n id0 e1 hf⟩
      split at h
      · simp only [Option.some.injEq] at h
        subst h
        rw [look_cons, look_cons]
        by_cases hn : n0 = n
        · rw [if_pos hn, if_pos (hiff.1 hn)]
          exact ⟨(fun h => by cases h), fun _ => rfl, (fun o h => by simp at h)⟩
        · rw [if_neg hn, if_neg (fun e => hn (hiff.2 e))]
          exact ih
      · rename_i o
        split at h
        · rename_i o1 e3
          simp only [Option.some.injEq] at h
          subst h
          rw [look_cons, look_cons]
          by_cases hn : n0 = n
          · rw [if_pos hn, if_pos (hiff.1 hn)]
            refine ⟨(fun h => by cases h), (fun h => by simp at h), fun o' h => ?_⟩
            simp only [Option.some.injEq] at h
            subst h
            exact ⟨o1, e3, rfl⟩
          · rw [if_neg hn, if_neg (fun e => hn (hiff.2 e))]
            exact ih
        · cases h
    · cases h

theorem memBack_keys : ∀ {m1 u : List (Nat × Option Obj)}, memBack f m1 = some u → ∀ id o, look u id = some o → ∃ n, f n = some id
  | [], u, h, id, o, hl => by
    simp only [memBack, Option.some.injEq] at h
    subst h; simp [look] at hl
  | (n0, o0) :: m1, u, h, id, o, hl => by
    simp only [memBack] at h
    split at h
    · rename_i id0 l e1 e2
      have ih := memBack_keys e2 id o
      have key : ∀ {x}, look ((id0, x) :: l) id = some o → ∃ n, f n = some id := by
        intro x hx
        rw [look_cons] at hx
        split at hx
        · rename_i e; subst e; exact ⟨n0, e1⟩
        · exact ih hx
      split at h
      · simp only [Option.some.injEq] at h
        subst h; exact key hl
      · split at h
        · simp only [Option.some.injEq] at h
          subst h; exact key hl
        · cases h
    · cases h

end
end Go.Proofs.Ytoalcmpjfnlkdaa
