/- THE MACHINE OF READINGS, part W: a round's head. -/
import Derived.Test.YtoalcmpjfnlkdaaEV
namespace Go.Proofs.Ytoalcmpjfnlkdaa
open Go.RowKit

section
variable {E : Env} {w0 : World} {X Z : Blk} {a : Act} {w w' : World} {s s1 : St} {ρ1 ρ' : Nat → Pl} {N N' : Blk} {m m1 m' : Mem}

/-- the variables of a loop, read and laid anew -/
theorem vars_ok (h : Rel E w0 X Z a w s1 ρ1 N) : ∀ {vs : List Var} {x : denVars vs} (n : Nat), readVars s1 vs = some x → distinct (idsVars s1 vs) = true →
    n ≤ (putVars vs x n).next ∧ ∃ pl src, Took ρ1 s1.obj n (putVars vs x n).next pl src (idsVars s1 vs) ∧
      (∀ t, (look (putVars vs x n).slots t ≠ none → t ∈ slotVars vs) ∧ (t ∈ slotVars vs → look (putVars vs x n).slots t ≠ none)) ∧
      (∀ id o, look (putVars vs x n).mem id = some o → (n ≤ id ∧ id < (putVars vs x n).next ∧ ∃ t, ∃ ys : List (Ty.den t), o = some (.row t ys)) ∨ (id ∈ boxVars vs ∧ ∃ cs, o = some (.box cs))) ∧
      (∀ id ∈ boxVars vs, look (putVars vs x n).mem id ≠ none ∧ ∃ cs, s1.obj id = some (.box cs)) ∧
      (∀ t sv, look (putVars vs x n).slots t = some sv → ∀ id ∈ idsS sv, id < (putVars vs x n).next) ∧ (∀ id o, look (putVars vs x n).mem id = some (some o) → ∀ i ∈ idsO o, i < (putVars vs x n).next) ∧
      ∀ ρ' m', (∀ id, n ≤ id → id < (putVars vs x n).next → ρ' id = pl id) → (∀ id ∈ boxVars vs, ρ' id = ρ1 id) → (∀ id t ys, n ≤ id → id < (putVars vs x n).next → m' id = some (.row t ys) → look (putVars vs x n).mem id = some (some (.row t ys))) → (∀ id ∈ boxVars vs, id < n) →
        (∀ t sv, look (putVars vs x n).slots t = some sv → SVR w N ρ' m' sv (a.tmps.getD t undef)) ∧ ∀ id o, look (putVars vs x n).mem id = some o → ∃ ob, o = some ob ∧ ObjR w N ρ' m' id ob
  | [], x, n, _, _ => by
    refine ⟨Nat.le_refl _, fun _ => ⟨none, 0⟩, fun _ => 0, Took.none, fun t => ⟨fun h => absurd rfl h, fun h => by cases h⟩, (fun id o hl => by simp [putVars, look] at hl), (fun id h => by cases h), (fun t sv hl => by simp [putVars, look] at hl), (fun id o hl => by simp [putVars, look] at hl), fun ρ' m' _ _ _ _ => ⟨(fun t sv hl => by simp [putVars, look] at hl), fun id o hl => by simp [putVars, look] at hl⟩⟩
  | .slot t0 own t :: r, x, n, he, hd => by
    simp only [readVars] at he
    split at he
    · rename_i c hsl
      split at he
      · rename_i y z hy hz
        simp only [Option.some.injEq] at he
        subst he
        simp only [idsVars, hsl] at hd
        obtain ⟨hd1, hd2, hd3⟩ := distinct_append hd
        have hc : CR w N ρ1 s1.obj c (a.tmps.getD t0 undef) := by
          have := h.get (.tmp t0)
          have e : s1.get (.tmp t0) = .v false [c] := hsl
          rw [e] at this
          exact vr1 this
        obtain ⟨pl1, src1, hT1, hk1⟩ := k_ok h.mr (n := n) hc hy
        obtain ⟨hle, pl2, src2, hT2, hs2, hm2, hb2, hws2, hwm2, hk2⟩ := vars_ok h (kNext own n) hz hd2
        have hn1 : n ≤ kNext own n := by cases own <;> simp [kNext]
        have hkm : ∀ id o, look (kMem own t y n) id = some o → n ≤ id ∧ id < kNext own n ∧ (∃ t, ∃ ys : List (Ty.den t), o = some (.row t ys)) ∧ ∀ ob, o = some ob → idsO ob = [] := by
          intro id o hl
          cases own with
          | false => simp [kMem, look] at hl
          | true =>
            simp only [kMem] at hl
            rw [look_cons] at hl
            split at hl
            · rename_i e; subst e; simp only [Option.some.injEq] at hl; subst hl; exact ⟨Nat.le_refl _, by simp [kNext], ⟨_, _, rfl⟩, fun ob e => by simp only [Option.some.injEq] at e; subst e; rfl⟩
            · simp [look] at hl
        have hlm : ∀ id, look (putVars (.slot t0 own t :: r) (y, z) n).mem id = match look (kMem own t y n) id with
            | some o => some o
            | none => look (putVars r z (kNext own n)).mem id := fun id => by simp only [putVars]; rw [look_append]; cases look (kMem own t y n) id <;> rfl
        have hls : ∀ i, look (putVars (.slot t0 own t :: r) (y, z) n).slots i = if t0 = i then some (one (kPut own t y n)) else look (putVars r z (kNext own n)).slots i := fun i => by simp only [putVars]; exact look_cons _ _ _ _
        have hnx : (putVars (.slot t0 own t :: r) (y, z) n).next = (putVars r z (kNext own n)).next := rfl
        refine ⟨by rw [hnx]; omega, (fun id => if id < kNext own n then pl1 id else pl2 id), (fun id => if id < kNext own n then src1 id else src2 id), ?_, fun i => ?_, fun id o hl => ?_, fun id hid => ?_, fun i sv hl id hid => ?_, fun id o hl i hi => ?_, fun ρ' m' hρ hρb hm hbn => ?_⟩
        · simp only [idsVars, hsl]; rw [hnx]
          exact hT1.join hT2 hd3
        · rw [hls]
          simp only [slotVars, List.mem_cons]
          by_cases hi : t0 = i
          · rw [if_pos hi]; exact ⟨fun _ => .inl hi.symm, fun _ => by simp⟩
          · rw [if_neg hi]
            exact ⟨fun h => .inr ((hs2 i).1 h), fun h => (hs2 i).2 (h.resolve_left fun e => hi e.symm)⟩
        · rw [hlm] at hl
          rw [hnx]
          cases hq : look (kMem own t y n) id with
          | some o' =>
            rw [hq] at hl
            simp only [Option.some.injEq] at hl
            subst hl
            obtain ⟨g1, g2, g3, _⟩ := hkm id o' hq
            exact .inl ⟨g1, by omega, g3⟩
          | none =>
            rw [hq] at hl
            rcases hm2 id o hl with ⟨g1, g2, g3⟩ | g
            · exact .inl ⟨by omega, g2, g3⟩
            · exact .inr g
        · obtain ⟨g1, g2⟩ := hb2 id hid
          refine ⟨?_, g2⟩
          rw [hlm]
          cases look (kMem own t y n) id with
          | some o' => simp
          | none => exact g1
        · rw [hls] at hl
          rw [hnx]
          split at hl
          · simp only [Option.some.injEq] at hl
            subst hl
            simp only [one, idsS, idsCs, List.flatMap_cons, List.flatMap_nil, List.append_nil] at hid
            cases own with
            | false => simp only [kPut] at hid; rw [cell1_ids] at hid; cases hid
            | true =>
              simp only [kPut, idsC, List.mem_singleton] at hid
              have e : kNext true n = n + 1 := rfl
              omega
          · exact hws2 i sv hl id hid
        · rw [hlm] at hl
          rw [hnx]
          cases hq : look (kMem own t y n) id with
          | some o' =>
            rw [hq] at hl
            simp only [Option.some.injEq] at hl
            subst hl
            rw [(hkm id _ hq).2.2.2 o rfl] at hi
            cases hi
          | none => rw [hq] at hl; exact hwm2 id o hl i hi
        · rw [hnx] at hρ hm
          obtain ⟨g1, g2⟩ := hk1 ρ' m' (fun id h3 h4 => by rw [hρ id h3 (by omega)]; exact if_pos h4) (fun t' ys hy' hown => by
            subst hown
            have e : kNext true n = n + 1 := rfl
            have := hm n t' ys (Nat.le_refl _) (by omega) hy'
            rw [hlm] at this
            simp only [kMem] at this ⊢
            rw [look_cons, if_pos rfl] at this ⊢
            exact this)
          obtain ⟨g3, g4⟩ := hk2 ρ' m' (fun id h3 h4 => by rw [hρ id (by omega) h4]; exact if_neg (by omega)) hρb (fun id t' ys h3 h4 hy' => by
            have := hm id t' ys (by omega) h4 hy'
            rw [hlm] at this
            cases hq : look (kMem own t y n) id with
            | some o' => have := hkm id o' hq; omega
            | none => rw [hq] at this; exact this) (fun id hid => by have := hbn id hid; omega)
          refine ⟨fun i sv hl => ?_, fun id o hl => ?_⟩
          · rw [hls] at hl
            split at hl
            · rename_i e
              subst e
              simp only [Option.some.injEq] at hl
              subst hl
              exact ⟨_, rfl, g1⟩
            · exact g3 i sv hl
          · rw [hlm] at hl
            cases hq : look (kMem own t y n) id with
            | some o' =>
              rw [hq] at hl
              simp only [Option.some.injEq] at hl
              subst hl
              obtain ⟨ob, e1, _, _, _, e5⟩ := g2 id o' hq
              exact ⟨ob, e1, e5⟩
            | none => rw [hq] at hl; exact g4 id o hl
      · cases he
    · cases he
  | .agg t0 ks :: r, x, n, he, hd => by
    simp only [readVars] at he
    split at he
    · rename_i cs hsl
      split at he
      · rename_i y z hy hz
        simp only [Option.some.injEq] at he
        subst he
        simp only [idsVars, hsl] at hd
        obtain ⟨hd1, hd2, hd3⟩ := distinct_append hd
        have hcs0 : SVR w N ρ1 s1.obj (.v true cs) (a.tmps.getD t0 undef) := by
          have := h.get (.tmp t0)
          have e : s1.get (.tmp t0) = .v true cs := hsl
          rw [e] at this
          exact this
        obtain ⟨vals, hval, hcs⟩ := hcs0
        obtain ⟨hle1, pl1, src1, hT1, hr1, hw1, hk1⟩ := cells_ok h.mr n hcs hy hd1
        obtain ⟨hle, pl2, src2, hT2, hs2, hm2, hb2, hws2, hwm2, hk2⟩ := vars_ok h (putCells ks y n).2.2 hz hd2
        have hnx : (putVars (.agg t0 ks :: r) (y, z) n).next = (putVars r z (putCells ks y n).2.2).next := rfl
        have hlm : ∀ id, look (putVars (.agg t0 ks :: r) (y, z) n).mem id = match look (putCells ks y n).2.1 id with
            | some o => some o
            | none => look (putVars r z (putCells ks y n).2.2).mem id := fun id => by
          simp only [putVars]; rw [look_append]; cases look (putCells ks y n).2.1 id <;> rfl
        have hls : ∀ i, look (putVars (.agg t0 ks :: r) (y, z) n).slots i = if t0 = i then some (.v true (putCells ks y n).1) else look (putVars r z (putCells ks y n).2.2).slots i := fun i => by simp only [putVars]; exact look_cons _ _ _ _
        have hrow : ∀ id o, look (putCells ks y n).2.1 id = some o → ∃ t, ∃ ys : List (Ty.den t), o = some (.row t ys) := by
          intro id o hl
          obtain ⟨g1, g2⟩ := hr1 id o hl
          obtain ⟨_, g3⟩ := hk1 (fun i => pl1 i) (fun i => (look (putCells ks y n).2.1 i).getD none) (fun _ _ _ => rfl) (fun i t ys _ _ hi => by
            cases hq : look (putCells ks y n).2.1 i with
            | none => rw [hq] at hi; cases hi
            | some o' => rw [hq] at hi; simp at hi; rw [hi])
          obtain ⟨ob, e1, ⟨t, ys, e2⟩, _⟩ := g3 id o hl
          exact ⟨t, ys, by rw [e1, e2]⟩
        refine ⟨by rw [hnx]; omega, (fun id => if id < (putCells ks y n).2.2 then pl1 id else pl2 id), (fun id => if id < (putCells ks y n).2.2 then src1 id else src2 id), ?_, fun i => ?_, fun id o hl => ?_, fun id hid => ?_, fun i sv hl id hid => ?_, fun id o hl i hi => ?_, fun ρ' m' hρ hρb hm hbn => ?_⟩
        · simp only [idsVars, hsl]; rw [hnx]
          exact hT1.join hT2 hd3
        · rw [hls]
          simp only [slotVars, List.mem_cons]
          by_cases hi : t0 = i
          · rw [if_pos hi]; exact ⟨fun _ => .inl hi.symm, fun _ => by simp⟩
          · rw [if_neg hi]
            exact ⟨fun h => .inr ((hs2 i).1 h), fun h => (hs2 i).2 (h.resolve_left fun e => hi e.symm)⟩
        · rw [hlm] at hl
          rw [hnx]
          cases hq : look (putCells ks y n).2.1 id with
          | some o' =>
            rw [hq] at hl
            simp only [Option.some.injEq] at hl
            subst hl
            obtain ⟨g1, g2⟩ := hr1 id o' hq
            exact .inl ⟨g1, by omega, hrow id o' hq⟩
          | none =>
            rw [hq] at hl
            rcases hm2 id o hl with ⟨g1, g2, g3⟩ | g
            · exact .inl ⟨by omega, g2, g3⟩
            · exact .inr g
        · obtain ⟨g1, g2⟩ := hb2 id hid
          refine ⟨?_, g2⟩
          rw [hlm]
          cases look (putCells ks y n).2.1 id with
          | some o' => simp
          | none => exact g1
        · rw [hls] at hl
          rw [hnx]
          split at hl
          · simp only [Option.some.injEq] at hl
            subst hl
            have := hw1 id hid
            omega
          · exact hws2 i sv hl id hid
        · rw [hlm] at hl
          rw [hnx]
          cases hq : look (putCells ks y n).2.1 id with
          | some o' =>
            rw [hq] at hl
            simp only [Option.some.injEq] at hl
            obtain ⟨t, ys, e⟩ := hrow id o' hq
            rw [hl] at e
            simp only [Option.some.injEq] at e
            subst e
            cases hi
          | none => rw [hq] at hl; exact hwm2 id o hl i hi
        · rw [hnx] at hρ hm
          obtain ⟨g1, g2⟩ := hk1 ρ' m' (fun id h3 h4 => by rw [hρ id h3 (by omega)]; exact if_pos h4) (fun id t' ys h3 h4 hy' => by
            have := hm id t' ys h3 (by omega) hy'
            rw [hlm] at this
            cases hq : look (putCells ks y n).2.1 id with
            | some o' => rw [hq] at this; exact this
            | none =>
              rw [hq] at this
              rcases hm2 id _ this with ⟨g1, _⟩ | ⟨g1, _⟩
              · omega
              · have := hbn id g1; omega)
          obtain ⟨g3, g4⟩ := hk2 ρ' m' (fun id h3 h4 => by rw [hρ id (by omega) h4]; exact if_neg (by omega)) hρb (fun id t' ys h3 h4 hy' => by
            have := hm id t' ys (by omega) h4 hy'
            rw [hlm] at this
            cases hq : look (putCells ks y n).2.1 id with
            | some o' => have := (hr1 id o' hq).2; omega
            | none => rw [hq] at this; exact this) (fun id hid => by have := hbn id hid; omega)
          refine ⟨fun i sv hl => ?_, fun id o hl => ?_⟩
          · rw [hls] at hl
            split at hl
            · rename_i e
              subst e
              simp only [Option.some.injEq] at hl
              subst hl
              exact ⟨vals, hval, g1⟩
            · exact g3 i sv hl
          · rw [hlm] at hl
            cases hq : look (putCells ks y n).2.1 id with
            | some o' =>
              rw [hq] at hl
              simp only [Option.some.injEq] at hl
              subst hl
              obtain ⟨ob, e1, _, e5⟩ := g2 id o' hq
              exact ⟨ob, e1, e5⟩
            | none => rw [hq] at hl; exact g4 id o hl
      · cases he
    · cases he
  | .box id0 ks :: r, x, n, he, hd => by
    simp only [readVars] at he
    split at he
    · rename_i cs hob
      split at he
      · rename_i y z hy hz
        simp only [Option.some.injEq] at he
        subst he
        simp only [idsVars, hob] at hd
        obtain ⟨hd1, hd2, hd3⟩ := distinct_append hd
        obtain ⟨b, vals, T, hA, hh, hcs⟩ := h.mr.obj id0 _ hob
        obtain ⟨hle1, pl1, src1, hT1, hr1, hw1, hk1⟩ := cells_ok h.mr n hcs hy hd1
        obtain ⟨hle, pl2, src2, hT2, hs2, hm2, hb2, hws2, hwm2, hk2⟩ := vars_ok h (putCells ks y n).2.2 hz hd2
        have hnx : (putVars (.box id0 ks :: r) (y, z) n).next = (putVars r z (putCells ks y n).2.2).next := rfl
        have hlm : ∀ id, look (putVars (.box id0 ks :: r) (y, z) n).mem id = match look (putCells ks y n).2.1 id with
            | some o => some o
            | none => if id0 = id then some (some (.box (putCells ks y n).1)) else look (putVars r z (putCells ks y n).2.2).mem id := fun id => by
          simp only [putVars]; rw [look_append]; cases look (putCells ks y n).2.1 id with
          | some o => rfl
          | none => simp only; exact look_cons _ _ _ _
        have hls : ∀ i, look (putVars (.box id0 ks :: r) (y, z) n).slots i = look (putVars r z (putCells ks y n).2.2).slots i := fun i => rfl
        have hrow : ∀ id o, look (putCells ks y n).2.1 id = some o → ∃ t, ∃ ys : List (Ty.den t), o = some (.row t ys) := by
          intro id o hl
          obtain ⟨g1, g2⟩ := hr1 id o hl
          obtain ⟨_, g3⟩ := hk1 (fun i => pl1 i) (fun i => (look (putCells ks y n).2.1 i).getD none) (fun _ _ _ => rfl) (fun i t ys _ _ hi => by
            cases hq : look (putCells ks y n).2.1 i with
            | none => rw [hq] at hi; cases hi
            | some o' => rw [hq] at hi; simp at hi; rw [hi])
          obtain ⟨ob, e1, ⟨t, ys, e2⟩, _⟩ := g3 id o hl
          exact ⟨t, ys, by rw [e1, e2]⟩
        refine ⟨by rw [hnx]; omega, (fun id => if id < (putCells ks y n).2.2 then pl1 id else pl2 id), (fun id => if id < (putCells ks y n).2.2 then src1 id else src2 id), ?_, fun i => ?_, fun id o hl => ?_, fun id hid => ?_, fun i sv hl id hid => ?_, fun id o hl i hi => ?_, fun ρ' m' hρ hρb hm hbn => ?_⟩
        · simp only [idsVars, hob]; rw [hnx]
          exact hT1.join hT2 hd3
        · rw [hls]; exact hs2 i
        · rw [hlm] at hl
          rw [hnx]
          cases hq : look (putCells ks y n).2.1 id with
          | some o' =>
            rw [hq] at hl
            simp only [Option.some.injEq] at hl
            subst hl
            obtain ⟨g1, g2⟩ := hr1 id o' hq
            exact .inl ⟨g1, by omega, hrow id o' hq⟩
          | none =>
            rw [hq] at hl
            simp only at hl
            split at hl
            · rename_i e
              subst e
              simp only [Option.some.injEq] at hl
              subst hl
              exact .inr ⟨by simp [boxVars], _, rfl⟩
            · rcases hm2 id o hl with ⟨g1, g2, g3⟩ | ⟨g1, g2⟩
              · exact .inl ⟨by omega, g2, g3⟩
              · exact .inr ⟨by simp [boxVars, g1], g2⟩
        · rw [hlm]
          simp only [boxVars, List.mem_cons] at hid
          refine ⟨?_, ?_⟩
          · cases look (putCells ks y n).2.1 id with
            | some o' => simp
            | none =>
              simp only
              split
              · simp
              · rename_i hne
                rcases hid with rfl | hid
                · exact absurd rfl hne
                · exact (hb2 id hid).1
          · rcases hid with rfl | hid
            · exact ⟨cs, hob⟩
            · exact (hb2 id hid).2
        · exact hws2 i sv hl id hid
        · rw [hlm] at hl
          rw [hnx]
          cases hq : look (putCells ks y n).2.1 id with
          | some o' =>
            rw [hq] at hl
            simp only [Option.some.injEq] at hl
            obtain ⟨t, ys, e⟩ := hrow id o' hq
            rw [hl] at e
            simp only [Option.some.injEq] at e
            subst e
            cases hi
          | none =>
            rw [hq] at hl
            simp only at hl
            split at hl
            · simp only [Option.some.injEq] at hl
              subst hl
              have := hw1 i hi
              omega
            · exact hwm2 id o hl i hi
        · rw [hnx] at hρ hm
          obtain ⟨g1, g2⟩ := hk1 ρ' m' (fun id h3 h4 => by rw [hρ id h3 (by omega)]; exact if_pos h4) (fun id t' ys h3 h4 hy' => by
            have := hm id t' ys h3 (by omega) hy'
            rw [hlm] at this
            cases hq : look (putCells ks y n).2.1 id with
            | some o' => rw [hq] at this; exact this
            | none =>
              rw [hq] at this
              simp only at this
              split at this
              · simp at this
              · rcases hm2 id _ this with ⟨g1, _⟩ | ⟨g1, _⟩
                · omega
                · have := hbn id (by simp [boxVars, g1]); omega)
          obtain ⟨g3, g4⟩ := hk2 ρ' m' (fun id h3 h4 => by rw [hρ id (by omega) h4]; exact if_neg (by omega)) (fun id hid => hρb id (by simp [boxVars, hid])) (fun id t' ys h3 h4 hy' => by
            have := hm id t' ys (by omega) h4 hy'
            rw [hlm] at this
            cases hq : look (putCells ks y n).2.1 id with
            | some o' => have := (hr1 id o' hq).2; omega
            | none =>
              rw [hq] at this
              simp only at this
              split at this
              · simp at this
              · exact this) (fun id hid => by have := hbn id (by simp [boxVars, hid]); omega)
          refine ⟨fun i sv hl => g3 i sv hl, fun id o hl => ?_⟩
          rw [hlm] at hl
          cases hq : look (putCells ks y n).2.1 id with
          | some o' =>
            rw [hq] at hl
            simp only [Option.some.injEq] at hl
            subst hl
            obtain ⟨ob, e1, _, e5⟩ := g2 id o' hq
            exact ⟨ob, e1, e5⟩
          | none =>
            rw [hq] at hl
            simp only at hl
            split at hl
            · rename_i e
              subst e
              simp only [Option.some.injEq] at hl
              subst hl
              exact ⟨_, rfl, b, vals, T, by rw [hρb id0 (by simp [boxVars])]; exact hA, hh, g1⟩
            · exact g4 id o hl
      · cases he
    · cases he

end
end Go.Proofs.Ytoalcmpjfnlkdaa
