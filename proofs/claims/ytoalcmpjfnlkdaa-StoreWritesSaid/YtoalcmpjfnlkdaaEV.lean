/- THE MACHINE OF READINGS, part V: what changes from round to round. -/
import Derived.Test.YtoalcmpjfnlkdaaEU
namespace Go.Proofs.Ytoalcmpjfnlkdaa
open Go.RowKit

section
variable {E : Env} {w0 : World} {X Z : Blk} {a : Act} {w w' : World} {s s1 : St} {ρ1 ρ' : Nat → Pl} {N N' : Blk} {m m1 m' : Mem}

theorem uncell1_ok {t : Ty} {c : C} {x : t.den} {v : Value} (he : uncell1 t c = some x) (h : CR w N ρ1 m1 c v) : CR w N ρ' m' (cell1 t x) v := by
  cases t with
  | unit => simp [uncell1] at he
  | pair a b => simp [uncell1] at he
  | int k =>
    cases c <;> simp only [uncell1, reduceCtorEq] at he
    split at he
    · rename_i hk; subst hk; simp only [Option.some.injEq] at he; subst he; exact h
    · cases he
  | bool => cases c <;> simp only [uncell1, reduceCtorEq, Option.some.injEq] at he; subst he; exact h
  | str => cases c <;> simp only [uncell1, reduceCtorEq, Option.some.injEq] at he; subst he; exact h
  | sl t =>
    cases c <;> simp only [uncell1, reduceCtorEq] at he
    · simp only [Option.some.injEq] at he
      subst he
      obtain ⟨A, rfl⟩ := h
      exact ⟨A, 0, 0, rfl, rfl, Nat.le_refl _, fun h => absurd h (by omega)⟩
    · split at he
      · rename_i ht; subst ht; simp only [Option.some.injEq] at he; subst he; exact h
      · cases he

theorem cell1_ids {t : Ty} {x : t.den} : idsC (cell1 t x) = [] := by cases t <;> rfl

/-- rows that are taken on: numbers from n to n', their places, and whose they were -/
structure Took (ρ1 : Nat → Pl) (m1 : Mem) (n n' : Nat) (pl : Nat → Pl) (src : Nat → Nat) (ids : List Nat) : Prop where
  was : ∀ id, n ≤ id → id < n' → 0 < (pl id).cap → src id ∈ ids ∧ pl id = ρ1 (src id) ∧ ∃ t, ∃ xs : List (Ty.den t), m1 (src id) = some (.row t xs)
  inj : ∀ id id', n ≤ id → id < n' → n ≤ id' → id' < n' → 0 < (pl id).cap → 0 < (pl id').cap → src id = src id' → id = id'

theorem Took.none {n : Nat} {pl : Nat → Pl} {src : Nat → Nat} : Took ρ1 m1 n n pl src [] :=
  ⟨fun id h1 h2 => absurd h2 (by omega), fun id _ h1 h2 => absurd h2 (by omega)⟩

theorem Took.join {n k n' : Nat} {pl pl' : Nat → Pl} {src src' : Nat → Nat} {ids ids' : List Nat} (h1 : Took ρ1 m1 n k pl src ids) (h2 : Took ρ1 m1 k n' pl' src' ids') (hd : ∀ i ∈ ids, i ∉ ids') :
    Took ρ1 m1 n n' (fun id => if id < k then pl id else pl' id) (fun id => if id < k then src id else src' id) (ids ++ ids') := by
  constructor
  · intro id ha hb hc
    by_cases hk : id < k
    · simp only [hk, if_true] at hc ⊢
      obtain ⟨g1, g2, g3⟩ := h1.was id ha hk hc
      exact ⟨List.mem_append_left _ g1, g2, g3⟩
    · simp only [hk, if_false] at hc ⊢
      obtain ⟨g1, g2, g3⟩ := h2.was id (by omega) hb hc
      exact ⟨List.mem_append_right _ g1, g2, g3⟩
  · intro id id' ha hb ha' hb' hc hc' he
    by_cases hk : id < k <;> by_cases hk' : id' < k
    · simp only [hk, hk', if_true] at hc hc' he
      exact h1.inj id id' ha hk ha' hk' hc hc' he
    · simp only [hk, hk', if_true, if_false] at hc hc' he
      obtain ⟨g1, _⟩ := h1.was id ha hk hc
      obtain ⟨g2, _⟩ := h2.was id' (by omega) hb' hc'
      rw [he] at g1
      exact absurd g2 (hd _ g1)
    · simp only [hk, hk', if_true, if_false] at hc hc' he
      obtain ⟨g1, _⟩ := h1.was id' ha' hk' hc'
      obtain ⟨g2, _⟩ := h2.was id (by omega) hb hc
      rw [he] at g2
      exact absurd g2 (hd _ g1)
    · simp only [hk, hk', if_false] at hc hc' he
      exact h2.inj id id' (by omega) hb (by omega) hb' hc hc' he

theorem distinct_append : ∀ {l r : List Nat}, distinct (l ++ r) = true → distinct l = true ∧ distinct r = true ∧ ∀ i ∈ l, i ∉ r
  | [], r, h => ⟨rfl, h, fun _ h => by cases h⟩
  | x :: l, r, h => by
    simp only [List.cons_append, distinct, Bool.and_eq_true, Bool.not_eq_true'] at h
    obtain ⟨h1, h2, h3⟩ := distinct_append h.2
    have hx : x ∉ l ++ r := by
      intro hin
      have : (l ++ r).contains x = true := by simpa using hin
      rw [h.1] at this; cases this
    simp only [List.mem_append, not_or] at hx
    refine ⟨?_, h2, fun i hi => ?_⟩
    · simp only [distinct, Bool.and_eq_true, Bool.not_eq_true']
      exact ⟨by simpa using hx.1, h1⟩
    · rcases List.mem_cons.1 hi with rfl | hi
      · exact hx.2
      · exact h3 i hi

/-- one cell that changes -/
theorem k_ok (h : MR w N ρ1 m1) {own : Bool} {t : Ty} {c : C} {x : kden own t} {v : Value} {n : Nat} (hc : CR w N ρ1 m1 c v) (he : kRead m1 own t c = some x) :
    ∃ pl src, Took ρ1 m1 n (kNext own n) pl src (kId own c) ∧ ∀ ρ' m', (∀ id, n ≤ id → id < kNext own n → ρ' id = pl id) →
      (∀ (t' : Ty) (ys : List t'.den), m' n = some (.row t' ys) → own = true → look (kMem own t x n) n = some (some (.row t' ys))) →
      CR w N ρ' m' (kPut own t x n) v ∧ ∀ id o, look (kMem own t x n) id = some o → ∃ ob, o = some ob ∧ n ≤ id ∧ id < kNext own n ∧ (∃ t, ∃ ys : List (Ty.den t), ob = .row t ys) ∧ ObjR w N ρ' m' id ob := by
  cases own with
  | false =>
    refine ⟨fun _ => ⟨none, 0⟩, fun _ => 0, Took.none, fun ρ' m' _ _ => ⟨uncell1_ok he hc, fun id o hl => by simp [kMem, look] at hl⟩⟩
  | true =>
    have fin : ∀ (p : Pl) (i : Nat), (0 < p.cap → kId true c = [i] ∧ p = ρ1 i ∧ m1 i = some (.row t x)) → v = .slice p.A (List.length (α := t.den) x) p.cap → (∀ ρ' m', ρ' n = p → ObjR w N ρ' m' n (.row t x)) →
        ∃ pl src, Took ρ1 m1 n (kNext true n) pl src (kId true c) ∧ ∀ ρ' m', (∀ id, n ≤ id → id < kNext true n → ρ' id = pl id) →
      (∀ (t' : Ty) (ys : List t'.den), m' n = some (.row t' ys) → true = true → look (kMem true t x n) n = some (some (.row t' ys))) →
      CR w N ρ' m' (kPut true t x n) v ∧ ∀ id o, look (kMem true t x n) id = some o → ∃ ob, o = some ob ∧ n ≤ id ∧ id < kNext true n ∧ (∃ t, ∃ ys : List (Ty.den t), ob = .row t ys) ∧ ObjR w N ρ' m' id ob := by
      intro p i hp hv hob
      refine ⟨fun _ => p, fun _ => i, ⟨fun id h1 h2 h3 => ?_, fun id id' h1 h2 h3 h4 _ _ _ => ?_⟩, fun ρ' m' hρ hm => ⟨⟨⟨_, _, _, hv⟩, fun t' ys hy => ?_⟩, fun id o hl => ?_⟩⟩
      · obtain ⟨g1, g2, g3⟩ := hp h3
        exact ⟨by rw [g1]; simp, g2, t, x, g3⟩
      · simp only [kNext] at h2 h4; omega
      · have := hm t' ys hy rfl
        simp only [kMem] at this
        rw [look_cons, if_pos rfl] at this
        simp only [Option.some.injEq, Obj.row.injEq] at this
        obtain ⟨rfl, hx⟩ := this
        have hx := eq_of_heq hx
        subst hx
        rw [hρ n (Nat.le_refl _) (by simp [kNext])]
        exact hv
      · simp only [kMem] at hl
        rw [look_cons] at hl
        split at hl
        · rename_i e
          subst e
          simp only [Option.some.injEq] at hl
          subst hl
          exact ⟨_, rfl, Nat.le_refl _, by simp [kNext], ⟨_, _, rfl⟩, hob ρ' m' (hρ n (Nat.le_refl _) (by simp [kNext]))⟩
        · simp [look] at hl
    cases c with
    | nil =>
      simp only [kRead, aElems, Option.some.injEq] at he
      subst he
      obtain ⟨A, rfl⟩ := hc
      exact fin ⟨A, 0⟩ 0 (fun h => absurd h (by simp)) rfl fun ρ' m' hp => ⟨by simp, fun h0 => by rw [hp] at h0; exact absurd h0 (by simp)⟩
    | hs i =>
      simp only [kRead, aElems] at he
      split at he
      · rename_i t' xs hmem
        split at he
        · rename_i ht; subst ht
          simp only [Option.some.injEq] at he
          subst he
          have hv := hc.2 t' xs hmem
          refine fin (ρ1 i) i (fun _ => ⟨rfl, rfl, hmem⟩) hv fun ρ' m' hp => ?_
          have := h.obj i _ hmem
          unfold ObjR at this ⊢
          simp only [hp]
          exact this
        · cases he
      · cases he
    | _ => simp [kRead, aElems] at he

/-- cells of a box that change -/
theorem cells_ok (h : MR w N ρ1 m1) : ∀ {ks : List (Bool × Ty)} {cs : List C} {x : denCells ks} {vs : List Value} (n : Nat), All2 (CR w N ρ1 m1) cs vs → readCells m1 ks cs = some x → distinct (idsCells ks cs) = true →
    n ≤ (putCells ks x n).2.2 ∧ ∃ pl src, Took ρ1 m1 n (putCells ks x n).2.2 pl src (idsCells ks cs) ∧ (∀ id o, look (putCells ks x n).2.1 id = some o → n ≤ id ∧ id < (putCells ks x n).2.2) ∧
      (∀ id ∈ idsCs (putCells ks x n).1, id < (putCells ks x n).2.2) ∧
      ∀ ρ' m', (∀ id, n ≤ id → id < (putCells ks x n).2.2 → ρ' id = pl id) → (∀ id t ys, n ≤ id → id < (putCells ks x n).2.2 → m' id = some (.row t ys) → look (putCells ks x n).2.1 id = some (some (.row t ys))) →
        All2 (CR w N ρ' m') (putCells ks x n).1 vs ∧ ∀ id o, look (putCells ks x n).2.1 id = some o → ∃ ob, o = some ob ∧ (∃ t, ∃ ys : List (Ty.den t), ob = .row t ys) ∧ ObjR w N ρ' m' id ob
  | [], [], x, vs, n, hc, _, _ => by
    cases hc
    exact ⟨Nat.le_refl _, fun _ => ⟨none, 0⟩, fun _ => 0, Took.none, fun id o hl => by simp [putCells, look] at hl, fun id hid => by simp [putCells, idsCs] at hid, fun ρ' m' _ _ => ⟨.nil, fun id o hl => by simp [putCells, look] at hl⟩⟩
  | [], _ :: _, _, _, _, _, he, _ => by simp [readCells] at he
  | _ :: _, [], _, _, _, _, he, _ => by simp [readCells] at he
  | (own, t) :: ks, c :: cs, x, vs, n, hc, he, hd => by
    cases hc with
    | @cons _ v _ vs h1 h2 =>
      simp only [readCells] at he
      split at he
      · rename_i y z hy hz
        simp only [Option.some.injEq] at he
        subst he
        simp only [idsCells] at hd
        obtain ⟨hd1, hd2, hd3⟩ := distinct_append hd
        obtain ⟨pl1, src1, hT1, hk1⟩ := k_ok h (n := n) h1 hy
        obtain ⟨hle, pl2, src2, hT2, hr2, hw2, hk2⟩ := cells_ok h (kNext own n) h2 hz hd2
        have hn1 : n ≤ kNext own n := by cases own <;> simp [kNext]
        have hkm : ∀ id o, look (kMem own t y n) id = some o → n ≤ id ∧ id < kNext own n := by
          intro id o hl
          cases own with
          | false => simp [kMem, look] at hl
          | true =>
            simp only [kMem] at hl
            rw [look_cons] at hl
            split at hl
            · rename_i e; subst e; exact ⟨Nat.le_refl _, by simp [kNext]⟩
            · simp [look] at hl
        have hlk : ∀ id, look (putCells ((own, t) :: ks) (y, z) n).2.1 id = match look (kMem own t y n) id with
            | some o => some o
            | none => look (putCells ks z (kNext own n)).2.1 id := fun id => by simp only [putCells]; rw [look_append]; cases look (kMem own t y n) id <;> rfl
        refine ⟨?_, (fun id => if id < kNext own n then pl1 id else pl2 id), (fun id => if id < kNext own n then src1 id else src2 id), ?_, fun id o hl => ?_, fun id hid => ?_, fun ρ' m' hρ hm => ?_⟩
        · simp only [putCells]; omega
        · simp only [putCells, idsCells]
          exact hT1.join hT2 hd3
        · rw [hlk] at hl
          simp only [putCells]
          cases hq : look (kMem own t y n) id with
          | some o' => have := hkm id o' hq; omega
          | none => rw [hq] at hl; have := hr2 id o hl; omega
        · simp only [putCells, idsCs, List.flatMap_cons, List.mem_append] at hid ⊢
          rcases hid with hid | hid
          · cases own with
            | false => simp only [kPut] at hid; rw [cell1_ids] at hid; cases hid
            | true =>
              simp only [kPut, idsC, List.mem_singleton] at hid
              subst hid
              have e : kNext true id = id + 1 := rfl; omega
          · exact hw2 id hid
        · simp only [putCells] at hρ
          obtain ⟨g1, g2⟩ := hk1 ρ' m' (fun id h3 h4 => by rw [hρ id h3 (by omega), if_pos h4]) (fun t' ys hy' hown => by
            subst hown
            have := hm n t' ys (Nat.le_refl _) (by simp only [putCells]; have e : kNext true n = n + 1 := rfl; omega) hy'
            rw [hlk] at this
            simp only [kMem] at this ⊢
            rw [look_cons, if_pos rfl] at this ⊢
            exact this)
          obtain ⟨g3, g4⟩ := hk2 ρ' m' (fun id h3 h4 => by rw [hρ id (by omega) h4, if_neg (by omega)]) (fun id t' ys h3 h4 hy' => by
            have := hm id t' ys (by omega) (by simp only [putCells]; exact h4) hy'
            rw [hlk] at this
            cases hq : look (kMem own t y n) id with
            | some o' => have := hkm id o' hq; omega
            | none => rw [hq] at this; exact this)
          refine ⟨.cons g1 g3, fun id o hl => ?_⟩
          rw [hlk] at hl
          cases hq : look (kMem own t y n) id with
          | some o' =>
            rw [hq] at hl
            simp only [Option.some.injEq] at hl
            subst hl
            obtain ⟨ob, e1, _, _, e4, e5⟩ := g2 id o' hq
            exact ⟨ob, e1, e4, e5⟩
          | none => rw [hq] at hl; exact g4 id o hl
      · cases he

end
end Go.Proofs.Ytoalcmpjfnlkdaa
