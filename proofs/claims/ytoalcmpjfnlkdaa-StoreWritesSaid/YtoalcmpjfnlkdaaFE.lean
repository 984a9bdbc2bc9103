/- THE MACHINE OF READINGS, laws of the plain words: counting, places. -/
import Derived.Test.YtoalcmpjfnlkdaaFD
import Derived.IntWalk
namespace Go.Proofs.Ytoalcmpjfnlkdaa
open Go.RowKit Go.IntWalk

theorem pNat_coe (k : Nat) : pNat (k : Int) = k := by simp [pNat]
theorem pAdd1 {k : Nat} (h : k < 4611686018427387904) : pAdd .i64 (k : Int) 1 = ((k + 1 : Nat) : Int) := by
  unfold pAdd; rw [i64_in _ (by omega)]; omega
theorem pSub1 {k : Nat} (h : k < 4611686018427387904) (h0 : 0 < k) : pSubI .i64 (k : Int) 1 = ((k - 1 : Nat) : Int) := by
  unfold pSubI; rw [i64_in _ (by omega)]; omega
theorem pAdd_in {a b : Int} (h : -9223372036854775808 ≤ a + b ∧ a + b ≤ 9223372036854775807) : pAdd .i64 a b = a + b := i64_in _ h
theorem pSubI_in {a b : Int} (h : -9223372036854775808 ≤ a - b ∧ a - b ≤ 9223372036854775807) : pSubI .i64 a b = a - b := i64_in _ h
theorem pIn_coe {k n : Nat} : pIn (k : Int) n ↔ k < n := by unfold pIn; omega
theorem pTo_coe {k n : Nat} : pTo (k : Int) n ↔ k ≤ n := by unfold pTo; omega
theorem pLt_coe {k n : Nat} : pLt (k : Int) (pInt n) = decide (k < n) := by unfold pLt pInt; rw [Bool.eq_iff_iff]; simp
theorem pLe_coe {k n : Nat} : pLe (k : Int) (pInt n) = decide (k ≤ n) := by unfold pLe pInt; rw [Bool.eq_iff_iff]; simp
theorem bif_true {α : Sort _} {b : Bool} {x y : α} (h : b = true) : (bif b then x else y) = x := by subst h; rfl
theorem bif_false {α : Sort _} {b : Bool} {x y : α} (h : b = false) : (bif b then x else y) = y := by subst h; rfl

/-- places from 0 to n: all of them -/
def allUpto (p : Nat → Bool) (n : Nat) : Bool := (List.range n).all p
theorem allUpto_true {p : Nat → Bool} {n : Nat} (h : ∀ j, j < n → p j = true) : allUpto p n = true := by
  simpa [allUpto] using h
theorem allUpto_false {p : Nat → Bool} {n j : Nat} (hj : j < n) (h : p j = false) : allUpto p n = false := by
  cases hq : allUpto p n with
  | false => rfl
  | true =>
    have : ∀ j, j < n → p j = true := by simpa [allUpto] using hq
    rw [this j hj] at h; cases h
theorem allUpto_iff {p : Nat → Bool} {n : Nat} : allUpto p n = true ↔ ∀ j, j < n → p j = true := by simp [allUpto]

theorem bif_ok {b : Bool} {X Y : Prop} (h1 : b = true → X) (h2 : b = false → Y) : bif b then X else Y := by cases b <;> simp_all
theorem leafF {b : Bool} (h : b = true → False) : (false, ()) = (b, ()) := by cases b <;> simp_all
theorem leafT {b : Bool} (h : b = false → False) : (true, ()) = (b, ()) := by cases b <;> simp_all
theorem leafE {α : Type} {a b : α} (h : a = b) : (a, ()) = (b, ()) := by rw [h]
theorem allUpto_at {p : Nat → Bool} {n k : Nat} (h : allUpto p n = true) (hk : k < n) : p k = true := allUpto_iff.1 h k hk

/-- a loop over places: all held so far -/
def UpInv (p : Nat → Bool) (n : Nat) (y : Int × Unit) : Prop := ∃ k : Nat, y.1 = (k : Int) ∧ k ≤ n ∧ ∀ j, j < k → p j = true
def UpMu (n : Nat) (y : Int × Unit) : Nat := n - y.1.toNat

theorem UpInv.start {p : Nat → Bool} {n : Nat} : UpInv p n (0, ()) := ⟨0, rfl, Nat.zero_le _, fun j hj => absurd hj (by omega)⟩
theorem UpInv.next {p : Nat → Bool} {n k : Nat} (hk : k < n) (hb : k < 4611686018427387904) (ha : ∀ j, j < k → p j = true) (h : p k = true) : UpInv p n (pAdd .i64 (k : Int) 1, ()) ∧ Nat.le (Nat.succ (UpMu n (pAdd .i64 (k : Int) 1, ()))) (UpMu n ((k : Int), ())) := by
  rw [pAdd1 hb]
  refine ⟨⟨k + 1, rfl, hk, fun j hj => ?_⟩, ?_⟩
  · by_cases h1 : j = k
    · subst h1; exact h
    · exact ha j (by omega)
  · unfold UpMu; simp only [Int.toNat_natCast]; exact Nat.le_of_eq (by omega)
/-- a round of such a loop: at a place, or behind the last one -/
theorem UpInv.round {p : Nat → Bool} {n : Nat} {y : Int × Unit} (hn : n < 4611686018427387904) (h : UpInv p n y) :
    (∃ k : Nat, y = ((k : Int), ()) ∧ k < n ∧ k < 4611686018427387904 ∧ (∀ j, j < k → p j = true) ∧ (p k = false → allUpto p n = false) ∧
      (p k = true → UpInv p n (pAdd .i64 (k : Int) 1, ()) ∧ Nat.le (Nat.succ (UpMu n (pAdd .i64 (k : Int) 1, ()))) (UpMu n ((k : Int), ())))) ∨
    (y = ((n : Int), ()) ∧ allUpto p n = true) := by
  obtain ⟨k, hk, hle, ha⟩ := h
  obtain ⟨y1, u⟩ := y
  cases u
  simp only at hk
  subst hk
  by_cases hkn : k < n
  · exact .inl ⟨k, rfl, hkn, by omega, ha, fun h => allUpto_false hkn h, fun h => UpInv.next hkn (by omega) ha h⟩
  · have : k = n := by omega
    subst this
    exact .inr ⟨rfl, allUpto_true ha⟩

/-- the first place, or -1 -/
def idxOf (p : Nat → Bool) (n : Nat) : Int := match (List.range n).find? p with
  | some j => (j : Int)
  | none => -1
def anyUpto (p : Nat → Bool) (n : Nat) : Bool := (List.range n).any p
theorem find_range {p : Nat → Bool} {n k : Nat} (hk : k < n) (ha : ∀ j, j < k → p j = false) (h : p k = true) : (List.range n).find? p = some k := by
  rw [List.find?_eq_some_iff_append]
  refine ⟨h, (List.range n).take k, (List.range n).drop (k + 1), ?_, fun a hin => ?_⟩
  · conv => lhs; rw [← List.take_append_drop k (List.range n)]
    congr 1
    rw [List.drop_eq_getElem_cons (by simpa using hk)]
    simp
  · obtain ⟨j, hj, rfl⟩ := List.getElem_of_mem hin
    simp only [List.length_take, List.length_range] at hj
    simp only [List.getElem_take, List.getElem_range]
    rw [ha j (by omega)]; rfl
theorem idxOf_hit {p : Nat → Bool} {n k : Nat} (hk : k < n) (ha : ∀ j, j < k → p j = false) (h : p k = true) : idxOf p n = (k : Int) := by
  unfold idxOf; rw [find_range hk ha h]
theorem idxOf_none {p : Nat → Bool} {n : Nat} (ha : ∀ j, j < n → p j = false) : idxOf p n = -1 := by
  have : (List.range n).find? p = none := by
    rw [List.find?_eq_none]
    intro j hj
    rw [ha j (by simpa using hj)]; simp
  unfold idxOf; rw [this]
theorem anyUpto_iff {p : Nat → Bool} {n : Nat} : anyUpto p n = true ↔ ∃ j, j < n ∧ p j = true := by simp [anyUpto]
theorem idxOf_ge {p : Nat → Bool} {n : Nat} : pGe (idxOf p n) 0 = anyUpto p n := by
  rw [Bool.eq_iff_iff, anyUpto_iff]
  unfold idxOf pGe
  cases hq : (List.range n).find? p with
  | some j =>
    have h1 := List.find?_some hq
    have h2 : j < n := by simpa using List.mem_of_find?_eq_some hq
    simp only [decide_eq_true_eq]
    exact ⟨fun _ => ⟨j, h2, h1⟩, fun _ => by omega⟩
  | none =>
    rw [List.find?_eq_none] at hq
    simp only [decide_eq_true_eq]
    refine ⟨fun h => absurd h (by omega), fun ⟨j, hj, h⟩ => absurd h (hq j (by simpa using hj))⟩

/-- a loop that looks for a place -/
abbrev FindInv (p : Nat → Bool) (n : Nat) : Int × Unit → Prop := UpInv (fun j => !p j) n
theorem FindInv.round {p : Nat → Bool} {n : Nat} {y : Int × Unit} (hn : n < 4611686018427387904) (h : FindInv p n y) :
    (∃ k : Nat, y = ((k : Int), ()) ∧ k < n ∧ k < 4611686018427387904 ∧ (p k = true → idxOf p n = (k : Int)) ∧
      (p k = false → FindInv p n (pAdd .i64 (k : Int) 1, ()) ∧ Nat.le (Nat.succ (UpMu n (pAdd .i64 (k : Int) 1, ()))) (UpMu n ((k : Int), ())))) ∨
    (y = ((n : Int), ()) ∧ idxOf p n = -1) := by
  rcases UpInv.round hn h with ⟨k, hy, hk, hb, ha, _, hT⟩ | ⟨hy, ha⟩
  · exact .inl ⟨k, hy, hk, hb, fun h => idxOf_hit hk (fun j hj => by simpa using ha j hj) h, fun h => hT (by simp [h])⟩
  · exact .inr ⟨hy, idxOf_none fun j hj => by simpa using allUpto_iff.1 ha j hj⟩

/-- the first place's word that is no 0, or 0 -/
def firstE (e : Nat → Int) (n : Nat) : Int := match (List.range n).find? (fun j => pNe (e j) 0) with
  | some j => e j
  | none => 0
theorem firstE_hit {e : Nat → Int} {n k : Nat} (hk : k < n) (ha : ∀ j, j < k → pEq (e j) 0 = true) (h : pEq (e k) 0 = false) : firstE e n = e k := by
  have hf : (List.range n).find? (fun j => pNe (e j) 0) = some k := find_range hk (fun j hj => by
    have := ha j hj; simp only [pEq, pNe, beq_iff_eq] at this ⊢; simp [this]) (by simp only [pEq, pNe, beq_eq_false_iff_ne, bne_iff_ne, ne_eq] at h ⊢; exact h)
  unfold firstE; rw [hf]
theorem firstE_none {e : Nat → Int} {n : Nat} (ha : ∀ j, j < n → pEq (e j) 0 = true) : firstE e n = 0 := by
  have : (List.range n).find? (fun j => pNe (e j) 0) = none := by
    rw [List.find?_eq_none]
    intro j hj
    have := ha j (by simpa using hj)
    simp only [pEq, pNe, beq_iff_eq] at this ⊢; simp [this]
  unfold firstE; rw [this]
abbrev FirstInv (e : Nat → Int) (n : Nat) : Int × Unit → Prop := UpInv (fun j => pEq (e j) 0) n
theorem FirstInv.round {e : Nat → Int} {n : Nat} {y : Int × Unit} (hn : n < 4611686018427387904) (h : FirstInv e n y) :
    (∃ k : Nat, y = ((k : Int), ()) ∧ k < n ∧ k < 4611686018427387904 ∧ (pEq (e k) 0 = false → firstE e n = e k) ∧
      (pEq (e k) 0 = true → FirstInv e n (pAdd .i64 (k : Int) 1, ()) ∧ Nat.le (Nat.succ (UpMu n (pAdd .i64 (k : Int) 1, ()))) (UpMu n ((k : Int), ())))) ∨
    (y = ((n : Int), ()) ∧ firstE e n = 0) := by
  rcases UpInv.round hn h with ⟨k, hy, hk, hb, ha, _, hT⟩ | ⟨hy, ha⟩
  · exact .inl ⟨k, hy, hk, hb, fun h => firstE_hit hk ha h, hT⟩
  · exact .inr ⟨hy, firstE_none fun j hj => allUpto_iff.1 ha j hj⟩

theorem pGet_sub0 {t : Ty} {l : List t.den} {i k : Nat} (h : k < i) : pGet t (pSub l 0 i) k = pGet t l k := by
  unfold pGet pSub
  simp only [List.drop_zero]
  rw [List.getD_eq_getElem?_getD, List.getD_eq_getElem?_getD, List.getElem?_take_of_lt h]
theorem pSub0_len {α : Type} {l : List α} {i : Nat} (h : i ≤ l.length) : (pSub l 0 i).length = i := by
  unfold pSub
  simp only [List.drop_zero, List.length_take]
  omega

theorem pGet_lt {t : Ty} {l : List t.den} {k : Nat} (h : k < l.length) : pGet t l k = l[k] := by
  unfold pGet; rw [List.getD_eq_getElem?_getD, List.getElem?_eq_getElem h]; rfl
theorem take_app {t : Ty} {l : List t.den} {k : Nat} (h : k < l.length) : pApp (l.take k) [pGet t l k] = l.take (k + 1) := by
  unfold pApp; rw [pGet_lt h, List.take_succ_eq_append_getElem h]

end Go.Proofs.Ytoalcmpjfnlkdaa
