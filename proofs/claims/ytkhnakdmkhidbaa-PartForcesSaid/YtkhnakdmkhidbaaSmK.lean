/- Rows from which some are taken away; how many locks are for writing. No condition. -/
import Derived.Test.YtkhnakdmkhidbaaSvK
import Derived.Test.YtkhnakdmkhidbaaSmF
namespace Go.Proofs.Ytkhnakdmkhidbaa
open Go.RowKit

theorem DelAt.start {t : Ty} {p : t.den → Bool} {xs : List t.den} {i : Nat} (hi : i < xs.length) (hb : i < 4611686018427387904) (hlow : ∀ j, j < i → p (pGet t xs j) = false) (hp : p (pGet t xs i) = true) :
    DelAt p xs (pAdd .i64 (i : Int) 1, (i : Int), xs, ()) := by
  refine ⟨i, i + 1, xs, by rw [pAdd1 hb], by omega, hi, rfl, ?_, rfl⟩
  rw [List.take_succ_eq_append_getElem hi, List.filter_append]
  have h1 : (xs.take i).filter (fun x => !p x) = xs.take i := by
    rw [List.filter_eq_self]
    intro x hx
    obtain ⟨j, hj, rfl⟩ := List.getElem_of_mem hx
    have hj' : j < i := by simp at hj; omega
    have := hlow j hj'
    rw [pGet_lt (by omega)] at this
    simp only [List.getElem_take, this, Bool.not_false]
  rw [h1, List.filter_cons_of_neg (by rw [pGet_lt hi] at hp; simp [hp])]
  simp
theorem DelAt.at {t : Ty} {xs zs : List t.den} {j : Nat} (hj : j < xs.length) (hl : zs.length = xs.length) (hd : zs.drop j = xs.drop j) : pGet t zs j = pGet t xs j := by
  have e : (zs.drop j)[0]? = (xs.drop j)[0]? := by rw [hd]
  rw [List.getElem?_drop, List.getElem?_drop, Nat.add_zero] at e
  unfold pGet
  rw [List.getD_eq_getElem?_getD, List.getD_eq_getElem?_getD, e]
theorem DelAt.step {t : Ty} {p : t.den → Bool} {xs zs : List t.den} {i j : Nat} (hij : i < j) (hj : j < xs.length) (hb : j < 4611686018427387904) (hl : zs.length = xs.length) (ht : zs.take i = (xs.take j).filter (fun x => !p x)) (hd : zs.drop j = xs.drop j) :
    (p (pGet t xs j) = false → DelAt p xs (pAdd .i64 (j : Int) 1, pAdd .i64 (i : Int) 1, pSet zs i (pGet t xs j), ())) ∧ (p (pGet t xs j) = true → DelAt p xs (pAdd .i64 (j : Int) 1, (i : Int), zs, ())) := by
  have hdr : ∀ l : List t.den, l.drop (j + 1) = (l.drop j).drop 1 := fun l => by rw [List.drop_drop]
  have htk : xs.take (j + 1) = xs.take j ++ [pGet t xs j] := by rw [List.take_succ_eq_append_getElem hj, pGet_lt hj]
  refine ⟨fun hp => ⟨i + 1, j + 1, _, by rw [pAdd1 hb, pAdd1 (by omega)], by omega, hj, by unfold pSet; simpa using hl, ?_, ?_⟩, fun hp => ⟨i, j + 1, zs, by rw [pAdd1 hb], by omega, hj, hl, ?_, by rw [hdr, hd, ← hdr]⟩⟩
  · rw [htk, List.filter_append, ← ht, List.filter_cons_of_pos (by simp [hp]), List.filter_nil]
    unfold pSet
    have hi : i < (zs.set i (pGet t xs j)).length := by simp; omega
    rw [List.take_succ_eq_append_getElem hi, List.getElem_set_self, List.take_set_of_le (Nat.le_refl i)]
  · unfold pSet
    rw [List.drop_set_of_lt (by omega), hdr, hd, ← hdr]
  · rw [htk, List.filter_append, ← ht, List.filter_cons_of_neg (by simp [hp])]
    simp
theorem DelAt.done {t : Ty} {p : t.den → Bool} {xs zs : List t.den} {i : Nat} {d : t.den} (hi : i < xs.length) (hl : zs.length = xs.length) (ht : zs.take i = (xs.take xs.length).filter (fun x => !p x)) : pSub (pClr zs i d) 0 i = xs.filter (fun x => !p x) := by
  unfold pSub pClr
  rw [List.drop_zero, List.take_append_of_le_length (by simp; omega), List.take_take, Nat.min_self, ht, List.take_length]
theorem clr_len {α : Type} {zs : List α} {i : Nat} {d : α} (hi : i ≤ zs.length) : (pClr zs i d).length = zs.length := by unfold pClr; simp; omega
theorem idxOf_cases {p : Nat → Bool} {n : Nat} : (idxOf p n = -1 ∧ ∀ j, j < n → p j = false) ∨ ∃ i : Nat, idxOf p n = (i : Int) ∧ i < n ∧ p i = true ∧ ∀ j, j < i → p j = false := by
  unfold idxOf
  cases hq : (List.range n).find? p with
  | none =>
    refine .inl ⟨rfl, fun j hj => ?_⟩
    rw [List.find?_eq_none] at hq
    simpa using hq j (by simpa using hj)
  | some i =>
    rw [List.find?_range_eq_some] at hq
    exact .inr ⟨i, rfl, by simpa using hq.2.1, hq.1, fun j hj => by simpa using hq.2.2 j hj⟩
theorem keep_all {t : Ty} {p : t.den → Bool} {xs : List t.den} (h : ∀ j, j < xs.length → p (pGet t xs j) = false) : xs.filter (fun x => !p x) = xs := by
  rw [List.filter_eq_self]
  intro x hx
  obtain ⟨j, hj, rfl⟩ := List.getElem_of_mem hx
  have := h j hj
  rw [pGet_lt hj] at this
  simp [this]

theorem doubt_eta (l : List DoubtD) (k : Nat) : ((pGet tyItem l k).1, (pGet tyItem l k).2.1, (pGet tyItem l k).2.2.1, ()) = pGet tyDoubt l k := rfl
theorem WritesOf_ok : Meets Try.prog (fun _ => none) 31 cWritesOf := WritesOf_meets askFault_ok fun si sl sd so ts tn hp => by
  have l1 : si.length < 4611686018427387904 := hp (pLen si < 4611686018427387904) (by simp)
  have l2 : sl.length < 4611686018427387904 := hp (pLen sl < 4611686018427387904) (by simp)
  have l3 : sd.length < 4611686018427387904 := hp (pLen sd < 4611686018427387904) (by simp)
  have l4 : so.length < 4611686018427387904 := hp (pLen so < 4611686018427387904) (by simp)
  clear hp
  unfold WritesOf_VC
  refine ⟨l1, l2, l3, l4, bif_ok (fun h => ?_) fun h => ⟨⟨0, rfl, Nat.zero_le _⟩, fun y hy => ?_⟩⟩
  · rw [show pEq (askE (si, sl, sd, so, ()) (ts, tn, ()) 0) 0 = false by simpa [pNe, pEq] using h]; rfl
  obtain ⟨i, rfl, hi⟩ := hy
  by_cases hk : i < sl.length
  · rw [bif_true (by simp [pLt_coe, pLen, hk])]
    dsimp only
    rw [pNat_coe]
    have hc := cntTo_le (p := fun j => lockIsF (pGet tyLock sl j) (ts, tn, ()) && (pGet tyLock sl j).2.2.2.1) (k := i)
    have e : lockIsF (pGet tyLock sl i) (ts, tn, ()) = pAndB (pEq (pGet tyLock sl i).1 ts) (pEq (pGet tyLock sl i).2.1 tn) := rfl
    have nx : ∀ u : Int, u = ((cntTo (fun j => lockIsF (pGet tyLock sl j) (ts, tn, ()) && (pGet tyLock sl j).2.2.2.1) (i + 1) : Nat) : Int) → cntwInv si sl sd so ts tn (pAdd .i64 (i : Int) 1, u, ()) :=
      fun u hu => ⟨i + 1, by rw [pAdd1 (by omega), hu], hk⟩
    refine ⟨pIn_coe.2 hk, bif_ok (fun h1 => ⟨pIn_coe.2 hk, bif_ok (fun h2 => ⟨nx _ ?_, mu_step hk (by omega)⟩) fun h2 => ⟨nx _ ?_, mu_step hk (by omega)⟩⟩) fun h1 => ⟨nx _ ?_, mu_step hk (by omega)⟩⟩
    · rw [cntTo_succ, e, h1, h2, pAdd1 (by omega)]; rfl
    · rw [cntTo_succ, e, h1, h2]; rfl
    · rw [cntTo_succ, e, h1]; rfl
  · obtain rfl : i = sl.length := by omega
    rw [bif_false (by simp [pLt_coe, pLen])]
    have h0 : pEq (askE (si, sl, sd, so, ()) (ts, tn, ()) 0) 0 = true := by simpa [pNe, pEq] using h
    have h1 : askE (si, sl, sd, so, ()) (ts, tn, ()) 0 = 0 := by simpa [pEq] using h0
    rw [h1]; rfl

theorem any_mem {t : Ty} {q : t.den → Bool} {l : List t.den} : anyUpto (fun j => q (pGet t l j)) l.length = true ↔ ∃ x ∈ l, q x = true := by
  rw [anyUpto_iff]
  constructor
  · rintro ⟨j, hj, h⟩
    rw [pGet_lt hj] at h
    exact ⟨_, List.getElem_mem hj, h⟩
  · rintro ⟨x, hx, h⟩
    obtain ⟨j, hj, rfl⟩ := List.getElem_of_mem hx
    exact ⟨j, hj, by rw [pGet_lt hj]; exact h⟩
theorem filter_next {t : Ty} {p : t.den → Bool} {l : List t.den} {k : Nat} (h : k < l.length) : (l.take (k + 1)).filter (fun x => !p x) = cond (p (pGet t l k)) ((l.take k).filter (fun x => !p x)) (pApp ((l.take k).filter (fun x => !p x)) [pGet t l k]) := by
  rw [List.take_succ_eq_append_getElem h, List.filter_append, pGet_lt h]
  cases hq : p (l[k]'h) with
  | true => rw [List.filter_cons_of_neg (by simp [hq])]; simp
  | false => rw [List.filter_cons_of_pos (by simp [hq])]; rfl

end Go.Proofs.Ytkhnakdmkhidbaa
