/- Functions of the store meet their contracts: search, locks. No condition. -/
import Derived.Test.YtkhnakdmkhidbaaSvD
import Derived.Test.YtkhnakdmkhidbaaSmL
namespace Go.Proofs.Ytkhnakdmkhidbaa
open Go.RowKit

theorem isNaN_ok : Meets Try.prog (fun _ => none) 59 cisNaN := isNaN_meets fun a => by
  unfold isNaN_VC
  exact leafE (by grind [pLt, pLe, pGt, pGe, pEq, pNe, pNot, pAndB, pBeq, pInt, pLen, inF, pIn, pTo, pNat])
theorem cmpF_eq (a b : Int) : cmpF a b = cond (pLt a b) (-1) (cond (pGt a b) 1 0) := rfl
theorem Compare_ok : Meets Try.prog (fun _ => none) 43 cCompare := Compare_meets isNaN_ok fun a b => by
  unfold Compare_VC
  (repeat' (first | refine bif_ok (fun h => ?_) (fun h => ?_) | refine And.intro ?_ ?_ | fail))
  all_goals (refine leafE ?_; rw [cmpF_eq]; grind [pLt, pLe, pGt, pGe, pEq, pNe, pNot, pAndB, pBeq, pInt, pLen, inF, pIn, pTo, pNat])
theorem at1_ok : Meets Try.prog (fun _ => none) 42 cat1 := at1_meets Compare_ok fun xk xv xn k => rfl

/- rows of items by their keys -/
theorem pLt_trans {a b c : Int} (h1 : pLt a b = true) (h2 : pLt b c = true) : pLt a c = true := by simp only [pLt, decide_eq_true_eq] at *; omega
theorem sort_of {l : List ItemD} (h : itemsF l = true) : sortF l = true := allUpto_true fun j hj => by
  have h1 := allUpto_iff.1 h j hj
  rw [itemOk_eq] at h1
  simp only [Bool.and_eq_true] at h1
  exact h1.2
theorem items_up {l : List ItemD} (h : sortF l = true) : ∀ {j i : Nat}, i < j → j < l.length → pLt (pGet tyItem l i).1 (pGet tyItem l j).1 = true
  | 0, _, hi, _ => absurd hi (by omega)
  | j + 1, i, hi, hj => by
    have h1 := allUpto_iff.1 h (j + 1) hj
    have h2 : pLt (pGet tyItem l j).1 (pGet tyItem l (j + 1)).1 = true := by
      simp only [Bool.or_eq_true, decide_eq_true_eq, Nat.add_sub_cancel] at h1
      rcases h1 with h | h
      · omega
      · exact h
    rcases Nat.lt_succ_iff_lt_or_eq.1 hi with h3 | h3
    · exact pLt_trans (items_up h h3 (by omega)) h2
    · rw [h3]; exact h2
theorem posF_at {l : List ItemD} {k : Int} {i : Nat} (hi : i ≤ l.length) (h1 : ∀ m, m < i → pGe (pGet tyItem l m).1 k = false) (h2 : i < l.length → pGe (pGet tyItem l i).1 k = true) : posF l k = (i : Int) := by
  unfold posF
  by_cases hl : i < l.length
  · rw [find_range hl h1 (h2 hl)]
  · have : i = l.length := by omega
    have hn : (List.range l.length).find? (fun j => pGe (pGet tyItem l j).1 k) = none := by
      rw [List.find?_eq_none]; intro j hj; rw [h1 j (by rw [this]; simpa using hj)]; simp
    rw [hn, this]
theorem idxKey_at {l : List ItemD} {k : Int} (hs : sortF l = true) {i : Nat} (hi : i ≤ l.length) (h1 : ∀ m, m < i → pGe (pGet tyItem l m).1 k = false) (h2 : i < l.length → pGe (pGet tyItem l i).1 k = true) :
    idxKeyF l k = cond (decide (i < l.length) && pEq (pGet tyItem l i).1 k) (i : Int) (-1) := by
  have hlow : ∀ j, j < i → keyAt l k j = false := fun j hj => by
    have := h1 j hj; simp only [keyAt, pGe, pEq, decide_eq_false_iff_not, beq_eq_false_iff_ne] at this ⊢; omega
  cases hq : (decide (i < l.length) && pEq (pGet tyItem l i).1 k) with
  | true =>
    simp only [Bool.and_eq_true, decide_eq_true_eq] at hq
    exact idxOf_hit hq.1 hlow hq.2
  | false =>
    refine idxOf_none fun j hj => ?_
    by_cases hji : j < i
    · exact hlow j hji
    · have hil : i < l.length := by omega
      have hk := h2 hil
      simp only [hil, decide_true, Bool.true_and] at hq
      by_cases he : j = i
      · rw [he]; exact hq
      · have hup := items_up hs (show i < j by omega) hj
        simp only [keyAt, pLt, pGe, pEq, decide_eq_true_eq, beq_eq_false_iff_ne] at hk hq hup ⊢
        omega
theorem idxKey_pos {l : List ItemD} {k : Int} (hs : sortF l = true) (h : pGe (idxKeyF l k) 0 = true) : posF l k = idxKeyF l k ∧ ∃ i : Nat, idxKeyF l k = (i : Int) ∧ i < l.length := by
  have hg : anyUpto (keyAt l k) l.length = true := by rw [← idxOf_ge]; exact h
  obtain ⟨j, hj, hk⟩ := anyUpto_iff.1 hg
  have hk' : pEq (pGet tyItem l j).1 k = true := hk
  have hk2 := hk'
  simp only [pEq, beq_iff_eq] at hk2
  have h1 : ∀ m, m < j → pGe (pGet tyItem l m).1 k = false := fun m hm => by
    have := items_up hs hm hj; simp only [pLt, decide_eq_true_eq] at this; simp only [pGe, decide_eq_false_iff_not]; omega
  have h2 : j < l.length → pGe (pGet tyItem l j).1 k = true := fun _ => by simp only [pGe, decide_eq_true_eq]; omega
  have hp := posF_at (Nat.le_of_lt hj) h1 h2
  have hi := idxKey_at hs (Nat.le_of_lt hj) h1 h2
  rw [show (decide (j < l.length) && pEq (pGet tyItem l j).1 k) = true by rw [hk']; simp [hj], cond_true] at hi
  exact ⟨by rw [hp, hi], j, hi, hj⟩

theorem mid {i j : Nat} (hb : i < 4611686018427387904) (hc : j < 4611686018427387904) : pWrap .i64 (pShr .u64 (pWrap .u64 (pAdd .i64 (i : Int) (j : Int))) 1) = (((i + j) / 2 : Nat) : Int) := by
  rw [pAdd_in (by omega)]
  have e1 : pWrap .u64 ((i : Int) + (j : Int)) = ((i + j : Nat) : Int) := by
    unfold pWrap IntKind.wrap
    simp only [IntKind.signed, IntKind.bits]
    simp
    omega
  have e2 : pShr .u64 ((i + j : Nat) : Int) 1 = (((i + j) / 2 : Nat) : Int) := by
    unfold pShr
    simp only [IntKind.bits]
    rw [show (2 : Int) ^ (min (1 : Int).toNat 64) = 2 from rfl, Int.fdiv_eq_ediv_of_nonneg _ (by omega)]
    omega
  rw [e1, e2]
  unfold pWrap
  exact Go.IntWalk.i64_in _ (by omega)

theorem sbin_ok : Meets Try.prog (fun _ => none) 41 cbin := bin_meets at1_ok fun l k hp => by
  have hl : l.length < 4611686018427387904 := hp (pLen l < 4611686018427387904) (by simp)
  have hs : sortF l = true := hp (sortF l = true) (by simp)
  clear hp
  unfold bin_VC
  refine ⟨⟨0, l.length, rfl, Nat.zero_le _, Nat.le_refl _, fun m hm => absurd hm (by omega), fun m h1 h2 => absurd h2 (by omega)⟩, fun y hy => ?_⟩
  obtain ⟨i, j, rfl, hij, hj, h1, h2⟩ := hy
  dsimp only
  by_cases hlt : i < j
  · rw [bif_true (show pLt (i : Int) (j : Int) = true by simp [pLt, hlt]), mid (by omega) (by omega), pNat_coe]
    have hm : (i + j) / 2 < j := by omega
    have hm2 : i ≤ (i + j) / 2 := by omega
    refine ⟨(by unfold pGe0; decide), pIn_coe.2 (by unfold pLen; omega), bif_ok (fun h => ?_) fun h => ?_⟩
    · have hk : pLt (pGet tyItem l ((i + j) / 2)).1 k = true := by rw [cmpF_eq] at h; grind [pLt, pLe, pGt, pGe, pEq, pNe, pNot, pAndB, pBeq, pInt, pLen, inF, pIn, pTo, pNat]
      simp only [pLt, decide_eq_true_eq] at hk
      rw [pAdd1 (by omega)]
      refine ⟨⟨(i + j) / 2 + 1, j, rfl, by omega, hj, fun m hm3 => ?_, h2⟩, ?_⟩
      · simp only [pGe, decide_eq_false_iff_not]
        by_cases he : m = (i + j) / 2
        · rw [he]; omega
        · have := items_up hs (show m < (i + j) / 2 by omega) (by omega); simp only [pLt, decide_eq_true_eq] at this; omega
      · unfold binMu; simp only [Int.toNat_natCast]; exact Nat.lt_of_lt_of_le (show j - ((i + j) / 2 + 1) < j - i by omega) (Nat.le_refl _)
    · have hk : pLe k (pGet tyItem l ((i + j) / 2)).1 = true := by rw [cmpF_eq] at h; simp only [pLe]; grind [pLt, pLe, pGt, pGe, pEq, pNe, pNot, pAndB, pBeq, pInt, pLen, inF, pIn, pTo, pNat]
      simp only [pLe, decide_eq_true_eq] at hk
      refine ⟨⟨i, (i + j) / 2, rfl, hm2, by omega, h1, fun m hm3 hm4 => ?_⟩, ?_⟩
      · simp only [pGe, decide_eq_true_eq]
        by_cases he : m = (i + j) / 2
        · rw [he]; omega
        · have := items_up hs (show (i + j) / 2 < m by omega) hm4; simp only [pLt, decide_eq_true_eq] at this; omega
      · unfold binMu; simp only [Int.toNat_natCast]; exact Nat.lt_of_lt_of_le (show (i + j) / 2 - i < j - i by omega) (Nat.le_refl _)
  · obtain rfl : i = j := by omega
    rw [bif_false (show pLt (i : Int) (i : Int) = false by simp [pLt]), pNat_coe]
    have h2' : i < l.length → pGe (pGet tyItem l i).1 k = true := fun h => h2 i (Nat.le_refl _) h
    have hpos := posF_at hj h1 h2'
    have hidx := idxKey_at hs hj h1 h2'
    rw [hpos, hidx]
    by_cases hil : i < l.length
    · rw [bif_true (by simp [pLt_coe, pLen, hil])]
      refine ⟨pIn_coe.2 hil, ?_⟩
      have hk := h2' hil
      have e : pEq (cmpF (pGet tyItem l i).1 k) 0 = pEq (pGet tyItem l i).1 k := by rw [cmpF_eq]; clear hidx hpos; grind [pLt, pLe, pGt, pGe, pEq, pNe, pNot, pAndB, pBeq, pInt, pLen, inF, pIn, pTo, pNat]
      rw [e]
      simp only [hil, decide_true, Bool.true_and]
      cases pEq (pGet tyItem l i).1 k <;> simp [pGe]
    · rw [bif_false (by simp [pLt_coe, pLen]; omega)]
      simp only [hil, decide_false, Bool.false_and, cond_false]
      rfl
theorem at_ok : Meets Try.prog (fun _ => none) 15 cat := at_meets sbin_ok fun l k hp => ⟨hp (pLen l < 4611686018427387904) (by simp), hp (sortF l = true) (by simp), rfl⟩
theorem lock_eta (l : List LockD) (k : Nat) : ((pGet tyLock l k).1, (pGet tyLock l k).2.1, (pGet tyLock l k).2.2.1, (pGet tyLock l k).2.2.2.1, (pGet tyLock l k).2.2.2.2.1, (pGet tyLock l k).2.2.2.2.2.1, ()) = pGet tyLock l k := rfl
theorem cntTo_succ {p : Nat → Bool} {k : Nat} : cntTo p (k + 1) = cond (p k) (cntTo p k + 1) (cntTo p k) := by
  unfold cntTo
  rw [List.range_succ, List.filter_append, List.length_append]
  cases h : p k <;> simp [h]
theorem cntTo_le {p : Nat → Bool} {k : Nat} : cntTo p k ≤ k := by
  unfold cntTo
  exact Nat.le_trans (List.length_filter_le _ _) (by simp)
theorem cntTo_any {p : Nat → Bool} {n : Nat} : pGt ((cntTo p n : Nat) : Int) 0 = anyUpto p n := by
  rw [Bool.eq_iff_iff, anyUpto_iff]
  simp only [pGt, decide_eq_true_eq]
  constructor
  · intro h
    have h' : 0 < ((List.range n).filter p).length := by have : 0 < cntTo p n := by omega
                                                         exact this
    obtain ⟨x, hx⟩ := List.exists_mem_of_length_pos h'
    exact ⟨x, by simpa using (List.mem_filter.1 hx).1, (List.mem_filter.1 hx).2⟩
  · rintro ⟨j, hj, h⟩
    have : 0 < ((List.range n).filter p).length := List.length_pos_of_mem (List.mem_filter.2 ⟨by simpa using hj, h⟩)
    have : 0 < cntTo p n := this
    omega
theorem askE_eq (s : StoD) (t : TxnD) (k : Int) : askE s t k = cond (stoF s) (cond (txnF t && inF k 0 7) 0 2) 9 := rfl
theorem scall_ok : Meets Try.prog (fun _ => none) 13 ccall := call_meets Check_ok txn_ok fun si sl sd so ts tn k hp => by
  have h1 : si.length < 4611686018427387904 := hp (pLen si < 4611686018427387904) (by simp)
  have h2 : sl.length < 4611686018427387904 := hp (pLen sl < 4611686018427387904) (by simp)
  have h3 : sd.length < 4611686018427387904 := hp (pLen sd < 4611686018427387904) (by simp)
  have h4 : so.length < 4611686018427387904 := hp (pLen so < 4611686018427387904) (by simp)
  clear hp
  unfold call_VC
  rw [askE_eq]
  refine ⟨h1, h2, h3, h4, ?_⟩
  clear h1 h2 h3 h4
  (repeat' (first | refine bif_ok (fun h => ?_) (fun h => ?_) | refine And.intro ?_ ?_ | fail))
  all_goals (refine leafE ?_; grind [pLt, pLe, pGt, pGe, pEq, pNe, pNot, pAndB, pBeq, pInt, pLen, inF, pIn, pTo, pNat])
theorem askFault_ok : Meets Try.prog (fun _ => none) 22 caskFault := askFault_meets StoreMay_ok plainTxn_ok In_ok fun si sl sd so ts tn k hp => by
  have h1 : si.length < 4611686018427387904 := hp (pLen si < 4611686018427387904) (by simp)
  have h2 : sl.length < 4611686018427387904 := hp (pLen sl < 4611686018427387904) (by simp)
  have h3 : sd.length < 4611686018427387904 := hp (pLen sd < 4611686018427387904) (by simp)
  have h4 : so.length < 4611686018427387904 := hp (pLen so < 4611686018427387904) (by simp)
  clear hp
  unfold askFault_VC
  rw [askE_eq]
  refine ⟨h1, h2, h3, h4, ?_⟩
  clear h1 h2 h3 h4
  (repeat' (first | refine bif_ok (fun h => ?_) (fun h => ?_) | refine And.intro ?_ ?_ | fail))
  all_goals (refine leafE ?_; grind [pLt, pLe, pGt, pGe, pEq, pNe, pNot, pAndB, pBeq, pInt, pLen, inF, pIn, pTo, pNat])

end Go.Proofs.Ytkhnakdmkhidbaa
