/- Functions of the store meet their contracts: search, locks. No condition. -/
import Derived.Test.YtoalcmpjfnlkdaaSvD
import Derived.Test.YtoalcmpjfnlkdaaSmL
namespace Go.Proofs.Ytoalcmpjfnlkdaa
open Go.RowKit

theorem isNaN_ok : Meets Try.prog (fun _ => none) 81 cisNaN := isNaN_meets fun a => by
  unfold isNaN_VC
  exact leafE (by grind [pLt, pLe, pGt, pGe, pEq, pNe, pNot, pAndB, pBeq, pInt, pLen, inF, pIn, pTo, pNat])
theorem cmpF_eq (a b : Int) : cmpF a b = cond (pLt a b) (-1) (cond (pGt a b) 1 0) := rfl
theorem Compare_ok : Meets Try.prog (fun _ => none) 76 cCompare := Compare_meets isNaN_ok fun a b => by
  unfold Compare_VC
  (repeat' (first | refine bif_ok (fun h => ?_) (fun h => ?_) | refine And.intro ?_ ?_ | fail))
  all_goals (refine leafE ?_; rw [cmpF_eq]; grind [pLt, pLe, pGt, pGe, pEq, pNe, pNot, pAndB, pBeq, pInt, pLen, inF, pIn, pTo, pNat])
theorem at1_ok : Meets Try.prog (fun _ => none) 75 cat1 := at1_meets Compare_ok fun xk xv xn k => rfl

/- rows of items by their keys -/
theorem pLt_trans {a b c : Int} (h1 : pLt a b = true) (h2 : pLt b c = true) : pLt a c = true := by simp only [pLt, decide_eq_true_eq] at *; omega
theorem items_up {l : List ItemD} (h : itemsF l = true) : ∀ {j i : Nat}, i < j → j < l.length → pLt (pGet tyItem l i).1 (pGet tyItem l j).1 = true
  | 0, _, hi, _ => absurd hi (by omega)
  | j + 1, i, hi, hj => by
    have h1 := allUpto_iff.1 h (j + 1) hj
    rw [itemOk_eq] at h1
    have h2 : pLt (pGet tyItem l j).1 (pGet tyItem l (j + 1)).1 = true := by
      simp only [Bool.and_eq_true, Bool.or_eq_true, decide_eq_true_eq, Nat.add_sub_cancel] at h1
      rcases h1.2 with h | h
      · omega
      · exact h
    rcases Nat.lt_succ_iff_lt_or_eq.1 hi with h3 | h3
    · exact pLt_trans (items_up h h3 (by omega)) h2
    · rw [h3]; exact h2
theorem posF_at {l : List ItemD} {k : Int} {i : Nat} (hi : i ≤ l.length) (h1 : ∀ m, m < i → pGe (pGet tyItem l m).1 k = false) (h2 : i < l.length → pGe (pGet tyItem l i).1 k = true) : posF l k = (i : Int) := by
  unfold posF
  by_cases hl : i < l.length
  · rw [find_range hl h1 (h2 hl)]
  · have : i = l.length := by omega
    have hn : (List.range l.length).find? (fun j => pGe (pGet tyItem l j).1 k) = none := by
      rw [List.find?_eq_none]; intro j hj; rw [h1 j (by rw [this]; simpa using hj)]; simp
    rw [hn, this]
theorem idxKey_at {l : List ItemD} {k : Int} (hs : itemsF l = true) {i : Nat} (hi : i ≤ l.length) (h1 : ∀ m, m < i → pGe (pGet tyItem l m).1 k = false) (h2 : i < l.length → pGe (pGet tyItem l i).1 k = true) :
    idxKeyF l k = cond (decide (i < l.length) && pEq (pGet tyItem l i).1 k) (i : Int) (-1) := by
  have hlow : ∀ j, j < i → keyAt l k j = false := fun j hj => by
    have := h1 j hj; simp only [keyAt, pGe, pEq, decide_eq_false_iff_not, beq_eq_false_iff_ne] at this ⊢; omega
  cases hq : (decide (i < l.length) && pEq (pGet tyItem l i).1 k) with
  | true =>
    simp only [Bool.and_eq_true, decide_eq_true_eq] at hq
    exact idxOf_hit hq.1 hlow hq.2
  | false =>
    refine idxOf_none fun j hj => ?_
    by_cases hji : j < i
    · exact hlow j hji
    · have hil : i < l.length := by omega
      have hk := h2 hil
      simp only [hil, decide_true, Bool.true_and] at hq
      by_cases he : j = i
      · rw [he]; exact hq
      · have hup := items_up hs (show i < j by omega) hj
        simp only [keyAt, pLt, pGe, pEq, decide_eq_true_eq, beq_eq_false_iff_ne] at hk hq hup ⊢
        omega
theorem idxKey_pos {l : List ItemD} {k : Int} (hs : itemsF l = true) (h : pGe (idxKeyF l k) 0 = true) : posF l k = idxKeyF l k ∧ ∃ i : Nat, idxKeyF l k = (i : Int) ∧ i < l.length := by
  have hg : anyUpto (keyAt l k) l.length = true := by rw [← idxOf_ge]; exact h
  obtain ⟨j, hj, hk⟩ := anyUpto_iff.1 hg
  have hk' : pEq (pGet tyItem l j).1 k = true := hk
  have hk2 := hk'
  simp only [pEq, beq_iff_eq] at hk2
  have h1 : ∀ m, m < j → pGe (pGet tyItem l m).1 k = false := fun m hm => by
    have := items_up hs hm hj; simp only [pLt, decide_eq_true_eq] at this; simp only [pGe, decide_eq_false_iff_not]; omega
  have h2 : j < l.length → pGe (pGet tyItem l j).1 k = true := fun _ => by simp only [pGe, decide_eq_true_eq]; omega
  have hp := posF_at (Nat.le_of_lt hj) h1 h2
  have hi := idxKey_at hs (Nat.le_of_lt hj) h1 h2
  rw [show (decide (j < l.length) && pEq (pGet tyItem l j).1 k) = true by rw [hk']; simp [hj], cond_true] at hi
  exact ⟨by rw [hp, hi], j, hi, hj⟩

theorem mid {i j : Nat} (hb : i < 4611686018427387904) (hc : j < 4611686018427387904) : pWrap .i64 (pShr .u64 (pWrap .u64 (pAdd .i64 (i : Int) (j : Int))) 1) = (((i + j) / 2 : Nat) : Int) := by
  rw [pAdd_in (by omega)]
  have e1 : pWrap .u64 ((i : Int) + (j : Int)) = ((i + j : Nat) : Int) := by
    unfold pWrap IntKind.wrap
    simp only [IntKind.signed, IntKind.bits]
    simp
    omega
  have e2 : pShr .u64 ((i + j : Nat) : Int) 1 = (((i + j) / 2 : Nat) : Int) := by
    unfold pShr
    simp only [IntKind.bits]
    rw [show (2 : Int) ^ (min (1 : Int).toNat 64) = 2 from rfl, Int.fdiv_eq_ediv_of_nonneg _ (by omega)]
    omega
  rw [e1, e2]
  unfold pWrap
  exact Go.IntWalk.i64_in _ (by omega)

theorem sbin_ok : Meets Try.prog (fun _ => none) 74 cbin := bin_meets at1_ok fun l k hp => by
  have hl : l.length < 4611686018427387904 := hp (pLen l < 4611686018427387904) (by simp)
  have hs : itemsF l = true := hp (itemsF l = true) (by simp)
  clear hp
  unfold bin_VC
  refine ⟨⟨0, l.length, rfl, Nat.zero_le _, Nat.le_refl _, fun m hm => absurd hm (by omega), fun m h1 h2 => absurd h2 (by omega)⟩, fun y hy => ?_⟩
  obtain ⟨i, j, rfl, hij, hj, h1, h2⟩ := hy
  dsimp only
  by_cases hlt : i < j
  · rw [bif_true (show pLt (i : Int) (j : Int) = true by simp [pLt, hlt]), mid (by omega) (by omega), pNat_coe]
    have hm : (i + j) / 2 < j := by omega
    have hm2 : i ≤ (i + j) / 2 := by omega
    refine ⟨(by unfold pGe0; decide), pIn_coe.2 (by unfold pLen; omega), bif_ok (fun h => ?_) fun h => ?_⟩
    · have hk : pLt (pGet tyItem l ((i + j) / 2)).1 k = true := by rw [cmpF_eq] at h; grind [pLt, pLe, pGt, pGe, pEq, pNe, pNot, pAndB, pBeq, pInt, pLen, inF, pIn, pTo, pNat]
      simp only [pLt, decide_eq_true_eq] at hk
      rw [pAdd1 (by omega)]
      refine ⟨⟨(i + j) / 2 + 1, j, rfl, by omega, hj, fun m hm3 => ?_, h2⟩, ?_⟩
      · simp only [pGe, decide_eq_false_iff_not]
        by_cases he : m = (i + j) / 2
        · rw [he]; omega
        · have := items_up hs (show m < (i + j) / 2 by omega) (by omega); simp only [pLt, decide_eq_true_eq] at this; omega
      · unfold binMu; simp only [Int.toNat_natCast]; exact Nat.lt_of_lt_of_le (show j - ((i + j) / 2 + 1) < j - i by omega) (Nat.le_refl _)
    · have hk : pLe k (pGet tyItem l ((i + j) / 2)).1 = true := by rw [cmpF_eq] at h; simp only [pLe]; grind [pLt, pLe, pGt, pGe, pEq, pNe, pNot, pAndB, pBeq, pInt, pLen, inF, pIn, pTo, pNat]
      simp only [pLe, decide_eq_true_eq] at hk
      refine ⟨⟨i, (i + j) / 2, rfl, hm2, by omega, h1, fun m hm3 hm4 => ?_⟩, ?_⟩
      · simp only [pGe, decide_eq_true_eq]
        by_cases he : m = (i + j) / 2
        · rw [he]; omega
        · have := items_up hs (show (i + j) / 2 < m by omega) hm4; simp only [pLt, decide_eq_true_eq] at this; omega
      · unfold binMu; simp only [Int.toNat_natCast]; exact Nat.lt_of_lt_of_le (show (i + j) / 2 - i < j - i by omega) (Nat.le_refl _)
  · obtain rfl : i = j := by omega
    rw [bif_false (show pLt (i : Int) (i : Int) = false by simp [pLt]), pNat_coe]
    have h2' : i < l.length → pGe (pGet tyItem l i).1 k = true := fun h => h2 i (Nat.le_refl _) h
    have hpos := posF_at hj h1 h2'
    have hidx := idxKey_at hs hj h1 h2'
    rw [hpos, hidx]
    by_cases hil : i < l.length
    · rw [bif_true (by simp [pLt_coe, pLen, hil])]
      refine ⟨pIn_coe.2 hil, ?_⟩
      have hk := h2' hil
      have e : pEq (cmpF (pGet tyItem l i).1 k) 0 = pEq (pGet tyItem l i).1 k := by rw [cmpF_eq]; clear hidx hpos; grind [pLt, pLe, pGt, pGe, pEq, pNe, pNot, pAndB, pBeq, pInt, pLen, inF, pIn, pTo, pNat]
      rw [e]
      simp only [hil, decide_true, Bool.true_and]
      cases pEq (pGet tyItem l i).1 k <;> simp [pGe]
    · rw [bif_false (by simp [pLt_coe, pLen]; omega)]
      simp only [hil, decide_false, Bool.false_and, cond_false]
      rfl
theorem at_ok : Meets Try.prog (fun _ => none) 57 cat := at_meets sbin_ok fun l k hp => ⟨hp (pLen l < 4611686018427387904) (by simp), hp (itemsF l = true) (by simp), rfl⟩
theorem itemF_eq (l : List ItemD) (k : Int) : itemF l k = cond (pGe (idxKeyF l k) 0) (pGet tyItem l (pNat (idxKeyF l k))) (k, 0, 0, ()) := rfl
theorem item_ok : Meets Try.prog (fun _ => none) 50 citem := item_meets at_ok fun si sl sd so k hp => by
  have hl : si.length < 4611686018427387904 := hp (pLen si < 4611686018427387904) (by simp)
  have hs : itemsF si = true := hp (itemsF si = true) (by simp)
  clear hp
  unfold item_VC
  rw [itemF_eq]
  refine ⟨hl, hs, bif_ok (fun h => ?_) fun h => ?_⟩
  · obtain ⟨h1, i, h2, h3⟩ := idxKey_pos hs h
    rw [h, h1, h2, cond_true]
    exact ⟨pIn_coe.2 h3, rfl⟩
  · rw [h]; rfl
theorem itemOf_ok : Meets Try.prog (fun _ => none) 52 citemOf := itemOf_meets fun si sl sd so k hp => by
  have hl : si.length < 4611686018427387904 := hp (pLen si < 4611686018427387904) (by simp)
  clear hp
  refine ⟨UpInv.start, fun y hy => ?_⟩
  rcases FindInv.round hl hy with ⟨i, rfl, hk, hb, hT, hF⟩ | ⟨rfl, hT⟩
  · rw [bif_true (by simp [pLt_coe, pLen, hk]), pNat_coe]
    refine ⟨pIn_coe.2 hk, bif_ok (fun h => ⟨pIn_coe.2 hk, ?_⟩) fun h => hF h⟩
    have e : idxKeyF si k = (i : Int) := hT h
    rw [itemF_eq, e, show pGe (i : Int) 0 = true by simp [pGe], cond_true, pNat_coe]
  · rw [bif_false (by simp [pLt_coe, pLen])]
    have e : idxKeyF si k = -1 := hT
    rw [itemF_eq, e]; rfl

theorem lock1_ok : Meets Try.prog (fun _ => none) 71 clock1 := lock1_meets fun xs xn xk xw xv xq a b c => by
  unfold lock1_VC
  have e : lkIs (xs, xn, xk, xw, xv, xq, ()) a b c = (pAndB (pEq xs a) (pEq xn b) && pEq xk c) := rfl
  rw [e]
  (repeat' (first | refine bif_ok (fun h => ?_) (fun h => ?_) | refine And.intro ?_ ?_ | fail))
  all_goals (refine leafE ?_; grind [pLt, pLe, pGt, pGe, pEq, pNe, pNot, pAndB, pBeq, pInt, pLen, inF, pIn, pTo, pNat])
theorem lock_eta (l : List LockD) (k : Nat) : ((pGet tyLock l k).1, (pGet tyLock l k).2.1, (pGet tyLock l k).2.2.1, (pGet tyLock l k).2.2.2.1, (pGet tyLock l k).2.2.2.2.1, (pGet tyLock l k).2.2.2.2.2.1, ()) = pGet tyLock l k := rfl
theorem indexLk_ok : Meets Try.prog (fun _ => none) 69 cindexLk := indexLk_meets lock1_ok fun l a b c hp => by
  have hl : l.length < 4611686018427387904 := hp _ List.mem_cons_self
  refine ⟨UpInv.start, fun y hy => ?_⟩
  rcases FindInv.round hl hy with ⟨k, rfl, hk, hb, hT, hF⟩ | ⟨rfl, hT⟩
  · rw [bif_true (by simp [pLt_coe, pLen, hk]), pNat_coe, lock_eta]
    refine ⟨pIn_coe.2 hk, bif_ok (fun h => ?_) fun h => hF h⟩
    exact congrArg (·, ()) (hT h).symm
  · rw [bif_false (by simp [pLt_coe, pLen])]
    exact congrArg (·, ()) hT.symm
theorem lock_ok : Meets Try.prog (fun _ => none) 49 clock := lock_meets indexLk_ok fun si sl sd so ts tn k hp => ⟨hp (pLen sl < 4611686018427387904) (by simp), rfl⟩
theorem lockOf_ok : Meets Try.prog (fun _ => none) 51 clockOf := lockOf_meets fun si sl sd so ts tn k hp => by
  have hl : sl.length < 4611686018427387904 := hp (pLen sl < 4611686018427387904) (by simp)
  clear hp
  refine ⟨UpInv.start, fun y hy => ?_⟩
  rcases FindInv.round hl hy with ⟨i, rfl, hk, hb, hT, hF⟩ | ⟨rfl, hT⟩
  · rw [bif_true (by simp [pLt_coe, pLen, hk]), pNat_coe]
    have e : lkIs (pGet tyLock sl i) ts tn k = (pAndB (pEq (pGet tyLock sl i).1 ts) (pEq (pGet tyLock sl i).2.1 tn) && pEq (pGet tyLock sl i).2.2.1 k) := rfl
    refine ⟨pIn_coe.2 hk, bif_ok (fun h => ⟨pIn_coe.2 hk, bif_ok (fun h2 => ?_) fun h2 => ?_⟩) fun h => ?_⟩
    · exact congrArg (·, ()) (hT (by rw [e, h, h2]; rfl)).symm
    · exact hF (by rw [e, h, h2]; rfl)
    · exact hF (by rw [e, h]; rfl)
  · rw [bif_false (by simp [pLt_coe, pLen])]
    exact congrArg (·, ()) hT.symm
theorem busyIs_eq (x : LockD) (a b c : Int) (g : Bool) : busyIs x a b c g = ((pEq x.2.2.1 c && pNot (pAndB (pEq x.1 a) (pEq x.2.1 b))) && (g || x.2.2.2.1)) := rfl
theorem busy1_ok : Meets Try.prog (fun _ => none) 72 cbusy1 := busy1_meets fun xs xn xk xw xv xq c a b g => by
  unfold busy1_VC
  (repeat' (first | refine bif_ok (fun h => ?_) (fun h => ?_) | refine And.intro ?_ ?_ | fail))
  all_goals (refine leafE ?_; rw [busyIs_eq]; grind [pLt, pLe, pGt, pGe, pEq, pNe, pNot, pAndB, pBeq, pInt, pLen, inF, pIn, pTo, pNat])
theorem indexBu_ok : Meets Try.prog (fun _ => none) 69 cindexBu := indexBu_meets busy1_ok fun l c a b g hp => by
  have hl : l.length < 4611686018427387904 := hp _ List.mem_cons_self
  refine ⟨UpInv.start, fun y hy => ?_⟩
  rcases FindInv.round hl hy with ⟨k, rfl, hk, hb, hT, hF⟩ | ⟨rfl, hT⟩
  · rw [bif_true (by simp [pLt_coe, pLen, hk]), pNat_coe, lock_eta]
    refine ⟨pIn_coe.2 hk, bif_ok (fun h => ?_) fun h => hF h⟩
    exact congrArg (·, ()) (hT h).symm
  · rw [bif_false (by simp [pLt_coe, pLen])]
    exact congrArg (·, ()) hT.symm
theorem containsBu_ok : Meets Try.prog (fun _ => none) 47 ccontainsBu := containsBu_meets indexBu_ok fun l c a b g hp => ⟨hp _ List.mem_cons_self, rfl⟩
theorem busy_ok : Meets Try.prog (fun _ => none) 53 cbusy := busy_meets containsBu_ok fun si sl sd so ts tn k g hp => ⟨hp (pLen sl < 4611686018427387904) (by simp), rfl⟩

theorem cntTo_succ {p : Nat → Bool} {k : Nat} : cntTo p (k + 1) = cond (p k) (cntTo p k + 1) (cntTo p k) := by
  unfold cntTo
  rw [List.range_succ, List.filter_append, List.length_append]
  cases h : p k <;> simp [h]
theorem cntTo_le {p : Nat → Bool} {k : Nat} : cntTo p k ≤ k := by
  unfold cntTo
  exact Nat.le_trans (List.length_filter_le _ _) (by simp)
theorem cntTo_any {p : Nat → Bool} {n : Nat} : pGt ((cntTo p n : Nat) : Int) 0 = anyUpto p n := by
  rw [Bool.eq_iff_iff, anyUpto_iff]
  simp only [pGt, decide_eq_true_eq]
  constructor
  · intro h
    have h' : 0 < ((List.range n).filter p).length := by have : 0 < cntTo p n := by omega
                                                         exact this
    obtain ⟨x, hx⟩ := List.exists_mem_of_length_pos h'
    exact ⟨x, by simpa using (List.mem_filter.1 hx).1, (List.mem_filter.1 hx).2⟩
  · rintro ⟨j, hj, h⟩
    have : 0 < ((List.range n).filter p).length := List.length_pos_of_mem (List.mem_filter.2 ⟨by simpa using hj, h⟩)
    have : 0 < cntTo p n := this
    omega
theorem others_ok : Meets Try.prog (fun _ => none) 54 cothers := others_meets fun si sl sd so ts tn k hp => by
  have hl : sl.length < 4611686018427387904 := hp (pLen sl < 4611686018427387904) (by simp)
  clear hp
  refine ⟨⟨0, rfl, Nat.zero_le _⟩, fun y hy => ?_⟩
  obtain ⟨i, rfl, hi⟩ := hy
  by_cases hk : i < sl.length
  · rw [bif_true (by simp [pLt_coe, pLen, hk])]
    dsimp only
    rw [pNat_coe]
    have ea := busyIs_eq (pGet tyLock sl i) ts tn k true
    have ew := busyIs_eq (pGet tyLock sl i) ts tn k false
    have ha := cntTo_le (p := fun j => busyIs (pGet tyLock sl j) ts tn k true) (k := i)
    have hw := cntTo_le (p := fun j => busyIs (pGet tyLock sl j) ts tn k false) (k := i)
    have nx : ∀ u v : Int, u = ((cntTo (fun j => busyIs (pGet tyLock sl j) ts tn k true) (i + 1) : Nat) : Int) → v = ((cntTo (fun j => busyIs (pGet tyLock sl j) ts tn k false) (i + 1) : Nat) : Int) →
        othInv si sl sd so ts tn k (pAdd .i64 (i : Int) 1, u, v, ()) := fun u v hu hv => ⟨i + 1, by rw [pAdd1 (by omega), hu, hv], hk⟩
    refine ⟨pIn_coe.2 hk, bif_ok (fun h1 => ⟨pIn_coe.2 hk, bif_ok (fun h2 => ⟨pIn_coe.2 hk, bif_ok (fun h3 => ⟨nx _ _ ?_ ?_, mu_step hk (by omega)⟩) fun h3 => ⟨nx _ _ ?_ ?_, mu_step hk (by omega)⟩⟩) fun h2 => ⟨nx _ _ ?_ ?_, mu_step hk (by omega)⟩⟩) fun h1 => ⟨nx _ _ ?_ ?_, mu_step hk (by omega)⟩⟩
    · rw [cntTo_succ, ea, h1, h2, pAdd1 (by omega)]; rfl
    · rw [cntTo_succ, ew, h1, h2, h3, pAdd1 (by omega)]; rfl
    · rw [cntTo_succ, ea, h1, h2, pAdd1 (by omega)]; rfl
    · rw [cntTo_succ, ew, h1, h2, h3]; rfl
    · rw [cntTo_succ, ea, h1, h2]; rfl
    · rw [cntTo_succ, ew, h1, h2]; rfl
    · rw [cntTo_succ, ea, h1]; rfl
    · rw [cntTo_succ, ew, h1]; rfl
  · obtain rfl : i = sl.length := by omega
    rw [bif_false (by simp [pLt_coe, pLen])]
    rfl
theorem busy_all (l : List LockD) (a b c : Int) : pGt (othA l a b c) 0 = pGe (idxBusyF l a b c true) 0 := by
  unfold othA idxBusyF; rw [cntTo_any, idxOf_ge]
theorem busy_write (l : List LockD) (a b c : Int) : pGt (othW l a b c) 0 = pGe (idxBusyF l a b c false) 0 := by
  unfold othW idxBusyF; rw [cntTo_any, idxOf_ge]

theorem askE_eq (s : StoD) (t : TxnD) (k : Int) : askE s t k = cond (stoF s) (cond (txnF t && inF k 0 7) 0 2) 9 := rfl
theorem scall_ok : Meets Try.prog (fun _ => none) 40 ccall := call_meets Check_ok txn_ok fun si sl sd so ts tn k hp => by
  have h1 : si.length < 4611686018427387904 := hp (pLen si < 4611686018427387904) (by simp)
  have h2 : sl.length < 4611686018427387904 := hp (pLen sl < 4611686018427387904) (by simp)
  have h3 : sd.length < 4611686018427387904 := hp (pLen sd < 4611686018427387904) (by simp)
  have h4 : so.length < 4611686018427387904 := hp (pLen so < 4611686018427387904) (by simp)
  clear hp
  unfold call_VC
  rw [askE_eq]
  refine ⟨h1, h2, h3, h4, ?_⟩
  clear h1 h2 h3 h4
  (repeat' (first | refine bif_ok (fun h => ?_) (fun h => ?_) | refine And.intro ?_ ?_ | fail))
  all_goals (refine leafE ?_; grind [pLt, pLe, pGt, pGe, pEq, pNe, pNot, pAndB, pBeq, pInt, pLen, inF, pIn, pTo, pNat])
theorem askFault_ok : Meets Try.prog (fun _ => none) 41 caskFault := askFault_meets StoreMay_ok plainTxn_ok In_ok fun si sl sd so ts tn k hp => by
  have h1 : si.length < 4611686018427387904 := hp (pLen si < 4611686018427387904) (by simp)
  have h2 : sl.length < 4611686018427387904 := hp (pLen sl < 4611686018427387904) (by simp)
  have h3 : sd.length < 4611686018427387904 := hp (pLen sd < 4611686018427387904) (by simp)
  have h4 : so.length < 4611686018427387904 := hp (pLen so < 4611686018427387904) (by simp)
  clear hp
  unfold askFault_VC
  rw [askE_eq]
  refine ⟨h1, h2, h3, h4, ?_⟩
  clear h1 h2 h3 h4
  (repeat' (first | refine bif_ok (fun h => ?_) (fun h => ?_) | refine And.intro ?_ ?_ | fail))
  all_goals (refine leafE ?_; grind [pLt, pLe, pGt, pGe, pEq, pNe, pNot, pAndB, pBeq, pInt, pLen, inF, pIn, pTo, pNat])

theorem handF_eq (l : List DoubtD) (a b : Int) : handF l a b = cond (pGe (idxDoubtF l (a, b, ())) 0) l (pApp l [(a, b, 0, ())]) := rfl
theorem hand_ok : Meets Try.prog (fun _ => none) 56 chand := hand_meets doubted_ok fun a b is ls ds os hp => by
  have h1 : is.length < 4611686018427387904 := hp (pLen is < 4611686018427387904) (by simp)
  have h2 : ls.length < 4611686018427387904 := hp (pLen ls < 4611686018427387904) (by simp)
  have h3 : ds.length < 4611686018427387904 := hp (pLen ds < 4611686018427387904) (by simp)
  have h4 : os.length < 4611686018427387904 := hp (pLen os < 4611686018427387904) (by simp)
  have h5 : pRoom (pPlus (pLen ds) 1) 24 := hp (pRoom (pPlus (pLen ds) 1) 24) (by simp)
  clear hp
  unfold hand_VC
  rw [handF_eq]
  refine ⟨h1, h2, h3, h4, bif_ok (fun h => ⟨h5, ?_⟩) fun h => ?_⟩
  · rw [show pGe (idxDoubtF ds (a, b, ())) 0 = false by simpa [pNot] using h]; rfl
  · rw [show pGe (idxDoubtF ds (a, b, ())) 0 = true by simpa [pNot] using h]; rfl

end Go.Proofs.Ytoalcmpjfnlkdaa
