/- slices.Insert at []api.Item: its walk. No condition. -/
import Derived.Test.YtkhnakdmkhidbaaDoorJ3
import Derived.Test.YtkhnakdmkhidbaaDoorJ5
import Derived.Test.YtkhnakdmkhidbaaDoorJ1
import Derived.Test.YtkhnakdmkhidbaaDoorLib
import Derived.Shelf.Spec.SlicesInsertGrow
import Derived.Deep.RegionLaw

/- Functions of the store meet their contracts: search, locks. No condition. -/
namespace Go.Proofs.YtkhnakdmkhidbaaDoor
open Go.RowKit

theorem isNaN_ok : Meets Tryd.prog (fun _ => none) 121 cisNaN := isNaN_meets fun a => by
  unfold isNaN_VC
  exact leafE (by grind [pLt, pLe, pGt, pGe, pEq, pNe, pNot, pAndB, pBeq, pInt, pLen, inF, pIn, pTo, pNat])
theorem cmpF_eq (a b : Int) : cmpF a b = cond (pLt a b) (-1) (cond (pGt a b) 1 0) := rfl
theorem Compare_ok : Meets Tryd.prog (fun _ => none) 113 cCompare := Compare_meets isNaN_ok fun a b => by
  unfold Compare_VC
  (repeat' (first | refine bif_ok (fun h => ?_) (fun h => ?_) | refine And.intro ?_ ?_ | fail))
  all_goals (refine leafE ?_; rw [cmpF_eq]; grind [pLt, pLe, pGt, pGe, pEq, pNe, pNot, pAndB, pBeq, pInt, pLen, inF, pIn, pTo, pNat])
theorem at1_ok : Meets Tryd.prog (fun _ => none) 112 cat1 := at1_meets Compare_ok fun xk xv xn k => rfl

/- rows of items by their keys -/
theorem pLt_trans {a b c : Int} (h1 : pLt a b = true) (h2 : pLt b c = true) : pLt a c = true := by simp only [pLt, decide_eq_true_eq] at *; omega
theorem sort_of {l : List ItemD} (h : itemsF l = true) : sortF l = true := allUpto_true fun j hj => by
  have h1 := allUpto_iff.1 h j hj
  rw [itemOk_eq] at h1
  simp only [Bool.and_eq_true] at h1
  exact h1.2
theorem items_up {l : List ItemD} (h : sortF l = true) : ∀ {j i : Nat}, i < j → j < l.length → pLt (pGet tyItem l i).1 (pGet tyItem l j).1 = true
  | 0, _, hi, _ => absurd hi (by omega)
  | j + 1, i, hi, hj => by
    have h1 := allUpto_iff.1 h (j + 1) hj
    have h2 : pLt (pGet tyItem l j).1 (pGet tyItem l (j + 1)).1 = true := by
      simp only [Bool.or_eq_true, decide_eq_true_eq, Nat.add_sub_cancel] at h1
      rcases h1 with h | h
      · omega
      · exact h
    rcases Nat.lt_succ_iff_lt_or_eq.1 hi with h3 | h3
    · exact pLt_trans (items_up h h3 (by omega)) h2
    · rw [h3]; exact h2
theorem posF_at {l : List ItemD} {k : Int} {i : Nat} (hi : i ≤ l.length) (h1 : ∀ m, m < i → pGe (pGet tyItem l m).1 k = false) (h2 : i < l.length → pGe (pGet tyItem l i).1 k = true) : posF l k = (i : Int) := by
  unfold posF
  by_cases hl : i < l.length
  · rw [find_range hl h1 (h2 hl)]
  · have : i = l.length := by omega
    have hn : (List.range l.length).find? (fun j => pGe (pGet tyItem l j).1 k) = none := by
      rw [List.find?_eq_none]; intro j hj; rw [h1 j (by rw [this]; simpa using hj)]; simp
    rw [hn, this]
theorem idxKey_at {l : List ItemD} {k : Int} (hs : sortF l = true) {i : Nat} (hi : i ≤ l.length) (h1 : ∀ m, m < i → pGe (pGet tyItem l m).1 k = false) (h2 : i < l.length → pGe (pGet tyItem l i).1 k = true) :
    idxKeyF l k = cond (decide (i < l.length) && pEq (pGet tyItem l i).1 k) (i : Int) (-1) := by
  have hlow : ∀ j, j < i → keyAt l k j = false := fun j hj => by
    have := h1 j hj; simp only [keyAt, pGe, pEq, decide_eq_false_iff_not, beq_eq_false_iff_ne] at this ⊢; omega
  cases hq : (decide (i < l.length) && pEq (pGet tyItem l i).1 k) with
  | true =>
    simp only [Bool.and_eq_true, decide_eq_true_eq] at hq
    exact idxOf_hit hq.1 hlow hq.2
  | false =>
    refine idxOf_none fun j hj => ?_
    by_cases hji : j < i
    · exact hlow j hji
    · have hil : i < l.length := by omega
      have hk := h2 hil
      simp only [hil, decide_true, Bool.true_and] at hq
      by_cases he : j = i
      · rw [he]; exact hq
      · have hup := items_up hs (show i < j by omega) hj
        simp only [keyAt, pLt, pGe, pEq, decide_eq_true_eq, beq_eq_false_iff_ne] at hk hq hup ⊢
        omega
theorem idxKey_pos {l : List ItemD} {k : Int} (hs : sortF l = true) (h : pGe (idxKeyF l k) 0 = true) : posF l k = idxKeyF l k ∧ ∃ i : Nat, idxKeyF l k = (i : Int) ∧ i < l.length := by
  have hg : anyUpto (keyAt l k) l.length = true := by rw [← idxOf_ge]; exact h
  obtain ⟨j, hj, hk⟩ := anyUpto_iff.1 hg
  have hk' : pEq (pGet tyItem l j).1 k = true := hk
  have hk2 := hk'
  simp only [pEq, beq_iff_eq] at hk2
  have h1 : ∀ m, m < j → pGe (pGet tyItem l m).1 k = false := fun m hm => by
    have := items_up hs hm hj; simp only [pLt, decide_eq_true_eq] at this; simp only [pGe, decide_eq_false_iff_not]; omega
  have h2 : j < l.length → pGe (pGet tyItem l j).1 k = true := fun _ => by simp only [pGe, decide_eq_true_eq]; omega
  have hp := posF_at (Nat.le_of_lt hj) h1 h2
  have hi := idxKey_at hs (Nat.le_of_lt hj) h1 h2
  rw [show (decide (j < l.length) && pEq (pGet tyItem l j).1 k) = true by rw [hk']; simp [hj], cond_true] at hi
  exact ⟨by rw [hp, hi], j, hi, hj⟩

theorem mid {i j : Nat} (hb : i < 4611686018427387904) (hc : j < 4611686018427387904) : pWrap .i64 (pShr .u64 (pWrap .u64 (pAdd .i64 (i : Int) (j : Int))) 1) = (((i + j) / 2 : Nat) : Int) := by
  rw [pAdd_in (by omega)]
  have e1 : pWrap .u64 ((i : Int) + (j : Int)) = ((i + j : Nat) : Int) := by
    unfold pWrap IntKind.wrap
    simp only [IntKind.signed, IntKind.bits]
    simp
    omega
  have e2 : pShr .u64 ((i + j : Nat) : Int) 1 = (((i + j) / 2 : Nat) : Int) := by
    unfold pShr
    simp only [IntKind.bits]
    rw [show (2 : Int) ^ (min (1 : Int).toNat 64) = 2 from rfl, Int.fdiv_eq_ediv_of_nonneg _ (by omega)]
    omega
  rw [e1, e2]
  unfold pWrap
  exact Go.IntWalk.i64_in _ (by omega)

theorem sbin_ok : Meets Tryd.prog (fun _ => none) 111 cbin := bin_meets at1_ok fun l k hp => by
  have hl : l.length < 4611686018427387904 := hp (pLen l < 4611686018427387904) (by simp)
  have hs : sortF l = true := hp (sortF l = true) (by simp)
  clear hp
  unfold bin_VC
  refine ⟨⟨0, l.length, rfl, Nat.zero_le _, Nat.le_refl _, fun m hm => absurd hm (by omega), fun m h1 h2 => absurd h2 (by omega)⟩, fun y hy => ?_⟩
  obtain ⟨i, j, rfl, hij, hj, h1, h2⟩ := hy
  dsimp only
  by_cases hlt : i < j
  · rw [bif_true (show pLt (i : Int) (j : Int) = true by simp [pLt, hlt]), mid (by omega) (by omega), pNat_coe]
    have hm : (i + j) / 2 < j := by omega
    have hm2 : i ≤ (i + j) / 2 := by omega
    refine ⟨(by unfold pGe0; decide), pIn_coe.2 (by unfold pLen; omega), bif_ok (fun h => ?_) fun h => ?_⟩
    · have hk : pLt (pGet tyItem l ((i + j) / 2)).1 k = true := by rw [cmpF_eq] at h; grind [pLt, pLe, pGt, pGe, pEq, pNe, pNot, pAndB, pBeq, pInt, pLen, inF, pIn, pTo, pNat]
      simp only [pLt, decide_eq_true_eq] at hk
      rw [pAdd1 (by omega)]
      refine ⟨⟨(i + j) / 2 + 1, j, rfl, by omega, hj, fun m hm3 => ?_, h2⟩, ?_⟩
      · simp only [pGe, decide_eq_false_iff_not]
        by_cases he : m = (i + j) / 2
        · rw [he]; omega
        · have := items_up hs (show m < (i + j) / 2 by omega) (by omega); simp only [pLt, decide_eq_true_eq] at this; omega
      · unfold binMu; simp only [Int.toNat_natCast]; exact Nat.lt_of_lt_of_le (show j - ((i + j) / 2 + 1) < j - i by omega) (Nat.le_refl _)
    · have hk : pLe k (pGet tyItem l ((i + j) / 2)).1 = true := by rw [cmpF_eq] at h; simp only [pLe]; grind [pLt, pLe, pGt, pGe, pEq, pNe, pNot, pAndB, pBeq, pInt, pLen, inF, pIn, pTo, pNat]
      simp only [pLe, decide_eq_true_eq] at hk
      refine ⟨⟨i, (i + j) / 2, rfl, hm2, by omega, h1, fun m hm3 hm4 => ?_⟩, ?_⟩
      · simp only [pGe, decide_eq_true_eq]
        by_cases he : m = (i + j) / 2
        · rw [he]; omega
        · have := items_up hs (show (i + j) / 2 < m by omega) hm4; simp only [pLt, decide_eq_true_eq] at this; omega
      · unfold binMu; simp only [Int.toNat_natCast]; exact Nat.lt_of_lt_of_le (show (i + j) / 2 - i < j - i by omega) (Nat.le_refl _)
  · obtain rfl : i = j := by omega
    rw [bif_false (show pLt (i : Int) (i : Int) = false by simp [pLt]), pNat_coe]
    have h2' : i < l.length → pGe (pGet tyItem l i).1 k = true := fun h => h2 i (Nat.le_refl _) h
    have hpos := posF_at hj h1 h2'
    have hidx := idxKey_at hs hj h1 h2'
    rw [hpos, hidx]
    by_cases hil : i < l.length
    · rw [bif_true (by simp [pLt_coe, pLen, hil])]
      refine ⟨pIn_coe.2 hil, ?_⟩
      have hk := h2' hil
      have e : pEq (cmpF (pGet tyItem l i).1 k) 0 = pEq (pGet tyItem l i).1 k := by rw [cmpF_eq]; clear hidx hpos; grind [pLt, pLe, pGt, pGe, pEq, pNe, pNot, pAndB, pBeq, pInt, pLen, inF, pIn, pTo, pNat]
      rw [e]
      simp only [hil, decide_true, Bool.true_and]
      cases pEq (pGet tyItem l i).1 k <;> simp [pGe]
    · rw [bif_false (by simp [pLt_coe, pLen]; omega)]
      simp only [hil, decide_false, Bool.false_and, cond_false]
      rfl
theorem at_ok : Meets Tryd.prog (fun _ => none) 91 cat := at_meets sbin_ok fun l k hp => ⟨hp (pLen l < 4611686018427387904) (by simp), hp (sortF l = true) (by simp), rfl⟩
theorem lock_eta (l : List LockD) (k : Nat) : ((pGet tyLock l k).1, (pGet tyLock l k).2.1, (pGet tyLock l k).2.2.1, (pGet tyLock l k).2.2.2.1, (pGet tyLock l k).2.2.2.2.1, (pGet tyLock l k).2.2.2.2.2.1, ()) = pGet tyLock l k := rfl
theorem cntTo_succ {p : Nat → Bool} {k : Nat} : cntTo p (k + 1) = cond (p k) (cntTo p k + 1) (cntTo p k) := by
  unfold cntTo
  rw [List.range_succ, List.filter_append, List.length_append]
  cases h : p k <;> simp [h]
theorem cntTo_le {p : Nat → Bool} {k : Nat} : cntTo p k ≤ k := by
  unfold cntTo
  exact Nat.le_trans (List.length_filter_le _ _) (by simp)
theorem cntTo_any {p : Nat → Bool} {n : Nat} : pGt ((cntTo p n : Nat) : Int) 0 = anyUpto p n := by
  rw [Bool.eq_iff_iff, anyUpto_iff]
  simp only [pGt, decide_eq_true_eq]
  constructor
  · intro h
    have h' : 0 < ((List.range n).filter p).length := by have : 0 < cntTo p n := by omega
                                                         exact this
    obtain ⟨x, hx⟩ := List.exists_mem_of_length_pos h'
    exact ⟨x, by simpa using (List.mem_filter.1 hx).1, (List.mem_filter.1 hx).2⟩
  · rintro ⟨j, hj, h⟩
    have : 0 < ((List.range n).filter p).length := List.length_pos_of_mem (List.mem_filter.2 ⟨by simpa using hj, h⟩)
    have : 0 < cntTo p n := this
    omega
theorem askE_eq (s : StoD) (t : TxnD) (k : Int) : askE s t k = cond (stoF s) (cond (txnF t && inF k 0 7) 0 2) 9 := rfl
theorem scall_ok : Meets Tryd.prog (fun _ => none) 84 ccall := call_meets Check_ok txn_ok fun si sl sd so ts tn k hp => by
  have h1 : si.length < 4611686018427387904 := hp (pLen si < 4611686018427387904) (by simp)
  have h2 : sl.length < 4611686018427387904 := hp (pLen sl < 4611686018427387904) (by simp)
  have h3 : sd.length < 4611686018427387904 := hp (pLen sd < 4611686018427387904) (by simp)
  have h4 : so.length < 4611686018427387904 := hp (pLen so < 4611686018427387904) (by simp)
  clear hp
  unfold call_VC
  rw [askE_eq]
  refine ⟨h1, h2, h3, h4, ?_⟩
  clear h1 h2 h3 h4
  (repeat' (first | refine bif_ok (fun h => ?_) (fun h => ?_) | refine And.intro ?_ ?_ | fail))
  all_goals (refine leafE ?_; grind [pLt, pLe, pGt, pGe, pEq, pNe, pNot, pAndB, pBeq, pInt, pLen, inF, pIn, pTo, pNat])
theorem askFault_ok : Meets Tryd.prog (fun _ => none) 68 caskFault := askFault_meets StoreMay_ok plainTxn_ok In_ok fun si sl sd so ts tn k hp => by
  have h1 : si.length < 4611686018427387904 := hp (pLen si < 4611686018427387904) (by simp)
  have h2 : sl.length < 4611686018427387904 := hp (pLen sl < 4611686018427387904) (by simp)
  have h3 : sd.length < 4611686018427387904 := hp (pLen sd < 4611686018427387904) (by simp)
  have h4 : so.length < 4611686018427387904 := hp (pLen so < 4611686018427387904) (by simp)
  clear hp
  unfold askFault_VC
  rw [askE_eq]
  refine ⟨h1, h2, h3, h4, ?_⟩
  clear h1 h2 h3 h4
  (repeat' (first | refine bif_ok (fun h => ?_) (fun h => ?_) | refine And.intro ?_ ?_ | fail))
  all_goals (refine leafE ?_; grind [pLt, pLe, pGt, pGe, pEq, pNe, pNot, pAndB, pBeq, pInt, pLen, inF, pIn, pTo, pNat])


end Go.Proofs.YtkhnakdmkhidbaaDoor

/- Rows from which some are taken away; how many locks are for writing. No condition. -/
namespace Go.Proofs.YtkhnakdmkhidbaaDoor
open Go.RowKit

theorem DelAt.start {t : Ty} {p : t.den → Bool} {xs : List t.den} {i : Nat} (hi : i < xs.length) (hb : i < 4611686018427387904) (hlow : ∀ j, j < i → p (pGet t xs j) = false) (hp : p (pGet t xs i) = true) :
    DelAt p xs (pAdd .i64 (i : Int) 1, (i : Int), xs, ()) := by
  refine ⟨i, i + 1, xs, by rw [pAdd1 hb], by omega, hi, rfl, ?_, rfl⟩
  rw [List.take_succ_eq_append_getElem hi, List.filter_append]
  have h1 : (xs.take i).filter (fun x => !p x) = xs.take i := by
    rw [List.filter_eq_self]
    intro x hx
    obtain ⟨j, hj, rfl⟩ := List.getElem_of_mem hx
    have hj' : j < i := by simp at hj; omega
    have := hlow j hj'
    rw [pGet_lt (by omega)] at this
    simp only [List.getElem_take, this, Bool.not_false]
  rw [h1, List.filter_cons_of_neg (by rw [pGet_lt hi] at hp; simp [hp])]
  simp
theorem DelAt.at {t : Ty} {xs zs : List t.den} {j : Nat} (hj : j < xs.length) (hl : zs.length = xs.length) (hd : zs.drop j = xs.drop j) : pGet t zs j = pGet t xs j := by
  have e : (zs.drop j)[0]? = (xs.drop j)[0]? := by rw [hd]
  rw [List.getElem?_drop, List.getElem?_drop, Nat.add_zero] at e
  unfold pGet
  rw [List.getD_eq_getElem?_getD, List.getD_eq_getElem?_getD, e]
theorem DelAt.step {t : Ty} {p : t.den → Bool} {xs zs : List t.den} {i j : Nat} (hij : i < j) (hj : j < xs.length) (hb : j < 4611686018427387904) (hl : zs.length = xs.length) (ht : zs.take i = (xs.take j).filter (fun x => !p x)) (hd : zs.drop j = xs.drop j) :
    (p (pGet t xs j) = false → DelAt p xs (pAdd .i64 (j : Int) 1, pAdd .i64 (i : Int) 1, pSet zs i (pGet t xs j), ())) ∧ (p (pGet t xs j) = true → DelAt p xs (pAdd .i64 (j : Int) 1, (i : Int), zs, ())) := by
  have hdr : ∀ l : List t.den, l.drop (j + 1) = (l.drop j).drop 1 := fun l => by rw [List.drop_drop]
  have htk : xs.take (j + 1) = xs.take j ++ [pGet t xs j] := by rw [List.take_succ_eq_append_getElem hj, pGet_lt hj]
  refine ⟨fun hp => ⟨i + 1, j + 1, _, by rw [pAdd1 hb, pAdd1 (by omega)], by omega, hj, by unfold pSet; simpa using hl, ?_, ?_⟩, fun hp => ⟨i, j + 1, zs, by rw [pAdd1 hb], by omega, hj, hl, ?_, by rw [hdr, hd, ← hdr]⟩⟩
  · rw [htk, List.filter_append, ← ht, List.filter_cons_of_pos (by simp [hp]), List.filter_nil]
    unfold pSet
    have hi : i < (zs.set i (pGet t xs j)).length := by simp; omega
    rw [List.take_succ_eq_append_getElem hi, List.getElem_set_self, List.take_set_of_le (Nat.le_refl i)]
  · unfold pSet
    rw [List.drop_set_of_lt (by omega), hdr, hd, ← hdr]
  · rw [htk, List.filter_append, ← ht, List.filter_cons_of_neg (by simp [hp])]
    simp
theorem DelAt.done {t : Ty} {p : t.den → Bool} {xs zs : List t.den} {i : Nat} {d : t.den} (hi : i < xs.length) (hl : zs.length = xs.length) (ht : zs.take i = (xs.take xs.length).filter (fun x => !p x)) : pSub (pClr zs i d) 0 i = xs.filter (fun x => !p x) := by
  unfold pSub pClr
  rw [List.drop_zero, List.take_append_of_le_length (by simp; omega), List.take_take, Nat.min_self, ht, List.take_length]
theorem clr_len {α : Type} {zs : List α} {i : Nat} {d : α} (hi : i ≤ zs.length) : (pClr zs i d).length = zs.length := by unfold pClr; simp; omega
theorem idxOf_cases {p : Nat → Bool} {n : Nat} : (idxOf p n = -1 ∧ ∀ j, j < n → p j = false) ∨ ∃ i : Nat, idxOf p n = (i : Int) ∧ i < n ∧ p i = true ∧ ∀ j, j < i → p j = false := by
  unfold idxOf
  cases hq : (List.range n).find? p with
  | none =>
    refine .inl ⟨rfl, fun j hj => ?_⟩
    rw [List.find?_eq_none] at hq
    simpa using hq j (by simpa using hj)
  | some i =>
    rw [List.find?_range_eq_some] at hq
    exact .inr ⟨i, rfl, by simpa using hq.2.1, hq.1, fun j hj => by simpa using hq.2.2 j hj⟩
theorem keep_all {t : Ty} {p : t.den → Bool} {xs : List t.den} (h : ∀ j, j < xs.length → p (pGet t xs j) = false) : xs.filter (fun x => !p x) = xs := by
  rw [List.filter_eq_self]
  intro x hx
  obtain ⟨j, hj, rfl⟩ := List.getElem_of_mem hx
  have := h j hj
  rw [pGet_lt hj] at this
  simp [this]

theorem doubt_eta (l : List DoubtD) (k : Nat) : ((pGet tyItem l k).1, (pGet tyItem l k).2.1, (pGet tyItem l k).2.2.1, ()) = pGet tyDoubt l k := rfl
theorem filter_next {t : Ty} {p : t.den → Bool} {l : List t.den} {k : Nat} (h : k < l.length) : (l.take (k + 1)).filter (fun x => !p x) = cond (p (pGet t l k)) ((l.take k).filter (fun x => !p x)) (pApp ((l.take k).filter (fun x => !p x)) [pGet t l k]) := by
  rw [List.take_succ_eq_append_getElem h, List.filter_append, pGet_lt h]
  cases hq : p (l[k]'h) with
  | true => rw [List.filter_cons_of_neg (by simp [hq])]; simp
  | false => rw [List.filter_cons_of_pos (by simp [hq])]; rfl


end Go.Proofs.YtkhnakdmkhidbaaDoor

/- slices.Insert: what its walks share. It names no program. No condition. -/
namespace Go.Proofs.YtkhnakdmkhidbaaDoor
open Go.RowKit Go.Lib

theorem run_copy_K {P : Program} (w : World) (dT sT ty elem : TypeId) (z b o dLen dCap : Nat) (a : Addr) (sLen sCap : Nat) (cs : List Value) (m : Nat)
    (hu : P.underlying dT = some (.slice elem)) (hs : (P.info? elem).map (·.size) = some z) (hm : m = Nat.min sLen dLen) (hn : cs.length = m * z)
    (hsrc : ∀ j v, cs[j]? = some v → w.cell? (a.add j) = some v) (hc : ∀ j, j < cs.length → (w.cell? ⟨b, o + j, none⟩).isSome = true) (hf : ∀ j, j < cs.length → w.frozen? ⟨b, o + j, none⟩ = false) (h1 : ∀ v ∈ cs, v.oneCell' = true) :
    (Builtin.copy_ #[dT, sT] ty #[.slice (some ⟨b, o, none⟩) dLen dCap, .slice (some a) sLen sCap]).run P w = .ok (goInt m) (w.setCells b o cs) := by
  have hl := run_loadCells_list (P := P) w a cs hsrc
  have hst := run_storeCells_cells (P := P) b o cs 0 w (by simpa using hc) (by simpa using hf) h1
  cases hq : P.info? elem with
  | none => simp [hq] at hs
  | some i =>
    have hi : i.size = z := by simpa [hq] using hs
    simp [Builtin.copy_, run_underlying hu, Builtin.lenOf, Builtin.firstCells, sizeOf, typeInfo, hq, hi, ← hm, ← hn, hl, hst]

theorem setCells_heap (b : Nat) : ∀ (vs : List Value) (o : Nat) (w : World) {vals : Array Value} {T : TypeId} {fz : Nat × Nat}, w.heap[b]? = some (.cells vals T fz) → ∃ vals', (w.setCells b o vs).heap[b]? = some (.cells vals' T fz) ∧ vals'.size = vals.size
  | [], _, _, vals, _, _, h => ⟨vals, h, rfl⟩
  | v :: r, o, w, vals, T, fz, h => by
    obtain ⟨vals', h1, h2⟩ := setCells_heap b r (o + 1) (w.setCell ⟨b, o, none⟩ v) (vals := vals.setIfInBounds o v) (T := T) (fz := fz) (by
      simp only [World.setCell, Array.getElem?_modify, if_pos, h, Option.map_some]
      rfl)
    exact ⟨vals', h1, by rw [h2]; simp⟩
theorem setCells_keep (b : Nat) : ∀ (vs : List Value) (o : Nat) (w : World), (w.setCells b o vs).heap.size = w.heap.size ∧ (w.setCells b o vs).os = w.os ∧ (w.setCells b o vs).tape = w.tape ∧ (w.setCells b o vs).output = w.output ∧ ∀ k, k ≠ b → (w.setCells b o vs).heap[k]? = w.heap[k]?
  | [], _, _ => ⟨rfl, rfl, rfl, rfl, fun _ _ => rfl⟩
  | v :: r, o, w => by
    obtain ⟨h1, h2, h3, h4, h5⟩ := setCells_keep b r (o + 1) (w.setCell ⟨b, o, none⟩ v)
    refine ⟨h1.trans (by simp [World.setCell]), h2, h3, h4, fun k hk => (h5 k hk).trans ?_⟩
    simp only [World.setCell, Array.getElem?_modify]
    rw [if_neg (fun e => hk e.symm)]
theorem cell_heap {w : World} {b j : Nat} {vals : Array Value} {T : TypeId} {fz : Nat × Nat} (h : w.heap[b]? = some (.cells vals T fz)) : w.cell? ⟨b, j, none⟩ = vals[j]? := by
  simp [World.cell?, h]
theorem frozen_heap {w : World} {b j : Nat} {vals : Array Value} {T : TypeId} (h : w.heap[b]? = some (.cells vals T (0, 0))) : w.frozen? ⟨b, j, none⟩ = false := by
  simp [World.frozen?, h]
theorem shape_heap {w : World} {b : Nat} {vals : Array Value} {T : TypeId} {fz : Nat × Nat} (h : w.heap[b]? = some (.cells vals T fz)) : w.shape? b = some (T, vals.size) := by
  simp [World.shape?, h]

/-- the first so many cells -/
theorem first_len {vals : Array Value} {k : Nat} (h : k ≤ vals.size) : (vals.toList.take k).length = k := by rw [List.length_take, Array.length_toList]; omega
theorem first_get {vals : Array Value} {k j : Nat} {v : Value} (h : (vals.toList.take k)[j]? = some v) : j < k ∧ vals[j]? = some v := by
  rw [List.getElem?_take] at h
  split at h
  · rename_i hj; exact ⟨hj, by simpa using h⟩
  · cases h
theorem first_at {vals : Array Value} {k j : Nat} (hj : j < k) : (vals.toList.take k)[j]? = vals[j]? := by
  rw [List.getElem?_take, if_pos hj]; simp

theorem insCells_of {b n i z : Nat} {vals vvals vals' : Array Value} {w2 : World} {T : TypeId} {fz : Nat × Nat} (hi : i < n) (h' : w2.heap[b]? = some (.cells vals' T fz))
    (hlow : ∀ j, j < i * z → w2.cell? ⟨b, j, none⟩ = vals[j]?) (hmid : ∀ j, j < z → w2.cell? ⟨b, i * z + j, none⟩ = vvals[j]?) (hhigh : ∀ j, j < (n - i) * z → w2.cell? ⟨b, (i + 1) * z + j, none⟩ = vals[i * z + j]?) : InsCells vals vvals n i z vals' := by
  intro j hj
  rw [← cell_heap (w := w2) (b := b) (j := j) h']
  have e1 : (i + 1) * z = i * z + z := by rw [Nat.add_mul, Nat.one_mul]
  have e2 : (n + 1) * z = i * z + z + (n - i) * z := by
    have : n + 1 = i + 1 + (n - i) := by omega
    rw [this, Nat.add_mul, e1]
  split
  · exact hlow j (by assumption)
  · split
    · have := hmid (j - i * z) (by omega)
      rwa [show i * z + (j - i * z) = j by omega] at this
    · have := hhigh (j - (i * z + z)) (by omega)
      rw [e1, show i * z + z + (j - (i * z + z)) = j by omega] at this
      rw [this]
      congr 1; omega

theorem push_of {h h' : Array Go.Obj} {o : Go.Obj} (hs : h'.size = h.size + 1) (ho : h'[h.size]? = some o) (hk : ∀ k, k < h.size → h'[k]? = h[k]?) : h' = h.push o := by
  apply Array.ext_getElem?
  intro k
  rcases Nat.lt_trichotomy k h.size with h1 | h1 | h1
  · rw [hk k h1, Array.getElem?_push, if_neg (by omega)]
  · subst h1; rw [ho, Array.getElem?_push, if_pos rfl]
  · rw [Array.getElem?_eq_none (by omega), Array.getElem?_eq_none (by rw [Array.size_push]; omega)]

theorem insWalk_of {P : Program} {K : FuncId} {z bytes : Nat} (hz : 0 < z)
    (hshift : ∀ (b n c i vb vc : Nat) (cs vs : List Value) (w : World), i < n → n + 1 ≤ c → c ≤ 9223372036854775807 → vb ≠ b → cs.length = n * z → vs.length = z →
      (∀ (j : Nat) v, cs[j]? = some v → w.cell? ⟨b, j, none⟩ = some v) → (∀ j, j < (n + 1) * z → (w.cell? ⟨b, j, none⟩).isSome = true) → (∀ j, j < (n + 1) * z → w.frozen? ⟨b, j, none⟩ = false) →
      (∀ (j : Nat) v, vs[j]? = some v → w.cell? ⟨vb, j, none⟩ = some v) → (∀ v ∈ cs, v.oneCell' = true) → (∀ v ∈ vs, v.oneCell' = true) →
      ∀ (tA tB : TypeId) (kA kB : Nat), w.shape? vb = some (tA, kA) → w.shape? b = some (tB, kB) → kB ≠ 0 → w.frozen? ⟨vb, 0, none⟩ = false → w.frozen? ⟨vb, kA, none⟩ = false →
      Calls P K #[.slice (some ⟨b, 0, none⟩) n c, .int .i64 (i : Int), .slice (some ⟨vb, 0, none⟩) 1 vc] w fun e w' =>
        e = .returned (.slice (some ⟨b, 0, none⟩) (n + 1) c) ∧ w' = (w.drew.setCells b ((i + 1) * z) (cs.drop (i * z))).setCells b (i * z) vs)
    (hgrow : ∀ (b n c i vb vc : Nat) (cs vs : List Value) (w : World), i < n → n ≤ c → c < n + 1 → (n + 1) * bytes ≤ 140737488355328 → cs.length = n * z → vs.length = z →
      (∀ (j : Nat) v, cs[j]? = some v → w.cell? ⟨b, j, none⟩ = some v) → (∀ (j : Nat) v, vs[j]? = some v → w.cell? ⟨vb, j, none⟩ = some v) → (∀ v ∈ cs, v.oneCell' = true) → (∀ v ∈ vs, v.oneCell' = true) →
      ∃ (zs : Array Value) (G : Nat) (T : TypeId), Calls P K #[.slice (some ⟨b, 0, none⟩) n c, .int .i64 (i : Int), .slice (some ⟨vb, 0, none⟩) 1 vc] w (fun e w' =>
        e = .returned (.slice (some ⟨w.heap.size, 0, none⟩) (n + 1) G) ∧ w' = (((w.alloc (.cells ((cs.take (i * z)).toArray ++ zs) T)).drew.setCells w.heap.size (i * z) vs).drew).setCells w.heap.size ((i + 1) * z) (cs.drop (i * z))) ∧ n + 1 ≤ G ∧ G ≤ 9223372036854775807 ∧ i * z + zs.size = G * z) :
    InsWalk P K z bytes := by
  intro w b vb cap vcap n i vals vvals T T' hi hnc hc63 hvc hne hroom hh hvs hh' hvs' one0 one1
  have hnz : n * z ≤ vals.size := by rw [hvs]; exact Nat.mul_le_mul_right _ hnc
  have hvz : z ≤ vvals.size := by
    rw [hvs']
    have := Nat.mul_le_mul_right z hvc
    rw [Nat.one_mul] at this; exact this
  have hcl := first_len hnz
  have hvl := first_len hvz
  have hcs : ∀ (j : Nat) v, (vals.toList.take (n * z))[j]? = some v → w.cell? ⟨b, j, none⟩ = some v := fun j v h => by rw [cell_heap hh]; exact (first_get h).2
  have hvs2 : ∀ (j : Nat) v, (vvals.toList.take z)[j]? = some v → w.cell? ⟨vb, j, none⟩ = some v := fun j v h => by rw [cell_heap hh']; exact (first_get h).2
  have h1c : ∀ v ∈ vals.toList.take (n * z), v.oneCell' = true := fun v hv => by
    obtain ⟨j, hj⟩ := List.getElem?_of_mem hv
    exact one0 j v (first_get hj).1 (first_get hj).2
  have h1v : ∀ v ∈ vvals.toList.take z, v.oneCell' = true := fun v hv => by
    obtain ⟨j, hj⟩ := List.getElem?_of_mem hv
    exact one1 j v (first_get hj).1 (first_get hj).2
  have e1 : (i + 1) * z = i * z + z := by rw [Nat.add_mul, Nat.one_mul]
  have e3 : n * z = i * z + (n - i) * z := by rw [← Nat.add_mul]; congr 1; omega
  have e2 : (n + 1) * z = n * z + z := by rw [Nat.add_mul, Nat.one_mul]
  have hdl : ((vals.toList.take (n * z)).drop (i * z)).length = (n - i) * z := by rw [List.length_drop, hcl]; omega
  by_cases hfit : n + 1 ≤ cap
  · have hcz : (n + 1) * z ≤ vals.size := by rw [hvs]; exact Nat.mul_le_mul_right _ hfit
    refine (hshift b n cap i vb vcap _ _ w hi hfit hc63 (fun e => hne e.symm) hcl hvl hcs (fun j hj => by rw [cell_heap hh, Array.getElem?_eq_getElem (by omega)]; rfl) (fun j _ => frozen_heap hh) hvs2 h1c h1v T' T vvals.size vals.size (shape_heap hh') (shape_heap hh) (by omega) (frozen_heap hh') (frozen_heap hh')).mono fun e w' hp => ?_
    obtain ⟨rfl, rfl⟩ := hp
    obtain ⟨v1, hv1, hs1⟩ := setCells_heap b ((vals.toList.take (n * z)).drop (i * z)) ((i + 1) * z) w.drew hh
    obtain ⟨v2, hv2, hs2⟩ := setCells_heap b (vvals.toList.take z) (i * z) _ hv1
    obtain ⟨k1, k2, k3, k4, k5⟩ := setCells_keep b ((vals.toList.take (n * z)).drop (i * z)) ((i + 1) * z) w.drew
    obtain ⟨m1, m2, m3, m4, m5⟩ := setCells_keep b (vvals.toList.take z) (i * z) (w.drew.setCells b ((i + 1) * z) ((vals.toList.take (n * z)).drop (i * z)))
    refine ⟨m2.trans k2, m3.trans k3, m4.trans k4, .inl ⟨hfit, rfl, m1.trans k1, fun k hk => (m5 k hk).trans (k5 k hk), v2, hv2, by rw [hs2, hs1, hvs], ?_⟩⟩
    refine insCells_of hi hv2 (fun j hj => ?_) (fun j hj => ?_) fun j hj => ?_
    · rw [World.cell?_setCells_out b _ _ _ _ (fun _ _ => .inl hj), World.cell?_setCells_out b _ _ _ _ (fun _ _ => .inl (by show j < (i + 1) * z; omega))]
      exact cell_heap (w := w.drew) hh
    · rw [World.cell?_setCells_in b (vvals.toList.take z) (i * z) _ (fun q hq => by rw [cell_heap hv1, Array.getElem?_eq_getElem (by omega)]; rfl) j (by omega), ← List.getElem?_eq_getElem, first_at hj]
    · rw [World.cell?_setCells_out b _ _ _ _ (fun _ _ => .inr (by show i * z + _ ≤ (i + 1) * z + j; omega)),
        World.cell?_setCells_in b ((vals.toList.take (n * z)).drop (i * z)) ((i + 1) * z) w.drew (fun q hq => by rw [cell_heap (w := w.drew) hh, Array.getElem?_eq_getElem (by omega)]; rfl) j (by omega), ← List.getElem?_eq_getElem, List.getElem?_drop, first_at (by omega)]
  · obtain ⟨zs, G, T2, hcall, hG, hG63, hzs⟩ := hgrow b n cap i vb vcap _ _ w hi hnc (by omega) (by omega) hcl hvl hcs hvs2 h1c h1v
    refine hcall.mono fun e w' hp => ?_
    obtain ⟨rfl, rfl⟩ := hp
    obtain ⟨ROW, hROW⟩ : ∃ ROW : Array Value, ROW = ((vals.toList.take (n * z)).take (i * z)).toArray ++ zs := ⟨_, rfl⟩
    have htl : ((vals.toList.take (n * z)).take (i * z)).length = i * z := by rw [List.length_take]; omega
    have hRs : ROW.size = G * z := by rw [hROW, Array.size_append, List.size_toArray, htl]; exact hzs
    have hGz : (n + 1) * z ≤ G * z := Nat.mul_le_mul_right _ hG
    rw [← hROW]
    have hb0 : ((w.alloc (.cells ROW T2)).drew).heap[w.heap.size]? = some (.cells ROW T2 (0, 0)) := push_new rfl
    obtain ⟨v1, hv1, hs1⟩ := setCells_heap w.heap.size (vvals.toList.take z) (i * z) ((w.alloc (.cells ROW T2)).drew) hb0
    obtain ⟨v2, hv2, hs2⟩ := setCells_heap w.heap.size ((vals.toList.take (n * z)).drop (i * z)) ((i + 1) * z) (((w.alloc (.cells ROW T2)).drew.setCells w.heap.size (i * z) (vvals.toList.take z)).drew) hv1
    obtain ⟨k1, k2, k3, k4, k5⟩ := setCells_keep w.heap.size (vvals.toList.take z) (i * z) ((w.alloc (.cells ROW T2)).drew)
    obtain ⟨m1, m2, m3, m4, m5⟩ := setCells_keep w.heap.size ((vals.toList.take (n * z)).drop (i * z)) ((i + 1) * z) (((w.alloc (.cells ROW T2)).drew.setCells w.heap.size (i * z) (vvals.toList.take z)).drew)
    refine ⟨m2.trans k2, m3.trans k3, m4.trans k4, .inr ⟨G, v2, T2, hG, hG63, rfl, push_of ((m1.trans k1).trans (by show (w.heap.push _).size = _; rw [Array.size_push])) hv2 (fun k hk => (m5 k (by omega)).trans ((k5 k (by omega)).trans (push_old rfl hk))), by rw [hs2, hs1, hRs], ?_⟩⟩
    refine insCells_of hi hv2 (fun j hj => ?_) (fun j hj => ?_) fun j hj => ?_
    · rw [World.cell?_setCells_out _ _ _ _ _ (fun _ _ => .inl (by show j < (i + 1) * z; omega))]
      show (World.cell? (((w.alloc (.cells ROW T2)).drew).setCells w.heap.size (i * z) (vvals.toList.take z)) _) = _
      rw [World.cell?_setCells_out _ _ _ _ _ (fun _ _ => .inl hj), cell_heap hb0, hROW, Array.getElem?_append_left (by rw [List.size_toArray, htl]; exact hj), List.getElem?_toArray, List.getElem?_take, if_pos hj, first_at (by omega)]
    · rw [World.cell?_setCells_out _ _ _ _ _ (fun _ _ => .inl (by show i * z + j < (i + 1) * z; omega))]
      show (World.cell? (((w.alloc (.cells ROW T2)).drew).setCells w.heap.size (i * z) (vvals.toList.take z)) _) = _
      rw [World.cell?_setCells_in _ (vvals.toList.take z) (i * z) _ (fun q hq => by rw [cell_heap hb0, Array.getElem?_eq_getElem (by omega)]; rfl) j (by omega), ← List.getElem?_eq_getElem, first_at hj]
    · rw [World.cell?_setCells_in _ ((vals.toList.take (n * z)).drop (i * z)) ((i + 1) * z) _ (fun q hq => by
          show (World.cell? (((w.alloc (.cells ROW T2)).drew).setCells w.heap.size (i * z) (vvals.toList.take z)) _).isSome = true
          rw [cell_heap hv1, Array.getElem?_eq_getElem (by omega)]; rfl) j (by omega), ← List.getElem?_eq_getElem, List.getElem?_drop, first_at (by omega)]


end Go.Proofs.YtkhnakdmkhidbaaDoor

/- slices.Insert at []api.Item: its walk. No condition. -/
namespace Go.Proofs.YtkhnakdmkhidbaaDoor
open Go.RowKit Go.Lib

theorem insII : (Tryd.prog.info? 103).map (fun i => (i.zero, i.size, i.bytes)) = some (some (.agg #[.int .i64 0, .int .i64 0, .int .i64 0]), 3, 24) := by kernel_rfl
theorem insZI : ∀ w, (Go.sizeOf 103).run Tryd.prog w = .ok 3 w := fun w => by
  obtain ⟨i0, hi0, hz0, hzs, hzb⟩ := info_parts insII
  unfold Go.sizeOf typeInfo
  simp [hi0, hzs]

set_option maxHeartbeats 4000000 in
set_option maxRecDepth 100000 in
theorem insI_shift (b n c i vb m vc : Nat) (cs vs : List Value) (w : World) (hi : i < n) (hm : 0 < m) (hroom : n + m ≤ c) (hc63 : c ≤ 9223372036854775807) (hvb : vb ≠ b)
    (hcl : cs.length = n * 3) (hvl : vs.length = m * 3)
    (hcs : ∀ j v, cs[j]? = some v → w.cell? ⟨b, j, none⟩ = some v) (hsp : ∀ j, j < (n + m) * 3 → (w.cell? ⟨b, j, none⟩).isSome = true) (hfz : ∀ j, j < (n + m) * 3 → w.frozen? ⟨b, j, none⟩ = false)
    (hvs : ∀ j v, vs[j]? = some v → w.cell? ⟨vb, j, none⟩ = some v) (h1c : ∀ v ∈ cs, v.oneCell' = true) (h1v : ∀ v ∈ vs, v.oneCell' = true)
    (tA tB : TypeId) (kA kB : Nat) (hsa : w.shape? vb = some (tA, kA)) (hsb : w.shape? b = some (tB, kB)) (hkB : kB ≠ 0) (hfa : w.frozen? ⟨vb, 0, none⟩ = false) (hfe : w.frozen? ⟨vb, kA, none⟩ = false) :
    Calls Tryd.prog 92 #[.slice (some ⟨b, 0, none⟩) n c, .int .i64 i, .slice (some ⟨vb, 0, none⟩) m vc] w fun e w' =>
      e = .returned (.slice (some ⟨b, 0, none⟩) (n + m) c) ∧ w' = (w.drew.setCells b ((i + m) * 3) (cs.drop (i * 3))).setCells b (i * 3) vs := by
  have hz1 : ¬ ((m : Int) = 0) := by omega
  have hz2 : ¬ ((i : Int) = (n : Int)) := by omega
  have hsz : (Tryd.prog.info? 103).map (·.size) = some 3 := by
    obtain ⟨i0, hi0, h0, h1, h2⟩ := info_parts insII
    rw [hi0]; simp [h1]
  have hov : ∀ lb cb, (callFunc 114 #[.slice (some ⟨vb, 0, none⟩) m vc, .slice (some ⟨b, (i + m) * 3, none⟩) lb cb]).run Tryd.prog w = .ok (.value (.bool false)) w := fun lb cb => by
    rw [run_callFunc_extern Tryd.func114 (by kernel_rfl) (by kernel_rfl) (by kernel_rfl) (e := Extern.SlicesOverlaps.overlaps #[33, 33] #[4]) (by kernel_rfl),
      Lib.run_overlaps_apart w 33 4 103 Tryd.underlying33 3 insZI ⟨vb, 0, none⟩ ⟨b, (i + m) * 3, none⟩ m vc lb cb hvb tA tB kA kB hsa hsb hkB hfa hfe]
    rfl
  have hdl : (cs.drop (i * 3)).length = (n - i) * 3 := by rw [List.length_drop, hcl]; omega
  have hw1 : IntKind.i64.wrap ((i : Int) + (m : Int)) = (i : Int) + (m : Int) := by rw [IntKind.wrap_i64]; omega
  have hb1 : (0 : Int) ≤ (i : Int) + (m : Int) := by omega
  have hin : i ≤ n := by omega
  have htn : ((i : Int) + (m : Int)).toNat = i + m := by omega
  have hb2 : ¬ (c = i + m) := by omega
  have hb3 : (i : Int) ≤ (n : Int) + (m : Int) := by omega
  have hb4 : ¬ (c = i) := by omega
  have hcp1 : ∀ ty dc sc, (Builtin.copy_ #[33, 33] ty #[.slice (some ⟨b, (i + m) * 3, none⟩) (n + m - (i + m)) dc, .slice (some ⟨b, i * 3, none⟩) (n + m - i) sc]).run Tryd.prog w.drew = .ok (goInt ((n - i : Nat) : Nat)) (w.drew.setCells b ((i + m) * 3) (cs.drop (i * 3))) := fun ty dc sc =>
    run_copy_K w.drew _ _ ty 103 3 b ((i + m) * 3) (n + m - (i + m)) dc ⟨b, i * 3, none⟩ (n + m - i) sc (cs.drop (i * 3)) (n - i) Tryd.underlying33 hsz (by simp only [Nat.min_def]; split <;> omega) hdl
      (fun j v hj => by rw [Addr.add_lit]; exact hcs (i * 3 + j) v (by rwa [List.getElem?_drop] at hj))
      (fun j hj => hsp _ (by omega)) (fun j hj => hfz _ (by omega)) (fun v hv => h1c v (List.mem_of_mem_drop hv))
  obtain ⟨W1, hW1⟩ : ∃ W1, W1 = w.drew.setCells b ((i + m) * 3) (cs.drop (i * 3)) := ⟨_, rfl⟩
  have hsp1 : ∀ k, k < (n + m) * 3 → (W1.cell? ⟨b, k, none⟩).isSome = true := fun k hk => by
    rw [hW1]
    exact isSome_setCells b (cs.drop (i * 3)) ((i + m) * 3) w.drew (fun j hj => hsp _ (by omega)) k (hsp k hk)
  have hcp2 : ∀ (W : World), (∀ x, W.cell? x = W1.cell? x) → (∀ x, W.frozen? x = W1.frozen? x) → ∀ ty dc, (Builtin.copy_ #[33, 33] ty #[.slice (some ⟨b, i * 3, none⟩) (n + m - i) dc, .slice (some ⟨vb, 0, none⟩) m vc]).run Tryd.prog W = .ok (goInt (m : Nat)) (W.setCells b (i * 3) vs) := fun W hWc hWf ty dc =>
    run_copy_K W _ _ ty 103 3 b (i * 3) (n + m - i) dc ⟨vb, 0, none⟩ m vc vs m Tryd.underlying33 hsz (by simp only [Nat.min_def]; split <;> omega) hvl
      (fun j v hj => by
        rw [Addr.add_lit, hWc, hW1, World.cell?_setCells_out b _ _ _ _ (fun h _ => absurd h hvb), Nat.zero_add]
        exact hvs j v hj)
      (fun j hj => by rw [hWc]; exact hsp1 _ (by omega)) (fun j hj => by rw [hWf, hW1, World.frozen?_setCells]; exact hfz _ (by omega)) h1v
  rw [← hW1] at hcp1
  go_enter Tryd.func92, Tryd.ntmps92
  go_wp2_with (simp only [hov])
  go_region_law (refine step_copy_runI rfl _ _ 33 33 rfl _ _ (by simp [Act.eval, Act.put]) (by simp [Act.eval, Act.put]) (hcp1 _ _ _) ?_)
  go_wp2_with (at_builtin; refine wpList_copy_runI _ rfl _ _ 33 33 rfl _ _ rfl rfl (hcp2 _ (fun _ => rfl) (fun _ => rfl) _ _) ?_)
  go_ret
  first | exact ⟨rfl, rfl⟩ | exact ⟨rfl, by rw [hW1]⟩

set_option maxHeartbeats 4000000 in
set_option maxRecDepth 100000 in
theorem insI_grow (b n c i vb m vc : Nat) (cs vs : List Value) (w : World) (hi : i < n) (hm : 0 < m) (hnc : n ≤ c) (hroom : c < n + m) (hbig : (n + m) * 24 ≤ 140737488355328)
    (hcl : cs.length = n * 3) (hvl : vs.length = m * 3)
    (hcs : ∀ j v, cs[j]? = some v → w.cell? ⟨b, j, none⟩ = some v)
    (hvs : ∀ j v, vs[j]? = some v → w.cell? ⟨vb, j, none⟩ = some v) (h1c : ∀ v ∈ cs, v.oneCell' = true) (h1v : ∀ v ∈ vs, v.oneCell' = true) :
    Calls Tryd.prog 92 #[.slice (some ⟨b, 0, none⟩) n c, .int .i64 i, .slice (some ⟨vb, 0, none⟩) m vc] w fun e w' =>
      e = .returned (.slice (some ⟨w.heap.size, 0, none⟩) (n + m) (grownCap w (n + m) c 103)) ∧
      w' = (((w.alloc (.cells ((cs.take (i * 3)).toArray ++ Builtin.zeroCells (.agg #[.int .i64 0, .int .i64 0, .int .i64 0] : Value).cells (n + m - i) ++ Builtin.zeroCells (.agg #[.int .i64 0, .int .i64 0, .int .i64 0] : Value).cells (grownCap w (n + m) c 103 - (n + m))) 103)).drew.setCells w.heap.size (i * 3) vs).drew).setCells w.heap.size ((i + m) * 3) (cs.drop (i * 3)) := by
  obtain ⟨i0, hi0, hz0, hzs, hzb⟩ := info_parts insII
  have hz1 : ¬ ((m : Int) = 0) := by omega
  have hz2 : ¬ ((i : Int) = (n : Int)) := by omega
  have hz3 : (c : Int) < (n : Int) + (m : Int) := by omega
  have hsz : (Tryd.prog.info? 103).map (·.size) = some 3 := by rw [hi0]; simp [hzs]
  have hbw : b < w.heap.size := block_lt_of_cell (hcs 0 _ (List.getElem?_eq_getElem (by omega)))
  have hvw : vb < w.heap.size := block_lt_of_cell (hvs 0 _ (List.getElem?_eq_getElem (by omega)))
  have hkk : (n : Int) + (m : Int) - (i : Int) = ((n + m - i : Nat) : Int) := by omega
  have hik : i + (n + m - i) = n + m := by omega
  have hold : (Builtin.firstCells i0.size i (.slice (some ⟨b, 0, none⟩) i c)).run Tryd.prog w.drew = .ok (cs.take (i * 3)).toArray w.drew := by
    rw [hzs]
    exact run_firstCells_some w.drew 3 i ⟨b, 0, none⟩ i c (cs.take (i * 3)) (by rw [List.length_take]; omega) (fun j v hj => by
      rw [Addr.add_lit, Nat.zero_add]
      rw [List.getElem?_take] at hj
      split at hj
      · exact hcs j v hj
      · cases hj)
  have hrz : ∀ ty, (Builtin.append_ #[33, 3] ty #[.slice (some ⟨b, 0, none⟩) i c, .int .i64 ((n : Int) + (m : Int) - (i : Int))]).run Tryd.prog w =
      .ok (.slice (some ⟨w.heap.size, 0, none⟩) (n + m) (grownCap w (n + m) c 103)) (w.drew.alloc (.cells ((cs.take (i * 3)).toArray ++ Builtin.zeroCells (.agg #[.int .i64 0, .int .i64 0, .int .i64 0] : Value).cells (n + m - i) ++ Builtin.zeroCells (.agg #[.int .i64 0, .int .i64 0, .int .i64 0] : Value).cells (grownCap w (n + m) c 103 - (n + m))) 103)) := fun ty => by
    have h := Lib.run_append_grow_zeros w 33 3 ty 103 i0 _ .i64 .i64 Tryd.underlying33 Tryd.underlying3 hi0 hz0 (some ⟨b, 0, none⟩) i c (cs.take (i * 3)) hold (n + m - i) (by omega) (by omega) (by omega) (by omega) (by rw [hzb]; omega) (by rw [hzb, hik]; exact growslice_fits hroom hbig)
    rw [hik] at h
    rw [hkk]
    exact h
  obtain ⟨G, hG⟩ : ∃ G, G = grownCap w (n + m) c 103 := ⟨_, rfl⟩
  obtain ⟨ROW, hROW⟩ : ∃ ROW : Array Value, ROW = (cs.take (i * 3)).toArray ++ Builtin.zeroCells (.agg #[.int .i64 0, .int .i64 0, .int .i64 0] : Value).cells (n + m - i) ++ Builtin.zeroCells (.agg #[.int .i64 0, .int .i64 0, .int .i64 0] : Value).cells (G - (n + m)) := ⟨_, rfl⟩
  rw [← hG] at hrz ⊢
  rw [← hROW] at hrz ⊢
  have hRl : (n + m) * 3 ≤ ROW.size := by
    rw [hROW]
    simp [Builtin.zeroCells, Value.cells]
    omega
  obtain ⟨W1, hW1⟩ : ∃ W1, W1 = w.drew.alloc (.cells ROW 103) := ⟨_, rfl⟩
  rw [← hW1] at hrz
  have hN : ∀ j, j < (n + m) * 3 → (W1.cell? ⟨w.heap.size, j, none⟩).isSome = true := fun j hj => by
    rw [hW1, World.cell?_alloc_at (w := w.drew) ROW _ w.heap.size j rfl, Array.getElem?_eq_getElem (by omega)]; rfl
  have hNf : ∀ j, W1.frozen? ⟨w.heap.size, j, none⟩ = false := fun j => by rw [hW1]; exact World.frozen?_alloc_at (w := w.drew) ROW _ w.heap.size j rfl
  have hOb : ∀ j v, w.cell? ⟨b, j, none⟩ = some v → W1.cell? ⟨b, j, none⟩ = some v := fun j v h => by rw [hW1, World.cell?_alloc_past (w := w.drew) _ b j hbw]; exact h
  have hOv : ∀ j v, w.cell? ⟨vb, j, none⟩ = some v → W1.cell? ⟨vb, j, none⟩ = some v := fun j v h => by rw [hW1, World.cell?_alloc_past (w := w.drew) _ vb j hvw]; exact h
  have hcpA : ∀ (W : World), (∀ x, W.cell? x = W1.cell? x) → (∀ x, W.frozen? x = W1.frozen? x) → ∀ ty dc, (Builtin.copy_ #[33, 33] ty #[.slice (some ⟨w.heap.size, i * 3, none⟩) (n + m - i) dc, .slice (some ⟨vb, 0, none⟩) m vc]).run Tryd.prog W = .ok (goInt (m : Nat)) (W.setCells w.heap.size (i * 3) vs) := fun W hWc hWf ty dc =>
    run_copy_K W _ _ ty 103 3 w.heap.size (i * 3) (n + m - i) dc ⟨vb, 0, none⟩ m vc vs m Tryd.underlying33 hsz (by simp only [Nat.min_def]; split <;> omega) hvl
      (fun j v hj => by rw [Addr.add_lit, hWc, Nat.zero_add]; exact hOv _ v (hvs j v hj))
      (fun j hj => by rw [hWc]; exact hN _ (by omega)) (fun j hj => by rw [hWf]; exact hNf _) h1v
  have hGn : n + m ≤ G := by rw [hG]; exact grownCap_ge w _ _ _
  have hG63 : G ≤ 9223372036854775807 := by
    have := grownCap_le_maxLen w (n + m) c 103 (by unfold maxLen; omega)
    rw [← hG] at this
    unfold maxLen at this
    omega
  have hGi : ¬ (G = i) := by omega
  have hGim : ¬ (G = i + m) := by omega
  have hci : ¬ (c = i) := by omega
  have hbN : b ≠ w.heap.size := by omega
  have hdl : (cs.drop (i * 3)).length = (n - i) * 3 := by rw [List.length_drop, hcl]; omega
  have hcpB : ∀ (W : World), (∀ x, W.cell? x = (W1.setCells w.heap.size (i * 3) vs).cell? x) → (∀ x, W.frozen? x = (W1.setCells w.heap.size (i * 3) vs).frozen? x) → ∀ ty dc sc, (Builtin.copy_ #[33, 33] ty #[.slice (some ⟨w.heap.size, (i + m) * 3, none⟩) (n + m - (i + m)) dc, .slice (some ⟨b, i * 3, none⟩) (n - i) sc]).run Tryd.prog W = .ok (goInt ((n - i : Nat) : Nat)) (W.setCells w.heap.size ((i + m) * 3) (cs.drop (i * 3))) := fun W hWc hWf ty dc sc =>
    run_copy_K W _ _ ty 103 3 w.heap.size ((i + m) * 3) (n + m - (i + m)) dc ⟨b, i * 3, none⟩ (n - i) sc (cs.drop (i * 3)) (n - i) Tryd.underlying33 hsz (by simp only [Nat.min_def]; split <;> omega) hdl
      (fun j v hj => by
        rw [Addr.add_lit, hWc, World.cell?_setCells_out _ _ _ _ _ (fun h _ => absurd h hbN)]
        exact hOb _ v (hcs (i * 3 + j) v (by rwa [List.getElem?_drop] at hj)))
      (fun j hj => by rw [hWc]; exact isSome_setCells _ _ _ _ (fun t ht => hN _ (by omega)) _ (hN _ (by omega)))
      (fun j hj => by rw [hWf, World.frozen?_setCells]; exact hNf _) (fun v hv => h1c v (List.mem_of_mem_drop hv))
  subst hW1
  have hE1 : ∀ x, ((w.alloc (.cells ROW 103)).drew).cell? x = (w.drew.alloc (.cells ROW 103)).cell? x := fun x => rfl
  have hE2 : ∀ x, ((w.alloc (.cells ROW 103)).drew).frozen? x = (w.drew.alloc (.cells ROW 103)).frozen? x := fun x => rfl
  have hF1 : ∀ x, (((w.alloc (.cells ROW 103)).drew.setCells w.heap.size (i * 3) vs).drew).cell? x = ((w.drew.alloc (.cells ROW 103)).setCells w.heap.size (i * 3) vs).cell? x := fun x => rfl
  have hF2 : ∀ x, (((w.alloc (.cells ROW 103)).drew.setCells w.heap.size (i * 3) vs).drew).frozen? x = ((w.drew.alloc (.cells ROW 103)).setCells w.heap.size (i * 3) vs).frozen? x := fun x => rfl
  have hw1 : IntKind.i64.wrap ((i : Int) + (m : Int)) = (i : Int) + (m : Int) := by rw [IntKind.wrap_i64]; omega
  have hb1 : (0 : Int) ≤ (i : Int) + (m : Int) := by omega
  have hin : i ≤ n := by omega
  have htn : ((i : Int) + (m : Int)).toNat = i + m := by omega
  have hb3 : (i : Int) ≤ (n : Int) := by omega
  clear hkk hik hold hROW hG hRl
  go_enter Tryd.func92, Tryd.ntmps92
  go_wp2_with (first
    | (at_builtin; refine Lib.wpList_append_run _ rfl _ _ _ _ rfl _ _ rfl rfl _ _ (hrz _) ?_)
    | (at_builtin; refine wpList_copy_runI _ rfl _ _ 33 33 rfl _ _ rfl rfl (hcpA _ hE1 hE2 _ _) ?_)
    | (at_builtin; refine wpList_copy_runI _ rfl _ _ 33 33 rfl _ _ rfl rfl (hcpB _ (fun _ => rfl) (fun _ => rfl) _ _ _) ?_))
  go_region_law (refine step_copy_runI rfl _ _ 33 33 rfl (.slice (some ⟨w.heap.size, (i + m) * 3, none⟩) (n + m - (i + m)) (G - (i + m))) (.slice (some ⟨b, i * 3, none⟩) (n - i) (c - i)) (by simp [Act.eval, Act.put]) (by simp [Act.eval, Act.put]) (hcpB _ hF1 hF2 3 (G - (i + m)) (c - i)) ?_)
  go_wp2
  go_ret
  exact ⟨rfl, rfl⟩

theorem insI_zs (i n G : Nat) (hi : i < n) (hG : n + 1 ≤ G) : i * 3 + (Builtin.zeroCells (.agg #[.int .i64 0, .int .i64 0, .int .i64 0] : Value).cells (n + 1 - i) ++ Builtin.zeroCells (.agg #[.int .i64 0, .int .i64 0, .int .i64 0] : Value).cells (G - (n + 1))).size = G * 3 := by
  rw [Array.size_append, size_zeroCells, size_zeroCells]
  show i * 3 + ((n + 1 - i) * 3 + (G - (n + 1)) * 3) = G * 3
  omega
set_option maxHeartbeats 4000000 in
theorem insI_walk : InsWalk Tryd.prog 92 3 24 := by
  refine insWalk_of (by decide) (fun b n c i vb vc cs vs w h1 h2 h3 h4 h5 h6 h7 h8 h9 h10 h11 h12 tA tB kA kB h13 h14 h15 h16 h17 => ?_) fun b n c i vb vc cs vs w h1 h2 h3 h4 h5 h6 h7 h8 h9 h10 => ?_
  · exact insI_shift b n c i vb 1 vc cs vs w h1 (by decide) h2 h3 h4 h5 (by rw [Nat.one_mul]; exact h6) h7 h8 h9 h10 h11 h12 tA tB kA kB h13 h14 h15 h16 h17
  · have hG := grownCap_ge w (n + 1) c 103
    have hb : n + 1 ≤ maxLen := by unfold maxLen; omega
    refine ⟨Builtin.zeroCells (.agg #[.int .i64 0, .int .i64 0, .int .i64 0] : Value).cells (n + 1 - i) ++ Builtin.zeroCells (.agg #[.int .i64 0, .int .i64 0, .int .i64 0] : Value).cells (grownCap w (n + 1) c 103 - (n + 1)), grownCap w (n + 1) c 103, 103, ?_, hG, grownCap_le_maxLen w (n + 1) c 103 hb, insI_zs i n _ h1 hG⟩
    rw [← Array.append_assoc]
    exact insI_grow b n c i vb 1 vc cs vs w h1 (by decide) h2 h3 h4 h5 (by rw [Nat.one_mul]; exact h6) h7 h8 h9 h10


end Go.Proofs.YtkhnakdmkhidbaaDoor
