/- Functions of the store meet their contracts: what may be. No condition. -/
import Derived.Test.YtkhnakdmkhidbaaSvB
import Derived.Test.YtkhnakdmkhidbaaSmB
namespace Go.Proofs.Ytkhnakdmkhidbaa
open Go.RowKit

/- laws of the words -/
theorem idxOf_lt {p : Nat → Bool} {n k j : Nat} (hj : j < k) (hn : k < n) (h : p j = true) : idxOf p n ≠ (k : Int) := by
  intro e
  have hg : pGe (idxOf p n) 0 = true := by rw [e]; simp [pGe]
  unfold idxOf at e
  cases hq : (List.range n).find? p with
  | none => rw [hq] at e; simp at e
  | some i =>
    rw [hq] at e
    have hi : i = k := by have e' : (i : Int) = (k : Int) := e; omega
    rw [List.find?_range_eq_some] at hq
    have := hq.2.2 j (by omega)
    rw [h] at this; simp at this
theorem doubt_first {ds : List DoubtD} {k : Nat} (hk : k < ds.length) : pNe (idxDoubtF ds ((pGet tyDoubt ds k).1, (pGet tyDoubt ds k).2.1, ())) (k : Int) = !allUpto (fun j => !sameD ds j k) k := by
  cases hq : allUpto (fun j => !sameD ds j k) k with
  | true =>
    have ha := allUpto_iff.1 hq
    have : idxDoubtF ds ((pGet tyDoubt ds k).1, (pGet tyDoubt ds k).2.1, ()) = (k : Int) := idxOf_hit hk (fun j hj => by have := ha j hj; simp only [Bool.not_eq_true'] at this; exact this) (by simp [doubtIsF, pEq])
    rw [this]; simp [pNe]
  | false =>
    have : ∃ j, j < k ∧ sameD ds j k = true := by
      rcases Classical.em (∃ j, j < k ∧ sameD ds j k = true) with h | h
      · exact h
      · have : allUpto (fun j => !sameD ds j k) k = true := allUpto_iff.2 fun j hj => by
          cases hs : sameD ds j k with
          | true => exact absurd ⟨j, hj, hs⟩ h
          | false => rfl
        rw [this] at hq; cases hq
    obtain ⟨j, hj, hs⟩ := this
    have : idxDoubtF ds ((pGet tyDoubt ds k).1, (pGet tyDoubt ds k).2.1, ()) ≠ (k : Int) := idxOf_lt hj hk (by simpa [sameD, pAndB, doubtIsF] using hs)
    simp [pNe, this]
theorem over_sub {os : List TxnD} {k : Nat} (hk : k < os.length) : pGe (idxTxnF (pSub os 0 k) ((pGet tyTxn os k).1, (pGet tyTxn os k).2.1, ())) 0 = !allUpto (fun j => !sameT os j k) k := by
  unfold idxTxnF
  rw [idxOf_ge, Bool.eq_iff_iff, anyUpto_iff, pSub0_len (by omega)]
  constructor
  · rintro ⟨j, hj, h⟩
    rw [pGet_sub0 hj] at h
    cases hq : allUpto (fun j => !sameT os j k) k with
    | false => rfl
    | true =>
      have := allUpto_iff.1 hq j hj
      simp only [eqTxn, sameT, pAndB, pEq, Bool.not_eq_true', Bool.and_eq_true, beq_iff_eq, Bool.and_eq_false_iff, beq_eq_false_iff_ne] at h this
      grind
  · intro h
    rcases Classical.em (∃ j, j < k ∧ sameT os j k = true) with ⟨j, hj, hs⟩ | hn
    · refine ⟨j, hj, ?_⟩
      rw [pGet_sub0 hj]
      simp only [eqTxn, sameT, pAndB, pEq, Bool.and_eq_true, beq_iff_eq] at hs ⊢
      exact ⟨hs.1.symm, hs.2.symm⟩
    · have : allUpto (fun j => !sameT os j k) k = true := allUpto_iff.2 fun j hj => by
        cases hs : sameT os j k with
        | true => exact absurd ⟨j, hj, hs⟩ hn
        | false => rfl
      rw [this] at h; cases h
theorem anyUpto_succ {p : Nat → Bool} {k : Nat} : anyUpto p (k + 1) = (anyUpto p k || p k) := by
  simp [anyUpto, List.range_succ]
theorem HandInv.round {p : Nat → Bool} {n : Nat} {y : Int × Bool × Unit} (hn : n < 4611686018427387904) (h : HandInv p n y) :
    (∃ k : Nat, y = ((k : Int), anyUpto p k, ()) ∧ k < n ∧ ∀ b : Bool, b = (anyUpto p k || p k) → HandInv p n (pAdd .i64 (k : Int) 1, b, ()) ∧ Nat.le (Nat.succ (HandMu n (pAdd .i64 (k : Int) 1, b, ()))) (HandMu n y)) ∨
    y = ((n : Int), anyUpto p n, ()) := by
  obtain ⟨k, hk, hle, ha⟩ := h
  obtain ⟨y1, y2, u⟩ := y
  cases u
  simp only at hk ha
  subst hk ha
  by_cases hkn : k < n
  · refine .inl ⟨k, rfl, hkn, fun b hb => ?_⟩
    rw [pAdd1 (by omega)]
    refine ⟨⟨k + 1, rfl, hkn, by rw [hb, anyUpto_succ]⟩, ?_⟩
    unfold HandMu; simp only [Int.toNat_natCast]; exact Nat.le_of_eq (by omega)
  · have : k = n := by omega
    subst this
    exact .inr rfl

theorem doubtsF_eq (is : List ItemD) (ls : List LockD) (ds : List DoubtD) (os : List TxnD) : doubtsF (is, ls, ds, os, ()) = (allUpto (doubtOkAt ls ds os) ds.length && allUpto (overOkAt os) os.length) := rfl
theorem locksF_eq (is : List ItemD) (ls : List LockD) (ds : List DoubtD) (os : List TxnD) : locksF (is, ls, ds, os, ()) = (allUpto (lockOkAt ls ds) ls.length && pLe (pInt ls.length) 24) := rfl
theorem stoF_eq (is : List ItemD) (ls : List LockD) (ds : List DoubtD) (os : List TxnD) : stoF (is, ls, ds, os, ()) = (itemsF is && doubtsF (is, ls, ds, os, ()) && locksF (is, ls, ds, os, ())) := rfl
theorem doubtOkAt_eq (ls : List LockD) (ds : List DoubtD) (os : List TxnD) (i : Nat) : doubtOkAt ls ds os i = (txnF ((pGet tyDoubt ds i).1, (pGet tyDoubt ds i).2.1, ()) && inF (pGet tyDoubt ds i).2.2.1 0 1048576 && pNot (pGe (idxTxnF os ((pGet tyDoubt ds i).1, (pGet tyDoubt ds i).2.1, ())) 0) &&
    pGe (idxLockF ls ((pGet tyDoubt ds i).1, (pGet tyDoubt ds i).2.1, ())) 0 && allUpto (fun k => !sameD ds k i) i) := rfl
theorem overOkAt_eq (os : List TxnD) (i : Nat) : overOkAt os i = (txnF ((pGet tyTxn os i).1, (pGet tyTxn os i).2.1, ()) && allUpto (fun k => !sameT os k i) i) := rfl
theorem lockOkAt_eq (ls : List LockD) (ds : List DoubtD) (i : Nat) : lockOkAt ls ds i = (pGe (idxDoubtF ds ((pGet tyLock ls i).1, (pGet tyLock ls i).2.1, ())) 0 && inF (pGet tyLock ls i).2.2.1 0 7 && inF (pGet tyLock ls i).2.2.2.2.1 0 1073741824 && inF (pGet tyLock ls i).2.2.2.2.2.1 0 1048576 &&
    ((pGet tyLock ls i).2.2.2.1 || (pEq (pGet tyLock ls i).2.2.2.2.1 0 && pEq (pGet tyLock ls i).2.2.2.2.2.1 0)) && allUpto (fun k => !clash ls k i) i) := rfl
theorem itemOk_eq (l : List ItemD) (i : Nat) : itemOk l i = (inF (pGet tyItem l i).1 0 7 && inF (pGet tyItem l i).2.1 0 1073741824 && inF (pGet tyItem l i).2.2.1 1 1048576 && (decide (i = 0) || pLt (pGet tyItem l (i - 1)).1 (pGet tyItem l i).1)) := rfl

theorem doubtOf_ok : Meets Try.prog (fun _ => none) 61 cdoubtOf := doubtOf_meets fun is ls ds os a b hp => by
  have hl : ds.length < 4611686018427387904 := hp (pLen ds < 4611686018427387904) (by simp)
  refine ⟨UpInv.start, fun y hy => ?_⟩
  rcases FindInv.round hl hy with ⟨k, rfl, hk, hb, hT, hF⟩ | ⟨rfl, hT⟩
  · rw [bif_true (by simp [pLt_coe, pLen, hk]), pNat_coe]
    refine ⟨pIn_coe.2 hk, bif_ok (fun h => ?_) fun h => hF h⟩
    exact congrArg (·, ()) (hT h).symm
  · rw [bif_false (by simp [pLt_coe, pLen])]
    exact congrArg (·, ()) hT.symm
theorem isOver_ok : Meets Try.prog (fun _ => none) 23 cisOver := isOver_meets fun is ls ds os a b hp => by
  have hl : os.length < 4611686018427387904 := hp (pLen os < 4611686018427387904) (by simp)
  have e : ∀ k, pAndB (pEq (pGet tyTxn os k).1 a) (pEq (pGet tyTxn os k).2.1 b) = eqTxn (a, b, ()) (pGet tyTxn os k) := fun k => by
    rw [Bool.eq_iff_iff]; simp only [pAndB, pEq, eqTxn, Bool.and_eq_true, beq_iff_eq]; constructor <;> intro h <;> exact ⟨h.1.symm, h.2.symm⟩
  refine ⟨UpInv.start, fun y hy => ?_⟩
  rcases FindInv.round hl hy with ⟨k, rfl, hk, hb, hT, hF⟩ | ⟨rfl, hT⟩
  · rw [bif_true (by simp [pLt_coe, pLen, hk]), pNat_coe, e]
    refine ⟨pIn_coe.2 hk, bif_ok (fun h => ?_) fun h => hF h⟩
    refine congrArg (·, ()) ?_
    have := hT h
    unfold idxTxnF
    rw [this]; simp [pGe]
  · rw [bif_false (by simp [pLt_coe, pLen])]
    refine congrArg (·, ()) ?_
    unfold idxTxnF
    rw [hT]; rfl

theorem doubts_ok : Meets Try.prog (fun _ => none) 57 cdoubts := doubts_meets txn_ok Contains_ok containsFuncLock_ok fun is ls ds os hp => by
  have hls : ls.length < 4611686018427387904 := hp (pLen ls < 4611686018427387904) (by simp)
  have hds : ds.length < 4611686018427387904 := hp (pLen ds < 4611686018427387904) (by simp)
  have hl : os.length < 4611686018427387904 := hp (pLen os < 4611686018427387904) (by simp)
  clear hp
  unfold doubts_VC
  rw [doubtsF_eq]
  refine ⟨UpInv.start, fun y hy => ?_⟩
  rcases UpInv.round hds hy with ⟨k, rfl, hk, hb, -, hF, hT⟩ | ⟨rfl, hT⟩
  · rw [bif_true (by simp [pLt_coe, pLen, hk]), pNat_coe]
    rw [doubtOkAt_eq] at hT hF
    clear hy
    dsimp only
    (repeat' (first | refine bif_ok (fun h => ?_) (fun h => ?_) | refine And.intro ?_ ?_ | fail))
    all_goals first
      | exact hl
      | exact hls
      | omega
      | (unfold pLen; omega)
      | exact UpInv.start
      | (refine leafF fun q => ?_; clear hT; grind [pLt, pLe, pGt, pGe, pEq, pNe, pNot, pAndB, pBeq, pInt, pLen, inF, pIn, pTo, pNat])
      | skip
    intro z hz
    rcases UpInv.round (p := fun j => !sameD ds j k) (n := k) hb hz with ⟨i, rfl, hi, hib, -, hiF, hiT⟩ | ⟨rfl, hiT⟩
    · rw [pLen, pSub0_len (by omega), bif_true (show pLt (i : Int) (pInt k) = true from by simp [pLt_coe, hi])]
      refine ⟨pIn_coe.2 hi, ?_⟩
      rw [pNat_coe, pGet_sub0 hi]
      refine bif_ok (fun h => ?_) fun h => hiT (by simp only [Bool.not_eq_true']; exact h)
      have hs : allUpto (fun j => !sameD ds j k) k = false := hiF (by simp only [Bool.not_eq_false']; exact h)
      clear hz hiF hiT hT
      refine leafF fun q => ?_
      grind [pLt, pLe, pGt, pGe, pEq, pNe, pNot, pAndB, pBeq, pInt, pLen, inF, pIn, pTo, pNat]
    · rw [pLen, pSub0_len (by omega), bif_false (show pLt (k : Int) (pInt k) = false from by simp [pLt_coe])]
      refine hT ?_
      clear hz hT hF
      grind [pLt, pLe, pGt, pGe, pEq, pNe, pNot, pAndB, pBeq, pInt, pLen, inF, pIn, pTo, pNat]
  · rw [bif_false (by simp [pLt_coe, pLen]), hT]
    clear hy
    refine ⟨UpInv.start, fun y hy => ?_⟩
    rcases UpInv.round hl hy with ⟨k, rfl, hk, hb, -, hF, hT⟩ | ⟨rfl, hT⟩
    · rw [bif_true (by simp [pLt_coe, pLen, hk]), pNat_coe, over_sub hk]
      rw [overOkAt_eq] at hT hF
      clear hy
      dsimp only
      have hsl : (pSub os 0 k).length < 4611686018427387904 := by rw [pSub0_len (by omega)]; omega
      (repeat' (first | refine bif_ok (fun h => ?_) (fun h => ?_) | refine And.intro ?_ ?_ | fail))
      all_goals first
        | exact hsl
        | omega
        | (unfold pLen; omega)
        | (refine leafF fun q => ?_; clear hT; grind [pLt, pLe, pGt, pGe, pEq, pNe, pNot, pAndB, pBeq, pInt, pLen, inF, pIn, pTo, pNat])
        | (refine (hT ?_).1; clear hT hF; grind [pLt, pLe, pGt, pGe, pEq, pNe, pNot, pAndB, pBeq, pInt, pLen, inF, pIn, pTo, pNat])
        | (refine (hT ?_).2; clear hT hF; grind [pLt, pLe, pGt, pGe, pEq, pNe, pNot, pAndB, pBeq, pInt, pLen, inF, pIn, pTo, pNat])
    · rw [bif_false (by simp [pLt_coe, pLen]), hT]
      rfl

theorem clash_eq (l : List LockD) (k i : Nat) : clash l k i = (pEq (pGet tyLock l k).2.2.1 (pGet tyLock l i).2.2.1 && (pAndB (pEq (pGet tyLock l k).1 (pGet tyLock l i).1) (pEq (pGet tyLock l k).2.1 (pGet tyLock l i).2.1) || (pGet tyLock l k).2.2.2.1 || (pGet tyLock l i).2.2.2.1)) := rfl
theorem add_small (v a : Int) : 0 ≤ v → v ≤ 1073741824 → 0 ≤ a → a ≤ 1048576 → pAdd .i64 v a = v + a := fun _ _ _ _ => pAdd_in (by omega)
theorem locks_ok : Meets Try.prog (fun _ => none) 58 clocks := locks_meets doubted_ok fun is ls ds os hp => by
  have his : is.length < 4611686018427387904 := hp (pLen is < 4611686018427387904) (by simp)
  have hls : ls.length < 4611686018427387904 := hp (pLen ls < 4611686018427387904) (by simp)
  have hds : ds.length < 4611686018427387904 := hp (pLen ds < 4611686018427387904) (by simp)
  have hl : os.length < 4611686018427387904 := hp (pLen os < 4611686018427387904) (by simp)
  clear hp
  unfold locks_VC
  rw [locksF_eq]
  refine ⟨UpInv.start, fun y hy => ?_⟩
  rcases UpInv.round hls hy with ⟨k, rfl, hk, hb, -, hF, hT⟩ | ⟨rfl, hT⟩
  · rw [bif_true (by simp [pLt_coe, pLen, hk]), pNat_coe]
    rw [lockOkAt_eq] at hT hF
    have inner : ∀ (X : Prop), (allUpto (fun j => !clash ls j k) k = true → X) → ∀ z, locksBInv is ls ds os (k : Int) z → bif pLt z.1 (pInt (pLen (pSub ls 0 k))) then pIn z.1 (pLen (pSub ls 0 k)) ∧
        bif pEq (pGet tyLock (pSub ls 0 k) (pNat z.1)).2.2.1 (pGet tyLock ls k).2.2.1 then
          bif pAndB (pEq (pGet tyLock (pSub ls 0 k) (pNat z.1)).1 (pGet tyLock ls k).1) (pEq (pGet tyLock (pSub ls 0 k) (pNat z.1)).2.1 (pGet tyLock ls k).2.1) then (false, ()) = (allUpto (lockOkAt ls ds) ls.length && pLe (pInt ls.length) 24, ())
          else bif (pGet tyLock (pSub ls 0 k) (pNat z.1)).2.2.2.1 then (false, ()) = (allUpto (lockOkAt ls ds) ls.length && pLe (pInt ls.length) 24, ())
          else bif (pGet tyLock ls k).2.2.2.1 then (false, ()) = (allUpto (lockOkAt ls ds) ls.length && pLe (pInt ls.length) 24, ())
          else locksBInv is ls ds os (k : Int) (pAdd .i64 z.1 1, ()) ∧ Nat.le (Nat.succ (locksBMu is ls ds os (k : Int) (pAdd .i64 z.1 1, ()))) (locksBMu is ls ds os (k : Int) z)
        else locksBInv is ls ds os (k : Int) (pAdd .i64 z.1 1, ()) ∧ Nat.le (Nat.succ (locksBMu is ls ds os (k : Int) (pAdd .i64 z.1 1, ()))) (locksBMu is ls ds os (k : Int) z)
      else X := by
      intro X hX z hz
      rcases UpInv.round (p := fun j => !clash ls j k) (n := k) hb hz with ⟨i, rfl, hi, hib, -, hiF, hiT⟩ | ⟨rfl, hiT⟩
      · rw [pLen, pSub0_len (by omega), bif_true (show pLt (i : Int) (pInt k) = true from by simp [pLt_coe, hi])]
        refine ⟨pIn_coe.2 hi, ?_⟩
        rw [pNat_coe, pGet_sub0 hi]
        clear hz hX hT
        simp only [clash_eq] at hiF hiT
        refine bif_ok (fun h1 => bif_ok (fun h2 => leafF fun q => ?_) fun h2 => bif_ok (fun h3 => leafF fun q => ?_) fun h3 => bif_ok (fun h4 => leafF fun q => ?_) fun h4 => hiT ?_) fun h1 => hiT ?_
        · have hs := hiF (by rw [h1, h2]; rfl); clear hiF hiT; simp only [clash_eq] at hF; grind [pLt, pLe, pGt, pGe, pEq, pNe, pNot, pAndB, pBeq, pInt, pLen, inF, pIn, pTo, pNat]
        · have hs := hiF (by rw [h1, h2, h3]; rfl); clear hiF hiT; simp only [clash_eq] at hF; grind [pLt, pLe, pGt, pGe, pEq, pNe, pNot, pAndB, pBeq, pInt, pLen, inF, pIn, pTo, pNat]
        · have hs := hiF (by rw [h1, h2, h3, h4]; rfl); clear hiF hiT; simp only [clash_eq] at hF; grind [pLt, pLe, pGt, pGe, pEq, pNe, pNot, pAndB, pBeq, pInt, pLen, inF, pIn, pTo, pNat]
        · rw [h1, h2, h3, h4]; rfl
        · rw [h1]; rfl
      · rw [pLen, pSub0_len (by omega), bif_false (show pLt (k : Int) (pInt k) = false from by simp [pLt_coe])]
        exact hX hiT
    have eA := add_small (pGet tyLock ls k).2.2.2.2.1 (pGet tyLock ls k).2.2.2.2.2.1
    clear hy
    dsimp only
    (repeat' (first | refine bif_ok (fun h => ?_) (fun h => ?_) | refine And.intro ?_ ?_ | fail))
    all_goals first
      | exact hl
      | exact hls
      | exact his
      | exact hds
      | omega
      | (unfold pLen; omega)
      | exact UpInv.start
      | (refine leafF fun q => ?_; clear hT inner; grind [pLt, pLe, pGt, pGe, pEq, pNe, pNot, pAndB, pBeq, pInt, pLen, inF, pIn, pTo, pNat])
      | (refine inner _ fun ha => hT ?_; clear hT hF inner; grind [pLt, pLe, pGt, pGe, pEq, pNe, pNot, pAndB, pBeq, pInt, pLen, inF, pIn, pTo, pNat])
  · rw [bif_false (by simp [pLt_coe, pLen]), hT]
    rfl

theorem Check_ok : Meets Try.prog (fun _ => none) 35 cCheck := Check_meets items_ok doubts_ok locks_ok fun is ls ds os hp => by
  have his : is.length < 4611686018427387904 := hp (pLen is < 4611686018427387904) (by simp)
  have hls : ls.length < 4611686018427387904 := hp (pLen ls < 4611686018427387904) (by simp)
  have hds : ds.length < 4611686018427387904 := hp (pLen ds < 4611686018427387904) (by simp)
  have hl : os.length < 4611686018427387904 := hp (pLen os < 4611686018427387904) (by simp)
  clear hp
  unfold Check_VC
  rw [stoF_eq]
  (repeat' (first | refine bif_ok (fun h => ?_) (fun h => ?_) | refine And.intro ?_ ?_ | fail))
  all_goals first
    | exact hl
    | exact hls
    | exact his
    | exact hds
    | (refine leafE ?_; grind [pLt, pLe, pGt, pGe, pEq, pNe, pNot, pAndB, pBeq, pInt, pLen, inF, pIn, pTo, pNat])

end Go.Proofs.Ytkhnakdmkhidbaa
