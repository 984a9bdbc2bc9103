/- Contracts, and what the evaluator says, as plain propositions: PcV. Printed by vc.py. -/
import Derived.Test.YtkhnakdmkhidbaaDoorJ4
import Derived.Test.YtkhnakdmkhidbaaDoorJ3
import Derived.Test.YtkhnakdmkhidbaaDoorFF
import Derived.Test.YtkhnakdmkhidbaaDoorFH
import Derived.Test.YtkhnakdmkhidbaaDoorLib
import Derived.Test.YtkhnakdmkhidbaaDoorJ2
import Derived.Test.YtkhnakdmkhidbaaDoorJ1

/- More functions of the store meet their contracts. No condition. -/
namespace Go.Proofs.YtkhnakdmkhidbaaDoor
open Go.RowKit

theorem lens_ne {n m : Nat} (h : ¬ n = m) : pNe (pInt n) (pInt m) = true := by unfold pNe pInt; simp; omega
theorem lens_eq {n m : Nat} (h : n = m) : pNe (pInt n) (pInt m) = false := by unfold pNe pInt; simp [h]

set_option maxHeartbeats 1000000 in
theorem sameStore_ok : Meets Tryd.prog (fun _ => none) 12 csameStore := sameStore_meets sameTxns_ok fun is ls ds os is2 ls2 ds2 os2 hp => by
  have h1 : is.length < 4611686018427387904 := hp (pLen is < 4611686018427387904) (by simp)
  have h2 : ls.length < 4611686018427387904 := hp (pLen ls < 4611686018427387904) (by simp)
  have h3 : ds.length < 4611686018427387904 := hp (pLen ds < 4611686018427387904) (by simp)
  have h4 : os.length < 4611686018427387904 := hp (pLen os < 4611686018427387904) (by simp)
  unfold sameStore_VC pLen
  by_cases e1 : is.length = is2.length
  rotate_left
  · rw [bif_true (lens_ne e1)]; simp [sameStoF, e1]
  rw [bif_false (lens_eq e1)]
  by_cases e2 : ls.length = ls2.length
  rotate_left
  · rw [bif_true (lens_ne e2)]; simp [sameStoF, e2]
  rw [bif_false (lens_eq e2)]
  by_cases e3 : ds.length = ds2.length
  rotate_left
  · rw [bif_true (lens_ne e3)]; simp [sameStoF, e3]
  rw [bif_false (lens_eq e3)]
  refine ⟨h4, ?_⟩
  cases e4 : sameTxnsF os os2 with
  | false =>
    rw [bif_true (by rfl)]; simp [sameStoF, e4]
  | true =>
    rw [bif_false (by rfl)]
    have hl : sameLens is ls ds os is2 ls2 ds2 os2 = true := by simp [sameLens, e1, e2, e3, e4]
    refine ⟨⟨hl, UpInv.start⟩, fun y ⟨_, hy⟩ => ?_⟩
    rcases UpInv.round h1 hy with ⟨k, rfl, hk, hb, _, hF, hT⟩ | ⟨rfl, hA⟩
    · have hk2 : k < is2.length := by omega
      simp only [pLt_coe, pLen, hk, hk2, decide_true, cond_true, pIn_coe, pNat_coe, true_and]
      cases hq : eqItemAt is is2 k with
      | true =>
        rw [bif_false (show pNot _ = false by unfold eqItemAt at hq; simp only [pNot, pAndB]; rw [hq]; rfl)]
        exact ⟨⟨hl, (hT hq).1⟩, (hT hq).2⟩
      | false =>
        rw [bif_true (show pNot _ = true by unfold eqItemAt at hq; simp only [pNot, pAndB]; rw [hq]; rfl)]
        have := hF hq
        simp [sameStoF, this]
    · rw [bif_false (by simp [pLt_coe, pLen])]
      refine ⟨⟨by simp [hl, hA], UpInv.start⟩, fun y ⟨_, hy⟩ => ?_⟩
      rcases UpInv.round h2 hy with ⟨k, rfl, hk, hb, _, hF, hT⟩ | ⟨rfl, hB⟩
      · have hk2 : k < ls2.length := by omega
        simp only [pLt_coe, pLen, hk, hk2, decide_true, cond_true, pIn_coe, pNat_coe, true_and]
        cases hq : eqLockAt ls ls2 k with
        | true =>
          rw [bif_false (show pNot _ = false by unfold eqLockAt at hq; simp only [pNot, pAndB]; rw [hq]; rfl)]
          exact ⟨⟨by simp [hl, hA], (hT hq).1⟩, (hT hq).2⟩
        | false =>
          rw [bif_true (show pNot _ = true by unfold eqLockAt at hq; simp only [pNot, pAndB]; rw [hq]; rfl)]
          have := hF hq
          simp [sameStoF, this]
      · rw [bif_false (by simp [pLt_coe, pLen])]
        refine ⟨⟨by simp [hl, hA, hB], UpInv.start⟩, fun y ⟨_, hy⟩ => ?_⟩
        rcases UpInv.round h3 hy with ⟨k, rfl, hk, hb, _, hF, hT⟩ | ⟨rfl, hC⟩
        · have hk2 : k < ds2.length := by omega
          simp only [pLt_coe, pLen, hk, hk2, decide_true, cond_true, pIn_coe, pNat_coe, true_and]
          cases hq : eqItemAt ds ds2 k with
          | true =>
            rw [bif_false (show pNot _ = false by unfold eqItemAt at hq; simp only [pNot, pAndB]; rw [hq]; rfl)]
            exact ⟨⟨by simp [hl, hA, hB], (hT hq).1⟩, (hT hq).2⟩
          | false =>
            rw [bif_true (show pNot _ = true by unfold eqItemAt at hq; simp only [pNot, pAndB]; rw [hq]; rfl)]
            have := hF hq
            simp [sameStoF, this]
        · rw [bif_false (by simp [pLt_coe, pLen])]
          rw [e1] at hA; rw [e2] at hB; rw [e3] at hC
          simp [sameStoF, e1, e2, e3, e4, hA, hB, hC]


end Go.Proofs.YtkhnakdmkhidbaaDoor

/- Functions of the store meet their contracts: what may be. No condition. -/
namespace Go.Proofs.YtkhnakdmkhidbaaDoor
open Go.RowKit

/- laws of the words -/
theorem idxOf_lt {p : Nat → Bool} {n k j : Nat} (hj : j < k) (hn : k < n) (h : p j = true) : idxOf p n ≠ (k : Int) := by
  intro e
  have hg : pGe (idxOf p n) 0 = true := by rw [e]; simp [pGe]
  unfold idxOf at e
  cases hq : (List.range n).find? p with
  | none => rw [hq] at e; simp at e
  | some i =>
    rw [hq] at e
    have hi : i = k := by have e' : (i : Int) = (k : Int) := e; omega
    rw [List.find?_range_eq_some] at hq
    have := hq.2.2 j (by omega)
    rw [h] at this; simp at this
theorem doubt_first {ds : List DoubtD} {k : Nat} (hk : k < ds.length) : pNe (idxDoubtF ds ((pGet tyDoubt ds k).1, (pGet tyDoubt ds k).2.1, ())) (k : Int) = !allUpto (fun j => !sameD ds j k) k := by
  cases hq : allUpto (fun j => !sameD ds j k) k with
  | true =>
    have ha := allUpto_iff.1 hq
    have : idxDoubtF ds ((pGet tyDoubt ds k).1, (pGet tyDoubt ds k).2.1, ()) = (k : Int) := idxOf_hit hk (fun j hj => by have := ha j hj; simp only [Bool.not_eq_true'] at this; exact this) (by simp [doubtIsF, pEq])
    rw [this]; simp [pNe]
  | false =>
    have : ∃ j, j < k ∧ sameD ds j k = true := by
      rcases Classical.em (∃ j, j < k ∧ sameD ds j k = true) with h | h
      · exact h
      · have : allUpto (fun j => !sameD ds j k) k = true := allUpto_iff.2 fun j hj => by
          cases hs : sameD ds j k with
          | true => exact absurd ⟨j, hj, hs⟩ h
          | false => rfl
        rw [this] at hq; cases hq
    obtain ⟨j, hj, hs⟩ := this
    have : idxDoubtF ds ((pGet tyDoubt ds k).1, (pGet tyDoubt ds k).2.1, ()) ≠ (k : Int) := idxOf_lt hj hk (by simpa [sameD, pAndB, doubtIsF] using hs)
    simp [pNe, this]
theorem over_sub {os : List TxnD} {k : Nat} (hk : k < os.length) : pGe (idxTxnF (pSub os 0 k) ((pGet tyTxn os k).1, (pGet tyTxn os k).2.1, ())) 0 = !allUpto (fun j => !sameT os j k) k := by
  unfold idxTxnF
  rw [idxOf_ge, Bool.eq_iff_iff, anyUpto_iff, pSub0_len (by omega)]
  constructor
  · rintro ⟨j, hj, h⟩
    rw [pGet_sub0 hj] at h
    cases hq : allUpto (fun j => !sameT os j k) k with
    | false => rfl
    | true =>
      have := allUpto_iff.1 hq j hj
      simp only [eqTxn, sameT, pAndB, pEq, Bool.not_eq_true', Bool.and_eq_true, beq_iff_eq, Bool.and_eq_false_iff, beq_eq_false_iff_ne] at h this
      grind
  · intro h
    rcases Classical.em (∃ j, j < k ∧ sameT os j k = true) with ⟨j, hj, hs⟩ | hn
    · refine ⟨j, hj, ?_⟩
      rw [pGet_sub0 hj]
      simp only [eqTxn, sameT, pAndB, pEq, Bool.and_eq_true, beq_iff_eq] at hs ⊢
      exact ⟨hs.1.symm, hs.2.symm⟩
    · have : allUpto (fun j => !sameT os j k) k = true := allUpto_iff.2 fun j hj => by
        cases hs : sameT os j k with
        | true => exact absurd ⟨j, hj, hs⟩ hn
        | false => rfl
      rw [this] at h; cases h
theorem anyUpto_succ {p : Nat → Bool} {k : Nat} : anyUpto p (k + 1) = (anyUpto p k || p k) := by
  simp [anyUpto, List.range_succ]
theorem HandInv.round {p : Nat → Bool} {n : Nat} {y : Int × Bool × Unit} (hn : n < 4611686018427387904) (h : HandInv p n y) :
    (∃ k : Nat, y = ((k : Int), anyUpto p k, ()) ∧ k < n ∧ ∀ b : Bool, b = (anyUpto p k || p k) → HandInv p n (pAdd .i64 (k : Int) 1, b, ()) ∧ Nat.le (Nat.succ (HandMu n (pAdd .i64 (k : Int) 1, b, ()))) (HandMu n y)) ∨
    y = ((n : Int), anyUpto p n, ()) := by
  obtain ⟨k, hk, hle, ha⟩ := h
  obtain ⟨y1, y2, u⟩ := y
  cases u
  simp only at hk ha
  subst hk ha
  by_cases hkn : k < n
  · refine .inl ⟨k, rfl, hkn, fun b hb => ?_⟩
    rw [pAdd1 (by omega)]
    refine ⟨⟨k + 1, rfl, hkn, by rw [hb, anyUpto_succ]⟩, ?_⟩
    unfold HandMu; simp only [Int.toNat_natCast]; exact Nat.le_of_eq (by omega)
  · have : k = n := by omega
    subst this
    exact .inr rfl

theorem doubtsF_eq (is : List ItemD) (ls : List LockD) (ds : List DoubtD) (os : List TxnD) : doubtsF (is, ls, ds, os, ()) = (allUpto (doubtOkAt ls ds os) ds.length && allUpto (overOkAt os) os.length) := rfl
theorem locksF_eq (is : List ItemD) (ls : List LockD) (ds : List DoubtD) (os : List TxnD) : locksF (is, ls, ds, os, ()) = (allUpto (lockOkAt ls ds) ls.length && pLe (pInt ls.length) 24) := rfl
theorem stoF_eq (is : List ItemD) (ls : List LockD) (ds : List DoubtD) (os : List TxnD) : stoF (is, ls, ds, os, ()) = (itemsF is && doubtsF (is, ls, ds, os, ()) && locksF (is, ls, ds, os, ())) := rfl
theorem doubtOkAt_eq (ls : List LockD) (ds : List DoubtD) (os : List TxnD) (i : Nat) : doubtOkAt ls ds os i = (txnF ((pGet tyDoubt ds i).1, (pGet tyDoubt ds i).2.1, ()) && inF (pGet tyDoubt ds i).2.2.1 0 1048576 && pNot (pGe (idxTxnF os ((pGet tyDoubt ds i).1, (pGet tyDoubt ds i).2.1, ())) 0) &&
    pGe (idxLockF ls ((pGet tyDoubt ds i).1, (pGet tyDoubt ds i).2.1, ())) 0 && allUpto (fun k => !sameD ds k i) i) := rfl
theorem overOkAt_eq (os : List TxnD) (i : Nat) : overOkAt os i = (txnF ((pGet tyTxn os i).1, (pGet tyTxn os i).2.1, ()) && allUpto (fun k => !sameT os k i) i) := rfl
theorem lockOkAt_eq (ls : List LockD) (ds : List DoubtD) (i : Nat) : lockOkAt ls ds i = (pGe (idxDoubtF ds ((pGet tyLock ls i).1, (pGet tyLock ls i).2.1, ())) 0 && inF (pGet tyLock ls i).2.2.1 0 7 && inF (pGet tyLock ls i).2.2.2.2.1 0 1073741824 && inF (pGet tyLock ls i).2.2.2.2.2.1 0 1048576 &&
    ((pGet tyLock ls i).2.2.2.1 || (pEq (pGet tyLock ls i).2.2.2.2.1 0 && pEq (pGet tyLock ls i).2.2.2.2.2.1 0)) && allUpto (fun k => !clash ls k i) i) := rfl
theorem itemOk_eq (l : List ItemD) (i : Nat) : itemOk l i = (inF (pGet tyItem l i).1 0 7 && inF (pGet tyItem l i).2.1 0 1073741824 && inF (pGet tyItem l i).2.2.1 1 1048576 && (decide (i = 0) || pLt (pGet tyItem l (i - 1)).1 (pGet tyItem l i).1)) := rfl

theorem doubtOf_ok : Meets Tryd.prog (fun _ => none) 73 cdoubtOf := doubtOf_meets fun is ls ds os a b hp => by
  have hl : ds.length < 4611686018427387904 := hp (pLen ds < 4611686018427387904) (by simp)
  refine ⟨UpInv.start, fun y hy => ?_⟩
  rcases FindInv.round hl hy with ⟨k, rfl, hk, hb, hT, hF⟩ | ⟨rfl, hT⟩
  · rw [bif_true (by simp [pLt_coe, pLen, hk]), pNat_coe]
    refine ⟨pIn_coe.2 hk, bif_ok (fun h => ?_) fun h => hF h⟩
    exact congrArg (·, ()) (hT h).symm
  · rw [bif_false (by simp [pLt_coe, pLen])]
    exact congrArg (·, ()) hT.symm
theorem isOver_ok : Meets Tryd.prog (fun _ => none) 72 cisOver := isOver_meets fun is ls ds os a b hp => by
  have hl : os.length < 4611686018427387904 := hp (pLen os < 4611686018427387904) (by simp)
  have e : ∀ k, pAndB (pEq (pGet tyTxn os k).1 a) (pEq (pGet tyTxn os k).2.1 b) = eqTxn (a, b, ()) (pGet tyTxn os k) := fun k => by
    rw [Bool.eq_iff_iff]; simp only [pAndB, pEq, eqTxn, Bool.and_eq_true, beq_iff_eq]; constructor <;> intro h <;> exact ⟨h.1.symm, h.2.symm⟩
  refine ⟨UpInv.start, fun y hy => ?_⟩
  rcases FindInv.round hl hy with ⟨k, rfl, hk, hb, hT, hF⟩ | ⟨rfl, hT⟩
  · rw [bif_true (by simp [pLt_coe, pLen, hk]), pNat_coe, e]
    refine ⟨pIn_coe.2 hk, bif_ok (fun h => ?_) fun h => hF h⟩
    refine congrArg (·, ()) ?_
    have := hT h
    unfold idxTxnF
    rw [this]; simp [pGe]
  · rw [bif_false (by simp [pLt_coe, pLen])]
    refine congrArg (·, ()) ?_
    unfold idxTxnF
    rw [hT]; rfl

theorem doubts_ok : Meets Tryd.prog (fun _ => none) 82 cdoubts := doubts_meets txn_ok Contains_ok containsFuncLock_ok fun is ls ds os hp => by
  have hls : ls.length < 4611686018427387904 := hp (pLen ls < 4611686018427387904) (by simp)
  have hds : ds.length < 4611686018427387904 := hp (pLen ds < 4611686018427387904) (by simp)
  have hl : os.length < 4611686018427387904 := hp (pLen os < 4611686018427387904) (by simp)
  clear hp
  unfold doubts_VC
  rw [doubtsF_eq]
  refine ⟨UpInv.start, fun y hy => ?_⟩
  rcases UpInv.round hds hy with ⟨k, rfl, hk, hb, -, hF, hT⟩ | ⟨rfl, hT⟩
  · rw [bif_true (by simp [pLt_coe, pLen, hk]), pNat_coe]
    rw [doubtOkAt_eq] at hT hF
    clear hy
    dsimp only
    (repeat' (first | refine bif_ok (fun h => ?_) (fun h => ?_) | refine And.intro ?_ ?_ | fail))
    all_goals first
      | exact hl
      | exact hls
      | omega
      | (unfold pLen; omega)
      | exact UpInv.start
      | (refine leafF fun q => ?_; clear hT; grind [pLt, pLe, pGt, pGe, pEq, pNe, pNot, pAndB, pBeq, pInt, pLen, inF, pIn, pTo, pNat])
      | skip
    intro z hz
    rcases UpInv.round (p := fun j => !sameD ds j k) (n := k) hb hz with ⟨i, rfl, hi, hib, -, hiF, hiT⟩ | ⟨rfl, hiT⟩
    · rw [pLen, pSub0_len (by omega), bif_true (show pLt (i : Int) (pInt k) = true from by simp [pLt_coe, hi])]
      refine ⟨pIn_coe.2 hi, ?_⟩
      rw [pNat_coe, pGet_sub0 hi]
      refine bif_ok (fun h => ?_) fun h => hiT (by simp only [Bool.not_eq_true']; exact h)
      have hs : allUpto (fun j => !sameD ds j k) k = false := hiF (by simp only [Bool.not_eq_false']; exact h)
      clear hz hiF hiT hT
      refine leafF fun q => ?_
      grind [pLt, pLe, pGt, pGe, pEq, pNe, pNot, pAndB, pBeq, pInt, pLen, inF, pIn, pTo, pNat]
    · rw [pLen, pSub0_len (by omega), bif_false (show pLt (k : Int) (pInt k) = false from by simp [pLt_coe])]
      refine hT ?_
      clear hz hT hF
      grind [pLt, pLe, pGt, pGe, pEq, pNe, pNot, pAndB, pBeq, pInt, pLen, inF, pIn, pTo, pNat]
  · rw [bif_false (by simp [pLt_coe, pLen]), hT]
    clear hy
    refine ⟨UpInv.start, fun y hy => ?_⟩
    rcases UpInv.round hl hy with ⟨k, rfl, hk, hb, -, hF, hT⟩ | ⟨rfl, hT⟩
    · rw [bif_true (by simp [pLt_coe, pLen, hk]), pNat_coe, over_sub hk]
      rw [overOkAt_eq] at hT hF
      clear hy
      dsimp only
      have hsl : (pSub os 0 k).length < 4611686018427387904 := by rw [pSub0_len (by omega)]; omega
      (repeat' (first | refine bif_ok (fun h => ?_) (fun h => ?_) | refine And.intro ?_ ?_ | fail))
      all_goals first
        | exact hsl
        | omega
        | (unfold pLen; omega)
        | (refine leafF fun q => ?_; clear hT; grind [pLt, pLe, pGt, pGe, pEq, pNe, pNot, pAndB, pBeq, pInt, pLen, inF, pIn, pTo, pNat])
        | (refine (hT ?_).1; clear hT hF; grind [pLt, pLe, pGt, pGe, pEq, pNe, pNot, pAndB, pBeq, pInt, pLen, inF, pIn, pTo, pNat])
        | (refine (hT ?_).2; clear hT hF; grind [pLt, pLe, pGt, pGe, pEq, pNe, pNot, pAndB, pBeq, pInt, pLen, inF, pIn, pTo, pNat])
    · rw [bif_false (by simp [pLt_coe, pLen]), hT]
      rfl

theorem clash_eq (l : List LockD) (k i : Nat) : clash l k i = (pEq (pGet tyLock l k).2.2.1 (pGet tyLock l i).2.2.1 && (pAndB (pEq (pGet tyLock l k).1 (pGet tyLock l i).1) (pEq (pGet tyLock l k).2.1 (pGet tyLock l i).2.1) || (pGet tyLock l k).2.2.2.1 || (pGet tyLock l i).2.2.2.1)) := rfl
theorem add_small (v a : Int) : 0 ≤ v → v ≤ 1073741824 → 0 ≤ a → a ≤ 1048576 → pAdd .i64 v a = v + a := fun _ _ _ _ => pAdd_in (by omega)
theorem locks_ok : Meets Tryd.prog (fun _ => none) 83 clocks := locks_meets doubted_ok fun is ls ds os hp => by
  have his : is.length < 4611686018427387904 := hp (pLen is < 4611686018427387904) (by simp)
  have hls : ls.length < 4611686018427387904 := hp (pLen ls < 4611686018427387904) (by simp)
  have hds : ds.length < 4611686018427387904 := hp (pLen ds < 4611686018427387904) (by simp)
  have hl : os.length < 4611686018427387904 := hp (pLen os < 4611686018427387904) (by simp)
  clear hp
  unfold locks_VC
  rw [locksF_eq]
  refine ⟨UpInv.start, fun y hy => ?_⟩
  rcases UpInv.round hls hy with ⟨k, rfl, hk, hb, -, hF, hT⟩ | ⟨rfl, hT⟩
  · rw [bif_true (by simp [pLt_coe, pLen, hk]), pNat_coe]
    rw [lockOkAt_eq] at hT hF
    have inner : ∀ (X : Prop), (allUpto (fun j => !clash ls j k) k = true → X) → ∀ z, locksBInv is ls ds os (k : Int) z → bif pLt z.1 (pInt (pLen (pSub ls 0 k))) then pIn z.1 (pLen (pSub ls 0 k)) ∧
        bif pEq (pGet tyLock (pSub ls 0 k) (pNat z.1)).2.2.1 (pGet tyLock ls k).2.2.1 then
          bif pAndB (pEq (pGet tyLock (pSub ls 0 k) (pNat z.1)).1 (pGet tyLock ls k).1) (pEq (pGet tyLock (pSub ls 0 k) (pNat z.1)).2.1 (pGet tyLock ls k).2.1) then (false, ()) = (allUpto (lockOkAt ls ds) ls.length && pLe (pInt ls.length) 24, ())
          else bif (pGet tyLock (pSub ls 0 k) (pNat z.1)).2.2.2.1 then (false, ()) = (allUpto (lockOkAt ls ds) ls.length && pLe (pInt ls.length) 24, ())
          else bif (pGet tyLock ls k).2.2.2.1 then (false, ()) = (allUpto (lockOkAt ls ds) ls.length && pLe (pInt ls.length) 24, ())
          else locksBInv is ls ds os (k : Int) (pAdd .i64 z.1 1, ()) ∧ Nat.le (Nat.succ (locksBMu is ls ds os (k : Int) (pAdd .i64 z.1 1, ()))) (locksBMu is ls ds os (k : Int) z)
        else locksBInv is ls ds os (k : Int) (pAdd .i64 z.1 1, ()) ∧ Nat.le (Nat.succ (locksBMu is ls ds os (k : Int) (pAdd .i64 z.1 1, ()))) (locksBMu is ls ds os (k : Int) z)
      else X := by
      intro X hX z hz
      rcases UpInv.round (p := fun j => !clash ls j k) (n := k) hb hz with ⟨i, rfl, hi, hib, -, hiF, hiT⟩ | ⟨rfl, hiT⟩
      · rw [pLen, pSub0_len (by omega), bif_true (show pLt (i : Int) (pInt k) = true from by simp [pLt_coe, hi])]
        refine ⟨pIn_coe.2 hi, ?_⟩
        rw [pNat_coe, pGet_sub0 hi]
        clear hz hX hT
        simp only [clash_eq] at hiF hiT
        refine bif_ok (fun h1 => bif_ok (fun h2 => leafF fun q => ?_) fun h2 => bif_ok (fun h3 => leafF fun q => ?_) fun h3 => bif_ok (fun h4 => leafF fun q => ?_) fun h4 => hiT ?_) fun h1 => hiT ?_
        · have hs := hiF (by rw [h1, h2]; rfl); clear hiF hiT; simp only [clash_eq] at hF; grind [pLt, pLe, pGt, pGe, pEq, pNe, pNot, pAndB, pBeq, pInt, pLen, inF, pIn, pTo, pNat]
        · have hs := hiF (by rw [h1, h2, h3]; rfl); clear hiF hiT; simp only [clash_eq] at hF; grind [pLt, pLe, pGt, pGe, pEq, pNe, pNot, pAndB, pBeq, pInt, pLen, inF, pIn, pTo, pNat]
        · have hs := hiF (by rw [h1, h2, h3, h4]; rfl); clear hiF hiT; simp only [clash_eq] at hF; grind [pLt, pLe, pGt, pGe, pEq, pNe, pNot, pAndB, pBeq, pInt, pLen, inF, pIn, pTo, pNat]
        · rw [h1, h2, h3, h4]; rfl
        · rw [h1]; rfl
      · rw [pLen, pSub0_len (by omega), bif_false (show pLt (k : Int) (pInt k) = false from by simp [pLt_coe])]
        exact hX hiT
    have eA := add_small (pGet tyLock ls k).2.2.2.2.1 (pGet tyLock ls k).2.2.2.2.2.1
    clear hy
    dsimp only
    (repeat' (first | refine bif_ok (fun h => ?_) (fun h => ?_) | refine And.intro ?_ ?_ | fail))
    all_goals first
      | exact hl
      | exact hls
      | exact his
      | exact hds
      | omega
      | (unfold pLen; omega)
      | exact UpInv.start
      | (refine leafF fun q => ?_; clear hT inner; grind [pLt, pLe, pGt, pGe, pEq, pNe, pNot, pAndB, pBeq, pInt, pLen, inF, pIn, pTo, pNat])
      | (refine inner _ fun ha => hT ?_; clear hT hF inner; grind [pLt, pLe, pGt, pGe, pEq, pNe, pNot, pAndB, pBeq, pInt, pLen, inF, pIn, pTo, pNat])
  · rw [bif_false (by simp [pLt_coe, pLen]), hT]
    rfl

theorem Check_ok : Meets Tryd.prog (fun _ => none) 47 cCheck := Check_meets items_ok doubts_ok locks_ok fun is ls ds os hp => by
  have his : is.length < 4611686018427387904 := hp (pLen is < 4611686018427387904) (by simp)
  have hls : ls.length < 4611686018427387904 := hp (pLen ls < 4611686018427387904) (by simp)
  have hds : ds.length < 4611686018427387904 := hp (pLen ds < 4611686018427387904) (by simp)
  have hl : os.length < 4611686018427387904 := hp (pLen os < 4611686018427387904) (by simp)
  clear hp
  unfold Check_VC
  rw [stoF_eq]
  (repeat' (first | refine bif_ok (fun h => ?_) (fun h => ?_) | refine And.intro ?_ ?_ | fail))
  all_goals first
    | exact hl
    | exact hls
    | exact his
    | exact hds
    | (refine leafE ?_; grind [pLt, pLe, pGt, pGe, pEq, pNe, pNot, pAndB, pBeq, pInt, pLen, inF, pIn, pTo, pNat])


end Go.Proofs.YtkhnakdmkhidbaaDoor

/- The document's store that may be: its function meets the contract. No condition. -/
namespace Go.Proofs.YtkhnakdmkhidbaaDoor
open Go.RowKit

theorem StoreMay_ok : Meets Tryd.prog (fun _ => none) 66 cStoreMay := StoreMay_meets In_ok doubtOf_ok plainTxn_ok isOver_ok fun is ls ds os hp => by
  have his : is.length < 4611686018427387904 := hp (pLen is < 4611686018427387904) (by simp)
  have hls : ls.length < 4611686018427387904 := hp (pLen ls < 4611686018427387904) (by simp)
  have hds : ds.length < 4611686018427387904 := hp (pLen ds < 4611686018427387904) (by simp)
  have hl : os.length < 4611686018427387904 := hp (pLen os < 4611686018427387904) (by simp)
  clear hp
  have hS : stoF (is, ls, ds, os, ()) = (allUpto (itemOk is) is.length && (allUpto (doubtOkAt ls ds os) ds.length && allUpto (overOkAt os) os.length) && (allUpto (lockOkAt ls ds) ls.length && pLe (pInt ls.length) 24)) := rfl
  unfold StoreMay_VC
  refine bif_ok (fun h => leafF fun q => ?_) fun h24 => ?_
  · rw [hS] at q; grind [pLt, pLe, pGt, pGe, pEq, pNe, pNot, pAndB, pBeq, pInt, pLen, inF, pIn, pTo, pNat]
  refine ⟨UpInv.start, fun y hy => ?_⟩
  rcases UpInv.round his hy with ⟨k, rfl, hk, hb, -, hF, hT⟩ | ⟨rfl, hA⟩
  · rw [bif_true (by simp [pLt_coe, pLen, hk]), pNat_coe]
    have e1 : 0 < k → pSubI .i64 (k : Int) 1 = ((k - 1 : Nat) : Int) := pSub1 hb
    rw [itemOk_eq] at hT hF
    clear hy
    dsimp only
    rcases Nat.eq_zero_or_pos k with h0 | h0
    rotate_left
    · rw [e1 h0, pNat_coe]
      clear e1
      (repeat' (first | refine bif_ok (fun h => ?_) (fun h => ?_) | refine And.intro ?_ ?_ | fail))
      all_goals first
        | omega
        | (unfold pLen; omega)
        | (refine leafF fun q => ?_; rw [hS] at q; clear hT; grind [pLt, pLe, pGt, pGe, pEq, pNe, pNot, pAndB, pBeq, pInt, pLen, inF, pIn, pTo, pNat])
        | (refine (hT ?_).1; clear hT hF; grind [pLt, pLe, pGt, pGe, pEq, pNe, pNot, pAndB, pBeq, pInt, pLen, inF, pIn, pTo, pNat])
        | (refine (hT ?_).2; clear hT hF; grind [pLt, pLe, pGt, pGe, pEq, pNe, pNot, pAndB, pBeq, pInt, pLen, inF, pIn, pTo, pNat])
    · rw [bif_false (show pGt (k : Int) 0 = false by subst h0; rfl)]
      clear e1
      (repeat' (first | refine bif_ok (fun h => ?_) (fun h => ?_) | refine And.intro ?_ ?_ | fail))
      all_goals first
        | omega
        | (unfold pLen; omega)
        | (refine leafF fun q => ?_; rw [hS] at q; clear hT; grind [pLt, pLe, pGt, pGe, pEq, pNe, pNot, pAndB, pBeq, pInt, pLen, inF, pIn, pTo, pNat])
        | (refine (hT ?_).1; clear hT hF; grind [pLt, pLe, pGt, pGe, pEq, pNe, pNot, pAndB, pBeq, pInt, pLen, inF, pIn, pTo, pNat])
        | (refine (hT ?_).2; clear hT hF; grind [pLt, pLe, pGt, pGe, pEq, pNe, pNot, pAndB, pBeq, pInt, pLen, inF, pIn, pTo, pNat])
  rw [bif_false (by simp [pLt_coe, pLen])]
  clear hy
  refine ⟨UpInv.start, fun y hy => ?_⟩
  rcases UpInv.round hls hy with ⟨k, rfl, hk, hb, -, hF, hT⟩ | ⟨rfl, hB⟩
  · rw [bif_true (by simp [pLt_coe, pLen, hk]), pNat_coe]
    rw [lockOkAt_eq] at hT hF
    have inner : ∀ (X : Prop), (allUpto (fun j => !clash ls j k) k = true → X) → ∀ z, mayCInv is ls ds os (k : Int) z → bif pLt z.1 (k : Int) then pIn z.1 (pLen ls) ∧
        bif pEq (pGet tyLock ls k).2.2.1 (pGet tyLock ls (pNat z.1)).2.2.1 then
          bif pAndB (pEq (pGet tyLock ls k).1 (pGet tyLock ls (pNat z.1)).1) (pEq (pGet tyLock ls k).2.1 (pGet tyLock ls (pNat z.1)).2.1) then (false, ()) = (stoF (is, ls, ds, os, ()), ())
          else bif (pGet tyLock ls k).2.2.2.1 then (false, ()) = (stoF (is, ls, ds, os, ()), ())
          else bif (pGet tyLock ls (pNat z.1)).2.2.2.1 then (false, ()) = (stoF (is, ls, ds, os, ()), ())
          else mayCInv is ls ds os (k : Int) (pAdd .i64 z.1 1, ()) ∧ Nat.le (Nat.succ (mayCMu is ls ds os (k : Int) (pAdd .i64 z.1 1, ()))) (mayCMu is ls ds os (k : Int) z)
        else mayCInv is ls ds os (k : Int) (pAdd .i64 z.1 1, ()) ∧ Nat.le (Nat.succ (mayCMu is ls ds os (k : Int) (pAdd .i64 z.1 1, ()))) (mayCMu is ls ds os (k : Int) z)
      else X := by
      intro X hX z hz
      rcases UpInv.round (p := fun j => !clash ls j k) (n := k) hb hz with ⟨i, rfl, hi, hib, -, hiF, hiT⟩ | ⟨rfl, hiT⟩
      · rw [bif_true (show pLt (i : Int) (k : Int) = true from by simp [pLt, hi])]
        refine ⟨pIn_coe.2 (by unfold pLen; omega), ?_⟩
        rw [pNat_coe]
        clear hz hX hT
        simp only [clash_eq] at hiF hiT
        refine bif_ok (fun h1 => bif_ok (fun h2 => leafF fun q => ?_) fun h2 => bif_ok (fun h3 => leafF fun q => ?_) fun h3 => bif_ok (fun h4 => leafF fun q => ?_) fun h4 => hiT ?_) fun h1 => hiT ?_
        · have hs := hiF (by clear hF hiT hS; grind [pLt, pLe, pGt, pGe, pEq, pNe, pNot, pAndB, pBeq, pInt, pLen, inF, pIn, pTo, pNat]); clear hiF hiT; simp only [clash_eq] at hF; rw [hS] at q; grind [pLt, pLe, pGt, pGe, pEq, pNe, pNot, pAndB, pBeq, pInt, pLen, inF, pIn, pTo, pNat]
        · have hs := hiF (by clear hF hiT hS; grind [pLt, pLe, pGt, pGe, pEq, pNe, pNot, pAndB, pBeq, pInt, pLen, inF, pIn, pTo, pNat]); clear hiF hiT; simp only [clash_eq] at hF; rw [hS] at q; grind [pLt, pLe, pGt, pGe, pEq, pNe, pNot, pAndB, pBeq, pInt, pLen, inF, pIn, pTo, pNat]
        · have hs := hiF (by clear hF hiT hS; grind [pLt, pLe, pGt, pGe, pEq, pNe, pNot, pAndB, pBeq, pInt, pLen, inF, pIn, pTo, pNat]); clear hiF hiT; simp only [clash_eq] at hF; rw [hS] at q; grind [pLt, pLe, pGt, pGe, pEq, pNe, pNot, pAndB, pBeq, pInt, pLen, inF, pIn, pTo, pNat]
        · clear hiF hiT hF hS; grind [pLt, pLe, pGt, pGe, pEq, pNe, pNot, pAndB, pBeq, pInt, pLen, inF, pIn, pTo, pNat]
        · clear hiF hiT hF hS; grind [pLt, pLe, pGt, pGe, pEq, pNe, pNot, pAndB, pBeq, pInt, pLen, inF, pIn, pTo, pNat]
      · rw [bif_false (show pLt (k : Int) (k : Int) = false from by simp [pLt])]
        exact hX hiT
    clear hy
    dsimp only
    (repeat' (first | refine bif_ok (fun h => ?_) (fun h => ?_) | refine And.intro ?_ ?_ | fail))
    all_goals first
      | exact hl
      | exact hls
      | exact his
      | exact hds
      | omega
      | (unfold pLen; omega)
      | exact UpInv.start
      | (refine leafF fun q => ?_; rw [hS] at q; clear hT inner; grind [pLt, pLe, pGt, pGe, pEq, pNe, pNot, pAndB, pBeq, pInt, pLen, inF, pIn, pTo, pNat])
      | (refine inner _ fun ha => hT ?_; clear hT hF inner hS; grind [pLt, pLe, pGt, pGe, pEq, pNe, pNot, pAndB, pBeq, pInt, pLen, inF, pIn, pTo, pNat])
  rw [bif_false (by simp [pLt_coe, pLen])]
  clear hy
  refine ⟨UpInv.start, fun y hy => ?_⟩
  rcases UpInv.round hds hy with ⟨k, rfl, hk, hb, -, hF, hT⟩ | ⟨rfl, hD⟩
  · rw [bif_true (by simp [pLt_coe, pLen, hk]), pNat_coe]
    rw [doubtOkAt_eq] at hT hF
    clear hy
    refine ⟨pIn_coe.2 hk, ⟨0, rfl, Nat.zero_le _, rfl⟩, fun z hz => ?_⟩
    rcases HandInv.round (p := handAt ls ds k) (n := ls.length) hls hz with ⟨i, rfl, hi, hN⟩ | rfl
    · rw [bif_true (by simp [pLt_coe, pLen, hi])]
      refine bif_ok (fun h => ?_) fun h => ⟨pIn_coe.2 hi, ?_⟩
      · exact hN true (by have h' : anyUpto (handAt ls ds k) i = true := h; rw [h']; rfl)
      · refine hN _ ?_
        have h' : anyUpto (handAt ls ds k) i = false := h
        rw [h', pNat_coe]; rfl
    · rw [bif_false (by simp [pLt_coe, pLen])]
      have eh : anyUpto (handAt ls ds k) ls.length = pGe (idxLockF ls ((pGet tyDoubt ds k).1, (pGet tyDoubt ds k).2.1, ())) 0 := idxOf_ge.symm
      dsimp only
      rw [eh, show pNe (idxDoubtF ds ((pGet tyItem ds k).1, (pGet tyItem ds k).2.1, ())) (k : Int) = !allUpto (fun j => !sameD ds j k) k from doubt_first hk]
      clear hz eh
      (repeat' (first | refine bif_ok (fun h => ?_) (fun h => ?_) | refine And.intro ?_ ?_ | fail))
      all_goals first
        | exact hl
        | exact hls
        | exact his
        | exact hds
        | (refine leafF fun q => ?_; rw [hS] at q; clear hT; grind [pLt, pLe, pGt, pGe, pEq, pNe, pNot, pAndB, pBeq, pInt, pLen, inF, pIn, pTo, pNat])
        | (refine (hT ?_).1; clear hT hF hS; grind [pLt, pLe, pGt, pGe, pEq, pNe, pNot, pAndB, pBeq, pInt, pLen, inF, pIn, pTo, pNat])
        | (refine (hT ?_).2; clear hT hF hS; grind [pLt, pLe, pGt, pGe, pEq, pNe, pNot, pAndB, pBeq, pInt, pLen, inF, pIn, pTo, pNat])
  rw [bif_false (by simp [pLt_coe, pLen])]
  clear hy
  refine ⟨UpInv.start, fun y hy => ?_⟩
  rcases UpInv.round hl hy with ⟨k, rfl, hk, hb, -, hF, hT⟩ | ⟨rfl, hO⟩
  · rw [bif_true (by simp [pLt_coe, pLen, hk]), pNat_coe]
    rw [overOkAt_eq] at hT hF
    clear hy
    refine ⟨UpInv.start, fun z hz => ?_⟩
    rcases UpInv.round (p := fun j => !sameT os j k) (n := k) hb hz with ⟨i, rfl, hi, hib, -, hiF, hiT⟩ | ⟨rfl, hiT⟩
    · rw [bif_true (show pLt (i : Int) (k : Int) = true from by simp [pLt, hi])]
      refine ⟨pIn_coe.2 (by unfold pLen; omega), pIn_coe.2 hk, ?_⟩
      rw [pNat_coe]
      refine bif_ok (fun h => ?_) fun h => hiT (by simp only [Bool.not_eq_true']; exact h)
      have hs : allUpto (fun j => !sameT os j k) k = false := hiF (by simp only [Bool.not_eq_false']; exact h)
      clear hz hiF hiT hT
      refine leafF fun q => ?_
      rw [hS] at q
      grind [pLt, pLe, pGt, pGe, pEq, pNe, pNot, pAndB, pBeq, pInt, pLen, inF, pIn, pTo, pNat]
    · rw [bif_false (show pLt (k : Int) (k : Int) = false from by simp [pLt])]
      clear hz
      refine ⟨pIn_coe.2 hk, bif_ok (fun h => leafF fun q => ?_) fun h => hT ?_⟩
      · rw [hS] at q; clear hT; grind [pLt, pLe, pGt, pGe, pEq, pNe, pNot, pAndB, pBeq, pInt, pLen, inF, pIn, pTo, pNat]
      · clear hT hF hS; grind [pLt, pLe, pGt, pGe, pEq, pNe, pNot, pAndB, pBeq, pInt, pLen, inF, pIn, pTo, pNat]
  rw [bif_false (by simp [pLt_coe, pLen])]
  refine leafT fun q => ?_
  rw [hS, hA, hB, hD, hO] at q
  clear hS hy
  grind [pLt, pLe, pGt, pGe, pEq, pNe, pNot, pAndB, pBeq, pInt, pLen, inF, pIn, pTo, pNat]


end Go.Proofs.YtkhnakdmkhidbaaDoor

/- Copies of the store, and its doubts by a tick older: functions meet their contracts. No condition. -/
namespace Go.Proofs.YtkhnakdmkhidbaaDoor
open Go.RowKit

theorem mu_step {n k : Nat} (h : k < n) (hb : k < 4611686018427387904) : Nat.le (Nat.succ (n - (pAdd .i64 (k : Int) 1).toNat)) (n - ((k : Nat) : Int).toNat) := by
  rw [pAdd1 hb, Int.toNat_natCast, Int.toNat_natCast]; exact Nat.le_of_eq (by omega)
theorem room_take {α : Type} {l : List α} {k b : Nat} {x : α} (hk : k < l.length) (h : pRoom (pLen l) b) : pRoom (pPlus (pLen (l.take k)) (pLen [x])) b := by
  unfold pRoom pPlus pLen at *
  simp only [List.length_take, List.length_cons, List.length_nil]
  rw [Nat.min_eq_left (by omega)]
  exact Nat.le_trans (Nat.mul_le_mul_right b (by omega)) h
theorem StoreCopy_ok : Meets Tryd.prog (fun _ => none) 26 cStoreCopy := StoreCopy_meets fun is ls ds os hp => by
  have h1 : pRoom (pLen is) 24 := hp _ (by simp)
  have h2 : pRoom (pLen ls) 48 := hp (pRoom (pLen ls) 48) (by simp)
  have h3 : pRoom (pLen ds) 24 := hp (pRoom (pLen ds) 24) (by simp)
  have h4 : pRoom (pLen os) 16 := hp (pRoom (pLen os) 16) (by simp)
  have b1 : is.length * 24 ≤ 140737488351232 := h1
  have b2 : ls.length * 48 ≤ 140737488351232 := h2
  have b3 : ds.length * 24 ≤ 140737488351232 := h3
  have b4 : os.length * 16 ≤ 140737488351232 := h4
  clear hp
  unfold StoreCopy_VC
  refine ⟨⟨0, rfl, Nat.zero_le _⟩, fun y hy => ?_⟩
  obtain ⟨k, rfl, hk⟩ := hy
  by_cases hkn : k < is.length
  · rw [bif_true (by simp [pLt_coe, pLen, hkn])]
    dsimp only
    rw [pNat_coe]
    refine ⟨pIn_coe.2 hkn, room_take hkn h1, ⟨k + 1, ?_, hkn⟩, mu_step hkn (by omega)⟩
    rw [pAdd1 (by omega), show pApp (is.take k) [((pGet tyItem is k).1, (pGet tyItem is k).2.1, (pGet tyItem is k).2.2.1, ())] = is.take (k + 1) from take_app (t := tyItem) hkn]
  obtain rfl : k = is.length := by omega
  rw [bif_false (by simp [pLt_coe, pLen])]
  dsimp only
  rw [List.take_length]
  refine ⟨⟨0, rfl, Nat.zero_le _⟩, fun y hy => ?_⟩
  obtain ⟨k, rfl, hk⟩ := hy
  by_cases hkn : k < ls.length
  · rw [bif_true (by simp [pLt_coe, pLen, hkn])]
    dsimp only
    rw [pNat_coe]
    refine ⟨pIn_coe.2 hkn, room_take hkn h2, ⟨k + 1, ?_, hkn⟩, mu_step hkn (by omega)⟩
    rw [pAdd1 (by omega), show pApp (ls.take k) [((pGet tyLock ls k).1, (pGet tyLock ls k).2.1, (pGet tyLock ls k).2.2.1, (pGet tyLock ls k).2.2.2.1, (pGet tyLock ls k).2.2.2.2.1, (pGet tyLock ls k).2.2.2.2.2.1, ())] = ls.take (k + 1) from take_app (t := tyLock) hkn]
  obtain rfl : k = ls.length := by omega
  rw [bif_false (by simp [pLt_coe, pLen])]
  dsimp only
  rw [List.take_length]
  refine ⟨⟨0, rfl, Nat.zero_le _⟩, fun y hy => ?_⟩
  obtain ⟨k, rfl, hk⟩ := hy
  by_cases hkn : k < ds.length
  · rw [bif_true (by simp [pLt_coe, pLen, hkn])]
    dsimp only
    rw [pNat_coe]
    refine ⟨pIn_coe.2 hkn, room_take hkn h3, ⟨k + 1, ?_, hkn⟩, mu_step hkn (by omega)⟩
    rw [pAdd1 (by omega), show pApp (ds.take k) [((pGet tyItem ds k).1, (pGet tyItem ds k).2.1, (pGet tyItem ds k).2.2.1, ())] = ds.take (k + 1) from take_app (t := tyDoubt) hkn]
  obtain rfl : k = ds.length := by omega
  rw [bif_false (by simp [pLt_coe, pLen])]
  dsimp only
  rw [List.take_length]
  refine ⟨⟨0, rfl, Nat.zero_le _⟩, fun y hy => ?_⟩
  obtain ⟨k, rfl, hk⟩ := hy
  by_cases hkn : k < os.length
  · rw [bif_true (by simp [pLt_coe, pLen, hkn])]
    dsimp only
    rw [pNat_coe]
    refine ⟨pIn_coe.2 hkn, room_take hkn h4, ⟨k + 1, ?_, hkn⟩, mu_step hkn (by omega)⟩
    rw [pAdd1 (by omega), show pApp (os.take k) [((pGet tyTxn os k).1, (pGet tyTxn os k).2.1, ())] = os.take (k + 1) from take_app (t := tyTxn) hkn]
  obtain rfl : k = os.length := by omega
  rw [bif_false (by simp [pLt_coe, pLen])]
  dsimp only
  rw [List.take_length]

/- rows that are changed in place -/
theorem pSet_len {t : Ty} {l : List t.den} {k : Nat} {x : t.den} : (pSet l k x).length = l.length := by unfold pSet; simp
theorem pGet_set {t : Ty} {l : List t.den} {k : Nat} {x : t.den} (h : k < l.length) : pGet t (pSet l k x) k = x := by
  unfold pGet pSet; rw [List.getD_eq_getElem?_getD, List.getElem?_set_self h]; rfl
theorem pSet_set {α : Type} {l : List α} {k : Nat} {x y : α} : pSet (pSet l k x) k y = pSet l k y := by unfold pSet; simp
end Go.Proofs.YtkhnakdmkhidbaaDoor

/- What every law of the store needs: it is the same as itself; bounds of the argument. No condition. -/
namespace Go.Proofs.YtkhnakdmkhidbaaDoor
open Go.RowKit

theorem sameTxns_refl (l : List TxnD) : sameTxnsF l l = true := by
  unfold sameTxnsF
  rw [allUpto_true fun j _ => by simp [eqTxnAt, eqTxn, pEq]]
  simp
theorem sameSto_refl (s : StoD) : sameStoF s s = true := by
  unfold sameStoF
  rw [sameTxns_refl, allUpto_true fun j _ => by simp [eqItemAt, pEq], allUpto_true fun j _ => by simp [eqLockAt, pEq, pBeq], allUpto_true fun j _ => by simp [eqItemAt, pEq]]
  simp

/-- what is known of a store that was handed in -/
structure StoIn (is : List ItemD) (ls : List LockD) (ds : List DoubtD) (os : List TxnD) : Prop where
  r1 : pRoom (pLen is) 24
  r2 : pRoom (pLen ls) 48
  r3 : pRoom (pLen ds) 24
  r4 : pRoom (pLen os) 16
  l1 : is.length < 4611686018427387904
  l2 : ls.length < 4611686018427387904
  l3 : ds.length < 4611686018427387904
  l4 : os.length < 4611686018427387904
/-- whoever is in doubt has a lock, and is there once -/
theorem doubts_few {is : List ItemD} {ls : List LockD} {ds : List DoubtD} {os : List TxnD} (h : stoF (is, ls, ds, os, ()) = true) : ds.length ≤ ls.length ∧ ls.length ≤ 24 ∧ itemsF is = true := by
  rw [stoF_eq, doubtsF_eq, locksF_eq] at h
  simp only [Bool.and_eq_true] at h
  obtain ⟨⟨hi, hd, _⟩, _, hl⟩ := h
  have hn : ((List.range ds.length).map fun i => ((pGet tyDoubt ds i).1, (pGet tyDoubt ds i).2.1)).Nodup := by
    unfold List.Nodup
    rw [List.pairwise_map]
    refine List.pairwise_lt_range.imp_of_mem fun {a b} ha hb hab => ?_
    have h1 := allUpto_iff.1 hd b (by simpa using hb)
    rw [doubtOkAt_eq] at h1
    simp only [Bool.and_eq_true] at h1
    have h2 := allUpto_iff.1 h1.2 a hab
    intro e
    simp only [Prod.mk.injEq] at e
    simp only [sameD, pAndB, pEq, e.1, e.2, beq_self_eq_true, Bool.and_self, Bool.not_true, Bool.false_eq_true] at h2
  have hs : ((List.range ds.length).map fun i => ((pGet tyDoubt ds i).1, (pGet tyDoubt ds i).2.1)) ⊆ ((List.range ls.length).map fun i => ((pGet tyLock ls i).1, (pGet tyLock ls i).2.1)) := by
    intro x hx
    obtain ⟨i, hi, rfl⟩ := List.mem_map.1 hx
    have h1 := allUpto_iff.1 hd i (by simpa using hi)
    rw [doubtOkAt_eq] at h1
    simp only [Bool.and_eq_true] at h1
    have h2 := h1.1.2
    unfold idxLockF at h2
    rw [idxOf_ge] at h2
    obtain ⟨j, hj, h3⟩ := anyUpto_iff.1 h2
    simp only [lockIsF, pEq, Bool.and_eq_true, beq_iff_eq] at h3
    exact List.mem_map.2 ⟨j, by simpa using hj, by simp only [h3.1, h3.2]⟩
  refine ⟨by simpa using hn.length_le_of_subset hs, ?_, hi⟩
  have hl' : (ls.length : Int) ≤ 24 := of_decide_eq_true hl
  omega

theorem room_more {α : Type} {l : List α} {n b : Nat} {x : α} (h : l.length < n) (hb : n * b ≤ 140737488351232) : pRoom (pPlus (pLen l) (pLen [x])) b := by
  unfold pRoom pPlus pLen
  exact Nat.le_trans (Nat.mul_le_mul_right b (show l.length + 1 ≤ n by omega)) hb
end Go.Proofs.YtkhnakdmkhidbaaDoor

/- Functions of the program that meet contracts: a short word for it. -/
namespace Go.Proofs.YtkhnakdmkhidbaaDoor

abbrev Mt (f : FuncId) (c : Ctr) : Prop := Meets Tryd.prog (fun _ => none) f c
abbrev MtG (g : Nat → Option Gl) (f : FuncId) (c : Ctr) : Prop := Meets Tryd.prog g f c


end Go.Proofs.YtkhnakdmkhidbaaDoor

/- Contracts, and what the evaluator says, as plain propositions: PbV. Printed by vc.py. -/
namespace Go.Proofs.YtkhnakdmkhidbaaDoor
open Go.RowKit Go.ChangeShapes Go.WideShapes Go.Deep

abbrev sameNotes_S : Shape := ⟨[.one (.rd (.sl tyNote)), .one (.rd (.sl tyNote))], []⟩
abbrev sameNotes_f : Shape.den sameNotes_S → denVars [.slot 0 false .bool] := fun x => (sameNotesF x.1.1 x.1.2.1, ())
abbrev sameNotes_p : Shape.den sameNotes_S → List Prop := fun x => [pLen x.1.1 < 4611686018427387904]
def csameNotes : Ctr := shCtr sameNotes_S sameNotes_p [] [.slot 0 false .bool] sameNotes_f
abbrev sameInts_S : Shape := ⟨[.one (.rd (.sl tyN)), .one (.rd (.sl tyN))], []⟩
abbrev sameInts_f : Shape.den sameInts_S → denVars [.slot 0 false .bool] := fun x => (sameIntsF x.1.1 x.1.2.1, ())
abbrev sameInts_p : Shape.den sameInts_S → List Prop := fun x => [pLen x.1.1 < 4611686018427387904]
def csameInts : Ctr := shCtr sameInts_S sameInts_p [] [.slot 0 false .bool] sameInts_f
abbrev eqsPbV : List TypeId := [28, 103, 105, 107, 65, 31, 57]

def sameNotes_VC (l : (List NoteD)) (m : (List NoteD)) : Prop :=
  bif pNe (pInt (pLen l)) (pInt (pLen m)) then (Bool.false, ()) = (sameNotesF l m, ()) else sameNotesInv l m ((0 : Int), ()) ∧ ∀ (y : kden Bool.false tI × PUnit), sameNotesInv l m y → bif pLt y.1 (pInt (pLen l)) then pIn y.1 (pLen l) ∧ pIn
 y.1 (pLen m) ∧ bif pNot (pAndB (pEq (pGet tyNote l (pNat y.1)).1 (pGet tyNote m (pNat y.1)).1) (pAndB (pEq (pGet tyNote l (pNat y.1)).2.1 (pGet tyNote m (pNat y.1)).2.1) (pAndB (pBeq (pGet tyNote l (pNat y.1)).2.2.1 (pGet tyNote m (pNat
 y.1)).2.2.1) (pBeq (pGet tyNote l (pNat y.1)).2.2.2.1 (pGet tyNote m (pNat y.1)).2.2.2.1)))) then (Bool.false, ()) = (sameNotesF l m, ()) else sameNotesInv l m (pAdd IntKind.i64 y.1 (1 : Int), ()) ∧ Nat.le (Nat.succ (sameNotesMu l m (pAdd
 IntKind.i64 y.1 (1 : Int), ()))) (sameNotesMu l m y) else (Bool.true, ()) = (sameNotesF l m, ())
set_option maxRecDepth 100000 in
theorem sameNotes_meets  (h : ∀ (l : (List NoteD)) (m : (List NoteD)), (∀ p ∈ sameNotes_p ⟨(l, m, ()), ()⟩, p) → sameNotes_VC l m) : Mt 9 csameNotes :=
  meets_vc (E := envOf Tryd.prog [] eqsPbV) (envOf_ok (fun p hp => by cases hp) (by kernel_rfl)) sameNotes_S (fun x => fun ky9 st9 => look [(4, (⟨[.slot 5 false tI], sameNotesInv x.1.1 x.1.2.1, sameNotesMu x.1.1 x.1.2.1⟩ : Ann))] ky9) Tryd.func9 (by kernel_rfl) (by kernel_rfl) sameNotes_p [] [.slot 0 false .bool] sameNotes_f (fun x => sameNotes_VC x.1.1 x.1.2.1) (fun x => by kernel_rfl) (fun x hp => h x.1.1 x.1.2.1 hp)

def sameInts_VC (l : (List ND)) (m : (List ND)) : Prop :=
  bif pNe (pInt (pLen l)) (pInt (pLen m)) then (Bool.false, ()) = (sameIntsF l m, ()) else sameIntsInv l m ((0 : Int), ()) ∧ ∀ (y : kden Bool.false tI × PUnit), sameIntsInv l m y → bif pLt y.1 (pInt (pLen l)) then pIn y.1 (pLen l) ∧ pIn y.1
 (pLen m) ∧ bif pNe (pGet tyN l (pNat y.1)).1 (pGet tyN m (pNat y.1)).1 then (Bool.false, ()) = (sameIntsF l m, ()) else sameIntsInv l m (pAdd IntKind.i64 y.1 (1 : Int), ()) ∧ Nat.le (Nat.succ (sameIntsMu l m (pAdd IntKind.i64 y.1 (1 : Int),
 ()))) (sameIntsMu l m y) else (Bool.true, ()) = (sameIntsF l m, ())
set_option maxRecDepth 100000 in
theorem sameInts_meets  (h : ∀ (l : (List ND)) (m : (List ND)), (∀ p ∈ sameInts_p ⟨(l, m, ()), ()⟩, p) → sameInts_VC l m) : Mt 46 csameInts :=
  meets_vc (E := envOf Tryd.prog [] eqsPbV) (envOf_ok (fun p hp => by cases hp) (by kernel_rfl)) sameInts_S (fun x => fun ky9 st9 => look [(4, (⟨[.slot 5 false tI], sameIntsInv x.1.1 x.1.2.1, sameIntsMu x.1.1 x.1.2.1⟩ : Ann))] ky9) Tryd.func46 (by kernel_rfl) (by kernel_rfl) sameInts_p [] [.slot 0 false .bool] sameInts_f (fun x => sameInts_VC x.1.1 x.1.2.1) (fun x => by kernel_rfl) (fun x hp => h x.1.1 x.1.2.1 hp)

end Go.Proofs.YtkhnakdmkhidbaaDoor

/- Contracts, and what the evaluator says, as plain propositions: PcV. Printed by vc.py. -/
namespace Go.Proofs.YtkhnakdmkhidbaaDoor
open Go.RowKit Go.ChangeShapes Go.WideShapes Go.Deep

abbrev wtxn_S : Shape := ⟨[pCfg, pTxn], []⟩
abbrev wtxn_f : Shape.den wtxn_S → denVars [.slot 0 false .bool] := fun x => (wtxF x.1.1 x.1.2.1.1 x.1.2.1.2.1, ())
abbrev wtxn_p : Shape.den wtxn_S → List Prop := fun _ => []
def cwtxn : Ctr := shCtr wtxn_S wtxn_p [] [.slot 0 false .bool] wtxn_f
abbrev wkey_S : Shape := ⟨[.one (.rd tI)], []⟩
abbrev wkey_f : Shape.den wkey_S → denVars [.slot 0 false .bool] := fun x => (inF x.1.1 0 7, ())
abbrev wkey_p : Shape.den wkey_S → List Prop := fun _ => []
def cwkey : Ctr := shCtr wkey_S wkey_p [] [.slot 0 false .bool] wkey_f
abbrev wvalue_f : Shape.den wkey_S → denVars [.slot 0 false .bool] := fun x => (inF x.1.1 0 1073741824, ())
def cwvalue : Ctr := shCtr wkey_S wkey_p [] [.slot 0 false .bool] wvalue_f
abbrev wask_f : Shape.den wkey_S → denVars [.slot 0 false .bool] := fun x => (inF x.1.1 0 1048576, ())
def cwask : Ctr := shCtr wkey_S wkey_p [] [.slot 0 false .bool] wask_f
abbrev txnMay_p : Shape.den wtxn_S → List Prop := fun x => [inF x.1.1.1 1 4 = true]
def ctxnMay : Ctr := shCtr wtxn_S txnMay_p [] [.slot 0 false .bool] wtxn_f
abbrev eqsNxV : List TypeId := [28, 103, 105, 107, 65, 31, 57]

def wtxn_VC (cn : Int) (cl : (List LabD)) (cp : Int) (ts : Int) (tn : Int) : Prop :=
  bif pGe ts (0 : Int) then bif pLt ts cn then bif pGe tn (1 : Int) then (pLe tn (1048576 : Int), ()) = (wtxF (cn, cl, cp, ()) ts tn, ()) else (Bool.false, ()) = (wtxF (cn, cl, cp, ()) ts tn, ()) else (Bool.false, ()) = (wtxF (cn, cl, cp, ())
 ts tn, ()) else (Bool.false, ()) = (wtxF (cn, cl, cp, ()) ts tn, ())
set_option maxRecDepth 100000 in
theorem wtxn_meets  (h : ∀ (cn : Int) (cl : (List LabD)) (cp : Int) (ts : Int) (tn : Int), wtxn_VC cn cl cp ts tn) : Mt 48 cwtxn :=
  meets_vc (E := envOf Tryd.prog [] eqsNxV) (envOf_ok (fun p hp => by cases hp) (by kernel_rfl)) wtxn_S (fun x => fun ky9 st9 => look [] ky9) Tryd.func48 (by kernel_rfl) (by kernel_rfl) wtxn_p [] [.slot 0 false .bool] wtxn_f (fun x => wtxn_VC x.1.1.1 x.1.1.2.1 x.1.1.2.2.1 x.1.2.1.1 x.1.2.1.2.1) (fun x => by kernel_rfl) (fun x _ => h x.1.1.1 x.1.1.2.1 x.1.1.2.2.1 x.1.2.1.1 x.1.2.1.2.1)

def wkey_VC (a : Int) : Prop :=
  bif pGe a (0 : Int) then (pLt a (8 : Int), ()) = (inF a (0 : Int) (7 : Int), ()) else (Bool.false, ()) = (inF a (0 : Int) (7 : Int), ())
set_option maxRecDepth 100000 in
theorem wkey_meets  (h : ∀ (a : Int), wkey_VC a) : Mt 49 cwkey :=
  meets_vc (E := envOf Tryd.prog [] eqsNxV) (envOf_ok (fun p hp => by cases hp) (by kernel_rfl)) wkey_S (fun x => fun ky9 st9 => look [] ky9) Tryd.func49 (by kernel_rfl) (by kernel_rfl) wkey_p [] [.slot 0 false .bool] wkey_f (fun x => wkey_VC x.1.1) (fun x => by kernel_rfl) (fun x _ => h x.1.1)

def wvalue_VC (a : Int) : Prop :=
  bif pGe a (0 : Int) then (pLe a (1073741824 : Int), ()) = (inF a (0 : Int) (1073741824 : Int), ()) else (Bool.false, ()) = (inF a (0 : Int) (1073741824 : Int), ())
set_option maxRecDepth 100000 in
theorem wvalue_meets  (h : ∀ (a : Int), wvalue_VC a) : Mt 50 cwvalue :=
  meets_vc (E := envOf Tryd.prog [] eqsNxV) (envOf_ok (fun p hp => by cases hp) (by kernel_rfl)) wkey_S (fun x => fun ky9 st9 => look [] ky9) Tryd.func50 (by kernel_rfl) (by kernel_rfl) wkey_p [] [.slot 0 false .bool] wvalue_f (fun x => wvalue_VC x.1.1) (fun x => by kernel_rfl) (fun x _ => h x.1.1)

def wask_VC (a : Int) : Prop :=
  bif pGe a (0 : Int) then (pLe a (1048576 : Int), ()) = (inF a (0 : Int) (1048576 : Int), ()) else (Bool.false, ()) = (inF a (0 : Int) (1048576 : Int), ())
set_option maxRecDepth 100000 in
theorem wask_meets  (h : ∀ (a : Int), wask_VC a) : Mt 51 cwask :=
  meets_vc (E := envOf Tryd.prog [] eqsNxV) (envOf_ok (fun p hp => by cases hp) (by kernel_rfl)) wkey_S (fun x => fun ky9 st9 => look [] ky9) Tryd.func51 (by kernel_rfl) (by kernel_rfl) wkey_p [] [.slot 0 false .bool] wask_f (fun x => wask_VC x.1.1) (fun x => by kernel_rfl) (fun x _ => h x.1.1)

def txnMay_VC (cn : Int) (cl : (List LabD)) (cp : Int) (ts : Int) (tn : Int) : Prop :=
  bif inF ts (0 : Int) (pSubI IntKind.i64 cn (1 : Int)) then (inF tn (1 : Int) (1048576 : Int), ()) = (wtxF (cn, cl, cp, ()) ts tn, ()) else (Bool.false, ()) = (wtxF (cn, cl, cp, ()) ts tn, ())
set_option maxRecDepth 100000 in
theorem txnMay_meets (hIn : Mt 39 cIn) (h : ∀ (cn : Int) (cl : (List LabD)) (cp : Int) (ts : Int) (tn : Int), (∀ p ∈ txnMay_p ⟨((cn, cl, cp, ()), (ts, tn, ()), ()), ()⟩, p) → txnMay_VC cn cl cp ts tn) : Mt 67 ctxnMay :=
  meets_vc (E := envOf Tryd.prog [(39, (false, cIn))] eqsNxV) (envOf_ok (fun p hp => (by simp only [List.mem_cons, List.not_mem_nil, or_false] at hp; rcases hp with rfl; exact hIn)) (by kernel_rfl)) wtxn_S (fun x => fun ky9 st9 => look [] ky9) Tryd.func67 (by kernel_rfl) (by kernel_rfl) txnMay_p [] [.slot 0 false .bool] wtxn_f (fun x => txnMay_VC x.1.1.1 x.1.1.2.1 x.1.1.2.2.1 x.1.2.1.1 x.1.2.1.2.1) (fun x => by kernel_rfl) (fun x hp => h x.1.1.1 x.1.1.2.1 x.1.1.2.2.1 x.1.2.1.1 x.1.2.1.2.1 hp)

end Go.Proofs.YtkhnakdmkhidbaaDoor
