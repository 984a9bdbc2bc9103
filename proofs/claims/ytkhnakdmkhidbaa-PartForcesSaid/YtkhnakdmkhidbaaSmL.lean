/- What every law of the store needs: it is the same as itself; bounds of the argument. No condition. -/
import Derived.Test.YtkhnakdmkhidbaaSmE
namespace Go.Proofs.Ytkhnakdmkhidbaa
open Go.RowKit

theorem sameTxns_refl (l : List TxnD) : sameTxnsF l l = true := by
  unfold sameTxnsF
  rw [allUpto_true fun j _ => by simp [eqTxnAt, eqTxn, pEq]]
  simp
theorem sameSto_refl (s : StoD) : sameStoF s s = true := by
  unfold sameStoF
  rw [sameTxns_refl, allUpto_true fun j _ => by simp [eqItemAt, pEq], allUpto_true fun j _ => by simp [eqLockAt, pEq, pBeq], allUpto_true fun j _ => by simp [eqItemAt, pEq]]
  simp

/-- what is known of a store that was handed in -/
structure StoIn (is : List ItemD) (ls : List LockD) (ds : List DoubtD) (os : List TxnD) : Prop where
  r1 : pRoom (pLen is) 24
  r2 : pRoom (pLen ls) 48
  r3 : pRoom (pLen ds) 24
  r4 : pRoom (pLen os) 16
  l1 : is.length < 4611686018427387904
  l2 : ls.length < 4611686018427387904
  l3 : ds.length < 4611686018427387904
  l4 : os.length < 4611686018427387904
theorem stoIn (x : wSto.ty.den) (h : wSto.ok x) : StoIn x.1 x.2.1 x.2.2.1 x.2.2.2.1 := by
  have r1 : x.1.length * 24 ≤ 140737488351232 := h.1.1
  have r2 : x.2.1.length * 48 ≤ 140737488351232 := h.2.1.1
  have r3 : x.2.2.1.length * 24 ≤ 140737488351232 := h.2.2.1.1
  have r4 : x.2.2.2.1.length * 16 ≤ 140737488351232 := h.2.2.2.1.1
  exact ⟨r1, r2, r3, r4, lt62 r1 (by decide), lt62 r2 (by decide), lt62 r3 (by decide), lt62 r4 (by decide)⟩

theorem ageS_len (is : List ItemD) (ls : List LockD) (ds : List DoubtD) (os : List TxnD) (p : Int) :
    (ageS (is, ls, ds, os, ()) p).1.length ≤ is.length ∧ (ageS (is, ls, ds, os, ()) p).2.1.length ≤ ls.length ∧ (ageS (is, ls, ds, os, ()) p).2.2.1.length ≤ ds.length ∧ (ageS (is, ls, ds, os, ()) p).2.2.2.1.length ≤ os.length ∧
    (ageL (is, ls, ds, os, ()) p).length ≤ ds.length := by
  unfold ageS ageL
  cases pEq (ageE (is, ls, ds, os, ()) p) 0 with
  | true => exact ⟨Nat.le_refl _, Nat.le_refl _, Nat.le_of_eq (aged_len (Nat.le_refl _)), Nat.le_refl _, told_len⟩
  | false => exact ⟨Nat.zero_le _, Nat.zero_le _, Nat.zero_le _, Nat.zero_le _, Nat.zero_le _⟩

/-- whoever is in doubt has a lock, and is there once -/
theorem doubts_few {is : List ItemD} {ls : List LockD} {ds : List DoubtD} {os : List TxnD} (h : stoF (is, ls, ds, os, ()) = true) : ds.length ≤ ls.length ∧ ls.length ≤ 24 ∧ itemsF is = true := by
  rw [stoF_eq, doubtsF_eq, locksF_eq] at h
  simp only [Bool.and_eq_true] at h
  obtain ⟨⟨hi, hd, _⟩, _, hl⟩ := h
  have hn : ((List.range ds.length).map fun i => ((pGet tyDoubt ds i).1, (pGet tyDoubt ds i).2.1)).Nodup := by
    unfold List.Nodup
    rw [List.pairwise_map]
    refine List.pairwise_lt_range.imp_of_mem fun {a b} ha hb hab => ?_
    have h1 := allUpto_iff.1 hd b (by simpa using hb)
    rw [doubtOkAt_eq] at h1
    simp only [Bool.and_eq_true] at h1
    have h2 := allUpto_iff.1 h1.2 a hab
    intro e
    simp only [Prod.mk.injEq] at e
    simp only [sameD, pAndB, pEq, e.1, e.2, beq_self_eq_true, Bool.and_self, Bool.not_true, Bool.false_eq_true] at h2
  have hs : ((List.range ds.length).map fun i => ((pGet tyDoubt ds i).1, (pGet tyDoubt ds i).2.1)) ⊆ ((List.range ls.length).map fun i => ((pGet tyLock ls i).1, (pGet tyLock ls i).2.1)) := by
    intro x hx
    obtain ⟨i, hi, rfl⟩ := List.mem_map.1 hx
    have h1 := allUpto_iff.1 hd i (by simpa using hi)
    rw [doubtOkAt_eq] at h1
    simp only [Bool.and_eq_true] at h1
    have h2 := h1.1.2
    unfold idxLockF at h2
    rw [idxOf_ge] at h2
    obtain ⟨j, hj, h3⟩ := anyUpto_iff.1 h2
    simp only [lockIsF, pEq, Bool.and_eq_true, beq_iff_eq] at h3
    exact List.mem_map.2 ⟨j, by simpa using hj, by simp only [h3.1, h3.2]⟩
  refine ⟨by simpa using hn.length_le_of_subset hs, ?_, hi⟩
  have hl' : (ls.length : Int) ≤ 24 := of_decide_eq_true hl
  omega

theorem room_more {α : Type} {l : List α} {n b : Nat} {x : α} (h : l.length < n) (hb : n * b ≤ 140737488351232) : pRoom (pPlus (pLen l) (pLen [x])) b := by
  unfold pRoom pPlus pLen
  exact Nat.le_trans (Nat.mul_le_mul_right b (show l.length + 1 ≤ n by omega)) hb
theorem z62 : 0 < 4611686018427387904 := by decide

theorem lt62s {n m b : Nat} (h : n * b ≤ 140737488351232) (hb : 1 ≤ b) (hm : m ≤ n + 1) : m < 4611686018427387904 := by
  have := Nat.mul_le_mul_left n hb
  omega

end Go.Proofs.Ytkhnakdmkhidbaa
