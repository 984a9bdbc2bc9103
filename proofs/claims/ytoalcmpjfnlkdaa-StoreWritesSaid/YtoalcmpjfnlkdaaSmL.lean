/- What every law of the store needs: it is the same as itself; bounds of the argument. No condition. -/
import Derived.Test.YtoalcmpjfnlkdaaSmE
namespace Go.Proofs.Ytoalcmpjfnlkdaa
open Go.RowKit

theorem sameTxns_refl (l : List TxnD) : sameTxnsF l l = true := by
  unfold sameTxnsF
  rw [allUpto_true fun j _ => by simp [eqTxnAt, eqTxn, pEq]]
  simp
theorem sameSto_refl (s : StoD) : sameStoF s s = true := by
  unfold sameStoF
  rw [sameTxns_refl, allUpto_true fun j _ => by simp [eqItemAt, pEq], allUpto_true fun j _ => by simp [eqLockAt, pEq, pBeq], allUpto_true fun j _ => by simp [eqItemAt, pEq]]
  simp

/-- what is known of a store that was handed in -/
structure StoIn (is : List ItemD) (ls : List LockD) (ds : List DoubtD) (os : List TxnD) : Prop where
  r1 : pRoom (pLen is) 24
  r2 : pRoom (pLen ls) 48
  r3 : pRoom (pLen ds) 24
  r4 : pRoom (pLen os) 16
  l1 : is.length < 4611686018427387904
  l2 : ls.length < 4611686018427387904
  l3 : ds.length < 4611686018427387904
  l4 : os.length < 4611686018427387904
theorem lt62 {n b : Nat} (h : n * b ≤ 140737488351232) (hb : 1 ≤ b) : n < 4611686018427387904 := by
  have := Nat.mul_le_mul_left n hb
  omega
theorem stoIn (x : wSto.ty.den) (h : wSto.ok x) : StoIn x.1 x.2.1 x.2.2.1 x.2.2.2.1 := by
  have r1 : x.1.length * 24 ≤ 140737488351232 := h.1.1
  have r2 : x.2.1.length * 48 ≤ 140737488351232 := h.2.1.1
  have r3 : x.2.2.1.length * 24 ≤ 140737488351232 := h.2.2.1.1
  have r4 : x.2.2.2.1.length * 16 ≤ 140737488351232 := h.2.2.2.1.1
  exact ⟨r1, r2, r3, r4, lt62 r1 (by decide), lt62 r2 (by decide), lt62 r3 (by decide), lt62 r4 (by decide)⟩

theorem ageS_len (is : List ItemD) (ls : List LockD) (ds : List DoubtD) (os : List TxnD) (p : Int) :
    (ageS (is, ls, ds, os, ()) p).1.length ≤ is.length ∧ (ageS (is, ls, ds, os, ()) p).2.1.length ≤ ls.length ∧ (ageS (is, ls, ds, os, ()) p).2.2.1.length ≤ ds.length ∧ (ageS (is, ls, ds, os, ()) p).2.2.2.1.length ≤ os.length ∧
    (ageL (is, ls, ds, os, ()) p).length ≤ ds.length := by
  unfold ageS ageL
  cases pEq (ageE (is, ls, ds, os, ()) p) 0 with
  | true => exact ⟨Nat.le_refl _, Nat.le_refl _, Nat.le_of_eq (aged_len (Nat.le_refl _)), Nat.le_refl _, told_len⟩
  | false => exact ⟨Nat.zero_le _, Nat.zero_le _, Nat.zero_le _, Nat.zero_le _, Nat.zero_le _⟩

end Go.Proofs.Ytoalcmpjfnlkdaa
