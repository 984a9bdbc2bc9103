/- More functions of the store meet their contracts. No condition. -/
import Derived.Test.YtkhnakdmkhidbaaSmA
namespace Go.Proofs.Ytkhnakdmkhidbaa
open Go.RowKit

theorem lens_ne {n m : Nat} (h : ¬ n = m) : pNe (pInt n) (pInt m) = true := by unfold pNe pInt; simp; omega
theorem lens_eq {n m : Nat} (h : n = m) : pNe (pInt n) (pInt m) = false := by unfold pNe pInt; simp [h]

set_option maxHeartbeats 1000000 in
theorem sameStore_ok : Meets Try.prog (fun _ => none) 8 csameStore := sameStore_meets sameTxns_ok fun is ls ds os is2 ls2 ds2 os2 hp => by
  have h1 : is.length < 4611686018427387904 := hp (pLen is < 4611686018427387904) (by simp)
  have h2 : ls.length < 4611686018427387904 := hp (pLen ls < 4611686018427387904) (by simp)
  have h3 : ds.length < 4611686018427387904 := hp (pLen ds < 4611686018427387904) (by simp)
  have h4 : os.length < 4611686018427387904 := hp (pLen os < 4611686018427387904) (by simp)
  unfold sameStore_VC pLen
  by_cases e1 : is.length = is2.length
  rotate_left
  · rw [bif_true (lens_ne e1)]; simp [sameStoF, e1]
  rw [bif_false (lens_eq e1)]
  by_cases e2 : ls.length = ls2.length
  rotate_left
  · rw [bif_true (lens_ne e2)]; simp [sameStoF, e2]
  rw [bif_false (lens_eq e2)]
  by_cases e3 : ds.length = ds2.length
  rotate_left
  · rw [bif_true (lens_ne e3)]; simp [sameStoF, e3]
  rw [bif_false (lens_eq e3)]
  refine ⟨h4, ?_⟩
  cases e4 : sameTxnsF os os2 with
  | false =>
    rw [bif_true (by rfl)]; simp [sameStoF, e4]
  | true =>
    rw [bif_false (by rfl)]
    have hl : sameLens is ls ds os is2 ls2 ds2 os2 = true := by simp [sameLens, e1, e2, e3, e4]
    refine ⟨⟨hl, UpInv.start⟩, fun y ⟨_, hy⟩ => ?_⟩
    rcases UpInv.round h1 hy with ⟨k, rfl, hk, hb, _, hF, hT⟩ | ⟨rfl, hA⟩
    · have hk2 : k < is2.length := by omega
      simp only [pLt_coe, pLen, hk, hk2, decide_true, cond_true, pIn_coe, pNat_coe, true_and]
      cases hq : eqItemAt is is2 k with
      | true =>
        rw [bif_false (show pNot _ = false by unfold eqItemAt at hq; simp only [pNot, pAndB]; rw [hq]; rfl)]
        exact ⟨⟨hl, (hT hq).1⟩, (hT hq).2⟩
      | false =>
        rw [bif_true (show pNot _ = true by unfold eqItemAt at hq; simp only [pNot, pAndB]; rw [hq]; rfl)]
        have := hF hq
        simp [sameStoF, this]
    · rw [bif_false (by simp [pLt_coe, pLen])]
      refine ⟨⟨by simp [hl, hA], UpInv.start⟩, fun y ⟨_, hy⟩ => ?_⟩
      rcases UpInv.round h2 hy with ⟨k, rfl, hk, hb, _, hF, hT⟩ | ⟨rfl, hB⟩
      · have hk2 : k < ls2.length := by omega
        simp only [pLt_coe, pLen, hk, hk2, decide_true, cond_true, pIn_coe, pNat_coe, true_and]
        cases hq : eqLockAt ls ls2 k with
        | true =>
          rw [bif_false (show pNot _ = false by unfold eqLockAt at hq; simp only [pNot, pAndB]; rw [hq]; rfl)]
          exact ⟨⟨by simp [hl, hA], (hT hq).1⟩, (hT hq).2⟩
        | false =>
          rw [bif_true (show pNot _ = true by unfold eqLockAt at hq; simp only [pNot, pAndB]; rw [hq]; rfl)]
          have := hF hq
          simp [sameStoF, this]
      · rw [bif_false (by simp [pLt_coe, pLen])]
        refine ⟨⟨by simp [hl, hA, hB], UpInv.start⟩, fun y ⟨_, hy⟩ => ?_⟩
        rcases UpInv.round h3 hy with ⟨k, rfl, hk, hb, _, hF, hT⟩ | ⟨rfl, hC⟩
        · have hk2 : k < ds2.length := by omega
          simp only [pLt_coe, pLen, hk, hk2, decide_true, cond_true, pIn_coe, pNat_coe, true_and]
          cases hq : eqItemAt ds ds2 k with
          | true =>
            rw [bif_false (show pNot _ = false by unfold eqItemAt at hq; simp only [pNot, pAndB]; rw [hq]; rfl)]
            exact ⟨⟨by simp [hl, hA, hB], (hT hq).1⟩, (hT hq).2⟩
          | false =>
            rw [bif_true (show pNot _ = true by unfold eqItemAt at hq; simp only [pNot, pAndB]; rw [hq]; rfl)]
            have := hF hq
            simp [sameStoF, this]
        · rw [bif_false (by simp [pLt_coe, pLen])]
          rw [e1] at hA; rw [e2] at hB; rw [e3] at hC
          simp [sameStoF, e1, e2, e3, e4, hA, hB, hC]

end Go.Proofs.Ytkhnakdmkhidbaa
