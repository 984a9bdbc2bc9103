/- Functions of the store meet their contracts. No condition. -/
import Derived.Test.YtkhnakdmkhidbaaSvA
namespace Go.Proofs.Ytkhnakdmkhidbaa
open Go.RowKit

theorem txn_ok : Meets Try.prog (fun _ => none) 36 ctxn := txn_meets fun a b => by
  unfold txn_VC
  simp only [pGe, pLt, pLe, Bool.cond_eq_ite, decide_eq_true_eq, Prod.mk.injEq, eq_self, and_true, txnF, inF]
  repeat' split
  all_goals (rw [Bool.eq_iff_iff]; simp only [Bool.and_eq_true, decide_eq_true_eq, Bool.false_eq_true]; constructor <;> intro h <;> first | omega | exact h.elim)

theorem In_ok : Meets Try.prog (fun _ => none) 51 cIn := In_meets fun a b c => by
  unfold In_VC
  simp only [pGe, pLe, Bool.cond_eq_ite, decide_eq_true_eq, Prod.mk.injEq, eq_self, and_true, inF]
  repeat' split
  all_goals (rw [Bool.eq_iff_iff]; simp only [Bool.and_eq_true, decide_eq_true_eq, Bool.false_eq_true]; constructor <;> intro h <;> first | omega | exact h.elim)

theorem plainTxn_ok : Meets Try.prog (fun _ => none) 50 cplainTxn := plainTxn_meets In_ok fun a b => by
  unfold plainTxn_VC
  simp only [txnF]
  cases inF a 0 3 <;> simp

theorem items_ok : Meets Try.prog (fun _ => none) 56 citems := items_meets fun l hp => by
  have hl : l.length < 4611686018427387904 := hp _ List.mem_cons_self
  unfold items_VC
  refine ⟨UpInv.start, fun y hy => ?_⟩
  rcases UpInv.round hl hy with ⟨k, rfl, hk, hb, _, hF, hT⟩ | ⟨rfl, hT⟩
  · simp only [pLt_coe, pLen, hk, decide_true, cond_true, pIn_coe, pNat_coe, true_and]
    simp only [pGe, pLt, pGt, Bool.cond_eq_ite, decide_eq_true_eq, Prod.mk.injEq, eq_self, and_true]
    have hF' : ¬ itemOk l k = true → false = itemsF l := fun h => (hF (by simpa using h)).symm
    simp only [itemOk, inF, pLt, pLe, Bool.and_eq_true, Bool.or_eq_true, decide_eq_true_eq] at hT hF'
    by_cases h0 : k = 0
    · subst h0
      repeat' split
      all_goals first | exact hF' (by omega) | exact hT (by omega) | (exfalso; omega)
    · rw [pSub1 hb (by omega), pNat_coe, pIn_coe]
      have hk1 : k - 1 < l.length := by omega
      simp only [pLen, hk1, true_and]
      repeat' split
      all_goals first | exact hF' (by omega) | exact hT (by omega) | (exfalso; omega)
  · simp only [pLt_coe, pLen, Nat.lt_irrefl, decide_false, cond_false]
    exact congrArg (·, ()) hT.symm

theorem room_app {n b : Nat} (h : pRoom n b) : pRoom (pPlus (pLen ([] : List Unit)) n) b := by
  unfold pPlus pLen; simpa using h
theorem cloneItem_ok : Meets Try.prog (fun _ => none) 37 ccloneItem := cloneItem_meets fun l hp =>
  ⟨fun h => by rw [List.eq_nil_of_length_eq_zero h], room_app (hp _ List.mem_cons_self), rfl⟩
theorem cloneLock_ok : Meets Try.prog (fun _ => none) 38 ccloneLock := cloneLock_meets fun l hp =>
  ⟨fun h => by rw [List.eq_nil_of_length_eq_zero h], room_app (hp _ List.mem_cons_self), rfl⟩
theorem cloneDoubt_ok : Meets Try.prog (fun _ => none) 39 ccloneDoubt := cloneDoubt_meets fun l hp =>
  ⟨fun h => by rw [List.eq_nil_of_length_eq_zero h], room_app (hp _ List.mem_cons_self), rfl⟩
theorem cloneTxn_ok : Meets Try.prog (fun _ => none) 40 ccloneTxn := cloneTxn_meets fun l hp =>
  ⟨fun h => by rw [List.eq_nil_of_length_eq_zero h], room_app (hp _ List.mem_cons_self), rfl⟩
theorem own_ok : Meets Try.prog (fun _ => none) 14 cown := own_meets cloneItem_ok cloneLock_ok cloneDoubt_ok cloneTxn_ok fun is ls ds os hp =>
  ⟨hp _ (by simp), hp _ (by simp), hp _ (by simp), hp _ (by simp), rfl⟩

theorem sameTxns_ok : Meets Try.prog (fun _ => none) 25 csameTxns := sameTxns_meets fun l m hp => by
  have hl : l.length < 4611686018427387904 := hp _ List.mem_cons_self
  unfold sameTxns_VC
  by_cases hn : l.length = m.length
  · rw [bif_false (by unfold pNe pInt pLen; simp [hn])]
    refine ⟨⟨hn, UpInv.start⟩, fun y ⟨_, hy⟩ => ?_⟩
    rcases UpInv.round hl hy with ⟨k, rfl, hk, hb, _, hF, hT⟩ | ⟨rfl, hT⟩
    · have hk2 : k < m.length := by omega
      simp only [pLt_coe, pLen, hk, hk2, decide_true, cond_true, pIn_coe, pNat_coe, true_and]
      have e : pAndB (pEq (pGet tyTxn l k).1 (pGet tyTxn m k).1) (pEq (pGet tyTxn l k).2.1 (pGet tyTxn m k).2.1) = eqTxnAt l m k := rfl
      rw [e]
      cases hq : eqTxnAt l m k with
      | true => exact ⟨⟨hn, (hT hq).1⟩, (hT hq).2⟩
      | false =>
        show (false, ()) = (sameTxnsF l m, ())
        unfold sameTxnsF
        rw [hF hq]; simp
    · simp only [pLt_coe, pLen, Nat.lt_irrefl, decide_false, cond_false]
      unfold sameTxnsF
      rw [hT]; simp [hn]
  · rw [bif_true (by unfold pNe pInt pLen; simp; omega)]
    unfold sameTxnsF
    simp [hn]

theorem Index_ok : Meets Try.prog (fun _ => none) 48 cIndex := Index_meets fun l a b hp => by
  have hl : l.length < 4611686018427387904 := hp _ List.mem_cons_self
  refine ⟨UpInv.start, fun y hy => ?_⟩
  rcases FindInv.round hl hy with ⟨k, rfl, hk, hb, hT, hF⟩ | ⟨rfl, hT⟩
  · simp only [pLt_coe, pLen, hk, decide_true, cond_true, pIn_coe, pNat_coe, true_and]
    have e : pAndB (pEq a (pGet tyTxn l k).1) (pEq b (pGet tyTxn l k).2.1) = eqTxn (a, b, ()) (pGet tyTxn l k) := rfl
    rw [e]
    cases hq : eqTxn (a, b, ()) (pGet tyTxn l k) with
    | true => exact congrArg (·, ()) (hT hq).symm
    | false => exact hF hq
  · simp only [pLt_coe, pLen, Nat.lt_irrefl, decide_false, cond_false]
    exact congrArg (·, ()) hT.symm

theorem Contains_ok : Meets Try.prog (fun _ => none) 21 cContains := Contains_meets Index_ok fun l a b hp => ⟨hp _ List.mem_cons_self, rfl⟩
theorem doubted1_ok : Meets Try.prog (fun _ => none) 69 cdoubted1 := doubted1_meets fun s n a c d => rfl
theorem doubts1_ok : Meets Try.prog (fun _ => none) 65 cdoubts1 := doubts1_meets fun s n k wr v q c d a => rfl

theorem indexFuncDoubt_ok : Meets Try.prog (fun _ => none) 47 cindexFuncDoubt := indexFuncDoubt_meets doubted1_ok fun l c d hp => by
  have hl : l.length < 4611686018427387904 := hp _ List.mem_cons_self
  refine ⟨UpInv.start, fun y hy => ?_⟩
  rcases FindInv.round hl hy with ⟨k, rfl, hk, hb, hT, hF⟩ | ⟨rfl, hT⟩
  · simp only [pLt_coe, pLen, hk, decide_true, cond_true, pIn_coe, pNat_coe, true_and]
    have e : doubtIsF ((pGet tyItem l k).1, (pGet tyItem l k).2.1, (pGet tyItem l k).2.2.1, ()) (c, d, ()) = doubtIsF (pGet tyDoubt l k) (c, d, ()) := rfl
    rw [e]
    cases hq : doubtIsF (pGet tyDoubt l k) (c, d, ()) with
    | true => exact congrArg (·, ()) (hT hq).symm
    | false => exact hF hq
  · simp only [pLt_coe, pLen, Nat.lt_irrefl, decide_false, cond_false]
    exact congrArg (·, ()) hT.symm
theorem indexFuncLock_ok : Meets Try.prog (fun _ => none) 46 cindexFuncLock := indexFuncLock_meets doubts1_ok fun l c d a hp => by
  have hl : l.length < 4611686018427387904 := hp _ List.mem_cons_self
  refine ⟨UpInv.start, fun y hy => ?_⟩
  rcases FindInv.round hl hy with ⟨k, rfl, hk, hb, hT, hF⟩ | ⟨rfl, hT⟩
  · simp only [pLt_coe, pLen, hk, decide_true, cond_true, pIn_coe, pNat_coe, true_and]
    have e : lockIsF ((pGet tyLock l k).1, (pGet tyLock l k).2.1, (pGet tyLock l k).2.2.1, (pGet tyLock l k).2.2.2.1, (pGet tyLock l k).2.2.2.2.1, (pGet tyLock l k).2.2.2.2.2.1, ()) (c, d, ()) = lockIsF (pGet tyLock l k) (c, d, ()) := rfl
    rw [e]
    cases hq : lockIsF (pGet tyLock l k) (c, d, ()) with
    | true => exact congrArg (·, ()) (hT hq).symm
    | false => exact hF hq
  · simp only [pLt_coe, pLen, Nat.lt_irrefl, decide_false, cond_false]
    exact congrArg (·, ()) hT.symm
theorem containsFuncDoubt_ok : Meets Try.prog (fun _ => none) 68 ccontainsFuncDoubt := containsFuncDoubt_meets indexFuncDoubt_ok fun l c d hp => ⟨hp _ List.mem_cons_self, rfl⟩
theorem containsFuncLock_ok : Meets Try.prog (fun _ => none) 64 ccontainsFuncLock := containsFuncLock_meets indexFuncLock_ok fun l c d a hp => ⟨hp _ List.mem_cons_self, rfl⟩
theorem doubted_ok : Meets Try.prog (fun _ => none) 66 cdoubted := doubted_meets containsFuncDoubt_ok fun is ls ds os a b hp => ⟨hp (pLen ds < 4611686018427387904) (by simp), rfl⟩

end Go.Proofs.Ytkhnakdmkhidbaa
