/- Bytes of records: the document's function meets its contract. No condition. -/
import Derived.Test.YtkimjjndbcbiaaaDoorWiQ
namespace Go.Proofs.YtkimjjndbcbiaaaDoor
open Go.RowKit

theorem sites_up {cn : Int} {rl : List NumD} : ∀ (n : Nat), (∀ j, j < n → siteAt cn rl j = true) → ∀ k, k < n → (k : Int) ≤ (pGet tyNum rl k).1 ∧ (pGet tyNum rl k).1 < cn
  | n, h, 0, hk => by
    have := h 0 hk
    unfold siteAt at this
    simp only [Bool.and_eq_true, pLe, pLt, decide_eq_true_eq] at this
    exact ⟨this.1.1, this.1.2⟩
  | n, h, k + 1, hk => by
    have := h (k + 1) hk
    have ih := (sites_up n h k (by omega)).1
    unfold siteAt at this
    simp only [Bool.and_eq_true, Bool.or_eq_true, pLe, pLt, decide_eq_true_eq, Nat.add_sub_cancel] at this
    refine ⟨?_, this.1.2⟩
    rcases this.2 with h | h
    · omega
    · omega
theorem sites_few {cn : Int} {rl : List NumD} (h4 : 1 ≤ cn ∧ cn ≤ 4) (h : allUpto (siteAt cn rl) rl.length = true) : rl.length ≤ 4 ∧ ∀ k, k < rl.length → 0 ≤ (pGet tyNum rl k).1 ∧ (pGet tyNum rl k).1 < 4 := by
  have ha := allUpto_iff.1 h
  have hu := sites_up rl.length ha
  refine ⟨?_, fun k hk => ⟨Int.le_trans (Int.natCast_nonneg k) (hu k hk).1, by exact Int.lt_of_lt_of_le (hu k hk).2 h4.2⟩⟩
  rcases Nat.lt_or_ge 4 rl.length with hl | hl
  · have h5 : ((4 : Nat) : Int) < cn := Int.lt_of_le_of_lt (hu 4 hl).1 (hu 4 hl).2
    omega
  · exact hl

theorem recF_all {cn : Int} {cl : List LabD} {cp rk rs rn ry rv ra : Int} {rd : Bool} {rl : List NumD} (h : pNe (recF (cn, cl, cp, ()) (rk, rs, rn, ry, rv, ra, rd, rl, ())) 0 = false) :
    (1 ≤ rk ∧ rk ≤ 6) ∧ (1 ≤ cn ∧ cn ≤ 4) ∧ (0 ≤ rs ∧ rs < cn) ∧ (1 ≤ rn ∧ rn ≤ 1048576) ∧ (0 ≤ ry ∧ ry ≤ 7) ∧ (0 ≤ rv ∧ rv ≤ 1073741824) ∧ (0 ≤ ra ∧ ra ≤ 1048576) ∧ rl.length ≤ 4 ∧ (∀ k, k < rl.length → 0 ≤ (pGet tyNum rl k).1 ∧ (pGet tyNum rl k).1 < 4) ∧
      recF (cn, cl, cp, ()) (rk, rs, rn, ry, rv, ra, rd, rl, ()) = 0 ∧ recForm (rk, rs, rn, ry, rv, ra, rd, rl, ()) = true := by
  have h0 : recF (cn, cl, cp, ()) (rk, rs, rn, ry, rv, ra, rd, rl, ()) = 0 := by simpa [pNe] using h
  have h1 := h0
  unfold recF at h1
  cases hc : pEq (cfgF (cn, cl, cp, ())) 0 with
  | false => rw [hc, cond_false] at h1; rw [h1] at hc; cases hc
  | true =>
    rw [hc, cond_true] at h1
    have h4 := inF_iff.1 (cfgF_sites4 (c := (cn, cl, cp, ())) (by simpa [pNe, pEq] using hc))
    cases hk : inF rk 1 6 with
    | false => simp only [hk, cond_false] at h1; cases h1
    | true =>
      simp only [hk, cond_true] at h1
      cases hr : recRange (cn, cl, cp, ()) (rk, rs, rn, ry, rv, ra, rd, rl, ()) with
      | false => rw [hr, cond_false] at h1; cases h1
      | true =>
        rw [hr, cond_true] at h1
        cases hf : recForm (rk, rs, rn, ry, rv, ra, rd, rl, ()) with
        | false => rw [hf, cond_false] at h1; cases h1
        | true =>
          have hk' := inF_iff.1 hk
          have hr' : ((((txnF (cn, cl, cp, ()) rs rn && inF ry 0 7) && inF rv 0 1073741824) && inF ra 0 1048576) && allUpto (siteAt cn rl) rl.length) = true := hr
          simp only [Bool.and_eq_true] at hr'
          obtain ⟨⟨⟨⟨q1, q2⟩, q3⟩, q4⟩, q5⟩ := hr'
          unfold txnF at q1
          simp only [Bool.and_eq_true, pLe, pLt, decide_eq_true_eq, inF_iff] at q1
          rw [inF_iff] at q2 q3 q4
          simp only at h4
          obtain ⟨s1, s2⟩ := sites_few h4 q5
          exact ⟨hk', h4, q1.1, q1.2, q2, q3, q4, s1, s2, h0, rfl⟩

theorem recB_eq {cn : Int} {cl : List LabD} {cp rk rs rn ry rv ra : Int} {rd : Bool} {rl : List NumD} (h : recF (cn, cl, cp, ()) (rk, rs, rn, ry, rv, ra, rd, rl, ()) = 0) :
    recB (cn, cl, cp, ()) (rk, rs, rn, ry, rv, ra, rd, rl, ()) = recBR (pGet tyParts recordsT (pNat rk)) (rk, rs, rn, ry, rv, ra, rd, rl, ()) := by
  unfold recB; rw [h]; rfl

theorem numsB_len (l : List NumD) : (numsB l).length = l.length := by simp [numsB]
theorem numsB_step {l : List NumD} {j : Nat} (h : j < l.length) : numsB (l.take (j + 1)) = numsB (l.take j) ++ [((pGet tyNum l j).1 % 256, ())] := by
  have e : (pGet tyNum l j).1 = l[j].1 := congrArg (fun z : NumD => z.1) (pGet_lt (t := tyNum) h)
  rw [e]
  unfold numsB
  rw [List.take_add_one, List.getElem?_eq_getElem h, List.map_append]
  rfl
theorem recHead_len (rk rs rn : Int) (rl : List NumD) : (recHead rk rs rn rl).length = 6 := by simp [recHead, bN_len, txB_len, pNat]
theorem recHead_eq (rk rs rn : Int) (rl : List NumD) : pApp (joinF [([(pWrap .u8 rk, ())], ()), (txB rs rn, ())]) [(pWrap .u8 (pInt (pLen rl)), ())] = recHead rk rs rn rl := by
  simp [pApp, joinF, recHead, bN_1, wrap_u8, pLen]

set_option maxHeartbeats 4000000 in
theorem RecordBytes_ok : Meets Tryd.prog (fun _ => none) 15 cRecordBytes := RecordBytes_meets RecordFault_ok joined_ok txnBytes_ok bytesOf_ok bitByte_ok fun cn cl cp rk rs rn ry rv ra rd rl hp => by
  have hl : cl.length < 4611686018427387904 := (hp _ List.mem_cons_self)
  have hr : rl.length < 4611686018427387904 := (hp _ (List.mem_cons_of_mem _ List.mem_cons_self))
  clear hp
  unfold RecordBytes_VC
  refine ⟨hl, hr, bif_ok (fun h => ?_) fun hc => ?_⟩
  · have e : recB (cn, cl, cp, ()) (rk, rs, rn, ry, rv, ra, rd, rl, ()) = [] := by
      unfold recB; rw [show pEq _ 0 = false by simpa [pNe, pEq] using h]; rfl
    rw [e]
  obtain ⟨hk, h4, a1, a2, a3, a4, a5, s1, s2, h0, _⟩ := recF_all hc
  rw [h0, recB_eq h0]
  clear hc h0
  refine ⟨a1.1, by simp [pLt]; omega, (by unfold pGe0; omega), by simp [pLt]; omega, nle (by simp [pLen]), nle (by simp [pLen, joinF, txB_len]), ?_⟩
  rw [recHead_eq]
  have hk6 : rk = 1 ∨ rk = 2 ∨ rk = 3 ∨ rk = 4 ∨ rk = 5 ∨ rk = 6 := by omega
  have loop : ∀ (y : Int × List ByteD × Unit) (e : List ByteD × Int × Unit), rebSInv cn cl cp rk rs rn ry rv ra rd rl y → (recHead rk rs rn rl ++ numsB rl, 0, ()) = e →
      bif pLt y.1 (pInt (pLen rl)) then pIn y.1 (pLen rl) ∧ pRoom (pPlus (pLen y.2.1) (pLen [(pWrap IntKind.u8 (pGet tyN rl (pNat y.1)).1, ())])) 1 ∧ rebSInv cn cl cp rk rs rn ry rv ra rd rl (pAdd IntKind.i64 y.1 (1 : Int), pApp y.2.1 [(pWrap IntKind.u8 (pGet tyN rl (pNat y.1)).1, ())], ()) ∧ Nat.le (Nat.succ
        (rebSMu cn cl cp rk rs rn ry rv ra rd rl (pAdd IntKind.i64 y.1 (1 : Int), pApp y.2.1 [(pWrap IntKind.u8 (pGet tyN rl (pNat y.1)).1, ())], ()))) (rebSMu cn cl cp rk rs rn ry rv ra rd rl y) else (y.2.1, (0 : Int), ()) = e := by
    rintro y e ⟨j, hj, rfl⟩ he
    simp only
    refine bif_ok (fun h => ?_) fun h => ?_
    · have hjl : j < rl.length := of_decide_eq_true ((pLt_coe (k := j) (n := rl.length)).symm.trans h)
      have e1 : pAdd .i64 (j : Int) 1 = ((j + 1 : Nat) : Int) := pAdd1 (by omega)
      rw [e1, pNat_coe, wrap_u8]
      refine ⟨pIn_coe.2 hjl, room1 (α := ByteD) ?_, ⟨j + 1, hjl, ?_⟩, Nat.le_of_eq ?_⟩
      · rw [List.length_append, recHead_len, numsB_len, List.length_take]; omega
      · rw [numsB_step hjl]
        unfold pApp
        rw [List.append_assoc]
      · unfold rebSMu
        simp only [Int.toNat_natCast]
        omega
    · have hjl : ¬ j < rl.length := of_decide_eq_false ((pLt_coe (k := j) (n := rl.length)).symm.trans h)
      have : j = rl.length := by omega
      subst this
      rw [← he, List.take_of_length_le (Nat.le_refl _)]
  rcases hk6 with rfl | rfl | rfl | rfl | rfl | rfl
  all_goals
    (repeat' (first | refine bif_ok (fun h => ?_) (fun h => ?_) | with_reducible refine And.intro ?_ ?_ | fail))
    all_goals first
      | (unfold pGe0; omega)
      | (simp only [pLt, decide_eq_true_eq]; omega)
      | decide
      | (refine nle ?_; simp [pLen]; done)
      | (refine nle ?_; simp [pLen, joinF, txB_len, bN_len, bitB_len, pNat]; done)
      | (simp only [rrow1, rrow2, rrow3, rrow4, rrow5, rrow6, recBR, optB, cond_true, cond_false]; simp [joinF, bN_1, wrap_u8]; done)
      | exact ⟨0, Nat.zero_le _, by simp [numsB]⟩
      | (exfalso; simp [pEq] at *; done)
      | (unfold pRoom pPlus pLen; simp [joinF, txB_len]; done)
      | exact fun y hy => loop y _ hy (by simp only [rrow3, recBR, optB, cond_true, cond_false]; simp [recHead])
      | skip

end Go.Proofs.YtkimjjndbcbiaaaDoor
