/- Records: the program's functions meet their contracts. No condition. -/
import Derived.Test.YtkimjjndbcbiaaaDoorWrV
import Derived.Test.YtkimjjndbcbiaaaDoorWiR
namespace Go.Proofs.YtkimjjndbcbiaaaDoor
open Go.RowKit

theorem rcond_t {b : Bool} {X Y : Prop} (h : b = true) (hx : X) : bif b then X else Y := by subst h; exact hx
theorem rcond_f {b : Bool} {X Y : Prop} (h : b = false) (hy : Y) : bif b then X else Y := by subst h; exact hy

theorem siteAt_prog {cn : Int} {rl : List NumD} {k : Nat} (hk : k < 4611686018427387904) : siteAt cn rl k = (!(pLt (pGet tyNum rl k).1 0) && (!(pGe (pGet tyNum rl k).1 cn) && !(pGt (k : Int) 0 && pGe (pGet tyNum rl (k - 1)).1 (pGet tyNum rl k).1))) := by
  unfold siteAt
  rw [Bool.eq_iff_iff]
  simp only [pLe, pLt, pGt, pGe, Bool.and_eq_true, Bool.or_eq_true, Bool.not_eq_true', Bool.and_eq_false_iff, decide_eq_true_eq, decide_eq_false_iff_not]
  constructor
  · rintro ⟨⟨h1, h2⟩, h3⟩
    refine ⟨by omega, by omega, ?_⟩
    rcases h3 with h3 | h3
    · left; omega
    · right; omega
  · rintro ⟨h1, h2, h3⟩
    refine ⟨by omega, ?_⟩
    rcases h3 with h3 | h3
    · left; omega
    · right; omega

theorem bif_dup2 {r b : Bool} {X T : Prop} (h1 : r = false → b = true → X) (h2 : (r || !b) = true → T) : bif pNot r then (bif b then X else T) else T := by
  cases r <;> cases b <;> simp_all [pNot]

set_option maxHeartbeats 4000000 in
theorem CheckRecord_ok : Meets Tryd.prog tabsR 41 cCheckRecord := CheckRecord_meets lCheck_ok.any wtxn_ok.any wkey_ok.any wvalue_ok.any wask_ok.any fun cn cl cp rk rs rn ry rv ra rd rl hp => by
  have hl : cl.length < 4611686018427387904 := (hp _ List.mem_cons_self)
  have hr : rl.length < 4611686018427387904 := (hp _ (List.mem_cons_of_mem _ List.mem_cons_self))
  clear hp
  unfold CheckRecord_VC
  refine ⟨hl, bif_ok (fun h => ?_) fun hc => ?_⟩
  · rw [recF_cfg h]
  have h4 := cfgF_sites4 hc
  have hc4 := inF_iff.1 h4
  simp only at hc4
  generalize hrw : pGet tyParts recordsT (pNat rk) = r
  obtain ⟨r1, r2, r3, r4, r5, r6, r7, r8, u⟩ := r
  have hM := recF_eq cn cl cp rk rs rn ry rv ra rd rl r1 r2 r3 r4 r5 r6 r7 r8 hc hrw
  clear hrw
  dsimp only
  generalize hA : allUpto (siteAt cn rl) rl.length = A at hM
  refine bif_ok (fun h => ?_) fun hk1 => ?_
  · refine leafE ?_; rw [hM]; grind [pLt, pLe, pGt, pGe, pEq, pNe, pNot, pAndB, pBeq, pInt, pLen, inF, pIn, pTo, pNat]
  refine bif_ok (fun h => ?_) fun hk2 => ?_
  · refine leafE ?_; rw [hM]; grind [pLt, pLe, pGt, pGe, pEq, pNe, pNot, pAndB, pBeq, pInt, pLen, inF, pIn, pTo, pNat]
  have hk : inF rk 1 6 = true := by rw [inF_iff]; simp only [pLt, pGt, decide_eq_false_iff_not] at hk1 hk2; omega
  rw [hk, cond_true] at hM
  refine bif_ok (fun h => ?_) fun h1 => ?_
  · refine leafE ?_; rw [hM]; grind [pLt, pLe, pGt, pGe, pEq, pNe, pNot, pAndB, pBeq, pInt, pLen, inF, pIn, pTo, pNat]
  refine bif_ok (fun h => ?_) fun h2 => ?_
  · refine leafE ?_; rw [hM]; grind [pLt, pLe, pGt, pGe, pEq, pNe, pNot, pAndB, pBeq, pInt, pLen, inF, pIn, pTo, pNat]
  refine bif_ok (fun h => ?_) fun h3 => ?_
  · refine leafE ?_; rw [hM]; grind [pLt, pLe, pGt, pGe, pEq, pNe, pNot, pAndB, pBeq, pInt, pLen, inF, pIn, pTo, pNat]
  refine bif_ok (fun h => ?_) fun h5 => ?_
  · refine leafE ?_; rw [hM]; grind [pLt, pLe, pGt, pGe, pEq, pNe, pNot, pAndB, pBeq, pInt, pLen, inF, pIn, pTo, pNat]
  refine ⟨UpInv.start, fun y hy => ?_⟩
  rcases UpInv.round hr hy with ⟨k, rfl, hkl, hb, _, hF, hT⟩ | ⟨rfl, hT⟩
  · simp only [pNat_coe]
    rw [bif_true (by simp [pLt_coe, pLen, hkl])]
    rw [hA] at hF
    have hs := siteAt_prog (rl := rl) (cn := cn) hb
    have bad : siteAt cn rl k = false → ((2 : Int), ()) = (recF (cn, cl, cp, ()) (rk, rs, rn, ry, rv, ra, rd, rl, ()), ()) := fun h => by rw [hM, hF h, Bool.and_false]; rfl
    refine ⟨pIn_coe.2 hkl, bif_ok (fun h => ?_) fun h => ?_⟩
    · refine bad ?_
      rw [hs, show pLt (pGet tyNum rl k).1 0 = true from h]; rfl
    have g1 : pLt (pGet tyNum rl k).1 0 = false := h
    rw [g1, Bool.not_false, Bool.true_and] at hs
    refine bif_ok (fun h => ?_) fun h => ?_
    · refine bad ?_
      rw [hs, show pGe (pGet tyNum rl k).1 cn = true from h]; rfl
    have g2 : pGe (pGet tyNum rl k).1 cn = false := h
    rw [g2, Bool.not_false, Bool.true_and] at hs
    refine bif_ok (fun h => ?_) fun h => ?_
    · have hk0 : 0 < k := by have h0 : (0 : Int) < (k : Int) := by simpa [pGt] using h
                             exact Int.natCast_pos.1 h0
      rw [pSub1 hb hk0, pNat_coe]
      refine ⟨pIn_coe.2 (Nat.lt_of_le_of_lt (Nat.sub_le _ _) hkl), bif_ok (fun h' => ?_) fun h' => ?_⟩
      · refine bad ?_
        rw [hs, h]
        rw [show pGe (pGet tyNum rl (k - 1)).1 (pGet tyNum rl k).1 = true from h']; rfl
      · refine hT ?_
        rw [hs, h]
        rw [show pGe (pGet tyNum rl (k - 1)).1 (pGet tyNum rl k).1 = false from h']; rfl
    · refine hT ?_
      rw [hs, h]; rfl
  · rw [bif_false (by simp [pLt_coe, pLen])]
    rw [hA] at hT
    subst hT
    clear hA hy
    rw [gt0_len]
    have hlen : recordsT.length = 7 := rfl
    refine ⟨?_, ?_⟩
    · unfold pIn; rw [inF_iff] at hk; omega
    (repeat' (first | refine bif_dup2 (fun h1 h2 => ?_) (fun h => ?_) | refine bif_ok (fun h => ?_) (fun h => ?_) | fail))
    all_goals first
      | (refine leafE ?_; rw [hM]; grind [pLt, pLe, pGt, pGe, pEq, pNe, pNot, pAndB, pBeq, pInt, pLen, inF, pIn, pTo, pNat])
      | skip

set_option maxHeartbeats 8000000 in
theorem EncodeRecord_ok : Meets Tryd.prog tabsR 14 cEncodeRecord := EncodeRecord_meets CheckRecord_ok put0_ok.any put_ok.any wtxnB_ok.any wbit_ok.any fun cn cl cp rk rs rn ry rv ra rd rl hp => by
  have hl : cl.length < 4611686018427387904 := (hp _ List.mem_cons_self)
  have hr : rl.length < 4611686018427387904 := (hp _ (List.mem_cons_of_mem _ List.mem_cons_self))
  clear hp
  unfold EncodeRecord_VC
  refine ⟨hl, hr, bif_ok (fun h => ?_) fun hc => ?_⟩
  · have e : recB (cn, cl, cp, ()) (rk, rs, rn, ry, rv, ra, rd, rl, ()) = [] := by
      unfold recB; rw [show pEq _ 0 = false by simpa [pNe, pEq] using h]; rfl
    rw [e]
  obtain ⟨hk, h4, a1, a2, a3, a4, a5, s1, s2, h0, _⟩ := recF_all hc
  rw [h0, recB_eq h0]
  clear hc h0
  have hk6 : rk = 1 ∨ rk = 2 ∨ rk = 3 ∨ rk = 4 ∨ rk = 5 ∨ rk = 6 := by omega
  rcases hk6 with rfl | rfl | rfl | rfl | rfl | rfl
  all_goals
    first | rw [rrow1] | rw [rrow2] | rw [rrow3] | rw [rrow4] | rw [rrow5] | rw [rrow6]
    (repeat' (first | with_reducible refine rcond_t rfl ?_ | with_reducible refine rcond_f rfl ?_ | with_reducible refine And.intro ?_ ?_ | fail))
    all_goals first
      | (unfold pGe0; omega)
      | (simp only [pLt, decide_eq_true_eq]; omega)
      | decide
      | (refine nle ?_; simp [pLen, pApp, txB_len, bN_len, bitB_len, pNat]; done)
      | (simp [pIn, pLen, recordsT]; done)
      | (simp only [recBR, optB, cond_true, cond_false]; simp [pApp, bN_1, wrap_u8]; done)
      | skip
  · unfold pGe0 pInt pLen; exact Int.natCast_nonneg _
  · unfold pLt pInt pLen; exact decide_eq_true (by omega)
  · refine ⟨0, Nat.zero_le _, ?_⟩
    simp [pApp, recHead, numsB, pLen]
  · rintro y ⟨j, hj, rfl⟩
    simp only
    refine bif_ok (fun h => ?_) fun h => ?_
    · have hjl : j < rl.length := of_decide_eq_true ((pLt_coe (k := j) (n := rl.length)).symm.trans h)
      have e1 : pAdd .i64 (j : Int) 1 = ((j + 1 : Nat) : Int) := pAdd1 (by omega)
      obtain ⟨q1, q2⟩ := s2 j hjl
      rw [e1, pNat_coe, bN_1]
      refine ⟨pIn_coe.2 hjl, q1, decide_eq_true (Int.lt_of_lt_of_le q2 (by decide)), by decide, nle ?_, ⟨j + 1, hjl, ?_⟩, Nat.le_of_eq ?_⟩
      · show (recHead 3 rs rn rl ++ numsB (rl.take j) : List ByteD).length < 1000000
        rw [List.length_append, recHead_len, numsB_len, List.length_take]; omega
      · rw [numsB_step hjl]
        unfold pApp
        rw [List.append_assoc]
      · unfold encSMu
        simp only [Int.toNat_natCast]
        omega
    · have hjl : ¬ j < rl.length := of_decide_eq_false ((pLt_coe (k := j) (n := rl.length)).symm.trans h)
      have : j = rl.length := by omega
      subst this
      rw [List.take_of_length_le (Nat.le_refl _)]
      simp only [recBR, optB, cond_true, cond_false]
      simp [recHead]
      rfl

end Go.Proofs.YtkimjjndbcbiaaaDoor
