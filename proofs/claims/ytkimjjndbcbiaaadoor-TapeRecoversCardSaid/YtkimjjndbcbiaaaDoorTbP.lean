/- Tapes: Append and Recover meet their contracts, the document's too. No condition. -/
import Derived.Test.YtkimjjndbcbiaaaDoorTbV
import Derived.Test.YtkimjjndbcbiaaaDoorSaP
import Derived.Test.YtkimjjndbcbiaaaDoorWrP
import Derived.Test.YtkimjjndbcbiaaaDoorWoQ
namespace Go.Proofs.YtkimjjndbcbiaaaDoor
open Go.RowKit

theorem recB_len {cn : Int} {cl : List LabD} {cp rk rs rn ry rv ra : Int} {rd : Bool} {rl : List NumD} (h : pNe (recF (cn, cl, cp, ()) (rk, rs, rn, ry, rv, ra, rd, rl, ())) 0 = false) :
    (recB (cn, cl, cp, ()) (rk, rs, rn, ry, rv, ra, rd, rl, ())).length ≤ 100 := by
  obtain ⟨hk, h4, a1, a2, a3, a4, a5, s1, s2, h0, _⟩ := recF_all h
  rw [recB_eq h0]
  have hk6 : rk = 1 ∨ rk = 2 ∨ rk = 3 ∨ rk = 4 ∨ rk = 5 ∨ rk = 6 := by omega
  rcases hk6 with rfl | rfl | rfl | rfl | rfl | rfl
  all_goals
    first | rw [rrow1] | rw [rrow2] | rw [rrow3] | rw [rrow4] | rw [rrow5] | rw [rrow6]
    simp [recBR, optB, bN_len, txB_len, bitB_len, numsB_len, pNat] <;> omega
theorem opD_ok {d : List ByteD} {n : Int} (h : tapeOk d n = true) : opD d n = d := by unfold opD; rw [h]; rfl
theorem opN_ok {d : List ByteD} {n : Int} (h : tapeOk d n = true) : opN d n = n := by unfold opN; rw [h]; rfl
theorem tape_no {c : CfgD} {d : List ByteD} {n : Int} {r : RecD} (h : tapeOk d n = false) : tapeE c d n r = 9 ∧ tapeO c d n r = ([], 0, ()) := by
  have e : tapeE c d n r = 9 := by unfold tapeE; rw [h]; rfl
  exact ⟨e, by unfold tapeO; rw [e]; rfl⟩
theorem tape_rec {c : CfgD} {d : List ByteD} {n : Int} {r : RecD} (h : tapeOk d n = true) (h2 : pNe (recF c r) 0 = true) : tapeE c d n r = recF c r ∧ tapeO c d n r = ([], 0, ()) := by
  have h3 : pEq (recF c r) 0 = false := by simpa [pNe, pEq] using h2
  have e : tapeE c d n r = recF c r := by unfold tapeE; rw [h, h3]; rfl
  exact ⟨e, by unfold tapeO; rw [e, h3]; rfl⟩
theorem tape_full {c : CfgD} {d : List ByteD} {n : Int} {r : RecD} (h : tapeOk d n = true) (h2 : pNe (recF c r) 0 = false) (h4 : ¬ d.length + 1 + (recB c r).length ≤ 6000) : tapeE c d n r = 8 ∧ tapeO c d n r = ([], 0, ()) := by
  have h3 : pEq (recF c r) 0 = true := by simpa [pNe, pEq] using h2
  have e : tapeE c d n r = 8 := by unfold tapeE; rw [h, h3, decide_eq_false h4]; rfl
  exact ⟨e, by unfold tapeO; rw [e]; rfl⟩
theorem tape_good {c : CfgD} {d : List ByteD} {n : Int} {r : RecD} (h : tapeOk d n = true) (h2 : pNe (recF c r) 0 = false) (h4 : d.length + 1 + (recB c r).length ≤ 6000) : tapeE c d n r = 0 ∧ tapeO c d n r = (tapeB c d r, n, ()) := by
  have h3 : pEq (recF c r) 0 = true := by simpa [pNe, pEq] using h2
  have e : tapeE c d n r = 0 := by unfold tapeE; rw [h, h3, decide_eq_true h4]; rfl
  exact ⟨e, by unfold tapeO; rw [e]; rfl⟩
theorem join3 (d b : List ByteD) (x : ByteD) : joinF [(d, ()), ([x], ()), (b, ())] = d ++ (x :: b) := by simp [joinF]

theorem tAppend_ok : Meets Tryd.prog tabsR 31 ctAppend := tAppend_meets topen_ok.any EncodeRecord_ok concat_ok.any fun cn cl cp td tn rk rs rn ry rv ra rd rl hp => by
  have hl : cl.length < 4611686018427387904 := (hp _ List.mem_cons_self)
  have hr : rl.length < 4611686018427387904 := (hp _ (List.mem_cons_of_mem _ List.mem_cons_self))
  have ht : td.length < 4611686018427387904 := (hp _ (List.mem_cons_of_mem _ (List.mem_cons_of_mem _ List.mem_cons_self)))
  have hm : pRoom (pLen td) 1 := (hp _ (List.mem_cons_of_mem _ (List.mem_cons_of_mem _ (List.mem_cons_of_mem _ List.mem_cons_self))))
  clear hp
  unfold tAppend_VC
  refine ⟨ht, hm, bif_ok (fun h => ?_) fun h => ⟨hl, hr, bif_ok (fun h2 => ?_) fun h2 => ?_⟩⟩
  · have h : tapeOk td tn = false := by simpa [pNot] using h
    rw [(tape_no h).1, (tape_no h).2]
  · have h : tapeOk td tn = true := by simpa [pNot] using h
    rw [(tape_rec h h2).1, (tape_rec h h2).2]
  · have h : tapeOk td tn = true := by simpa [pNot] using h
    have hb := recB_len h2
    have hd := (tapeOk_iff.1 h).1
    rw [opD_ok h, opN_ok h]
    have e : pAdd .i64 (pAdd .i64 (pInt (pLen td)) 1) (pInt (pLen (recB (cn, cl, cp, ()) (rk, rs, rn, ry, rv, ra, rd, rl, ())))) = ((td.length + 1 + (recB (cn, cl, cp, ()) (rk, rs, rn, ry, rv, ra, rd, rl, ())).length : Nat) : Int) := by
      unfold pInt pLen
      rw [pAdd_in (a := (td.length : Int)) (by omega), pAdd_in (by omega)]
      omega
    rw [e]
    refine bif_ok (fun h3 => ?_) fun h3 => ?_
    · have h3 : ¬ td.length + 1 + (recB (cn, cl, cp, ()) (rk, rs, rn, ry, rv, ra, rd, rl, ())).length ≤ 6000 := by
        have : ((td.length + 1 + (recB (cn, cl, cp, ()) (rk, rs, rn, ry, rv, ra, rd, rl, ())).length : Nat) : Int) > 6000 := of_decide_eq_true h3
        omega
      rw [(tape_full h h2 h3).1, (tape_full h h2 h3).2]
    · have h3 : td.length + 1 + (recB (cn, cl, cp, ()) (rk, rs, rn, ry, rv, ra, rd, rl, ())).length ≤ 6000 := by
        have : ¬ ((td.length + 1 + (recB (cn, cl, cp, ()) (rk, rs, rn, ry, rv, ra, rd, rl, ())).length : Nat) : Int) > 6000 := of_decide_eq_false h3
        omega
      rw [(tape_good h h2 h3).1, (tape_good h h2 h3).2, join3]
      refine ⟨nle (by simp [pLen]), nle ?_, rfl⟩
      show (td ++ _ :: recB _ _).length < 1000000
      rw [List.length_append, List.length_cons]; omega

theorem TapeAppended_ok : Meets Tryd.prog tabsR 32 cTapeAppended := TapeAppended_meets tMay_ok.any RecordBytes_ok.any joined_ok.any fun cn cl cp td tn rk rs rn ry rv ra rd rl hp => by
  have hl : cl.length < 4611686018427387904 := (hp _ List.mem_cons_self)
  have hr : rl.length < 4611686018427387904 := (hp _ (List.mem_cons_of_mem _ List.mem_cons_self))
  have ht : td.length < 4611686018427387904 := (hp _ (List.mem_cons_of_mem _ (List.mem_cons_of_mem _ List.mem_cons_self)))
  clear hp
  unfold TapeAppended_VC
  refine ⟨ht, bif_ok (fun h => ?_) fun h => ⟨hl, hr, bif_ok (fun h2 => ?_) fun h2 => ?_⟩⟩
  · have h : tapeOk td tn = false := by simpa [pNot] using h
    rw [(tape_no h).1, (tape_no h).2]
  · have h : tapeOk td tn = true := by simpa [pNot] using h
    rw [(tape_rec h h2).1, (tape_rec h h2).2]
  · have h : tapeOk td tn = true := by simpa [pNot] using h
    have hb := recB_len h2
    have hd := (tapeOk_iff.1 h).1
    rw [join3]
    have e : (td ++ (pWrap .u8 (pInt (pLen (recB (cn, cl, cp, ()) (rk, rs, rn, ry, rv, ra, rd, rl, ())))), ()) :: recB (cn, cl, cp, ()) (rk, rs, rn, ry, rv, ra, rd, rl, ())).length = td.length + 1 + (recB (cn, cl, cp, ()) (rk, rs, rn, ry, rv, ra, rd, rl, ())).length := by
      rw [List.length_append, List.length_cons]; omega
    refine ⟨nle (by simp [pLen]), nle ?_, bif_ok (fun h3 => ?_) fun h3 => ?_⟩
    · show List.length _ < _
      rw [e]; omega
    · have h3 : ¬ td.length + 1 + (recB (cn, cl, cp, ()) (rk, rs, rn, ry, rv, ra, rd, rl, ())).length ≤ 6000 := by
        have : ((List.length _ : Nat) : Int) > 6000 := of_decide_eq_true h3
        rw [e] at this
        omega
      rw [(tape_full h h2 h3).1, (tape_full h h2 h3).2]
    · have h3 : td.length + 1 + (recB (cn, cl, cp, ()) (rk, rs, rn, ry, rv, ra, rd, rl, ())).length ≤ 6000 := by
        have : ¬ ((List.length _ : Nat) : Int) > 6000 := of_decide_eq_false h3
        rw [e] at this
        omega
      rw [(tape_good h h2 h3).1, (tape_good h h2 h3).2]
      rfl

/- RECORDS THAT ARE FOUND -/
theorem labE_five {l : List LabD} {k : Nat} (h : labE l k = 5) : False := by
  unfold labE at h
  cases hx : labF (pGet tyLab l k) <;> cases hy : allUpto (fun j => !eqLabAt l j k) k <;> rw [hx] at h <;> (try rw [hy] at h) <;> cases h
theorem firstE_five {l : List LabD} {n : Nat} (h : firstE (labE l) n = 5) : False := by
  unfold firstE at h
  split at h
  · exact labE_five h
  · cases h
theorem cfgF_five {c : CfgD} (h : cfgF c = 5) : False := by
  have h0 : pNe (cfgF c) 0 = true := by rw [h]; rfl
  unfold cfgF at h
  cases h1 : inF c.1 1 4 with
  | false => rw [h1] at h; cases h
  | true =>
    rw [h1] at h
    cases h2 : inF (pInt c.2.1.length) 1 6 with
    | false => rw [h2] at h; cases h
    | true =>
      rw [h2] at h
      cases hq : pEq (firstE (labE c.2.1) c.2.1.length) 0 with
      | false => rw [hq] at h; exact firstE_five (l := c.2.1) h
      | true =>
        rw [hq] at h
        cases h3 : inF c.2.2.1 1 1048576 <;> rw [h3] at h <;> cases h
theorem recOE_nil {c : CfgD} (h : pNe (cfgF c) 0 = false) : recOE c [] = 5 := by
  have h1 : pEq (cfgF c) 0 = true := by simpa [pNe, pEq] using h
  unfold recOE
  rw [h1]
  rfl
theorem recv_no {c : CfgD} {d : List ByteD} {n : Int} (h : tapeOk d n = false) : recvE c d n = 9 ∧ recvO c d n = [] ∧ recvT c d n = ([], 0, ()) := by
  have e : recvE c d n = 9 := by unfold recvE; rw [h]; rfl
  exact ⟨e, by unfold recvO; rw [e]; rfl, by unfold recvT; rw [e]; rfl⟩
theorem recv_cfg {c : CfgD} {d : List ByteD} {n : Int} (h : tapeOk d n = true) (h2 : pNe (cfgF c) 0 = true) : recvE c d n = cfgF c ∧ recvO c d n = [] ∧ recvT c d n = ([], 0, ()) := by
  have h3 : pEq (cfgF c) 0 = false := by simpa [pNe, pEq] using h2
  have e : recvE c d n = cfgF c := by unfold recvE; rw [h]; rfl
  exact ⟨e, by unfold recvO; rw [e, h3]; rfl, by unfold recvT; rw [e, h3]; rfl⟩
theorem recv_good {c : CfgD} {d : List ByteD} {n : Int} (h : tapeOk d n = true) (h2 : pNe (cfgF c) 0 = false) : recvE c d n = 0 ∧ recvO c d n = (recEnd c d).2 ∧ recvT c d n = (d.take (recEnd c d).1, pMin n (pInt (recEnd c d).1), ()) := by
  have h3 : cfgF c = 0 := by simpa [pNe, pEq] using h2
  have e : recvE c d n = 0 := by unfold recvE; rw [h]; exact h3
  exact ⟨e, by unfold recvO; rw [e]; rfl, by unfold recvT; rw [e]; rfl⟩
theorem recRun_stop {c : CfgD} {d : List ByteD} {y : Nat × List RecD} (h : recGo c d y.1 = false) : ∀ f, recRun c d f y = y
  | 0 => rfl
  | f + 1 => by show cond (recGo c d y.1) _ y = y; rw [h]; rfl
theorem recRun_go {c : CfgD} {d : List ByteD} {k : Nat} {l : List RecD} (h : recGo c d k = true) (f : Nat) : recRun c d (f + 1) (k, l) = recRun c d f (recNext d k, l ++ [recO c (recSub d k)]) := by
  show cond (recGo c d k) _ _ = _; rw [h]; rfl
theorem okB_sub {d : List ByteD} (hb : okB d) (l h : Nat) : okB (pSub d l h) := fun q hq => hb q (List.mem_of_mem_take (List.mem_of_mem_drop hq))
theorem len_sub (d : List ByteD) (l h : Nat) : (pSub d l h).length ≤ d.length := by
  unfold pSub; rw [List.length_drop, List.length_take]; omega

set_option maxHeartbeats 4000000 in
theorem tRecover_ok : Meets Tryd.prog tabsR 34 ctRecover := tRecover_meets topenR_ok.any DecodeRecord_ok fun cn cl cp td tn hp => by
  have hl : cl.length < 4611686018427387904 := (hp _ List.mem_cons_self)
  have ht : td.length < 4611686018427387904 := (hp _ (List.mem_cons_of_mem _ List.mem_cons_self))
  have hb : okB td := (hp _ (List.mem_cons_of_mem _ (List.mem_cons_of_mem _ List.mem_cons_self)))
  have hm : pRoom (pLen td) 1 := (hp _ (List.mem_cons_of_mem _ (List.mem_cons_of_mem _ (List.mem_cons_of_mem _ List.mem_cons_self))))
  clear hp
  unfold tRecover_VC
  refine ⟨ht, hm, bif_ok (fun h => ?_) fun h => ⟨hl, fun q hq => by (cases hq), (by unfold pRoom pLen; simp), bif_ok (fun h2 => ?_) fun h2 => ?_⟩⟩
  · have h : tapeOk td tn = false := by simpa [pNot] using h
    obtain ⟨e1, e2, e3⟩ := recv_no (c := (cn, cl, cp, ())) h
    rw [e1, e2, e3]
  · have h : tapeOk td tn = true := by simpa [pNot] using h
    cases hc : pNe (cfgF (cn, cl, cp, ())) 0 with
    | false => rw [recOE_nil hc] at h2; cases h2
    | true =>
      obtain ⟨e1, e2, e3⟩ := recv_cfg (c := (cn, cl, cp, ())) h hc
      rw [e1, e2, e3, (recO_cfg hc).1]
  · have h : tapeOk td tn = true := by simpa [pNot] using h
    have hc : pNe (cfgF (cn, cl, cp, ())) 0 = false := by
      cases hc : pNe (cfgF (cn, cl, cp, ())) 0 with
      | false => rfl
      | true =>
        exfalso
        rw [(recO_cfg hc).1] at h2
        have h5 : cfgF (cn, cl, cp, ()) = 5 := by simpa [pNe] using h2
        exact cfgF_five h5
    obtain ⟨e1, e2, e3⟩ := recv_good (c := (cn, cl, cp, ())) h hc
    rw [e1, e2, e3, opD_ok h, opN_ok h]
    have hd := (tapeOk_iff.1 h).1
    refine ⟨⟨0, td.length, Nat.zero_le _, by omega, rfl, Nat.zero_le _, rfl⟩, fun y hy => ?_⟩
    obtain ⟨k, f, hk, hkf, hy1, hy2, hrun⟩ := hy
    obtain ⟨y1, y2, u⟩ := y
    have hy1 : y1 = (k : Int) := hy1
    subst hy1
    have hy2 : y2.length ≤ k := hy2
    have hrun : recRun (cn, cl, cp, ()) td f (k, y2) = recEnd (cn, cl, cp, ()) td := hrun
    have fin : recGo (cn, cl, cp, ()) td k = false → (y2, (pSub td 0 (pNat (k : Int)), pMin tn (k : Int), ()), (0 : Int), ()) = ((recEnd (cn, cl, cp, ()) td).2, (td.take (recEnd (cn, cl, cp, ()) td).1, pMin tn (pInt (recEnd (cn, cl, cp, ()) td).1), ()), (0 : Int), ()) := fun hg => by
      rw [← hrun, recRun_stop (y := (k, y2)) hg, pNat_coe]
      rfl
    have toK : pTo (k : Int) (pLen td) := ⟨Int.natCast_nonneg _, by unfold pLen; omega⟩
    simp only
    refine bif_ok (fun h4 => ?_) fun h4 => ?_
    · have hkl : k < td.length := of_decide_eq_true ((pLt_coe (k := k) (n := td.length)).symm.trans h4)
      have hg : (pGet tyB td k).1 = byteAt td k := rfl
      obtain ⟨b1, b2⟩ := byteAt_ok hb hkl
      have w1 : pWrap .i64 (byteAt td k) = byteAt td k := Go.IntWalk.i64_in _ (by omega)
      have a1 : pAdd .i64 (k : Int) 1 = ((k + 1 : Nat) : Int) := pAdd1 (by omega)
      have n1 : ((recNext td k : Nat) : Int) = (k : Int) + 1 + byteAt td k := by unfold recNext; omega
      have a2 : pAdd .i64 ((k + 1 : Nat) : Int) (byteAt td k) = ((recNext td k : Nat) : Int) := by rw [pAdd_in (by omega)]; omega
      have a3 : pAdd .i64 (k : Int) (pAdd .i64 1 (byteAt td k)) = ((recNext td k : Nat) : Int) := by rw [pAdd_in (a := (1 : Int)) (by omega), pAdd_in (by omega)]; omega
      rw [pNat_coe, hg, w1, a1, a2, a3, pNat_coe, pNat_coe]
      refine ⟨pIn_coe.2 hkl, bif_ok (fun h5 => ?_) fun h5 => ?_⟩
      · have h5 : ((recNext td k : Nat) : Int) > (td.length : Int) := of_decide_eq_true h5
        refine ⟨toK, trivial, fin ?_⟩
        unfold recGo
        rw [decide_eq_false (show ¬ recNext td k ≤ td.length by omega), Bool.and_false, Bool.false_and]
      · have h5 : ¬ ((recNext td k : Nat) : Int) > (td.length : Int) := of_decide_eq_false h5
        refine ⟨⟨Int.natCast_nonneg _, by unfold pLen; omega⟩, ⟨Int.natCast_nonneg _, by unfold recNext; omega⟩, hl, okB_sub hb _ _, ?_, bif_ok (fun h6 => ?_) fun h6 => ?_⟩
        · have := len_sub td (k + 1) (recNext td k)
          unfold pRoom pLen; omega
        · refine ⟨toK, trivial, fin ?_⟩
          have h6 : pNe (recOE (cn, cl, cp, ()) (recSub td k)) 0 = true := h6
          unfold recGo
          rw [show pEq (recOE (cn, cl, cp, ()) (recSub td k)) 0 = false by simpa [pNe, pEq] using h6, Bool.and_false]
        · have h6 : pNe (recOE (cn, cl, cp, ()) (recSub td k)) 0 = false := h6
          have hg : recGo (cn, cl, cp, ()) td k = true := by
            unfold recGo
            rw [show pEq (recOE (cn, cl, cp, ()) (recSub td k)) 0 = true by simpa [pNe, pEq] using h6, decide_eq_true hkl, decide_eq_true (show recNext td k ≤ td.length by omega)]
            rfl
          have hnk : k < recNext td k := by unfold recNext; omega
          cases f with
          | zero => omega
          | succ f =>
            rw [recRun_go hg] at hrun
            refine ⟨?_, ⟨recNext td k, f, by omega, by omega, rfl, ?_, hrun⟩, ?_⟩
            · show (y2.length + 1) * 80 ≤ 140737488351232
              omega
            · show (y2 ++ [_]).length ≤ recNext td k
              rw [List.length_append, List.length_singleton]; omega
            · show (td.length - ((recNext td k : Nat) : Int).toNat) + 1 ≤ td.length - ((k : Nat) : Int).toNat
              simp only [Int.toNat_natCast]
              omega
    · have hkl : ¬ k < td.length := of_decide_eq_false ((pLt_coe (k := k) (n := td.length)).symm.trans h4)
      refine ⟨toK, trivial, fin ?_⟩
      unfold recGo
      rw [decide_eq_false hkl, Bool.false_and, Bool.false_and]

theorem join1 (d : List ByteD) : joinF [(d, ())] = d := by simp [joinF]
set_option maxHeartbeats 4000000 in
theorem TapeRecovered_ok : Meets Tryd.prog tabsR 35 cTapeRecovered := TapeRecovered_meets tMay_ok.any cFault_ok.any RecordOf_ok.any joined_ok.any fun cn cl cp td tn hp => by
  have hl : cl.length < 4611686018427387904 := (hp _ List.mem_cons_self)
  have ht : td.length < 4611686018427387904 := (hp _ (List.mem_cons_of_mem _ List.mem_cons_self))
  have hb : okB td := (hp _ (List.mem_cons_of_mem _ (List.mem_cons_of_mem _ List.mem_cons_self)))
  clear hp
  unfold TapeRecovered_VC
  refine ⟨ht, bif_ok (fun h => ?_) fun h => ⟨hl, bif_ok (fun h2 => ?_) fun hc => ?_⟩⟩
  · have h : tapeOk td tn = false := by simpa [pNot] using h
    obtain ⟨e1, e2, e3⟩ := recv_no (c := (cn, cl, cp, ())) h
    rw [e1, e2, e3]
  · have h : tapeOk td tn = true := by simpa [pNot] using h
    obtain ⟨e1, e2, e3⟩ := recv_cfg (c := (cn, cl, cp, ())) h h2
    rw [e1, e2, e3]
  · have h : tapeOk td tn = true := by simpa [pNot] using h
    obtain ⟨e1, e2, e3⟩ := recv_good (c := (cn, cl, cp, ())) h hc
    rw [e1, e2, e3]
    have hd := (tapeOk_iff.1 h).1
    refine ⟨⟨0, td.length, Nat.zero_le _, by omega, rfl, Nat.zero_le _, rfl⟩, fun y hy => ?_⟩
    obtain ⟨k, f, hk, hkf, hy1, hy2, hrun⟩ := hy
    obtain ⟨y1, y2, u⟩ := y
    have hy1 : y1 = (k : Int) := hy1
    subst hy1
    have hy2 : y2.length ≤ k := hy2
    have hrun : recRun (cn, cl, cp, ()) td f (k, y2) = recEnd (cn, cl, cp, ()) td := hrun
    have toK : pTo (k : Int) (pLen td) := ⟨Int.natCast_nonneg _, by unfold pLen; omega⟩
    simp only [pNat_coe]
    rw [join1]
    have hlt : Nat.le (Nat.succ (pLen (pSub td 0 k))) 1000000 := nle (by have := len_sub td 0 k; unfold pLen; omega)
    have hl1 : Nat.le (Nat.succ (pLen [(pSub td 0 k, ())])) 1000000 := nle (by simp [pLen])
    have fin : recGo (cn, cl, cp, ()) td k = false → bif pGt tn (k : Int) then (pTo (k : Int) (pLen td) ∧ Nat.le (Nat.succ (pLen [(pSub td 0 k, ())])) 1000000 ∧ Nat.le (Nat.succ (pLen (pSub td 0 k))) 1000000 ∧
        (y2, (pSub td 0 k, (k : Int), ()), (0 : Int), ()) = ((recEnd (cn, cl, cp, ()) td).2, (td.take (recEnd (cn, cl, cp, ()) td).1, pMin tn (pInt (recEnd (cn, cl, cp, ()) td).1), ()), (0 : Int), ())) else
        (pTo (k : Int) (pLen td) ∧ Nat.le (Nat.succ (pLen [(pSub td 0 k, ())])) 1000000 ∧ Nat.le (Nat.succ (pLen (pSub td 0 k))) 1000000 ∧
        (y2, (pSub td 0 k, tn, ()), (0 : Int), ()) = ((recEnd (cn, cl, cp, ()) td).2, (td.take (recEnd (cn, cl, cp, ()) td).1, pMin tn (pInt (recEnd (cn, cl, cp, ()) td).1), ()), (0 : Int), ())) := fun hg => by
      rw [← hrun, recRun_stop (y := (k, y2)) hg]
      refine bif_ok (fun h7 => ⟨toK, hl1, hlt, ?_⟩) fun h7 => ⟨toK, hl1, hlt, ?_⟩
      · have h7 : tn > (k : Int) := of_decide_eq_true h7
        have : pMin tn (pInt k) = (k : Int) := by unfold pMin; exact if_pos h7
        simp only [this]
        rfl
      · have h7 : ¬ tn > (k : Int) := of_decide_eq_false h7
        have : pMin tn (pInt k) = tn := by unfold pMin; exact if_neg h7
        simp only [this]
        rfl
    refine bif_ok (fun h4 => ?_) fun h4 => ?_
    · have hkl : k < td.length := of_decide_eq_true ((pLt_coe (k := k) (n := td.length)).symm.trans h4)
      have hg : (pGet tyB td k).1 = byteAt td k := rfl
      obtain ⟨b1, b2⟩ := byteAt_ok hb hkl
      have w1 : pWrap .i64 (byteAt td k) = byteAt td k := Go.IntWalk.i64_in _ (by omega)
      have a1 : pAdd .i64 (k : Int) 1 = ((k + 1 : Nat) : Int) := pAdd1 (by omega)
      have n1 : ((recNext td k : Nat) : Int) = (k : Int) + 1 + byteAt td k := by unfold recNext; omega
      have a2 : pAdd .i64 ((k + 1 : Nat) : Int) (byteAt td k) = ((recNext td k : Nat) : Int) := by rw [pAdd_in (by omega)]; omega
      rw [hg, w1, a1, a2, pNat_coe, pNat_coe]
      refine ⟨pIn_coe.2 hkl, bif_ok (fun h5 => ?_) fun h5 => ?_⟩
      · have h5 : ((recNext td k : Nat) : Int) > (td.length : Int) := of_decide_eq_true h5
        refine fin ?_
        unfold recGo
        rw [decide_eq_false (show ¬ recNext td k ≤ td.length by omega), Bool.and_false, Bool.false_and]
      · have h5 : ¬ ((recNext td k : Nat) : Int) > (td.length : Int) := of_decide_eq_false h5
        refine ⟨⟨Int.natCast_nonneg _, by unfold pLen; omega⟩, ⟨Int.natCast_nonneg _, by unfold recNext; omega⟩, hl, okB_sub hb _ _, nle ?_, bif_ok (fun h6 => ?_) fun h6 => ?_⟩
        · have := len_sub td (k + 1) (recNext td k)
          unfold pLen; omega
        · refine fin ?_
          have h6 : pNe (recOE (cn, cl, cp, ()) (recSub td k)) 0 = true := h6
          unfold recGo
          rw [show pEq (recOE (cn, cl, cp, ()) (recSub td k)) 0 = false by simpa [pNe, pEq] using h6, Bool.and_false]
        · have h6 : pNe (recOE (cn, cl, cp, ()) (recSub td k)) 0 = false := h6
          have hg : recGo (cn, cl, cp, ()) td k = true := by
            unfold recGo
            rw [show pEq (recOE (cn, cl, cp, ()) (recSub td k)) 0 = true by simpa [pNe, pEq] using h6, decide_eq_true hkl, decide_eq_true (show recNext td k ≤ td.length by omega)]
            rfl
          have hnk : k < recNext td k := by unfold recNext; omega
          cases f with
          | zero => omega
          | succ f =>
            rw [recRun_go hg] at hrun
            refine ⟨?_, ⟨recNext td k, f, by omega, by omega, rfl, ?_, hrun⟩, ?_⟩
            · show (y2.length + 1) * 80 ≤ 140737488351232
              omega
            · show (y2 ++ [_]).length ≤ recNext td k
              rw [List.length_append, List.length_singleton]; omega
            · show (td.length - ((recNext td k : Nat) : Int).toNat) + 1 ≤ td.length - ((k : Nat) : Int).toNat
              simp only [Int.toNat_natCast]
              omega
    · have hkl : ¬ k < td.length := of_decide_eq_false ((pLt_coe (k := k) (n := td.length)).symm.trans h4)
      refine fin ?_
      unfold recGo
      rw [decide_eq_false hkl, Bool.false_and, Bool.false_and]

/- how many numbers of sites a record has -/
theorem sitS_len : ∀ (n : Nat) (s : RdS), (sitS s n).1.length ≤ n
  | 0, _ => Nat.le_refl _
  | n + 1, s => by
    show (cond (pEq s.2 0) (((takeN s.1 1, ()) :: (sitS (stepS s 1) n).1), (sitS (stepS s 1) n).2) ([], s)).1.length ≤ n + 1
    cases pEq s.2 0
    · exact Nat.zero_le _
    · have := sitS_len n (stepS s 1)
      show ((_ : NumD) :: (sitS (stepS s 1) n).1).length ≤ n + 1
      rw [List.length_cons]; omega
theorem okB_takeS {s : RdS} {k : Int} (h : okB s.1) : okB (stepS s k).1 := okB_takeR h
theorem rS7_ok {p : PartsD} {b : List ByteD} (h : okB b) : okB (rS7 p b).1 := by
  have h3 : okB (rS3 b).1 := okB_takeR (okB_takeR (okB_takeR h))
  unfold rS7
  have opt : ∀ (q : Bool) (k : Int) (s : RdS), okB s.1 → okB (optS q k s).1 := fun q k s hs => by
    unfold optS
    cases q
    · exact hs
    · exact okB_takeR hs
  have bit : ∀ (q : Bool) (s : RdS), okB s.1 → okB (bitS q s).1 := fun q s hs => by
    unfold bitS
    cases q
    · exact hs
    · exact okB_takeR hs
  refine bit _ _ ?_
  unfold rS6 rS5 rS4
  repeat' (first | exact h3 | refine opt _ _ _ ?_)
theorem recO_sites {c : CfgD} {b : List ByteD} (h : okB b) : (recO c b).2.2.2.2.2.2.2.1.length ≤ 255 := by
  unfold recO
  cases pEq (recOE c b) 0
  · exact Nat.zero_le _
  · show (rSit (recPart b) b).1.length ≤ 255
    unfold rSit
    cases (recPart b).2.2.2.2.2.2.2.1
    · exact Nat.zero_le _
    · have h7 := takeN1 (rS7_ok (p := recPart b) h)
      have := sitS_len (pNat (takeN (rS7 (recPart b) b).1 1)) (stepS (rS7 (recPart b) b) 1)
      refine Nat.le_trans this ?_
      unfold pNat; omega
theorem recRun_all {c : CfgD} {d : List ByteD} (h : okB d) : ∀ (f : Nat) (y : Nat × List RecD), (∀ q ∈ y.2, q.2.2.2.2.2.2.2.1.length ≤ 255) → (∀ q ∈ (recRun c d f y).2, q.2.2.2.2.2.2.2.1.length ≤ 255) ∧ (recRun c d f y).2.length ≤ y.2.length + f
  | 0, y, hy => ⟨hy, Nat.le_refl _⟩
  | f + 1, y, hy => by
    show (∀ q ∈ (cond (recGo c d y.1) (recRun c d f (recNext d y.1, y.2 ++ [recO c (recSub d y.1)])) y).2, _) ∧ (cond (recGo c d y.1) (recRun c d f (recNext d y.1, y.2 ++ [recO c (recSub d y.1)])) y).2.length ≤ _
    cases recGo c d y.1
    · exact ⟨hy, Nat.le_add_right _ _⟩
    · obtain ⟨h1, h2⟩ := recRun_all h f (recNext d y.1, y.2 ++ [recO c (recSub d y.1)]) fun q hq => by
        rcases List.mem_append.1 hq with hq | hq
        · exact hy q hq
        · rw [List.mem_singleton.1 hq]
          exact recO_sites (okB_sub h _ _)
      refine ⟨h1, Nat.le_trans h2 ?_⟩
      rw [List.length_append, List.length_singleton]; omega
theorem recvO_all {c : CfgD} {d : List ByteD} {n : Int} (h : okB d) : (∀ q ∈ recvO c d n, q.2.2.2.2.2.2.2.1.length ≤ 255) ∧ (recvO c d n).length ≤ d.length := by
  unfold recvO recEnd
  cases pEq (recvE c d n) 0
  · exact ⟨fun q hq => absurd hq List.not_mem_nil, Nat.zero_le _⟩
  · have := recRun_all (c := c) h d.length (0, []) fun q hq => absurd hq List.not_mem_nil
    exact ⟨this.1, by simpa using this.2⟩

end Go.Proofs.YtkimjjndbcbiaaaDoor
