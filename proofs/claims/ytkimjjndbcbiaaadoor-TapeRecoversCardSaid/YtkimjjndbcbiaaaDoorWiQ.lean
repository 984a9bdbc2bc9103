/- Bytes of messages and records: the document's functions meet their contracts. No condition. -/
import Derived.Test.YtkimjjndbcbiaaaDoorWiP
namespace Go.Proofs.YtkimjjndbcbiaaaDoor
open Go.RowKit

theorem take_end {t : Ty} {A r : List t.den} {j : Nat} (h : j < r.length) : pApp (A ++ r.take j) [pGet t r j] = A ++ r.take (j + 1) := by
  rw [← take_app h]; unfold pApp; rw [List.append_assoc]
theorem take_room {t : Ty} {A r : List t.den} {j : Nat} {x : t.den} (hj : j < r.length) (h : A.length + r.length < 1000000) : pRoom (pPlus (pLen (A ++ r.take j)) (pLen [x])) 1 := by
  refine room1 ?_
  rw [List.length_append, List.length_take]; omega
def rowB (l : List BsD) (i : Nat) : List ByteD := (pGet tyBs l i).1
theorem joinF_take {l : List BsD} {i : Nat} (h : i < l.length) : joinF (l.take (i + 1)) = joinF (l.take i) ++ rowB l i := by
  have e : rowB l i = l[i].1 := congrArg (fun z : BsD => z.1) (pGet_lt (t := tyBs) h)
  rw [e]
  unfold joinF
  rw [List.take_add_one, List.getElem?_eq_getElem h, List.map_append, List.flatten_append]
  simp
theorem joinF_pre {l : List BsD} {i : Nat} : (joinF (l.take i)).length ≤ (joinF l).length := by
  have : joinF l = joinF (l.take i) ++ joinF (l.drop i) := by
    unfold joinF
    rw [← List.flatten_append, ← List.map_append, List.take_append_drop]
  rw [this, List.length_append]; omega
theorem nle {a b : Nat} (h : a < b) : Nat.le (Nat.succ a) b := h

theorem joined_ok : Meets Tryd.prog (fun _ => none) 46 cjoined := joined_meets fun l hp => by
  have h1 : l.length < 1000000 := (hp _ List.mem_cons_self)
  have h2 : (joinF l).length < 1000000 := (hp _ (List.mem_cons_of_mem _ List.mem_cons_self))
  clear hp
  unfold joined_VC
  refine ⟨⟨0, Nat.zero_le _, rfl⟩, fun y hy => ?_⟩
  obtain ⟨i, hi, rfl⟩ := hy
  simp only
  refine bif_ok (fun h => ?_) fun h => ?_
  · have h : i < l.length := by simpa [pLt_coe, pLen] using h
    have hle := joinF_pre (l := l) (i := i + 1)
    rw [joinF_take h, List.length_append] at hle
    have hpn : pNat (i : Int) = i := pNat_coe i
    refine ⟨⟨0, Nat.zero_le _, by rw [hpn]; exact congrArg (fun z => ((0 : Int), z, ())) (List.append_nil _).symm⟩, fun z hz => ?_⟩
    obtain ⟨j, hj, rfl⟩ := hz
    rw [hpn] at hj ⊢
    refine ⟨pIn_coe.2 h, bif_ok (fun hb => ?_) fun hb => ?_⟩
    · have hjl : j < (pGet tyBs l i).1.length := of_decide_eq_true ((pLt_coe (k := j) (n := (pGet tyBs l i).1.length)).symm.trans hb)
      have hjr : j < (rowB l i).length := hjl
      have e1 : pAdd .i64 (j : Int) 1 = ((j + 1 : Nat) : Int) := pAdd1 (by omega)
      have hpj : pNat (j : Int) = j := pNat_coe j
      have g : pApp (joinF (l.take i) ++ (rowB l i).take j) [pGet tyB (rowB l i) j] = joinF (l.take i) ++ (rowB l i).take (j + 1) := take_end (t := tyB) hjr
      refine ⟨pIn_coe.2 h, pIn_coe.2 hjl, take_room (t := tyB) hjl (show (joinF (l.take i)).length + (rowB l i).length < 1000000 by omega), ⟨j + 1, ?_, ?_⟩, Nat.le_of_eq ?_⟩
      · rw [hpn]; exact hjl
      · rw [e1, hpn]
        simp only [hpj]
        exact congrArg (fun z => (((j + 1 : Nat) : Int), z, ())) g
      · show ((pGet tyBs l (pNat (i : Int))).1.length - (pAdd .i64 (j : Int) 1).toNat) + 1 = (pGet tyBs l (pNat (i : Int))).1.length - ((j : Int)).toNat
        rw [e1, hpn]
        simp only [Int.toNat_natCast]
        omega
    · have hjl : ¬ j < (pGet tyBs l i).1.length := of_decide_eq_false ((pLt_coe (k := j) (n := (pGet tyBs l i).1.length)).symm.trans hb)
      have e1 : pAdd .i64 (i : Int) 1 = ((i + 1 : Nat) : Int) := pAdd1 (by omega)
      rw [e1]
      have hjl' : (rowB l i).length ≤ j := Nat.le_of_not_lt hjl
      have e2 : (rowB l i).take j = rowB l i := List.take_of_length_le hjl'
      refine ⟨⟨i + 1, h, ?_⟩, Nat.le_of_eq (by unfold joiAMu; simp only [Int.toNat_natCast]; omega)⟩
      rw [joinF_take h]
      exact congrArg (fun z => (((i + 1 : Nat) : Int), joinF (l.take i) ++ z, ())) e2
  · have h : ¬ i < l.length := by simpa [pLt_coe, pLen] using h
    have : i = l.length := by omega
    subst this
    rw [List.take_of_length_le (Nat.le_refl _)]
    rfl

theorem txB_len (s n : Int) : (txB s n).length = 4 := by simp [txB, bN_len, pNat]
theorem bitB_len (d : Bool) : (bitB d).length = 1 := by simp [bitB, bN_len, pNat]
theorem bN_1 (n : Int) : bN n 1 = [(n % 256, ())] := by simp [bN, pNat]
theorem wrap_u8 (n : Int) : pWrap .u8 n = n % 256 := u8_wrap n

theorem txnBytes_ok : Meets Tryd.prog (fun _ => none) 47 ctxnBytes := txnBytes_meets bytesOf_ok joined_ok fun ts tn hp => by
  have h1 : 0 ≤ ts := (hp _ List.mem_cons_self)
  have h2 : pLt ts 256 = true := (hp _ (List.mem_cons_of_mem _ List.mem_cons_self))
  have h3 : 0 ≤ tn := (hp _ (List.mem_cons_of_mem _ (List.mem_cons_of_mem _ List.mem_cons_self)))
  have h4 : pLt tn 16777216 = true := (hp _ (List.mem_cons_of_mem _ (List.mem_cons_of_mem _ (List.mem_cons_of_mem _ List.mem_cons_self))))
  clear hp
  have h2' : ts < 256 := by simpa [pLt] using h2
  have h4' : tn < 16777216 := by simpa [pLt] using h4
  unfold txnBytes_VC
  refine ⟨h1, by simp [pLt]; omega, by decide, h3, by simp [pLt]; omega, by decide, nle (by simp [pLen]), nle ?_, ?_⟩
  · simp [pLen, joinF, bN_len, pNat]
  · simp [joinF, txB]

theorem msgF_all {cn : Int} {cl : List LabD} {cp mk mf mt ms mn ml my mv me ma : Int} {md : Bool} {mc : Int} (h : pNe (msgF (cn, cl, cp, ()) (mk, mf, mt, ms, mn, ml, my, mv, me, ma, md, mc, ())) 0 = false) :
    (1 ≤ mk ∧ mk ≤ 9) ∧ (1 ≤ cn ∧ cn ≤ 4) ∧ (0 ≤ mf ∧ mf < cn) ∧ (0 ≤ mt ∧ mt < cn) ∧ (0 ≤ ms ∧ ms < cn) ∧ (1 ≤ mn ∧ mn ≤ 1048576) ∧ (0 ≤ ml ∧ ml < (cl.length : Int)) ∧ (0 ≤ my ∧ my ≤ 7) ∧ (0 ≤ mv ∧ mv ≤ 1073741824) ∧ (0 ≤ me ∧ me ≤ 1048576) ∧ (0 ≤ ma ∧ ma ≤ 1048576) ∧ (0 ≤ mc ∧ mc ≤ 11) ∧ cl.length ≤ 6 ∧
      msgF (cn, cl, cp, ()) (mk, mf, mt, ms, mn, ml, my, mv, me, ma, md, mc, ()) = 0 ∧ msgForm (mk, mf, mt, ms, mn, ml, my, mv, me, ma, md, mc, ()) = true := by
  have h0 : msgF (cn, cl, cp, ()) (mk, mf, mt, ms, mn, ml, my, mv, me, ma, md, mc, ()) = 0 := by simpa [pNe] using h
  have h1 := h0
  unfold msgF at h1
  cases hc : pEq (cfgF (cn, cl, cp, ())) 0 with
  | false => rw [hc, cond_false] at h1; rw [h1] at hc; cases hc
  | true =>
    rw [hc, cond_true] at h1
    have h4 := inF_iff.1 (cfgF_sites4 (c := (cn, cl, cp, ())) (by simpa [pNe, pEq] using hc))
    have hl : cl.length ≤ 6 := by
      cases hq : inF (pInt cl.length) 1 6 with
      | true => have := inF_iff.1 hq; unfold pInt at this; omega
      | false => rw [cfgF_len (c := (cn, cl, cp, ())) (cfgF_sites4 (c := (cn, cl, cp, ())) (by simpa [pNe, pEq] using hc)) hq] at hc; cases hc
    cases hk : inF mk 1 9 with
    | false => simp only [hk, cond_false] at h1; cases h1
    | true =>
      simp only [hk, cond_true] at h1
      cases hr : msgRange (cn, cl, cp, ()) (mk, mf, mt, ms, mn, ml, my, mv, me, ma, md, mc, ()) with
      | false => rw [hr, cond_false] at h1; cases h1
      | true =>
        rw [hr, cond_true] at h1
        cases hf : msgForm (mk, mf, mt, ms, mn, ml, my, mv, me, ma, md, mc, ()) with
        | false => rw [hf, cond_false] at h1; cases h1
        | true =>
          have hk' := inF_iff.1 hk
          have hP : placeF (cn, cl, cp, ()) ml = (pLe 0 ml && pLt ml (cl.length : Int)) := rfl
          unfold msgRange txnF codeF at hr
          simp only [hP, Bool.and_eq_true, Bool.or_eq_true, pLe, pLt, pEq, decide_eq_true_eq, beq_iff_eq, inF, pInt] at hr
          simp only at h4
          refine ⟨hk', h4, ?_, ?_, ?_, ?_, ?_, ?_, ?_, ?_, ?_, ?_, hl, h0, rfl⟩ <;> omega

theorem msgB_eq {cn : Int} {cl : List LabD} {cp mk mf mt ms mn ml my mv me ma : Int} {md : Bool} {mc : Int} (h : msgF (cn, cl, cp, ()) (mk, mf, mt, ms, mn, ml, my, mv, me, ma, md, mc, ()) = 0) :
    msgB (cn, cl, cp, ()) (mk, mf, mt, ms, mn, ml, my, mv, me, ma, md, mc, ()) = msgBR (pGet tyParts messagesT (pNat mk)) (mk, mf, mt, ms, mn, ml, my, mv, me, ma, md, mc, ()) := by
  unfold msgB; rw [h]; rfl

set_option maxHeartbeats 4000000 in
theorem MessageBytes_ok : Meets Tryd.prog (fun _ => none) 17 cMessageBytes := MessageBytes_meets MessageFault_ok joined_ok txnBytes_ok bytesOf_ok bitByte_ok fun cn cl cp mk mf mt ms mn ml my mv me ma md mc hp => by
  have hl : cl.length < 4611686018427387904 := (hp _ List.mem_cons_self)
  clear hp
  unfold MessageBytes_VC
  refine ⟨hl, bif_ok (fun h => ?_) fun hc => ?_⟩
  · have e : msgB (cn, cl, cp, ()) (mk, mf, mt, ms, mn, ml, my, mv, me, ma, md, mc, ()) = [] := by
      unfold msgB; rw [show pEq _ 0 = false by simpa [pNe, pEq] using h]; rfl
    rw [e]
  obtain ⟨hk, h4, a1, a2, a3, a4, a5, a6, a7, a8, a9, a10, hl6, h0, _⟩ := msgF_all hc
  rw [h0, msgB_eq h0]
  clear hc h0
  refine ⟨a3.1, by simp [pLt]; omega, (by unfold pGe0; omega), by simp [pLt]; omega, nle (by simp [pLen]), nle (by simp [pLen, joinF, txB_len]), ?_⟩
  have hk9 : mk = 1 ∨ mk = 2 ∨ mk = 3 ∨ mk = 4 ∨ mk = 5 ∨ mk = 6 ∨ mk = 7 ∨ mk = 8 ∨ mk = 9 := by omega
  rcases hk9 with rfl | rfl | rfl | rfl | rfl | rfl | rfl | rfl | rfl
  all_goals
    (repeat' (first | refine bif_ok (fun h => ?_) (fun h => ?_) | with_reducible refine And.intro ?_ ?_ | fail))
    all_goals first
      | (unfold pGe0; omega)
      | (simp only [pLt, decide_eq_true_eq]; omega)
      | decide
      | (refine nle ?_; simp [pLen]; done)
      | (refine nle ?_; simp [pLen, joinF, txB_len, bN_len, bitB_len, pNat]; done)
      | (simp only [row1, row2, row3, row4, row5, row6, row7, row8, row9, msgBR, optB, cond_true, cond_false]; simp [joinF, bN_1, wrap_u8]; done)
      | (exfalso; simp [pEq] at *; done)
      | skip

theorem recF_cfg {c : CfgD} {r : RecD} (h : pNe (cfgF c) 0 = true) : recF c r = cfgF c := by
  unfold recF; rw [show pEq (cfgF c) 0 = false by simpa [pNe, pEq] using h]; rfl
theorem recF_eq (cn : Int) (cl : List LabD) (cp rk rs rn ry rv ra : Int) (rd : Bool) (rl : List NumD) (r1 r2 r3 r4 r5 r6 r7 r8 : Bool) (hc : pNe (cfgF (cn, cl, cp, ())) 0 = false) (hr : pGet tyParts recordsT (pNat rk) = (r1, r2, r3, r4, r5, r6, r7, r8, ())) :
    recF (cn, cl, cp, ()) (rk, rs, rn, ry, rv, ra, rd, rl, ()) = cond (inF rk 1 6) (cond (txnF (cn, cl, cp, ()) rs rn && inF ry 0 7 && inF rv 0 1073741824 && inF ra 0 1048576 && allUpto (siteAt cn rl) rl.length)
      (cond ((r2 || pEq ry 0) && (r3 || pEq rv 0) && (r5 || pEq ra 0) && (r6 || !rd) && (r8 || pEq (pInt rl.length) 0)) 0 4) 2) 3 := by
  unfold recF recForm
  rw [show pEq (cfgF (cn, cl, cp, ())) 0 = true by simpa [pNe, pEq] using hc]
  simp only [hr, cond_true]
  rfl

theorem rrow1 : pGet tyParts recordsT (pNat 1) = (false, true, true, false, true, false, false, false, ()) := rfl
theorem rrow2 : pGet tyParts recordsT (pNat 2) = (false, false, false, false, false, true, false, false, ()) := rfl
theorem rrow3 : pGet tyParts recordsT (pNat 3) = (false, false, false, false, false, false, false, true, ()) := rfl
theorem rrow4 : pGet tyParts recordsT (pNat 4) = (false, false, false, false, false, false, false, false, ()) := rfl
theorem rrow5 : pGet tyParts recordsT (pNat 5) = (false, false, false, false, false, false, false, false, ()) := rfl
theorem rrow6 : pGet tyParts recordsT (pNat 6) = (false, false, false, false, false, true, false, false, ()) := rfl

theorem gt0_len {α : Type} (l : List α) : pGt (pInt (pLen l)) 0 = !(pEq (pInt l.length) 0) := by
  cases l with
  | nil => rfl
  | cons x l =>
    have h1 : pGt (pInt (pLen (x :: l))) 0 = true := decide_eq_true (show ((l.length + 1 : Nat) : Int) > 0 by omega)
    have h2 : pEq (pInt (x :: l).length) 0 = false := by
      unfold pEq pInt
      rw [beq_eq_false_iff_ne]
      exact fun h => absurd (show ((l.length + 1 : Nat) : Int) = 0 from h) (by omega)
    rw [h1, h2]; rfl
theorem siteAt_ref {cn : Int} {rl : List NumD} {k : Nat} (hk : k < 4611686018427387904) (hc : 1 ≤ cn ∧ cn ≤ 4) : siteAt cn rl k = (inF (pGet tyNum rl k).1 0 (cn - 1) && !(pGt (k : Int) 0 && pLe (pGet tyNum rl k).1 (pGet tyNum rl (k - 1)).1)) := by
  unfold siteAt
  rw [Bool.eq_iff_iff]
  simp only [inF, pLe, pLt, pGt, Bool.and_eq_true, Bool.or_eq_true, Bool.not_eq_true', Bool.and_eq_false_iff, decide_eq_true_eq, decide_eq_false_iff_not]
  constructor
  · rintro ⟨⟨h1, h2⟩, h3⟩
    refine ⟨by omega, ?_⟩
    rcases h3 with h3 | h3
    · left; omega
    · right; omega
  · rintro ⟨h1, h2⟩
    refine ⟨by omega, ?_⟩
    rcases h2 with h2 | h2
    · left; omega
    · right; omega

set_option maxHeartbeats 4000000 in
theorem RecordFault_ok : Meets Tryd.prog (fun _ => none) 45 cRecordFault := RecordFault_meets cFault_ok In_ok txnMay_ok fun cn cl cp rk rs rn ry rv ra rd rl hp => by
  have hl : cl.length < 4611686018427387904 := (hp _ List.mem_cons_self)
  have hr : rl.length < 4611686018427387904 := (hp _ (List.mem_cons_of_mem _ List.mem_cons_self))
  clear hp
  unfold RecordFault_VC
  refine ⟨hl, bif_ok (fun h => ?_) fun hc => ?_⟩
  · rw [recF_cfg h]
  have h4 := cfgF_sites4 hc
  have hc4 := inF_iff.1 h4
  simp only at hc4
  rw [pSubI_in (a := cn) (b := 1) (by omega)]
  refine bif_ok (fun h => ?_) fun hk => ?_
  · refine leafE ?_
    rw [recF_eq cn cl cp rk rs rn ry rv ra rd rl _ _ _ _ _ _ _ _ hc rfl, show inF rk 1 6 = false by simpa [pNot] using h]; rfl
  have hk : inF rk 1 6 = true := by simpa [pNot] using hk
  have hk6 : rk = 1 ∨ rk = 2 ∨ rk = 3 ∨ rk = 4 ∨ rk = 5 ∨ rk = 6 := by rw [inF_iff] at hk; omega
  refine ⟨h4, ?_⟩
  rw [gt0_len]
  generalize hA : allUpto (siteAt cn rl) rl.length = A
  rcases hk6 with rfl | rfl | rfl | rfl | rfl | rfl
  · have hM := recF_eq cn cl cp 1 rs rn ry rv ra rd rl _ _ _ _ _ _ _ _ hc rrow1
    rw [hk, cond_true, hA] at hM
    simp only [Bool.true_or, Bool.false_or, Bool.true_and, Bool.and_true] at hM
    refine bif_ok (fun h => ?_) fun h1 => ?_
    · refine leafE ?_; rw [hM]; grind [pLt, pLe, pGt, pGe, pEq, pNe, pNot, pAndB, pBeq, pInt, pLen, inF, pIn, pTo, pNat]
    refine bif_ok (fun h => ?_) fun h2 => ?_
    · refine leafE ?_; rw [hM]; grind [pLt, pLe, pGt, pGe, pEq, pNe, pNot, pAndB, pBeq, pInt, pLen, inF, pIn, pTo, pNat]
    refine bif_ok (fun h => ?_) fun h3 => ?_
    · refine leafE ?_; rw [hM]; grind [pLt, pLe, pGt, pGe, pEq, pNe, pNot, pAndB, pBeq, pInt, pLen, inF, pIn, pTo, pNat]
    refine bif_ok (fun h => ?_) fun h5 => ?_
    · refine leafE ?_; rw [hM]; grind [pLt, pLe, pGt, pGe, pEq, pNe, pNot, pAndB, pBeq, pInt, pLen, inF, pIn, pTo, pNat]
    refine ⟨UpInv.start, fun y hy => ?_⟩
    rcases UpInv.round hr hy with ⟨k, rfl, hkl, hb, _, hF, hT⟩ | ⟨rfl, hT⟩
    · simp only [pNat_coe]
      rw [bif_true (by simp [pLt_coe, pLen, hkl])]
      rw [hA] at hF
      have hs := siteAt_ref (rl := rl) hb hc4
      have bad : siteAt cn rl k = false → ((2 : Int), ()) = (recF (cn, cl, cp, ()) (1, rs, rn, ry, rv, ra, rd, rl, ()), ()) := fun h => by rw [hM, hF h, Bool.and_false]; rfl
      refine ⟨pIn_coe.2 hkl, bif_ok (fun h => ?_) fun h => ?_⟩
      · refine bad ?_
        rw [hs, show inF _ 0 (cn - 1) = false by simpa [pNot] using h]; rfl
      have g1 : inF (pGet tyNum rl k).1 0 (cn - 1) = true := by simpa [pNot] using h
      rw [g1, Bool.true_and] at hs
      refine bif_ok (fun h => ?_) fun h => ?_
      · have hk0 : 0 < k := by have h0 : (0 : Int) < (k : Int) := by simpa [pGt] using h
                               exact Int.natCast_pos.1 h0
        rw [pSub1 hb hk0, pNat_coe]
        refine ⟨pIn_coe.2 hkl, pIn_coe.2 (Nat.lt_of_le_of_lt (Nat.sub_le _ _) hkl), bif_ok (fun h' => ?_) fun h' => ?_⟩
        · refine bad ?_
          rw [hs, h]
          rw [show pLe (pGet tyNum rl k).1 (pGet tyNum rl (k - 1)).1 = true from h']; rfl
        · refine hT ?_
          rw [hs, h]
          rw [show pLe (pGet tyNum rl k).1 (pGet tyNum rl (k - 1)).1 = false from h']; rfl
      · refine hT ?_
        rw [hs, h]; rfl
    · rw [bif_false (by simp [pLt_coe, pLen])]
      rw [hA] at hT
      subst hT
      clear hA hy
      (repeat' (first | refine bif_ok (fun h => ?_) (fun h => ?_) | refine And.intro ?_ ?_ | fail))
      all_goals first
        | (refine leafE ?_; rw [hM]; grind [pLt, pLe, pGt, pGe, pEq, pNe, pNot, pAndB, pBeq, pInt, pLen, inF, pIn, pTo, pNat])
        | skip
  · have hM := recF_eq cn cl cp 2 rs rn ry rv ra rd rl _ _ _ _ _ _ _ _ hc rrow2
    rw [hk, cond_true, hA] at hM
    simp only [Bool.true_or, Bool.false_or, Bool.true_and, Bool.and_true] at hM
    refine bif_ok (fun h => ?_) fun h1 => ?_
    · refine leafE ?_; rw [hM]; grind [pLt, pLe, pGt, pGe, pEq, pNe, pNot, pAndB, pBeq, pInt, pLen, inF, pIn, pTo, pNat]
    refine bif_ok (fun h => ?_) fun h2 => ?_
    · refine leafE ?_; rw [hM]; grind [pLt, pLe, pGt, pGe, pEq, pNe, pNot, pAndB, pBeq, pInt, pLen, inF, pIn, pTo, pNat]
    refine bif_ok (fun h => ?_) fun h3 => ?_
    · refine leafE ?_; rw [hM]; grind [pLt, pLe, pGt, pGe, pEq, pNe, pNot, pAndB, pBeq, pInt, pLen, inF, pIn, pTo, pNat]
    refine bif_ok (fun h => ?_) fun h5 => ?_
    · refine leafE ?_; rw [hM]; grind [pLt, pLe, pGt, pGe, pEq, pNe, pNot, pAndB, pBeq, pInt, pLen, inF, pIn, pTo, pNat]
    refine ⟨UpInv.start, fun y hy => ?_⟩
    rcases UpInv.round hr hy with ⟨k, rfl, hkl, hb, _, hF, hT⟩ | ⟨rfl, hT⟩
    · simp only [pNat_coe]
      rw [bif_true (by simp [pLt_coe, pLen, hkl])]
      rw [hA] at hF
      have hs := siteAt_ref (rl := rl) hb hc4
      have bad : siteAt cn rl k = false → ((2 : Int), ()) = (recF (cn, cl, cp, ()) (2, rs, rn, ry, rv, ra, rd, rl, ()), ()) := fun h => by rw [hM, hF h, Bool.and_false]; rfl
      refine ⟨pIn_coe.2 hkl, bif_ok (fun h => ?_) fun h => ?_⟩
      · refine bad ?_
        rw [hs, show inF _ 0 (cn - 1) = false by simpa [pNot] using h]; rfl
      have g1 : inF (pGet tyNum rl k).1 0 (cn - 1) = true := by simpa [pNot] using h
      rw [g1, Bool.true_and] at hs
      refine bif_ok (fun h => ?_) fun h => ?_
      · have hk0 : 0 < k := by have h0 : (0 : Int) < (k : Int) := by simpa [pGt] using h
                               exact Int.natCast_pos.1 h0
        rw [pSub1 hb hk0, pNat_coe]
        refine ⟨pIn_coe.2 hkl, pIn_coe.2 (Nat.lt_of_le_of_lt (Nat.sub_le _ _) hkl), bif_ok (fun h' => ?_) fun h' => ?_⟩
        · refine bad ?_
          rw [hs, h]
          rw [show pLe (pGet tyNum rl k).1 (pGet tyNum rl (k - 1)).1 = true from h']; rfl
        · refine hT ?_
          rw [hs, h]
          rw [show pLe (pGet tyNum rl k).1 (pGet tyNum rl (k - 1)).1 = false from h']; rfl
      · refine hT ?_
        rw [hs, h]; rfl
    · rw [bif_false (by simp [pLt_coe, pLen])]
      rw [hA] at hT
      subst hT
      clear hA hy
      (repeat' (first | refine bif_ok (fun h => ?_) (fun h => ?_) | refine And.intro ?_ ?_ | fail))
      all_goals first
        | (refine leafE ?_; rw [hM]; grind [pLt, pLe, pGt, pGe, pEq, pNe, pNot, pAndB, pBeq, pInt, pLen, inF, pIn, pTo, pNat])
        | skip
  · have hM := recF_eq cn cl cp 3 rs rn ry rv ra rd rl _ _ _ _ _ _ _ _ hc rrow3
    rw [hk, cond_true, hA] at hM
    simp only [Bool.true_or, Bool.false_or, Bool.true_and, Bool.and_true] at hM
    refine bif_ok (fun h => ?_) fun h1 => ?_
    · refine leafE ?_; rw [hM]; grind [pLt, pLe, pGt, pGe, pEq, pNe, pNot, pAndB, pBeq, pInt, pLen, inF, pIn, pTo, pNat]
    refine bif_ok (fun h => ?_) fun h2 => ?_
    · refine leafE ?_; rw [hM]; grind [pLt, pLe, pGt, pGe, pEq, pNe, pNot, pAndB, pBeq, pInt, pLen, inF, pIn, pTo, pNat]
    refine bif_ok (fun h => ?_) fun h3 => ?_
    · refine leafE ?_; rw [hM]; grind [pLt, pLe, pGt, pGe, pEq, pNe, pNot, pAndB, pBeq, pInt, pLen, inF, pIn, pTo, pNat]
    refine bif_ok (fun h => ?_) fun h5 => ?_
    · refine leafE ?_; rw [hM]; grind [pLt, pLe, pGt, pGe, pEq, pNe, pNot, pAndB, pBeq, pInt, pLen, inF, pIn, pTo, pNat]
    refine ⟨UpInv.start, fun y hy => ?_⟩
    rcases UpInv.round hr hy with ⟨k, rfl, hkl, hb, _, hF, hT⟩ | ⟨rfl, hT⟩
    · simp only [pNat_coe]
      rw [bif_true (by simp [pLt_coe, pLen, hkl])]
      rw [hA] at hF
      have hs := siteAt_ref (rl := rl) hb hc4
      have bad : siteAt cn rl k = false → ((2 : Int), ()) = (recF (cn, cl, cp, ()) (3, rs, rn, ry, rv, ra, rd, rl, ()), ()) := fun h => by rw [hM, hF h, Bool.and_false]; rfl
      refine ⟨pIn_coe.2 hkl, bif_ok (fun h => ?_) fun h => ?_⟩
      · refine bad ?_
        rw [hs, show inF _ 0 (cn - 1) = false by simpa [pNot] using h]; rfl
      have g1 : inF (pGet tyNum rl k).1 0 (cn - 1) = true := by simpa [pNot] using h
      rw [g1, Bool.true_and] at hs
      refine bif_ok (fun h => ?_) fun h => ?_
      · have hk0 : 0 < k := by have h0 : (0 : Int) < (k : Int) := by simpa [pGt] using h
                               exact Int.natCast_pos.1 h0
        rw [pSub1 hb hk0, pNat_coe]
        refine ⟨pIn_coe.2 hkl, pIn_coe.2 (Nat.lt_of_le_of_lt (Nat.sub_le _ _) hkl), bif_ok (fun h' => ?_) fun h' => ?_⟩
        · refine bad ?_
          rw [hs, h]
          rw [show pLe (pGet tyNum rl k).1 (pGet tyNum rl (k - 1)).1 = true from h']; rfl
        · refine hT ?_
          rw [hs, h]
          rw [show pLe (pGet tyNum rl k).1 (pGet tyNum rl (k - 1)).1 = false from h']; rfl
      · refine hT ?_
        rw [hs, h]; rfl
    · rw [bif_false (by simp [pLt_coe, pLen])]
      rw [hA] at hT
      subst hT
      clear hA hy
      (repeat' (first | refine bif_ok (fun h => ?_) (fun h => ?_) | refine And.intro ?_ ?_ | fail))
      all_goals first
        | (refine leafE ?_; rw [hM]; grind [pLt, pLe, pGt, pGe, pEq, pNe, pNot, pAndB, pBeq, pInt, pLen, inF, pIn, pTo, pNat])
        | skip
  · have hM := recF_eq cn cl cp 4 rs rn ry rv ra rd rl _ _ _ _ _ _ _ _ hc rrow4
    rw [hk, cond_true, hA] at hM
    simp only [Bool.true_or, Bool.false_or, Bool.true_and, Bool.and_true] at hM
    refine bif_ok (fun h => ?_) fun h1 => ?_
    · refine leafE ?_; rw [hM]; grind [pLt, pLe, pGt, pGe, pEq, pNe, pNot, pAndB, pBeq, pInt, pLen, inF, pIn, pTo, pNat]
    refine bif_ok (fun h => ?_) fun h2 => ?_
    · refine leafE ?_; rw [hM]; grind [pLt, pLe, pGt, pGe, pEq, pNe, pNot, pAndB, pBeq, pInt, pLen, inF, pIn, pTo, pNat]
    refine bif_ok (fun h => ?_) fun h3 => ?_
    · refine leafE ?_; rw [hM]; grind [pLt, pLe, pGt, pGe, pEq, pNe, pNot, pAndB, pBeq, pInt, pLen, inF, pIn, pTo, pNat]
    refine bif_ok (fun h => ?_) fun h5 => ?_
    · refine leafE ?_; rw [hM]; grind [pLt, pLe, pGt, pGe, pEq, pNe, pNot, pAndB, pBeq, pInt, pLen, inF, pIn, pTo, pNat]
    refine ⟨UpInv.start, fun y hy => ?_⟩
    rcases UpInv.round hr hy with ⟨k, rfl, hkl, hb, _, hF, hT⟩ | ⟨rfl, hT⟩
    · simp only [pNat_coe]
      rw [bif_true (by simp [pLt_coe, pLen, hkl])]
      rw [hA] at hF
      have hs := siteAt_ref (rl := rl) hb hc4
      have bad : siteAt cn rl k = false → ((2 : Int), ()) = (recF (cn, cl, cp, ()) (4, rs, rn, ry, rv, ra, rd, rl, ()), ()) := fun h => by rw [hM, hF h, Bool.and_false]; rfl
      refine ⟨pIn_coe.2 hkl, bif_ok (fun h => ?_) fun h => ?_⟩
      · refine bad ?_
        rw [hs, show inF _ 0 (cn - 1) = false by simpa [pNot] using h]; rfl
      have g1 : inF (pGet tyNum rl k).1 0 (cn - 1) = true := by simpa [pNot] using h
      rw [g1, Bool.true_and] at hs
      refine bif_ok (fun h => ?_) fun h => ?_
      · have hk0 : 0 < k := by have h0 : (0 : Int) < (k : Int) := by simpa [pGt] using h
                               exact Int.natCast_pos.1 h0
        rw [pSub1 hb hk0, pNat_coe]
        refine ⟨pIn_coe.2 hkl, pIn_coe.2 (Nat.lt_of_le_of_lt (Nat.sub_le _ _) hkl), bif_ok (fun h' => ?_) fun h' => ?_⟩
        · refine bad ?_
          rw [hs, h]
          rw [show pLe (pGet tyNum rl k).1 (pGet tyNum rl (k - 1)).1 = true from h']; rfl
        · refine hT ?_
          rw [hs, h]
          rw [show pLe (pGet tyNum rl k).1 (pGet tyNum rl (k - 1)).1 = false from h']; rfl
      · refine hT ?_
        rw [hs, h]; rfl
    · rw [bif_false (by simp [pLt_coe, pLen])]
      rw [hA] at hT
      subst hT
      clear hA hy
      (repeat' (first | refine bif_ok (fun h => ?_) (fun h => ?_) | refine And.intro ?_ ?_ | fail))
      all_goals first
        | (refine leafE ?_; rw [hM]; grind [pLt, pLe, pGt, pGe, pEq, pNe, pNot, pAndB, pBeq, pInt, pLen, inF, pIn, pTo, pNat])
        | skip
  · have hM := recF_eq cn cl cp 5 rs rn ry rv ra rd rl _ _ _ _ _ _ _ _ hc rrow5
    rw [hk, cond_true, hA] at hM
    simp only [Bool.true_or, Bool.false_or, Bool.true_and, Bool.and_true] at hM
    refine bif_ok (fun h => ?_) fun h1 => ?_
    · refine leafE ?_; rw [hM]; grind [pLt, pLe, pGt, pGe, pEq, pNe, pNot, pAndB, pBeq, pInt, pLen, inF, pIn, pTo, pNat]
    refine bif_ok (fun h => ?_) fun h2 => ?_
    · refine leafE ?_; rw [hM]; grind [pLt, pLe, pGt, pGe, pEq, pNe, pNot, pAndB, pBeq, pInt, pLen, inF, pIn, pTo, pNat]
    refine bif_ok (fun h => ?_) fun h3 => ?_
    · refine leafE ?_; rw [hM]; grind [pLt, pLe, pGt, pGe, pEq, pNe, pNot, pAndB, pBeq, pInt, pLen, inF, pIn, pTo, pNat]
    refine bif_ok (fun h => ?_) fun h5 => ?_
    · refine leafE ?_; rw [hM]; grind [pLt, pLe, pGt, pGe, pEq, pNe, pNot, pAndB, pBeq, pInt, pLen, inF, pIn, pTo, pNat]
    refine ⟨UpInv.start, fun y hy => ?_⟩
    rcases UpInv.round hr hy with ⟨k, rfl, hkl, hb, _, hF, hT⟩ | ⟨rfl, hT⟩
    · simp only [pNat_coe]
      rw [bif_true (by simp [pLt_coe, pLen, hkl])]
      rw [hA] at hF
      have hs := siteAt_ref (rl := rl) hb hc4
      have bad : siteAt cn rl k = false → ((2 : Int), ()) = (recF (cn, cl, cp, ()) (5, rs, rn, ry, rv, ra, rd, rl, ()), ()) := fun h => by rw [hM, hF h, Bool.and_false]; rfl
      refine ⟨pIn_coe.2 hkl, bif_ok (fun h => ?_) fun h => ?_⟩
      · refine bad ?_
        rw [hs, show inF _ 0 (cn - 1) = false by simpa [pNot] using h]; rfl
      have g1 : inF (pGet tyNum rl k).1 0 (cn - 1) = true := by simpa [pNot] using h
      rw [g1, Bool.true_and] at hs
      refine bif_ok (fun h => ?_) fun h => ?_
      · have hk0 : 0 < k := by have h0 : (0 : Int) < (k : Int) := by simpa [pGt] using h
                               exact Int.natCast_pos.1 h0
        rw [pSub1 hb hk0, pNat_coe]
        refine ⟨pIn_coe.2 hkl, pIn_coe.2 (Nat.lt_of_le_of_lt (Nat.sub_le _ _) hkl), bif_ok (fun h' => ?_) fun h' => ?_⟩
        · refine bad ?_
          rw [hs, h]
          rw [show pLe (pGet tyNum rl k).1 (pGet tyNum rl (k - 1)).1 = true from h']; rfl
        · refine hT ?_
          rw [hs, h]
          rw [show pLe (pGet tyNum rl k).1 (pGet tyNum rl (k - 1)).1 = false from h']; rfl
      · refine hT ?_
        rw [hs, h]; rfl
    · rw [bif_false (by simp [pLt_coe, pLen])]
      rw [hA] at hT
      subst hT
      clear hA hy
      (repeat' (first | refine bif_ok (fun h => ?_) (fun h => ?_) | refine And.intro ?_ ?_ | fail))
      all_goals first
        | (refine leafE ?_; rw [hM]; grind [pLt, pLe, pGt, pGe, pEq, pNe, pNot, pAndB, pBeq, pInt, pLen, inF, pIn, pTo, pNat])
        | skip
  · have hM := recF_eq cn cl cp 6 rs rn ry rv ra rd rl _ _ _ _ _ _ _ _ hc rrow6
    rw [hk, cond_true, hA] at hM
    simp only [Bool.true_or, Bool.false_or, Bool.true_and, Bool.and_true] at hM
    refine bif_ok (fun h => ?_) fun h1 => ?_
    · refine leafE ?_; rw [hM]; grind [pLt, pLe, pGt, pGe, pEq, pNe, pNot, pAndB, pBeq, pInt, pLen, inF, pIn, pTo, pNat]
    refine bif_ok (fun h => ?_) fun h2 => ?_
    · refine leafE ?_; rw [hM]; grind [pLt, pLe, pGt, pGe, pEq, pNe, pNot, pAndB, pBeq, pInt, pLen, inF, pIn, pTo, pNat]
    refine bif_ok (fun h => ?_) fun h3 => ?_
    · refine leafE ?_; rw [hM]; grind [pLt, pLe, pGt, pGe, pEq, pNe, pNot, pAndB, pBeq, pInt, pLen, inF, pIn, pTo, pNat]
    refine bif_ok (fun h => ?_) fun h5 => ?_
    · refine leafE ?_; rw [hM]; grind [pLt, pLe, pGt, pGe, pEq, pNe, pNot, pAndB, pBeq, pInt, pLen, inF, pIn, pTo, pNat]
    refine ⟨UpInv.start, fun y hy => ?_⟩
    rcases UpInv.round hr hy with ⟨k, rfl, hkl, hb, _, hF, hT⟩ | ⟨rfl, hT⟩
    · simp only [pNat_coe]
      rw [bif_true (by simp [pLt_coe, pLen, hkl])]
      rw [hA] at hF
      have hs := siteAt_ref (rl := rl) hb hc4
      have bad : siteAt cn rl k = false → ((2 : Int), ()) = (recF (cn, cl, cp, ()) (6, rs, rn, ry, rv, ra, rd, rl, ()), ()) := fun h => by rw [hM, hF h, Bool.and_false]; rfl
      refine ⟨pIn_coe.2 hkl, bif_ok (fun h => ?_) fun h => ?_⟩
      · refine bad ?_
        rw [hs, show inF _ 0 (cn - 1) = false by simpa [pNot] using h]; rfl
      have g1 : inF (pGet tyNum rl k).1 0 (cn - 1) = true := by simpa [pNot] using h
      rw [g1, Bool.true_and] at hs
      refine bif_ok (fun h => ?_) fun h => ?_
      · have hk0 : 0 < k := by have h0 : (0 : Int) < (k : Int) := by simpa [pGt] using h
                               exact Int.natCast_pos.1 h0
        rw [pSub1 hb hk0, pNat_coe]
        refine ⟨pIn_coe.2 hkl, pIn_coe.2 (Nat.lt_of_le_of_lt (Nat.sub_le _ _) hkl), bif_ok (fun h' => ?_) fun h' => ?_⟩
        · refine bad ?_
          rw [hs, h]
          rw [show pLe (pGet tyNum rl k).1 (pGet tyNum rl (k - 1)).1 = true from h']; rfl
        · refine hT ?_
          rw [hs, h]
          rw [show pLe (pGet tyNum rl k).1 (pGet tyNum rl (k - 1)).1 = false from h']; rfl
      · refine hT ?_
        rw [hs, h]; rfl
    · rw [bif_false (by simp [pLt_coe, pLen])]
      rw [hA] at hT
      subst hT
      clear hA hy
      (repeat' (first | refine bif_ok (fun h => ?_) (fun h => ?_) | refine And.intro ?_ ?_ | fail))
      all_goals first
        | (refine leafE ?_; rw [hM]; grind [pLt, pLe, pGt, pGe, pEq, pNe, pNot, pAndB, pBeq, pInt, pLen, inF, pIn, pTo, pNat])
        | skip

end Go.Proofs.YtkimjjndbcbiaaaDoor
