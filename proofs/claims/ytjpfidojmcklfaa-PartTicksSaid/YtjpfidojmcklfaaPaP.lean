/- A site's tick: functions meet their contracts. No condition. -/
import Derived.Test.YtjpfidojmcklfaaPaV
import Derived.Test.YtjpfidojmcklfaaPaD
namespace Go.Proofs.Ytjpfidojmcklfaa
open Go.RowKit

theorem sto_eta (l : List StoD) (k : Nat) : ((pGet tySto l k).1, (pGet tySto l k).2.1, (pGet tySto l k).2.2.1, (pGet tySto l k).2.2.2.1, ()) = pGet tySto l k := rfl
theorem checkF_eq (cn : Int) (cl : List LabD) (cp l me : Int) (ss : List StoD) : checkF (cn, cl, cp, ()) l me ss =
  cond (pEq (cfgF (cn, cl, cp, ())) 0) (cond (pLe 0 l && pLt l (pInt cl.length)) (cond (pLe 0 me && pLt me cn) (cond (decide (ss.length = cl.length)) (cond (allUpto (fun i => stoF (pGet tySto ss i)) ss.length) 0 9) 9) 2) 6) (cfgF (cn, cl, cp, ())) := rfl
theorem cfgF_sites4 {c : CfgD} (h : pNe (cfgF c) 0 = false) : inF c.1 1 4 = true := by
  cases hq : inF c.1 1 4
  · rw [cfgF_sites hq] at h; cases h
  · rfl

theorem scheck_ok : Meets Try.prog (fun _ => none) 7 cscheck := scheck_meets lCheck_ok Check_ok fun cn cl cp l me ss hp => by
  have hl : cl.length < 4611686018427387904 := hp (pLen cl < 4611686018427387904) (by simp)
  have hs : ss.length < 4611686018427387904 := hp (pLen ss < 4611686018427387904) (by simp)
  have hq := hp (∀ q ∈ ss, pLen q.1 < 4611686018427387904 ∧ pLen q.2.1 < 4611686018427387904 ∧ pLen q.2.2.1 < 4611686018427387904 ∧ pLen q.2.2.2.1 < 4611686018427387904 ∧ pRoom (pLen q.1) 24 ∧ pRoom (pLen q.2.1) 48 ∧ pRoom (pLen q.2.2.1) 24 ∧ pRoom (pLen q.2.2.2.1) 16) (by simp)
  clear hp
  unfold scheck_VC
  have hE := checkF_eq cn cl cp l me ss
  refine ⟨hl, ?_⟩
  (repeat' (first | refine bif_ok (fun h => ?_) (fun h => ?_) | with_reducible refine And.intro ?_ ?_ | fail))
  all_goals first
    | exact UpInv.start
    | (refine leafE ?_; rw [hE]; clear hE hq hl hs; grind [pLt, pLe, pGt, pGe, pEq, pNe, pNot, pAndB, pBeq, pInt, pLen, inF, pIn, pTo, pNat])
    | skip
  intro y hy
  rcases UpInv.round hs hy with ⟨k, rfl, hk, hb, -, hF, hT⟩ | ⟨rfl, hT⟩
  · rw [bif_true (by simp [pLt_coe, pLen, hk]), pNat_coe, sto_eta]
    obtain ⟨q1, q2, q3, q4, _⟩ := hq (pGet tySto ss k) (by rw [pGet_lt hk]; exact List.getElem_mem hk)
    clear hy hq
    refine ⟨pIn_coe.2 hk, q1, q2, q3, q4, bif_ok (fun h => ?_) fun h => hT ?_⟩
    · refine leafE ?_; rw [hE]; clear hE hT hl hs q1 q2 q3 q4; grind [pLt, pLe, pGt, pGe, pEq, pNe, pNot, pAndB, pBeq, pInt, pLen, inF, pIn, pTo, pNat]
    · clear hE hT hF hl hs q1 q2 q3 q4; grind [pLt, pLe, pGt, pGe, pEq, pNe, pNot, pAndB, pBeq, pInt, pLen, inF, pIn, pTo, pNat]
  · rw [bif_false (by simp [pLt_coe, pLen])]
    refine leafE ?_; rw [hE, hT]; clear hE hq hl hs hy; grind [pLt, pLe, pGt, pGe, pEq, pNe, pNot, pAndB, pBeq, pInt, pLen, inF, pIn, pTo, pNat]

theorem siteFault_ok : Meets Try.prog (fun _ => none) 10 csiteFault := siteFault_meets cFault_ok In_ok labelMay_ok StoreMay_ok fun cn cl cp l me ss hp => by
  have hl : cl.length < 4611686018427387904 := hp (pLen cl < 4611686018427387904) (by simp)
  have hs : ss.length < 4611686018427387904 := hp (pLen ss < 4611686018427387904) (by simp)
  have hq := hp (∀ q ∈ ss, pLen q.1 < 4611686018427387904 ∧ pLen q.2.1 < 4611686018427387904 ∧ pLen q.2.2.1 < 4611686018427387904 ∧ pLen q.2.2.2.1 < 4611686018427387904 ∧ pRoom (pLen q.1) 24 ∧ pRoom (pLen q.2.1) 48 ∧ pRoom (pLen q.2.2.1) 24 ∧ pRoom (pLen q.2.2.2.1) 16) (by simp)
  clear hp
  unfold siteFault_VC
  have hE := checkF_eq cn cl cp l me ss
  refine ⟨hl, bif_ok (fun h => ?_) fun hc => ⟨hl, ?_⟩⟩
  · refine leafE ?_; rw [hE]; clear hE hq hl hs; grind [pLt, pLe, pGt, pGe, pEq, pNe, pNot, pAndB, pBeq, pInt, pLen, inF, pIn, pTo, pNat]
  have hc4 := inF_iff.1 (cfgF_sites4 hc)
  have hP : placeF (cn, cl, cp, ()) l = (pLe 0 l && pLt l (pInt cl.length)) := rfl
  rw [pSubI_in (a := cn) (b := 1) (by simp only at hc4; omega), hP]
  clear hP
  (repeat' (first | refine bif_ok (fun h => ?_) (fun h => ?_) | with_reducible refine And.intro ?_ ?_ | fail))
  all_goals first
    | exact UpInv.start
    | (refine leafE ?_; rw [hE]; clear hE hq hl hs; grind [pLt, pLe, pGt, pGe, pEq, pNe, pNot, pAndB, pBeq, pInt, pLen, inF, pIn, pTo, pNat])
    | skip
  intro y hy
  rcases UpInv.round hs hy with ⟨k, rfl, hk, hb, -, hF, hT⟩ | ⟨rfl, hT⟩
  · rw [bif_true (by simp [pLt_coe, pLen, hk]), pNat_coe, sto_eta]
    obtain ⟨q1, q2, q3, q4, _⟩ := hq (pGet tySto ss k) (by rw [pGet_lt hk]; exact List.getElem_mem hk)
    clear hy hq
    refine ⟨pIn_coe.2 hk, q1, q2, q3, q4, bif_ok (fun h => ?_) fun h => hT ?_⟩
    · refine leafE ?_; rw [hE]; clear hE hT hl hs q1 q2 q3 q4; grind [pLt, pLe, pGt, pGe, pEq, pNe, pNot, pAndB, pBeq, pInt, pLen, inF, pIn, pTo, pNat]
    · clear hE hT hF hl hs q1 q2 q3 q4; grind [pLt, pLe, pGt, pGe, pEq, pNe, pNot, pAndB, pBeq, pInt, pLen, inF, pIn, pTo, pNat]
  · rw [bif_false (by simp [pLt_coe, pLen])]
    refine leafE ?_; rw [hE, hT]; clear hE hq hl hs hy; grind [pLt, pLe, pGt, pGe, pEq, pNe, pNot, pAndB, pBeq, pInt, pLen, inF, pIn, pTo, pNat]

theorem pown_ok : Meets Try.prog (fun _ => none) 9 cpown := pown_meets cloneItem_ok cloneLock_ok cloneDoubt_ok cloneTxn_ok fun is ls ds os ms rs ns hp =>
  ⟨hp (pRoom (pLen is) 24) (by simp), hp (pRoom (pLen ls) 48) (by simp), hp (pRoom (pLen ds) 24) (by simp), hp (pRoom (pLen os) 16) (by simp), rfl⟩

theorem checkF_ok {cn : Int} {cl : List LabD} {cp l me : Int} {ss : List StoD} (h : pNe (checkF (cn, cl, cp, ()) l me ss) 0 = false) :
    (pLe 0 l = true ∧ pLt l (pInt cl.length) = true) ∧ ss.length = cl.length ∧ allUpto (fun i => stoF (pGet tySto ss i)) ss.length = true ∧ checkF (cn, cl, cp, ()) l me ss = 0 := by
  have hE := checkF_eq cn cl cp l me ss
  refine ⟨⟨?_, ?_⟩, ?_, ?_, ?_⟩ <;> grind [pLt, pLe, pGt, pGe, pEq, pNe, pNot, pAndB, pBeq, pInt, pLen, inF, pIn, pTo, pNat]
theorem tick_err {c : CfgD} {l me : Int} {ss : List StoD} (h : pNe (checkF c l me ss) 0 = true) : (([], [], [], [], [], [], [], ()), checkF c l me ss, ()) = (tickA c l me ss, tickE c l me ss, ()) := by
  have h' : pEq (tickE c l me ss) 0 = false := by unfold tickE; simpa [pNe, pEq] using h
  unfold tickA
  rw [h']; rfl
theorem tick_all {cn : Int} {cl : List LabD} {cp l me : Int} {ss : List StoD} {s : StoD} (h : checkF (cn, cl, cp, ()) l me ss = 0) (hs : pGet tySto ss (pNat l) = s) :
    (((ageS s cp).1, (ageS s cp).2.1, (ageS s cp).2.2.1, (ageS s cp).2.2.2.1, tellK cn me (ageL s cp) (ageL s cp).length, [], [], ()), (0 : Int), ()) = (tickA (cn, cl, cp, ()) l me ss, tickE (cn, cl, cp, ()) l me ss, ()) := by
  unfold tickA tickE tickS; rw [h, hs]; rfl
theorem tell_next {cn me : Int} {ts : List TxnD} {k : Nat} (h : k < ts.length) : tellK cn me ts (k + 1) = cond (pLt (pGet tyTxn ts k).1 cn) (pApp (tellK cn me ts k) [msgOf me (pGet tyTxn ts k)]) (tellK cn me ts k) := by
  unfold tellK
  rw [List.take_succ_eq_append_getElem h, List.filter_append, List.map_append, pGet_lt (t := tyTxn) h]
  cases hq : pLt (ts[k]'h).1 cn with
  | true => rw [List.filter_cons_of_pos (by simpa using hq)]; rfl
  | false => rw [List.filter_cons_of_neg (by simp [hq])]; simp
theorem tell_len {cn me : Int} {ts : List TxnD} {k : Nat} : (tellK cn me ts k).length ≤ k := by
  unfold tellK
  rw [List.length_map]
  exact Nat.le_trans (List.length_filter_le _ _) (by simp only [List.length_take]; omega)
theorem room_le {n m b : Nat} (h : pRoom n b) (hm : m ≤ n) : pRoom m b := Nat.le_trans (Nat.mul_le_mul_right b hm) h

/-- the round of either tick -/
theorem tick_step {cn cp me : Int} {s : StoD} {k : Nat} (hk : k < (ageL s cp).length) (hb : k < 4611686018427387904) {ms : List MsgD}
    (hm : ms = cond (pLt (pGet tyTxn (ageL s cp) k).1 cn) (pApp (tellK cn me (ageL s cp) k) [msgOf me (pGet tyTxn (ageL s cp) k)]) (tellK cn me (ageL s cp) k)) :
    TickAt cn cp me s (pAdd .i64 (k : Int) 1, ((ageS s cp).1, (ageS s cp).2.1, (ageS s cp).2.2.1, (ageS s cp).2.2.2.1, ms, [], [], ()), ()) :=
  ⟨k + 1, by rw [pAdd1 hb, tell_next hk, hm], hk⟩
theorem told_few {s : StoD} {cp : Int} (h : stoF s = true) : (ageL s cp).length ≤ 24 := by
  obtain ⟨f1, f2, _⟩ := doubts_few (is := s.1) (ls := s.2.1) (ds := s.2.2.1) (os := s.2.2.2.1) h
  exact Nat.le_trans (ageS_len s.1 s.2.1 s.2.2.1 s.2.2.2.1 cp).2.2.2.2 (Nat.le_trans f1 f2)

theorem Tick_ok : Meets Try.prog (fun _ => none) 4 cTick := Tick_meets scheck_ok Age_ok pown_ok fun cn cl cp l me ss hp => by
  have hl : cl.length < 4611686018427387904 := hp (pLen cl < 4611686018427387904) (by simp)
  have hs : ss.length < 4611686018427387904 := hp (pLen ss < 4611686018427387904) (by simp)
  have hq := hp (∀ q ∈ ss, pLen q.1 < 4611686018427387904 ∧ pLen q.2.1 < 4611686018427387904 ∧ pLen q.2.2.1 < 4611686018427387904 ∧ pLen q.2.2.2.1 < 4611686018427387904 ∧ pRoom (pLen q.1) 24 ∧ pRoom (pLen q.2.1) 48 ∧ pRoom (pLen q.2.2.1) 24 ∧ pRoom (pLen q.2.2.2.1) 16) (by simp)
  clear hp
  unfold Tick_VC
  refine ⟨hl, hs, hq, bif_ok (fun h => tick_err h) fun hc => ?_⟩
  obtain ⟨⟨p1, p2⟩, p3, p4, p5⟩ := checkF_ok hc
  have e1 : (0 : Int) ≤ l := of_decide_eq_true p1
  have e2 : l < (cl.length : Int) := of_decide_eq_true p2
  obtain ⟨i, rfl⟩ : ∃ i : Nat, l = (i : Int) := ⟨l.toNat, by omega⟩
  have hi : i < ss.length := by omega
  rw [pNat_coe, sto_eta]
  have hsf : stoF (pGet tySto ss i) = true := allUpto_iff.1 p4 i hi
  obtain ⟨q1, q2, q3, q4, q5, q6, q7, q8⟩ := hq (pGet tySto ss i) (by rw [pGet_lt hi]; exact List.getElem_mem hi)
  have hfew := told_few (cp := cp) hsf
  obtain ⟨a1, a2, a3, a4, _⟩ := ageS_len (pGet tySto ss i).1 (pGet tySto ss i).2.1 (pGet tySto ss i).2.2.1 (pGet tySto ss i).2.2.2.1 cp
  have hall := tick_all (cn := cn) (cl := cl) (cp := cp) (l := (i : Int)) (me := me) (ss := ss) (s := pGet tySto ss i) p5 (by rw [pNat_coe])
  have hinv : ∀ y, tickInv cn cl cp (i : Int) me ss y = TickAt cn cp me (pGet tySto ss i) y := fun y => by unfold tickInv; rw [pNat_coe]
  have hmu : ∀ y, tickMu cn cl cp (i : Int) me ss y = (ageL (pGet tySto ss i) cp).length - y.1.toNat := fun y => by unfold tickMu; rw [pNat_coe]
  clear hq hc p1 p2 p4
  generalize pGet tySto ss i = s at *
  refine ⟨pIn_coe.2 hi, q1, q2, q3, q4, q5, q6, q7, q8, ?_, fun y hy => ?_⟩
  · rw [hinv]; exact ⟨0, rfl, Nat.zero_le _⟩
  rw [hinv] at hy
  obtain ⟨k, rfl, hk⟩ := hy
  by_cases hkn : k < (ageL s cp).length
  · rw [bif_true (by simp [pLt_coe, pLen, hkn])]
    dsimp only
    rw [pNat_coe, hinv, hinv, hmu, hmu, hmu]
    have hb : k < 4611686018427387904 := by omega
    refine ⟨pIn_coe.2 hkn, bif_ok (fun h => ⟨room_more (n := 25) (Nat.lt_of_le_of_lt tell_len (by omega)) (by decide), tick_step hkn hb (by rw [h]; rfl), mu_step hkn hb⟩) fun h => ⟨tick_step hkn hb (by rw [h]; rfl), mu_step hkn hb⟩⟩
  · obtain rfl : k = (ageL s cp).length := by omega
    rw [bif_false (by simp [pLt_coe, pLen])]
    exact ⟨room_le q5 a1, room_le q6 a2, room_le q7 a3, room_le q8 a4, hall⟩

theorem Ticked_ok : Meets Try.prog (fun _ => none) 5 cTicked := Ticked_meets siteFault_ok AgeOf_ok fun cn cl cp l me ss hp => by
  have hl : cl.length < 4611686018427387904 := hp (pLen cl < 4611686018427387904) (by simp)
  have hs : ss.length < 4611686018427387904 := hp (pLen ss < 4611686018427387904) (by simp)
  have hq := hp (∀ q ∈ ss, pLen q.1 < 4611686018427387904 ∧ pLen q.2.1 < 4611686018427387904 ∧ pLen q.2.2.1 < 4611686018427387904 ∧ pLen q.2.2.2.1 < 4611686018427387904 ∧ pRoom (pLen q.1) 24 ∧ pRoom (pLen q.2.1) 48 ∧ pRoom (pLen q.2.2.1) 24 ∧ pRoom (pLen q.2.2.2.1) 16) (by simp)
  clear hp
  unfold Ticked_VC
  refine ⟨hl, hs, hq, bif_ok (fun h => tick_err h) fun hc => ?_⟩
  obtain ⟨⟨p1, p2⟩, p3, p4, p5⟩ := checkF_ok hc
  have e1 : (0 : Int) ≤ l := of_decide_eq_true p1
  have e2 : l < (cl.length : Int) := of_decide_eq_true p2
  obtain ⟨i, rfl⟩ : ∃ i : Nat, l = (i : Int) := ⟨l.toNat, by omega⟩
  have hi : i < ss.length := by omega
  rw [pNat_coe, sto_eta]
  have hsf : stoF (pGet tySto ss i) = true := allUpto_iff.1 p4 i hi
  obtain ⟨q1, q2, q3, q4, q5, q6, q7, q8⟩ := hq (pGet tySto ss i) (by rw [pGet_lt hi]; exact List.getElem_mem hi)
  have hfew := told_few (cp := cp) hsf
  have hall := tick_all (cn := cn) (cl := cl) (cp := cp) (l := (i : Int)) (me := me) (ss := ss) (s := pGet tySto ss i) p5 (by rw [pNat_coe])
  have hinv : ∀ y, tickedInv cn cl cp (i : Int) me ss y = TickAt cn cp me (pGet tySto ss i) y := fun y => by unfold tickedInv tickInv; rw [pNat_coe]
  have hmu : ∀ y, tickedMu cn cl cp (i : Int) me ss y = (ageL (pGet tySto ss i) cp).length - y.1.toNat := fun y => by unfold tickedMu tickMu; rw [pNat_coe]
  clear hq hc p1 p2 p4
  generalize pGet tySto ss i = s at *
  refine ⟨pIn_coe.2 hi, q1, q2, q3, q4, q5, q6, q7, q8, ?_, fun y hy => ?_⟩
  · rw [hinv]; exact ⟨0, rfl, Nat.zero_le _⟩
  rw [hinv] at hy
  obtain ⟨k, rfl, hk⟩ := hy
  by_cases hkn : k < (ageL s cp).length
  · rw [bif_true (by simp [pLt_coe, pLen, hkn])]
    dsimp only
    rw [pNat_coe, hinv, hinv, hmu, hmu, hmu]
    have hb : k < 4611686018427387904 := by omega
    refine ⟨pIn_coe.2 hkn, bif_ok (fun h => ⟨pIn_coe.2 hkn, pIn_coe.2 hkn, room_more (n := 25) (Nat.lt_of_le_of_lt tell_len (by omega)) (by decide), tick_step hkn hb (by rw [h]; rfl), mu_step hkn hb⟩) fun h => ⟨tick_step hkn hb (by rw [h]; rfl), mu_step hkn hb⟩⟩
  · obtain rfl : k = (ageL s cp).length := by omega
    rw [bif_false (by simp [pLt_coe, pLen])]
    exact hall

theorem sameMsgs_ok : Meets Try.prog (fun _ => none) 13 csameMsgs := sameMsgs_meets fun l m hp => by
  have hl : l.length < 4611686018427387904 := hp _ List.mem_cons_self
  unfold sameMsgs_VC
  refine bif_ok (fun h => leafF fun q => ?_) fun h => ?_
  · unfold sameMsgsF at q; simp only [Bool.and_eq_true, decide_eq_true_eq] at q
    have : pNe (pInt l.length) (pInt m.length) = true := h
    rw [q.1] at this; simp [pNe] at this
  have hn : l.length = m.length := by
    have : pNe (pInt l.length) (pInt m.length) = false := h
    simp only [pNe, pInt, bne_eq_false_iff_eq] at this; omega
  refine ⟨⟨hn, UpInv.start⟩, fun y ⟨_, hy⟩ => ?_⟩
  rcases UpInv.round hl hy with ⟨k, rfl, hk, hb, -, hF, hT⟩ | ⟨rfl, hT⟩
  · have hk2 : k < m.length := by omega
    rw [bif_true (by simp [pLt_coe, pLen, hk]), pNat_coe]
    refine ⟨pIn_coe.2 hk, pIn_coe.2 hk2, bif_ok (fun h => leafF fun q => ?_) fun h => ?_⟩
    · have h' : eqMsgAt l m k = false := by have h2 : (!eqMsgAt l m k) = true := h; simpa using h2
      unfold sameMsgsF at q
      rw [hF h'] at q; simp at q
    · have h' : eqMsgAt l m k = true := by have h2 : (!eqMsgAt l m k) = false := h; simpa using h2
      exact ⟨⟨hn, (hT h').1⟩, (hT h').2⟩
  · rw [bif_false (by simp [pLt_coe, pLen])]
    refine leafT fun q => ?_
    unfold sameMsgsF at q
    rw [hT] at q; simp [hn] at q
theorem sameNotes_ok : Meets Try.prog (fun _ => none) 15 csameNotes := sameNotes_meets fun l m hp => by
  have hl : l.length < 4611686018427387904 := hp _ List.mem_cons_self
  unfold sameNotes_VC
  refine bif_ok (fun h => leafF fun q => ?_) fun h => ?_
  · unfold sameNotesF at q; simp only [Bool.and_eq_true, decide_eq_true_eq] at q
    have : pNe (pInt l.length) (pInt m.length) = true := h
    rw [q.1] at this; simp [pNe] at this
  have hn : l.length = m.length := by
    have : pNe (pInt l.length) (pInt m.length) = false := h
    simp only [pNe, pInt, bne_eq_false_iff_eq] at this; omega
  refine ⟨⟨hn, UpInv.start⟩, fun y ⟨_, hy⟩ => ?_⟩
  rcases UpInv.round hl hy with ⟨k, rfl, hk, hb, -, hF, hT⟩ | ⟨rfl, hT⟩
  · have hk2 : k < m.length := by omega
    rw [bif_true (by simp [pLt_coe, pLen, hk]), pNat_coe]
    refine ⟨pIn_coe.2 hk, pIn_coe.2 hk2, bif_ok (fun h => leafF fun q => ?_) fun h => ?_⟩
    · have h' : eqNoteAt l m k = false := by have h2 : (!eqNoteAt l m k) = true := h; simpa using h2
      unfold sameNotesF at q
      rw [hF h'] at q; simp at q
    · have h' : eqNoteAt l m k = true := by have h2 : (!eqNoteAt l m k) = false := h; simpa using h2
      exact ⟨⟨hn, (hT h').1⟩, (hT h').2⟩
  · rw [bif_false (by simp [pLt_coe, pLen])]
    refine leafT fun q => ?_
    unfold sameNotesF at q
    rw [hT] at q; simp [hn] at q
theorem sameRecs_ok : Meets Try.prog (fun _ => none) 14 csameRecs := sameRecs_meets fun l m hp => by
  have h1 : pLen l = 0 := hp (pLen l = 0) (by simp)
  have h2 : pLen m = 0 := hp (pLen m = 0) (by simp)
  unfold sameRecs_VC
  rw [h1, h2]
  rw [bif_false (by rfl)]
  refine ⟨rfl, fun y hy => ?_⟩
  obtain rfl : y = (0, ()) := hy
  rw [bif_false (by rfl)]
theorem sameAns_ok : Meets Try.prog (fun _ => none) 6 csameAns := sameAns_meets sameStore_ok sameMsgs_ok sameRecs_ok sameNotes_ok fun ai al ad ao am ar an bi bl bd bo bm br bn hp => by
  have l1 : ai.length < 4611686018427387904 := hp (pLen ai < 4611686018427387904) (by simp)
  have l2 : al.length < 4611686018427387904 := hp (pLen al < 4611686018427387904) (by simp)
  have l3 : ad.length < 4611686018427387904 := hp (pLen ad < 4611686018427387904) (by simp)
  have l4 : ao.length < 4611686018427387904 := hp (pLen ao < 4611686018427387904) (by simp)
  have l5 : am.length < 4611686018427387904 := hp (pLen am < 4611686018427387904) (by simp)
  have l6 : an.length < 4611686018427387904 := hp (pLen an < 4611686018427387904) (by simp)
  have l7 : pLen ar = 0 := hp (pLen ar = 0) (by simp)
  have l8 : pLen br = 0 := hp (pLen br = 0) (by simp)
  clear hp
  unfold sameAns_VC
  (repeat' (first | refine bif_ok (fun h => ?_) (fun h => ?_) | with_reducible refine And.intro ?_ ?_ | fail))
  all_goals first
    | assumption
    | (refine leafE ?_; simp only [*, cond_true, cond_false])

theorem sameMsgs_refl (l : List MsgD) : sameMsgsF l l = true := by
  unfold sameMsgsF
  rw [allUpto_true fun j _ => by simp [eqMsgAt, eqMsg, pAndB, pEq, pBeq]]
  simp
theorem sameNotes_refl (l : List NoteD) : sameNotesF l l = true := by
  unfold sameNotesF
  rw [allUpto_true fun j _ => by simp [eqNoteAt, eqNote, pAndB, pEq, pBeq]]
  simp
theorem sto_at {ss : List StoD} (hq : ∀ q ∈ ss, pLen q.1 < 4611686018427387904 ∧ pLen q.2.1 < 4611686018427387904 ∧ pLen q.2.2.1 < 4611686018427387904 ∧ pLen q.2.2.2.1 < 4611686018427387904 ∧ pRoom (pLen q.1) 24 ∧ pRoom (pLen q.2.1) 48 ∧ pRoom (pLen q.2.2.1) 24 ∧ pRoom (pLen q.2.2.2.1) 16) (i : Nat) :
    (pGet tySto ss i).1.length < 4611686018427387904 ∧ (pGet tySto ss i).2.1.length < 4611686018427387904 ∧ (pGet tySto ss i).2.2.1.length < 4611686018427387904 ∧ (pGet tySto ss i).2.2.2.1.length < 4611686018427387904 := by
  by_cases h : i < ss.length
  · obtain ⟨a, b, c, d, _⟩ := hq (pGet tySto ss i) (by rw [pGet_lt h]; exact List.getElem_mem h)
    exact ⟨a, b, c, d⟩
  · have : pGet tySto ss i = ([], [], [], [], ()) := by
      unfold pGet; rw [List.getD_eq_getElem?_getD, List.getElem?_eq_none (by omega)]; rfl
    rw [this]
    exact ⟨z62, z62, z62, z62⟩
theorem tickA_len (c : CfgD) (l me : Int) {ss : List StoD} (hq : ∀ q ∈ ss, pLen q.1 < 4611686018427387904 ∧ pLen q.2.1 < 4611686018427387904 ∧ pLen q.2.2.1 < 4611686018427387904 ∧ pLen q.2.2.2.1 < 4611686018427387904 ∧ pRoom (pLen q.1) 24 ∧ pRoom (pLen q.2.1) 48 ∧ pRoom (pLen q.2.2.1) 24 ∧ pRoom (pLen q.2.2.2.1) 16) :
    (tickA c l me ss).1.length < 4611686018427387904 ∧ (tickA c l me ss).2.1.length < 4611686018427387904 ∧ (tickA c l me ss).2.2.1.length < 4611686018427387904 ∧ (tickA c l me ss).2.2.2.1.length < 4611686018427387904 ∧
    (tickA c l me ss).2.2.2.2.1.length < 4611686018427387904 ∧ (tickA c l me ss).2.2.2.2.2.2.1.length < 4611686018427387904 ∧ (tickA c l me ss).2.2.2.2.2.1.length = 0 := by
  obtain ⟨b1, b2, b3, b4⟩ := sto_at hq (pNat l)
  unfold tickA
  cases pEq (tickE c l me ss) 0 with
  | false => exact ⟨z62, z62, z62, z62, z62, z62, rfl⟩
  | true =>
    obtain ⟨a1, a2, a3, a4, a5⟩ := ageS_len (pGet tySto ss (pNat l)).1 (pGet tySto ss (pNat l)).2.1 (pGet tySto ss (pNat l)).2.2.1 (pGet tySto ss (pNat l)).2.2.2.1 c.2.2.1
    exact ⟨Nat.lt_of_le_of_lt a1 b1, Nat.lt_of_le_of_lt a2 b2, Nat.lt_of_le_of_lt a3 b3, Nat.lt_of_le_of_lt a4 b4, Nat.lt_of_le_of_lt (Nat.le_trans tell_len a5) b3, z62, rfl⟩

end Go.Proofs.Ytjpfidojmcklfaa
