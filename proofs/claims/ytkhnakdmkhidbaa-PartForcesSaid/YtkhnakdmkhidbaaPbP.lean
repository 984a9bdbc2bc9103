/- Sites' answers: functions meet their contracts. No condition. -/
import Derived.Test.YtkhnakdmkhidbaaSmT
import Derived.Test.YtkhnakdmkhidbaaPbV
import Derived.Test.YtkhnakdmkhidbaaPbD
namespace Go.Proofs.Ytkhnakdmkhidbaa
open Go.RowKit

theorem sto_eta (l : List StoD) (k : Nat) : ((pGet tySto l k).1, (pGet tySto l k).2.1, (pGet tySto l k).2.2.1, (pGet tySto l k).2.2.2.1, ()) = pGet tySto l k := rfl
theorem checkF_eq (cn : Int) (cl : List LabD) (cp l me : Int) (ss : List StoD) : checkF (cn, cl, cp, ()) l me ss =
  cond (pEq (cfgF (cn, cl, cp, ())) 0) (cond (pLe 0 l && pLt l (pInt cl.length)) (cond (pLe 0 me && pLt me cn) (cond (decide (ss.length = cl.length)) (cond (allUpto (fun i => stoF (pGet tySto ss i)) ss.length) 0 9) 9) 2) 6) (cfgF (cn, cl, cp, ())) := rfl
theorem cfgF_sites4 {c : CfgD} (h : pNe (cfgF c) 0 = false) : inF c.1 1 4 = true := by
  cases hq : inF c.1 1 4
  · rw [cfgF_sites hq] at h; cases h
  · rfl

theorem scheck_ok : Meets Try.prog (fun _ => none) 26 cscheck := scheck_meets lCheck_ok Check_ok fun cn cl cp l me ss hp => by
  have hl : cl.length < 4611686018427387904 := hp (pLen cl < 4611686018427387904) (by simp)
  have hs : ss.length < 4611686018427387904 := hp (pLen ss < 4611686018427387904) (by simp)
  have hq := hp (∀ q ∈ ss, pLen q.1 < 4611686018427387904 ∧ pLen q.2.1 < 4611686018427387904 ∧ pLen q.2.2.1 < 4611686018427387904 ∧ pLen q.2.2.2.1 < 4611686018427387904 ∧ pRoom (pLen q.1) 24 ∧ pRoom (pLen q.2.1) 48 ∧ pRoom (pLen q.2.2.1) 24 ∧ pRoom (pLen q.2.2.2.1) 16) (by simp)
  clear hp
  unfold scheck_VC
  have hE := checkF_eq cn cl cp l me ss
  refine ⟨hl, ?_⟩
  (repeat' (first | refine bif_ok (fun h => ?_) (fun h => ?_) | with_reducible refine And.intro ?_ ?_ | fail))
  all_goals first
    | exact UpInv.start
    | (refine leafE ?_; rw [hE]; clear hE hq hl hs; grind [pLt, pLe, pGt, pGe, pEq, pNe, pNot, pAndB, pBeq, pInt, pLen, inF, pIn, pTo, pNat])
    | skip
  intro y hy
  rcases UpInv.round hs hy with ⟨k, rfl, hk, hb, -, hF, hT⟩ | ⟨rfl, hT⟩
  · rw [bif_true (by simp [pLt_coe, pLen, hk]), pNat_coe]
    obtain ⟨q1, q2, q3, q4, _⟩ := hq (pGet tySto ss k) (by rw [pGet_lt hk]; exact List.getElem_mem hk)
    clear hy hq
    refine ⟨pIn_coe.2 hk, q1, q2, q3, q4, bif_ok (fun h => ?_) fun h => hT ?_⟩
    · refine leafE ?_; rw [hE]; clear hE hT hl hs q1 q2 q3 q4; grind [pLt, pLe, pGt, pGe, pEq, pNe, pNot, pAndB, pBeq, pInt, pLen, inF, pIn, pTo, pNat]
    · clear hE hT hF hl hs q1 q2 q3 q4; grind [pLt, pLe, pGt, pGe, pEq, pNe, pNot, pAndB, pBeq, pInt, pLen, inF, pIn, pTo, pNat]
  · rw [bif_false (by simp [pLt_coe, pLen])]
    refine leafE ?_; rw [hE, hT]; clear hE hq hl hs hy; grind [pLt, pLe, pGt, pGe, pEq, pNe, pNot, pAndB, pBeq, pInt, pLen, inF, pIn, pTo, pNat]

theorem siteFault_ok : Meets Try.prog (fun _ => none) 30 csiteFault := siteFault_meets cFault_ok In_ok labelMay_ok StoreMay_ok fun cn cl cp l me ss hp => by
  have hl : cl.length < 4611686018427387904 := hp (pLen cl < 4611686018427387904) (by simp)
  have hs : ss.length < 4611686018427387904 := hp (pLen ss < 4611686018427387904) (by simp)
  have hq := hp (∀ q ∈ ss, pLen q.1 < 4611686018427387904 ∧ pLen q.2.1 < 4611686018427387904 ∧ pLen q.2.2.1 < 4611686018427387904 ∧ pLen q.2.2.2.1 < 4611686018427387904 ∧ pRoom (pLen q.1) 24 ∧ pRoom (pLen q.2.1) 48 ∧ pRoom (pLen q.2.2.1) 24 ∧ pRoom (pLen q.2.2.2.1) 16) (by simp)
  clear hp
  unfold siteFault_VC
  have hE := checkF_eq cn cl cp l me ss
  refine ⟨hl, bif_ok (fun h => ?_) fun hc => ⟨hl, ?_⟩⟩
  · refine leafE ?_; rw [hE]; clear hE hq hl hs; grind [pLt, pLe, pGt, pGe, pEq, pNe, pNot, pAndB, pBeq, pInt, pLen, inF, pIn, pTo, pNat]
  have hc4 := inF_iff.1 (cfgF_sites4 hc)
  have hP : placeF (cn, cl, cp, ()) l = (pLe 0 l && pLt l (pInt cl.length)) := rfl
  rw [pSubI_in (a := cn) (b := 1) (by simp only at hc4; omega), hP]
  clear hP
  (repeat' (first | refine bif_ok (fun h => ?_) (fun h => ?_) | with_reducible refine And.intro ?_ ?_ | fail))
  all_goals first
    | exact UpInv.start
    | (refine leafE ?_; rw [hE]; clear hE hq hl hs; grind [pLt, pLe, pGt, pGe, pEq, pNe, pNot, pAndB, pBeq, pInt, pLen, inF, pIn, pTo, pNat])
    | skip
  intro y hy
  rcases UpInv.round hs hy with ⟨k, rfl, hk, hb, -, hF, hT⟩ | ⟨rfl, hT⟩
  · rw [bif_true (by simp [pLt_coe, pLen, hk]), pNat_coe]
    obtain ⟨q1, q2, q3, q4, _⟩ := hq (pGet tySto ss k) (by rw [pGet_lt hk]; exact List.getElem_mem hk)
    clear hy hq
    refine ⟨pIn_coe.2 hk, q1, q2, q3, q4, bif_ok (fun h => ?_) fun h => hT ?_⟩
    · refine leafE ?_; rw [hE]; clear hE hT hl hs q1 q2 q3 q4; grind [pLt, pLe, pGt, pGe, pEq, pNe, pNot, pAndB, pBeq, pInt, pLen, inF, pIn, pTo, pNat]
    · clear hE hT hF hl hs q1 q2 q3 q4; grind [pLt, pLe, pGt, pGe, pEq, pNe, pNot, pAndB, pBeq, pInt, pLen, inF, pIn, pTo, pNat]
  · rw [bif_false (by simp [pLt_coe, pLen])]
    refine leafE ?_; rw [hE, hT]; clear hE hq hl hs hy; grind [pLt, pLe, pGt, pGe, pEq, pNe, pNot, pAndB, pBeq, pInt, pLen, inF, pIn, pTo, pNat]

theorem checkF_ok {cn : Int} {cl : List LabD} {cp l me : Int} {ss : List StoD} (h : pNe (checkF (cn, cl, cp, ()) l me ss) 0 = false) :
    (pLe 0 l = true ∧ pLt l (pInt cl.length) = true) ∧ ss.length = cl.length ∧ allUpto (fun i => stoF (pGet tySto ss i)) ss.length = true ∧ checkF (cn, cl, cp, ()) l me ss = 0 := by
  have hE := checkF_eq cn cl cp l me ss
  refine ⟨⟨?_, ?_⟩, ?_, ?_, ?_⟩ <;> grind [pLt, pLe, pGt, pGe, pEq, pNe, pNot, pAndB, pBeq, pInt, pLen, inF, pIn, pTo, pNat]

theorem room_le {n m b : Nat} (h : pRoom n b) (hm : m ≤ n) : pRoom m b := Nat.le_trans (Nat.mul_le_mul_right b hm) h
theorem Writes_ok : Meets Try.prog (fun _ => none) 27 cWrites := Writes_meets scall_ok fun si sl sd so ts tn hp => by
  have l1 : si.length < 4611686018427387904 := hp (pLen si < 4611686018427387904) (by simp)
  have l2 : sl.length < 4611686018427387904 := hp (pLen sl < 4611686018427387904) (by simp)
  have l3 : sd.length < 4611686018427387904 := hp (pLen sd < 4611686018427387904) (by simp)
  have l4 : so.length < 4611686018427387904 := hp (pLen so < 4611686018427387904) (by simp)
  clear hp
  unfold Writes_VC
  refine ⟨l1, l2, l3, l4, bif_ok (fun h => ?_) fun h => ⟨⟨0, rfl, Nat.zero_le _⟩, fun y hy => ?_⟩⟩
  · rw [show pEq (askE (si, sl, sd, so, ()) (ts, tn, ()) 0) 0 = false by simpa [pNe, pEq] using h]; rfl
  obtain ⟨i, rfl, hi⟩ := hy
  by_cases hk : i < sl.length
  · rw [bif_true (by simp [pLt_coe, pLen, hk])]
    dsimp only
    rw [pNat_coe]
    have hc := cntTo_le (p := fun j => lockIsF (pGet tyLock sl j) (ts, tn, ()) && (pGet tyLock sl j).2.2.2.1) (k := i)
    have e : lockIsF (pGet tyLock sl i) (ts, tn, ()) = pAndB (pEq (pGet tyLock sl i).1 ts) (pEq (pGet tyLock sl i).2.1 tn) := rfl
    have nx : ∀ u : Int, u = ((cntTo (fun j => lockIsF (pGet tyLock sl j) (ts, tn, ()) && (pGet tyLock sl j).2.2.2.1) (i + 1) : Nat) : Int) → cntvInv si sl sd so ts tn (pAdd .i64 (i : Int) 1, u, ()) :=
      fun u hu => ⟨i + 1, by rw [pAdd1 (by omega), hu], hk⟩
    refine ⟨pIn_coe.2 hk, bif_ok (fun h1 => bif_ok (fun h2 => ⟨nx _ ?_, mu_step hk (by omega)⟩) fun h2 => ⟨nx _ ?_, mu_step hk (by omega)⟩) fun h1 => ⟨nx _ ?_, mu_step hk (by omega)⟩⟩
    · rw [cntTo_succ, e, h1, h2, pAdd1 (by omega)]; rfl
    · rw [cntTo_succ, e, h1, h2]; rfl
    · rw [cntTo_succ, e, h1]; rfl
  · obtain rfl : i = sl.length := by omega
    rw [bif_false (by simp [pLt_coe, pLen])]
    have h0 : pEq (askE (si, sl, sd, so, ()) (ts, tn, ()) 0) 0 = true := by simpa [pNe, pEq] using h
    have h1 : askE (si, sl, sd, so, ()) (ts, tn, ()) 0 = 0 := by simpa [pEq] using h0
    rw [h1]; rfl
theorem cloneNote_ok : Meets Try.prog (fun _ => none) 29 ccloneNote := cloneNote_meets fun l hp => by
  have h : pRoom (pLen l) 24 := hp (pRoom (pLen l) 24) (by simp)
  refine ⟨fun h0 => ?_, ?_, rfl⟩
  · rw [List.eq_nil_of_length_eq_zero h0]
  · unfold pPlus pLen; rw [List.length_nil, Nat.zero_add]; exact h
theorem NotesCopy_ok : Meets Try.prog (fun _ => none) 10 cNotesCopy := NotesCopy_meets fun l hp => by
  have h : pRoom (pLen l) 24 := hp (pRoom (pLen l) 24) (by simp)
  have hb : l.length < 4611686018427387904 := lt62 h (by decide)
  clear hp
  unfold NotesCopy_VC
  refine ⟨⟨0, rfl, Nat.zero_le _⟩, fun y hy => ?_⟩
  obtain ⟨k, rfl, hk⟩ := hy
  by_cases hkn : k < l.length
  · rw [bif_true (by simp [pLt_coe, pLen, hkn])]
    dsimp only
    rw [pNat_coe]
    have e : pApp (l.take k) [pGet tyNote l k] = l.take (k + 1) := by
      rw [List.take_succ_eq_append_getElem hkn, pGet_lt (t := tyNote) hkn]; rfl
    refine ⟨pIn_coe.2 hkn, room_le h ?_, ⟨k + 1, by rw [pAdd1 (by omega), e], hkn⟩, mu_step hkn (by omega)⟩
    show (l.take k).length + 1 ≤ l.length
    rw [List.length_take]; omega
  · obtain rfl : k = l.length := by omega
    rw [bif_false (by simp [pLt_coe, pLen])]
    dsimp only
    rw [List.take_length]
theorem pownR_ok : Meets Try.prog (fun _ => none) 28 cpownR := pownR_meets cloneItem_ok cloneLock_ok cloneDoubt_ok cloneTxn_ok fun is ls ds os ms rs ns n hp =>
  ⟨hp (pRoom (pLen is) 24) (by simp), hp (pRoom (pLen ls) 48) (by simp), hp (pRoom (pLen ds) 24) (by simp), hp (pRoom (pLen os) 16) (by simp), rfl⟩

theorem end_room {s : StoD} {t : TxnD} {g : Bool} (h : stoF s = true) : pRoom (pLen (endS s t g).1) 24 ∧ pRoom (pLen (endS s t g).2.1) 48 ∧ pRoom (pLen (endS s t g).2.2.1) 24 ∧ pRoom (pLen (endS s t g).2.2.2.1) 16 := by
  obtain ⟨a1, a2, a3, a4⟩ := endS_len s.1 s.2.1 s.2.2.1 s.2.2.2.1 t g
  obtain ⟨f1, f2, f3⟩ := doubts_few (is := s.1) (ls := s.2.1) (ds := s.2.2.1) (os := s.2.2.2.1) h
  have f4 := items_few f3
  have f5 := over_few (is := s.1) (ls := s.2.1) (ds := s.2.2.1) (os := s.2.2.2.1) h
  have q : ∀ a b c d : Nat, a ≤ 32 → b ≤ 24 → c ≤ 24 → d ≤ 4194305 → a * 24 ≤ 140737488351232 ∧ b * 48 ≤ 140737488351232 ∧ c * 24 ≤ 140737488351232 ∧ d * 16 ≤ 140737488351232 := fun a b c d _ _ _ _ => by omega
  exact q _ _ _ _ (Nat.le_trans a1 (Nat.add_le_add f4 f2)) (Nat.le_trans a2 f2) (Nat.le_trans a3 (Nat.le_trans f1 f2)) (Nat.le_trans a4 (Nat.add_le_add_right f5 1))
theorem end_ns {ns : List NoteD} {x : NoteD} (_ : pRoom (pLen ns) 24) (h : pGe (pInt ns.length) 60 = false) : pRoom (pPlus (pLen ns) (pLen [x])) 24 := by
  have h1 : ns.length < 60 := by
    have : ¬ ((ns.length : Int) ≥ 60) := of_decide_eq_false h
    omega
  show (ns.length + 1) * 24 ≤ 140737488351232
  omega
theorem force_eq {cn : Int} {cl : List LabD} {cp l me : Int} {ss : List StoD} {ns : List NoteD} {ts tn : Int} {g : Bool} (h : checkF (cn, cl, cp, ()) l me ss = 0) :
    (forceA (cn, cl, cp, ()) l me ss ns (ts, tn, ()) g, forceE (cn, cl, cp, ()) l me ss ns (ts, tn, ()) g, ()) =
      cond (pEq (askE (pGet tySto ss (pNat l)) (ts, tn, ()) 0) 0) (cond (pEq (writesN (pGet tySto ss (pNat l)) (ts, tn, ())) 0) (([], [], [], [], [], [], [], ()), 6, ())
        (cond (pGe (pInt ns.length) 60) (([], [], [], [], [], [], [], ()), 8, ()) (forceS (pGet tySto ss (pNat l)) ns (ts, tn, ()) g, 0, ()))) (([], [], [], [], [], [], [], ()), askE (pGet tySto ss (pNat l)) (ts, tn, ()) 0, ()) := by
  unfold forceA forceE
  rw [h]
  cases h1 : pEq (askE (pGet tySto ss (pNat l)) (ts, tn, ()) 0) 0 with
  | false =>
    show (cond (pEq (askE (pGet tySto ss (pNat l)) (ts, tn, ()) 0) 0) _ _, _, _) = _
    rw [h1]; rfl
  | true =>
    cases h2 : pEq (writesN (pGet tySto ss (pNat l)) (ts, tn, ())) 0 with
    | true => rfl
    | false => cases h3 : pGe (pInt ns.length) 60 <;> rfl
theorem force_err {c : CfgD} {l me : Int} {ss : List StoD} {ns : List NoteD} {t : TxnD} {g : Bool} (h : pNe (checkF c l me ss) 0 = true) : (([], [], [], [], [], [], [], ()), checkF c l me ss, ()) = (forceA c l me ss ns t g, forceE c l me ss ns t g, ()) := by
  have h' : pEq (checkF c l me ss) 0 = false := by simpa [pNe, pEq] using h
  have e : forceE c l me ss ns t g = checkF c l me ss := by unfold forceE; rw [h']; rfl
  unfold forceA
  rw [e, h']; rfl
theorem Force_ok : Meets Try.prog (fun _ => none) 9 cForce := Force_meets scheck_ok Writes_ok End_ok cloneNote_ok pownR_ok fun cn cl cp l me ss ns ts tn g hp => by
  have hl : cl.length < 4611686018427387904 := hp (pLen cl < 4611686018427387904) (by simp)
  have hs : ss.length < 4611686018427387904 := hp (pLen ss < 4611686018427387904) (by simp)
  have hq := hp (∀ q ∈ ss, pLen q.1 < 4611686018427387904 ∧ pLen q.2.1 < 4611686018427387904 ∧ pLen q.2.2.1 < 4611686018427387904 ∧ pLen q.2.2.2.1 < 4611686018427387904 ∧ pRoom (pLen q.1) 24 ∧ pRoom (pLen q.2.1) 48 ∧ pRoom (pLen q.2.2.1) 24 ∧ pRoom (pLen q.2.2.2.1) 16) (by simp)
  have hn : ns.length < 4611686018427387904 := hp (pLen ns < 4611686018427387904) (by simp)
  have hr : pRoom (pLen ns) 24 := hp (pRoom (pLen ns) 24) (by simp)
  clear hp
  unfold Force_VC
  refine ⟨hl, hs, hq, bif_ok (fun h => force_err h) fun hc => ?_⟩
  obtain ⟨⟨p1, p2⟩, p3, p4, p5⟩ := checkF_ok hc
  have e1 : (0 : Int) ≤ l := of_decide_eq_true p1
  have e2 : l < (cl.length : Int) := of_decide_eq_true p2
  obtain ⟨i, rfl⟩ : ∃ i : Nat, l = (i : Int) := ⟨l.toNat, by omega⟩
  have hi : i < ss.length := by omega
  have hsf : stoF (pGet tySto ss i) = true := allUpto_iff.1 p4 i hi
  obtain ⟨q1, q2, q3, q4, q5, q6, q7, q8⟩ := hq (pGet tySto ss i) (by rw [pGet_lt hi]; exact List.getElem_mem hi)
  rw [pNat_coe]
  have hall := force_eq (cn := cn) (cl := cl) (cp := cp) (l := (i : Int)) (me := me) (ss := ss) (ns := ns) (ts := ts) (tn := tn) (g := g) p5
  rw [pNat_coe] at hall
  obtain ⟨a1, a2, a3, a4⟩ := endS_len (pGet tySto ss i).1 (pGet tySto ss i).2.1 (pGet tySto ss i).2.2.1 (pGet tySto ss i).2.2.2.1 (ts, tn, ()) g
  clear hq hc p1 p2 p4
  generalize pGet tySto ss i = s at *
  have ew : (bif pEq (askE s (ts, tn, ()) 0) 0 then cntW s.2.1 ts tn else 0) = writesN s (ts, tn, ()) := rfl
  rw [hall, ew]
  refine ⟨pIn_coe.2 hi, q1, q2, q3, q4, bif_ok (fun h => ?_) fun h => bif_ok (fun h2 => ?_) fun h2 => bif_ok (fun h3 => ?_) fun h3 => ⟨pIn_coe.2 hi, q1, q2, q3, q4, q5, q6, q7, q8, hr, ?_, ?_, ?_, ?_, ?_, ?_⟩⟩
  · rw [show pEq (askE s (ts, tn, ()) 0) 0 = false by simpa [pNe, pEq] using h]; rfl
  all_goals (have h1 : pEq (askE s (ts, tn, ()) 0) 0 = true := by simpa [pNe, pEq] using h)
  · rw [h1, h2]; rfl
  · rw [h1, h2, show pGe (pInt ns.length) 60 = true from h3]; rfl
  · exact end_ns hr h3
  · exact (end_room hsf).1
  · exact (end_room hsf).2.1
  · exact (end_room hsf).2.2.1
  · exact (end_room hsf).2.2.2
  · rw [h1, h2, show pGe (pInt ns.length) 60 = false from h3]; rfl
theorem ForcedOf_ok : Meets Try.prog (fun _ => none) 11 cForcedOf := ForcedOf_meets siteFault_ok WritesOf_ok EndOf_ok NotesCopy_ok fun cn cl cp l me ss ns ts tn g hp => by
  have hl : cl.length < 4611686018427387904 := hp (pLen cl < 4611686018427387904) (by simp)
  have hs : ss.length < 4611686018427387904 := hp (pLen ss < 4611686018427387904) (by simp)
  have hq := hp (∀ q ∈ ss, pLen q.1 < 4611686018427387904 ∧ pLen q.2.1 < 4611686018427387904 ∧ pLen q.2.2.1 < 4611686018427387904 ∧ pLen q.2.2.2.1 < 4611686018427387904 ∧ pRoom (pLen q.1) 24 ∧ pRoom (pLen q.2.1) 48 ∧ pRoom (pLen q.2.2.1) 24 ∧ pRoom (pLen q.2.2.2.1) 16) (by simp)
  have hn : ns.length < 4611686018427387904 := hp (pLen ns < 4611686018427387904) (by simp)
  have hr : pRoom (pLen ns) 24 := hp (pRoom (pLen ns) 24) (by simp)
  clear hp
  unfold ForcedOf_VC
  refine ⟨hl, hs, hq, bif_ok (fun h => force_err h) fun hc => ?_⟩
  obtain ⟨⟨p1, p2⟩, p3, p4, p5⟩ := checkF_ok hc
  have e1 : (0 : Int) ≤ l := of_decide_eq_true p1
  have e2 : l < (cl.length : Int) := of_decide_eq_true p2
  obtain ⟨i, rfl⟩ : ∃ i : Nat, l = (i : Int) := ⟨l.toNat, by omega⟩
  have hi : i < ss.length := by omega
  have hsf : stoF (pGet tySto ss i) = true := allUpto_iff.1 p4 i hi
  obtain ⟨q1, q2, q3, q4, q5, q6, q7, q8⟩ := hq (pGet tySto ss i) (by rw [pGet_lt hi]; exact List.getElem_mem hi)
  rw [pNat_coe]
  have hall := force_eq (cn := cn) (cl := cl) (cp := cp) (l := (i : Int)) (me := me) (ss := ss) (ns := ns) (ts := ts) (tn := tn) (g := g) p5
  rw [pNat_coe] at hall
  obtain ⟨a1, a2, a3, a4⟩ := endS_len (pGet tySto ss i).1 (pGet tySto ss i).2.1 (pGet tySto ss i).2.2.1 (pGet tySto ss i).2.2.2.1 (ts, tn, ()) g
  clear hq hc p1 p2 p4
  generalize pGet tySto ss i = s at *
  have ew : (bif pEq (askE s (ts, tn, ()) 0) 0 then cntW s.2.1 ts tn else 0) = writesN s (ts, tn, ()) := rfl
  rw [hall, ew, show pNe (askE s (ts, tn, ()) 0) 0 = !pEq (askE s (ts, tn, ()) 0) 0 from rfl]
  refine ⟨pIn_coe.2 hi, q1, q2, q3, q4, ?_⟩
  cases h1 : pEq (askE s (ts, tn, ()) 0) 0 with
  | false =>
    simp only [cond_false, cond_true, Bool.not_false, h1]
  | true =>
    simp only [cond_false, cond_true, Bool.not_true]
    refine bif_ok (fun h2 => ?_) fun h2 => bif_ok (fun h3 => ?_) fun h3 => ⟨hr, end_ns hr h3, pIn_coe.2 hi, q1, q2, q3, q4, q5, q6, q7, q8, ?_⟩
    · rw [h2]; rfl
    · rw [h2, show pGe (pInt ns.length) 60 = true from h3]; rfl
    · rw [h2, show pGe (pInt ns.length) 60 = false from h3]; rfl
theorem sameInts_ok : Meets Try.prog (fun _ => none) 63 csameInts := sameInts_meets fun l m hp => by
  have hl : l.length < 4611686018427387904 := hp (pLen l < 4611686018427387904) (by simp)
  unfold sameInts_VC
  refine bif_ok (fun h => leafF fun q => ?_) fun h => ?_
  · unfold sameIntsF at q; simp only [Bool.and_eq_true, decide_eq_true_eq] at q
    have : pNe (pInt l.length) (pInt m.length) = true := h
    rw [q.1] at this; simp [pNe] at this
  have hn : l.length = m.length := by
    have : pNe (pInt l.length) (pInt m.length) = false := h
    simp only [pNe, pInt, bne_eq_false_iff_eq] at this; omega
  refine ⟨⟨hn, UpInv.start⟩, fun y ⟨_, hy⟩ => ?_⟩
  rcases UpInv.round hl hy with ⟨k, rfl, hk, hb, -, hF, hT⟩ | ⟨rfl, hT⟩
  · have hk2 : k < m.length := by omega
    rw [bif_true (by simp [pLt_coe, pLen, hk]), pNat_coe]
    refine ⟨pIn_coe.2 hk, pIn_coe.2 hk2, bif_ok (fun h => leafF fun q => ?_) fun h => ?_⟩
    · have h' : eqNAt l m k = false := by have h2 : (!eqNAt l m k) = true := h; simpa using h2
      unfold sameIntsF at q
      rw [hF h'] at q; simp at q
    · have h' : eqNAt l m k = true := by have h2 : (!eqNAt l m k) = false := h; simpa using h2
      exact ⟨⟨hn, (hT h').1⟩, (hT h').2⟩
  · rw [bif_false (by simp [pLt_coe, pLen])]
    refine leafT fun q => ?_
    unfold sameIntsF at q
    rw [hT] at q; simp [hn] at q

theorem sameRecord_ok : Meets Try.prog (fun _ => none) 55 csameRecord := sameRecord_meets sameInts_ok fun xk xs xn xy xv xq xw xl zk zs zn zy zv zq zw zl hp => by
  have hl : xl.length < 4611686018427387904 := hp (pLen xl < 4611686018427387904) (by simp)
  clear hp
  unfold sameRecord_VC sameRecF
  (repeat' (first | refine bif_ok (fun h => ?_) (fun h => ?_) | with_reducible refine And.intro ?_ ?_ | fail))
  all_goals first
    | exact hl
    | (refine leafE ?_; simp only [pAndB] at *; simp [*])
theorem sameRecords_ok : Meets Try.prog (fun _ => none) 33 csameRecords := sameRecords_meets sameRecord_ok fun l m hp => by
  have hl : l.length < 4611686018427387904 := hp (pLen l < 4611686018427387904) (by simp)
  have hq := hp (∀ q ∈ l, pLen q.2.2.2.2.2.2.2.1 < 4611686018427387904) (by simp)
  unfold sameRecords_VC
  refine bif_ok (fun h => leafF fun q => ?_) fun h => ?_
  · unfold sameRecsF at q; simp only [Bool.and_eq_true, decide_eq_true_eq] at q
    have : pNe (pInt l.length) (pInt m.length) = true := h
    rw [q.1] at this; simp [pNe] at this
  have hn : l.length = m.length := by
    have : pNe (pInt l.length) (pInt m.length) = false := h
    simp only [pNe, pInt, bne_eq_false_iff_eq] at this; omega
  refine ⟨⟨hn, UpInv.start⟩, fun y ⟨_, hy⟩ => ?_⟩
  rcases UpInv.round hl hy with ⟨k, rfl, hk, hb, -, hF, hT⟩ | ⟨rfl, hT⟩
  · have hk2 : k < m.length := by omega
    rw [bif_true (by simp [pLt_coe, pLen, hk]), pNat_coe]
    refine ⟨pIn_coe.2 hk, pIn_coe.2 hk2, hq _ (by rw [pGet_lt hk]; exact List.getElem_mem hk), bif_ok (fun h => leafF fun q => ?_) fun h => ?_⟩
    · have h' : eqRecAt l m k = false := by have h2 : (!eqRecAt l m k) = true := h; simpa using h2
      unfold sameRecsF at q
      rw [hF h'] at q; simp at q
    · have h' : eqRecAt l m k = true := by have h2 : (!eqRecAt l m k) = false := h; simpa using h2
      exact ⟨⟨hn, (hT h').1⟩, (hT h').2⟩
  · rw [bif_false (by simp [pLt_coe, pLen])]
    refine leafT fun q => ?_
    unfold sameRecsF at q
    rw [hT] at q; simp [hn] at q
theorem sameMsgs_ok : Meets Try.prog (fun _ => none) 32 csameMsgs := sameMsgs_meets fun l m hp => by
  have hl : l.length < 4611686018427387904 := hp _ List.mem_cons_self
  unfold sameMsgs_VC
  refine bif_ok (fun h => leafF fun q => ?_) fun h => ?_
  · unfold sameMsgsF at q; simp only [Bool.and_eq_true, decide_eq_true_eq] at q
    have : pNe (pInt l.length) (pInt m.length) = true := h
    rw [q.1] at this; simp [pNe] at this
  have hn : l.length = m.length := by
    have : pNe (pInt l.length) (pInt m.length) = false := h
    simp only [pNe, pInt, bne_eq_false_iff_eq] at this; omega
  refine ⟨⟨hn, UpInv.start⟩, fun y ⟨_, hy⟩ => ?_⟩
  rcases UpInv.round hl hy with ⟨k, rfl, hk, hb, -, hF, hT⟩ | ⟨rfl, hT⟩
  · have hk2 : k < m.length := by omega
    rw [bif_true (by simp [pLt_coe, pLen, hk]), pNat_coe]
    refine ⟨pIn_coe.2 hk, pIn_coe.2 hk2, bif_ok (fun h => leafF fun q => ?_) fun h => ?_⟩
    · have h' : eqMsgAt l m k = false := by have h2 : (!eqMsgAt l m k) = true := h; simpa using h2
      unfold sameMsgsF at q
      rw [hF h'] at q; simp at q
    · have h' : eqMsgAt l m k = true := by have h2 : (!eqMsgAt l m k) = false := h; simpa using h2
      exact ⟨⟨hn, (hT h').1⟩, (hT h').2⟩
  · rw [bif_false (by simp [pLt_coe, pLen])]
    refine leafT fun q => ?_
    unfold sameMsgsF at q
    rw [hT] at q; simp [hn] at q
theorem sameNotes_ok : Meets Try.prog (fun _ => none) 34 csameNotes := sameNotes_meets fun l m hp => by
  have hl : l.length < 4611686018427387904 := hp _ List.mem_cons_self
  unfold sameNotes_VC
  refine bif_ok (fun h => leafF fun q => ?_) fun h => ?_
  · unfold sameNotesF at q; simp only [Bool.and_eq_true, decide_eq_true_eq] at q
    have : pNe (pInt l.length) (pInt m.length) = true := h
    rw [q.1] at this; simp [pNe] at this
  have hn : l.length = m.length := by
    have : pNe (pInt l.length) (pInt m.length) = false := h
    simp only [pNe, pInt, bne_eq_false_iff_eq] at this; omega
  refine ⟨⟨hn, UpInv.start⟩, fun y ⟨_, hy⟩ => ?_⟩
  rcases UpInv.round hl hy with ⟨k, rfl, hk, hb, -, hF, hT⟩ | ⟨rfl, hT⟩
  · have hk2 : k < m.length := by omega
    rw [bif_true (by simp [pLt_coe, pLen, hk]), pNat_coe]
    refine ⟨pIn_coe.2 hk, pIn_coe.2 hk2, bif_ok (fun h => leafF fun q => ?_) fun h => ?_⟩
    · have h' : eqNoteAt l m k = false := by have h2 : (!eqNoteAt l m k) = true := h; simpa using h2
      unfold sameNotesF at q
      rw [hF h'] at q; simp at q
    · have h' : eqNoteAt l m k = true := by have h2 : (!eqNoteAt l m k) = false := h; simpa using h2
      exact ⟨⟨hn, (hT h').1⟩, (hT h').2⟩
  · rw [bif_false (by simp [pLt_coe, pLen])]
    refine leafT fun q => ?_
    unfold sameNotesF at q
    rw [hT] at q; simp [hn] at q

theorem sameAnsw_ok : Meets Try.prog (fun _ => none) 12 csameAnsw := sameAnsw_meets sameStore_ok sameMsgs_ok sameRecords_ok sameNotes_ok fun ai al ad ao am ar an bi bl bd bo bm br bn hp => by
  have l1 : ai.length < 4611686018427387904 := hp (pLen ai < 4611686018427387904) (by simp)
  have l2 : al.length < 4611686018427387904 := hp (pLen al < 4611686018427387904) (by simp)
  have l3 : ad.length < 4611686018427387904 := hp (pLen ad < 4611686018427387904) (by simp)
  have l4 : ao.length < 4611686018427387904 := hp (pLen ao < 4611686018427387904) (by simp)
  have l5 : am.length < 4611686018427387904 := hp (pLen am < 4611686018427387904) (by simp)
  have l6 : an.length < 4611686018427387904 := hp (pLen an < 4611686018427387904) (by simp)
  have l7 : ar.length < 4611686018427387904 := hp (pLen ar < 4611686018427387904) (by simp)
  have l8 := hp (∀ q ∈ ar, pLen q.2.2.2.2.2.2.2.1 < 4611686018427387904) (by simp)
  clear hp
  unfold sameAnsw_VC sameAnswF
  (repeat' (first | refine bif_ok (fun h => ?_) (fun h => ?_) | with_reducible refine And.intro ?_ ?_ | fail))
  all_goals first
    | assumption
    | (refine leafE ?_; simp [*])

theorem sameMsgs_refl (l : List MsgD) : sameMsgsF l l = true := by
  unfold sameMsgsF
  rw [allUpto_true fun j _ => by simp [eqMsgAt, eqMsg, pAndB, pEq, pBeq]]
  simp
theorem sameNotes_refl (l : List NoteD) : sameNotesF l l = true := by
  unfold sameNotesF
  rw [allUpto_true fun j _ => by simp [eqNoteAt, eqNote, pAndB, pEq, pBeq]]
  simp
theorem sto_at {ss : List StoD} (hq : ∀ q ∈ ss, pLen q.1 < 4611686018427387904 ∧ pLen q.2.1 < 4611686018427387904 ∧ pLen q.2.2.1 < 4611686018427387904 ∧ pLen q.2.2.2.1 < 4611686018427387904 ∧ pRoom (pLen q.1) 24 ∧ pRoom (pLen q.2.1) 48 ∧ pRoom (pLen q.2.2.1) 24 ∧ pRoom (pLen q.2.2.2.1) 16) (i : Nat) :
    (pGet tySto ss i).1.length < 4611686018427387904 ∧ (pGet tySto ss i).2.1.length < 4611686018427387904 ∧ (pGet tySto ss i).2.2.1.length < 4611686018427387904 ∧ (pGet tySto ss i).2.2.2.1.length < 4611686018427387904 := by
  by_cases h : i < ss.length
  · obtain ⟨a, b, c, d, _⟩ := hq (pGet tySto ss i) (by rw [pGet_lt h]; exact List.getElem_mem h)
    exact ⟨a, b, c, d⟩
  · have : pGet tySto ss i = ([], [], [], [], ()) := by
      unfold pGet; rw [List.getD_eq_getElem?_getD, List.getElem?_eq_none (by omega)]; rfl
    rw [this]
    exact ⟨z62, z62, z62, z62⟩
theorem sameInts_refl (l : List ND) : sameIntsF l l = true := by
  unfold sameIntsF
  rw [allUpto_true fun j _ => by simp [eqNAt, pEq]]
  simp
theorem sameRecs_refl (l : List RecD) : sameRecsF l l = true := by
  unfold sameRecsF
  rw [allUpto_true fun j _ => by simp [eqRecAt, sameRecF, pEq, pBeq, sameInts_refl]]
  simp
theorem forceA_len (c : CfgD) (l me : Int) {ss : List StoD} {ns : List NoteD} {t : TxnD} {g : Bool} (k3 : ns.length < 4611686018427387904) (hq : ∀ q ∈ ss, pLen q.1 < 4611686018427387904 ∧ pLen q.2.1 < 4611686018427387904 ∧ pLen q.2.2.1 < 4611686018427387904 ∧ pLen q.2.2.2.1 < 4611686018427387904 ∧ pRoom (pLen q.1) 24 ∧ pRoom (pLen q.2.1) 48 ∧ pRoom (pLen q.2.2.1) 24 ∧ pRoom (pLen q.2.2.2.1) 16) :
    (forceA c l me ss ns t g).1.length < 4611686018427387904 ∧ (forceA c l me ss ns t g).2.1.length < 4611686018427387904 ∧ (forceA c l me ss ns t g).2.2.1.length < 4611686018427387904 ∧ (forceA c l me ss ns t g).2.2.2.1.length < 4611686018427387904 ∧
    (forceA c l me ss ns t g).2.2.2.2.1.length < 4611686018427387904 ∧ (forceA c l me ss ns t g).2.2.2.2.2.1.length < 4611686018427387904 ∧ (forceA c l me ss ns t g).2.2.2.2.2.2.1.length < 4611686018427387904 ∧
    ∀ q ∈ (forceA c l me ss ns t g).2.2.2.2.2.1, pLen q.2.2.2.2.2.2.2.1 < 4611686018427387904 := by
  unfold forceA
  cases h : pEq (forceE c l me ss ns t g) 0 with
  | false => exact ⟨z62, z62, z62, z62, z62, z62, z62, fun q h => absurd h (by simp)⟩
  | true =>
    have h4 : pEq (checkF c l me ss) 0 = true ∧ pGe (pInt ns.length) 60 = false := by
      unfold forceE at h
      cases hA : pEq (checkF c l me ss) 0 with
      | false => rw [hA] at h; exact absurd (hA.symm.trans h) (by simp)
      | true =>
        cases hB : pEq (askE (pGet tySto ss (pNat l)) t 0) 0 with
        | false => rw [hA, hB] at h; exact absurd (hB.symm.trans h) (by simp)
        | true =>
          rw [hA, hB] at h
          cases hC : pEq (writesN (pGet tySto ss (pNat l)) t) 0 with
          | true => rw [hC] at h; exact absurd (show pEq 6 0 = true from h) (by decide)
          | false =>
            rw [hC] at h
            cases hD : pGe (pInt ns.length) 60 with
            | true => rw [hD] at h; exact absurd (show pEq 8 0 = true from h) (by decide)
            | false => exact ⟨rfl, rfl⟩
    have hc : pNe (checkF (c.1, c.2.1, c.2.2.1, ()) l me ss) 0 = false := by
      have := h4.1; show (!pEq (checkF c l me ss) 0) = false; rw [this]; rfl
    obtain ⟨⟨p1, p2⟩, p3, p4, p5⟩ := checkF_ok hc
    have hi : pNat l < ss.length := by
      have e1 : (0 : Int) ≤ l := of_decide_eq_true p1
      have e2 : l < (c.2.1.length : Int) := of_decide_eq_true p2
      unfold pNat; omega
    obtain ⟨b1, b2, b3, b4⟩ := end_room (t := t) (g := g) (allUpto_iff.1 p4 (pNat l) hi)
    have h60 : ns.length < 60 := by
      have : ¬ ((ns.length : Int) ≥ 60) := of_decide_eq_false h4.2
      omega
    have z1 : 1 < 4611686018427387904 := by decide
    refine ⟨lt62 b1 (by decide), lt62 b2 (by decide), lt62 b3 (by decide), lt62 b4 (by decide), z62, z1, ?_, fun q h => ?_⟩
    · show (ns ++ [_]).length < _
      rw [List.length_append]; show ns.length + 1 < _; omega
    · have : q = (6, t.1, t.2.1, 0, 0, 0, g, [], ()) := List.mem_singleton.1 h
      rw [this]; exact z62
theorem sameAnsw_refl (a : AnsD) : sameAnswF a a = true := by
  unfold sameAnswF
  rw [sameSto_refl, sameMsgs_refl, sameRecs_refl, sameNotes_refl]; rfl

end Go.Proofs.Ytkhnakdmkhidbaa
