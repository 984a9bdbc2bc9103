/- Jobs and desks: the checks meet their contracts. No condition. -/
import Derived.Test.YtjedpmnbeiiegaaCoV
import Derived.Test.YtjedpmnbeiiegaaCkP
namespace Go.Proofs.Ytjedpmnbeiiegaa
open Go.RowKit

theorem taskAt_eq (c : CfgD) (s q : Int) (l : List TaskD) (k : Nat) : taskAt c s q l k = (taskF c (pGet tyTask l k) && pLe (pGet tyTask l k).2.2.2.2.2.1 q && (decide (k = 0) || pLt (pGet tyTask l (k - 1)).2.2.2.2.2.1 (pGet tyTask l k).2.2.2.2.2.1) &&
      ((pGet tyTask l k).2.2.2.2.2.2.1 || (decide (l.length ≤ k + 1) && pEq s 1))) := rfl
theorem upAt_eq (l : List ND) (m : Int) (k : Nat) : upAt l m k = (pLe 0 (pGet tyN l k).1 && pLt (pGet tyN l k).1 m && (decide (k = 0) || pLt (pGet tyN l (k - 1)).1 (pGet tyN l k).1)) := rfl
theorem jobF_eq (cn : Int) (cl : List LabD) (cp dn jn js : Int) (jt : List TaskD) (ja : List ND) (jq jg : Int) : jobF (cn, cl, cp, ()) dn (jn, js, jt, ja, jq, jg, ()) =
    (pLe 1 jn && pLt jn dn && inF jg 0 1048576 && inF js 1 3 && pLe (pInt jt.length) 10 && inF jq 0 1048576 &&
    allUpto (taskAt (cn, cl, cp, ()) js jq jt) jt.length && allUpto (upAt ja cn) ja.length && (pEq js 3 == decide (0 < ja.length))) := rfl
theorem task_eta (l : List TaskD) (k : Nat) : ((pGet tyTask l k).1, (pGet tyTask l k).2.1, (pGet tyTask l k).2.2.1, (pGet tyTask l k).2.2.2.1, (pGet tyTask l k).2.2.2.2.1, (pGet tyTask l k).2.2.2.2.2.1, (pGet tyTask l k).2.2.2.2.2.2.1, (pGet tyTask l k).2.2.2.2.2.2.2.1, ()) = pGet tyTask l k := rfl
theorem job_ok : Meets Try.prog (fun _ => none) 10 cjob := job_meets task_ok fun cn cl cp dn dj jn js jt ja jq jg hp => by
  have hl : cl.length < 4611686018427387904 := hp _ List.mem_cons_self
  have hlt : jt.length < 4611686018427387904 := hp (pLen jt < 4611686018427387904) (by simp)
  have hla : ja.length < 4611686018427387904 := hp (pLen ja < 4611686018427387904) (by simp)
  unfold job_VC
  rw [jobF_eq]
  (repeat' (first | refine bif_ok (fun h => ?_) (fun h => ?_) | refine And.intro ?_ ?_ | fail))
  all_goals try (refine leafF fun q => ?_; clear hp; grind [pLt, pLe, pGt, pGe, pEq, pNe, pNot, pAndB, pBeq, pInt, pLen, inF, pIn, pTo, pNat])
  · exact UpInv.start
  intro y hy
  rcases UpInv.round hlt hy with ⟨k, rfl, hk, hb, -, hF, hT⟩ | ⟨rfl, hT⟩
  · rw [bif_true (by simp [pLt_coe, pLen, hk])]
    rw [pNat_coe, task_eta]
    have e1 : 0 < k → pSubI .i64 (k : Int) 1 = ((k - 1 : Nat) : Int) := pSub1 hb
    have e2 := pSub_len1 hlt
    rw [taskAt_eq] at hT hF
    clear hp hy
    dsimp only
    rcases Nat.eq_zero_or_pos k with h0 | h0
    rotate_left
    · rw [e1 h0, pNat_coe]
      generalize pGet tyTask jt k = g at *
      generalize pGet tyTask jt (k - 1) = g1 at *
      clear e1
      (repeat' (first | refine bif_ok (fun h => ?_) (fun h => ?_) | refine And.intro ?_ ?_ | fail))
      all_goals first | exact hl | omega | (unfold pLen; omega) | (refine leafF fun q => ?_; clear hT; grind [pLt, pLe, pGt, pGe, pEq, pNe, pNot, pAndB, pBeq, pInt, pLen, inF, pIn, pTo, pNat]) | (refine leafE ?_; clear hT; grind [pLt, pLe, pGt, pGe, pEq, pNe, pNot, pAndB, pBeq, pInt, pLen, inF, pIn, pTo, pNat]) | (refine (hT ?_).1; clear hT hF; grind [pLt, pLe, pGt, pGe, pEq, pNe, pNot, pAndB, pBeq, pInt, pLen, inF, pIn, pTo, pNat]) | (refine (hT ?_).2; clear hT hF; grind [pLt, pLe, pGt, pGe, pEq, pNe, pNot, pAndB, pBeq, pInt, pLen, inF, pIn, pTo, pNat]) | (clear hT hF; grind [pLt, pLe, pGt, pGe, pEq, pNe, pNot, pAndB, pBeq, pInt, pLen, inF, pIn, pTo, pNat])
    · rw [bif_false (show pGt (k : Int) 0 = false by subst h0; rfl)]
      generalize pGet tyTask jt k = g at *
      generalize pGet tyTask jt (k - 1) = g1 at *
      clear e1
      (repeat' (first | refine bif_ok (fun h => ?_) (fun h => ?_) | refine And.intro ?_ ?_ | fail))
      all_goals first | exact hl | omega | (unfold pLen; omega) | (refine leafF fun q => ?_; clear hT; grind [pLt, pLe, pGt, pGe, pEq, pNe, pNot, pAndB, pBeq, pInt, pLen, inF, pIn, pTo, pNat]) | (refine leafE ?_; clear hT; grind [pLt, pLe, pGt, pGe, pEq, pNe, pNot, pAndB, pBeq, pInt, pLen, inF, pIn, pTo, pNat]) | (refine (hT ?_).1; clear hT hF; grind [pLt, pLe, pGt, pGe, pEq, pNe, pNot, pAndB, pBeq, pInt, pLen, inF, pIn, pTo, pNat]) | (refine (hT ?_).2; clear hT hF; grind [pLt, pLe, pGt, pGe, pEq, pNe, pNot, pAndB, pBeq, pInt, pLen, inF, pIn, pTo, pNat]) | (clear hT hF; grind [pLt, pLe, pGt, pGe, pEq, pNe, pNot, pAndB, pBeq, pInt, pLen, inF, pIn, pTo, pNat])
  · rw [bif_false (by simp [pLt_coe, pLen])]
    refine ⟨UpInv.start, fun y hy => ?_⟩
    rcases UpInv.round hla hy with ⟨k, rfl, hk, hb, -, hF, hU⟩ | ⟨rfl, hU⟩
    · rw [bif_true (by simp [pLt_coe, pLen, hk]), pNat_coe]
      have e1 : 0 < k → pSubI .i64 (k : Int) 1 = ((k - 1 : Nat) : Int) := pSub1 hb
      rw [upAt_eq] at hU hF
      clear hp hy
      (repeat' (first | refine bif_ok (fun h => ?_) (fun h => ?_) | refine And.intro ?_ ?_ | fail))
      all_goals first | exact hl | omega | (unfold pLen; omega) | (refine leafF fun q => ?_; clear hU; grind [pLt, pLe, pGt, pGe, pEq, pNe, pNot, pAndB, pBeq, pInt, pLen, inF, pIn, pTo, pNat]) | (refine leafE ?_; clear hU; grind [pLt, pLe, pGt, pGe, pEq, pNe, pNot, pAndB, pBeq, pInt, pLen, inF, pIn, pTo, pNat]) | (refine (hU ?_).1; clear hU hF; grind [pLt, pLe, pGt, pGe, pEq, pNe, pNot, pAndB, pBeq, pInt, pLen, inF, pIn, pTo, pNat]) | (refine (hU ?_).2; clear hU hF; grind [pLt, pLe, pGt, pGe, pEq, pNe, pNot, pAndB, pBeq, pInt, pLen, inF, pIn, pTo, pNat]) | (clear hU hF; grind [pLt, pLe, pGt, pGe, pEq, pNe, pNot, pAndB, pBeq, pInt, pLen, inF, pIn, pTo, pNat])
    · rw [bif_false (by simp [pLt_coe, pLen])]
      refine leafE ?_
      rw [hT, hU]
      clear hp hy
      grind [pLt, pLe, pGt, pGe, pEq, pNe, pNot, pAndB, pBeq, pInt, pLen, inF, pIn, pTo, pNat]

theorem jobMay_ok : Meets Try.prog (fun _ => none) 13 cjobMay := jobMay_meets In_ok taskMay_ok fun cn cl cp d jn js jt ja jq jg hp => by
  have hl : cl.length < 4611686018427387904 := hp _ List.mem_cons_self
  have hlt : jt.length < 4611686018427387904 := hp (pLen jt < 4611686018427387904) (by simp)
  have hla : ja.length < 4611686018427387904 := hp (pLen ja < 4611686018427387904) (by simp)
  have hd := inF_iff.1 (hp (inF d 1 1048577 = true) (by simp))
  have hn := inF_iff.1 (hp (inF cn 1 4 = true) (by simp))
  clear hp
  unfold jobMay_VC
  rw [jobF_eq, pSubI_in (a := d) (b := 1) (by omega), pSubI_in (a := cn) (b := 1) (by omega)]
  (repeat' (first | refine bif_ok (fun h => ?_) (fun h => ?_) | refine And.intro ?_ ?_ | fail))
  all_goals try (refine leafF fun q => ?_; grind [pLt, pLe, pGt, pGe, pEq, pNe, pNot, pAndB, pBeq, pInt, pLen, inF, pIn, pTo, pNat])
  · exact UpInv.start
  intro y hy
  rcases UpInv.round hlt hy with ⟨k, rfl, hk, hb, -, hF, hT⟩ | ⟨rfl, hT⟩
  · rw [bif_true (by simp [pLt_coe, pLen, hk])]
    rw [pNat_coe, task_eta]
    have e1 : 0 < k → pSubI .i64 (k : Int) 1 = ((k - 1 : Nat) : Int) := pSub1 hb
    have e2 := pSub_len1 hlt
    rw [taskAt_eq] at hT hF
    clear hy
    dsimp only
    rcases Nat.eq_zero_or_pos k with h0 | h0
    rotate_left
    · rw [e1 h0, pNat_coe]
      generalize pGet tyTask jt k = g at *
      generalize pGet tyTask jt (k - 1) = g1 at *
      clear e1
      (repeat' (first | refine bif_ok (fun h => ?_) (fun h => ?_) | refine And.intro ?_ ?_ | fail))
      all_goals first | exact hl | omega | (unfold pLen; omega) | (refine leafF fun q => ?_; clear hT; grind [pLt, pLe, pGt, pGe, pEq, pNe, pNot, pAndB, pBeq, pInt, pLen, inF, pIn, pTo, pNat]) | (refine leafE ?_; clear hT; grind [pLt, pLe, pGt, pGe, pEq, pNe, pNot, pAndB, pBeq, pInt, pLen, inF, pIn, pTo, pNat]) | (refine (hT ?_).1; clear hT hF; grind [pLt, pLe, pGt, pGe, pEq, pNe, pNot, pAndB, pBeq, pInt, pLen, inF, pIn, pTo, pNat]) | (refine (hT ?_).2; clear hT hF; grind [pLt, pLe, pGt, pGe, pEq, pNe, pNot, pAndB, pBeq, pInt, pLen, inF, pIn, pTo, pNat]) | (clear hT hF; grind [pLt, pLe, pGt, pGe, pEq, pNe, pNot, pAndB, pBeq, pInt, pLen, inF, pIn, pTo, pNat])
    · rw [bif_false (show pGt (k : Int) 0 = false by subst h0; rfl)]
      generalize pGet tyTask jt k = g at *
      generalize pGet tyTask jt (k - 1) = g1 at *
      clear e1
      (repeat' (first | refine bif_ok (fun h => ?_) (fun h => ?_) | refine And.intro ?_ ?_ | fail))
      all_goals first | exact hl | omega | (unfold pLen; omega) | (refine leafF fun q => ?_; clear hT; grind [pLt, pLe, pGt, pGe, pEq, pNe, pNot, pAndB, pBeq, pInt, pLen, inF, pIn, pTo, pNat]) | (refine leafE ?_; clear hT; grind [pLt, pLe, pGt, pGe, pEq, pNe, pNot, pAndB, pBeq, pInt, pLen, inF, pIn, pTo, pNat]) | (refine (hT ?_).1; clear hT hF; grind [pLt, pLe, pGt, pGe, pEq, pNe, pNot, pAndB, pBeq, pInt, pLen, inF, pIn, pTo, pNat]) | (refine (hT ?_).2; clear hT hF; grind [pLt, pLe, pGt, pGe, pEq, pNe, pNot, pAndB, pBeq, pInt, pLen, inF, pIn, pTo, pNat]) | (clear hT hF; grind [pLt, pLe, pGt, pGe, pEq, pNe, pNot, pAndB, pBeq, pInt, pLen, inF, pIn, pTo, pNat])
  · rw [bif_false (by simp [pLt_coe, pLen])]
    refine ⟨UpInv.start, fun y hy => ?_⟩
    rcases UpInv.round hla hy with ⟨k, rfl, hk, hb, -, hF, hU⟩ | ⟨rfl, hU⟩
    · rw [bif_true (by simp [pLt_coe, pLen, hk]), pNat_coe]
      have e1 : 0 < k → pSubI .i64 (k : Int) 1 = ((k - 1 : Nat) : Int) := pSub1 hb
      rw [upAt_eq] at hU hF
      clear hy
      (repeat' (first | refine bif_ok (fun h => ?_) (fun h => ?_) | refine And.intro ?_ ?_ | fail))
      all_goals first | exact hl | omega | (unfold pLen; omega) | (refine leafF fun q => ?_; clear hU; grind [pLt, pLe, pGt, pGe, pEq, pNe, pNot, pAndB, pBeq, pInt, pLen, inF, pIn, pTo, pNat]) | (refine leafE ?_; clear hU; grind [pLt, pLe, pGt, pGe, pEq, pNe, pNot, pAndB, pBeq, pInt, pLen, inF, pIn, pTo, pNat]) | (refine (hU ?_).1; clear hU hF; grind [pLt, pLe, pGt, pGe, pEq, pNe, pNot, pAndB, pBeq, pInt, pLen, inF, pIn, pTo, pNat]) | (refine (hU ?_).2; clear hU hF; grind [pLt, pLe, pGt, pGe, pEq, pNe, pNot, pAndB, pBeq, pInt, pLen, inF, pIn, pTo, pNat]) | (clear hU hF; grind [pLt, pLe, pGt, pGe, pEq, pNe, pNot, pAndB, pBeq, pInt, pLen, inF, pIn, pTo, pNat])
    · rw [bif_false (by simp [pLt_coe, pLen])]
      refine leafE ?_
      rw [hT, hU]
      clear hy
      grind [pLt, pLe, pGt, pGe, pEq, pNe, pNot, pAndB, pBeq, pInt, pLen, inF, pIn, pTo, pNat]

theorem deskF_eq (cn : Int) (cl : List LabD) (cp dn : Int) (dj : List JobD) : deskF (cn, cl, cp, ()) (dn, dj, ()) =
    cond (pEq (cfgF (cn, cl, cp, ())) 0) (cond (inF dn 1 1048577 && pLe (pInt dj.length) 6 && allUpto (jobAt (cn, cl, cp, ()) (dn, dj, ())) dj.length) 0 9) (cfgF (cn, cl, cp, ())) := rfl
theorem jobAt_eq (c : CfgD) (dn : Int) (dj : List JobD) (k : Nat) : jobAt c (dn, dj, ()) k = (jobF c dn (pGet tyJob dj k) && (decide (k = 0) || pLt (pGet tyJob dj (k - 1)).1 (pGet tyJob dj k).1)) := rfl
theorem job_eta (l : List JobD) (k : Nat) : ((pGet tyJob l k).1, (pGet tyJob l k).2.1, (pGet tyJob l k).2.2.1, (pGet tyJob l k).2.2.2.1, (pGet tyJob l k).2.2.2.2.1, (pGet tyJob l k).2.2.2.2.2.1, ()) = pGet tyJob l k := rfl
theorem cfgF_sites4 {c : CfgD} (h : pNe (cfgF c) 0 = false) : inF c.1 1 4 = true := by
  cases hq : inF c.1 1 4
  · rw [cfgF_sites hq] at h; cases h
  · rfl

theorem cCheck_ok : Meets Try.prog (fun _ => none) 5 ccCheck := cCheck_meets lCheck_ok job_ok fun cn cl cp dn dj hp => by
  have hl : cl.length < 4611686018427387904 := hp _ List.mem_cons_self
  have hld : dj.length < 4611686018427387904 := hp (pLen dj < 4611686018427387904) (by simp)
  have hq : ∀ q ∈ dj, q.2.2.1.length < 4611686018427387904 ∧ q.2.2.2.1.length < 4611686018427387904 := hp (∀ q ∈ dj, pLen q.2.2.1 < 4611686018427387904 ∧ pLen q.2.2.2.1 < 4611686018427387904) (by simp)
  clear hp
  unfold cCheck_VC
  rw [deskF_eq]
  refine ⟨hl, bif_ok (fun h => ?_) fun hc => ?_⟩
  · refine leafE ?_; grind [pLt, pLe, pGt, pGe, pEq, pNe, pNot, pAndB, pBeq, pInt, pLen, inF, pIn, pTo, pNat]
  have hc0 : pEq (cfgF (cn, cl, cp, ())) 0 = true := by simpa [pNe, pEq] using hc
  rw [hc0, cond_true]
  (repeat' (first | refine bif_ok (fun h => ?_) (fun h => ?_) | refine And.intro ?_ ?_ | fail))
  all_goals try (refine leafE ?_; grind [pLt, pLe, pGt, pGe, pEq, pNe, pNot, pAndB, pBeq, pInt, pLen, inF, pIn, pTo, pNat])
  · exact UpInv.start
  intro y hy
  rcases UpInv.round hld hy with ⟨k, rfl, hk, hb, -, hF, hT⟩ | ⟨rfl, hT⟩
  · rw [bif_true (by simp [pLt_coe, pLen, hk])]
    rw [pNat_coe, job_eta]
    have e1 : 0 < k → pSubI .i64 (k : Int) 1 = ((k - 1 : Nat) : Int) := pSub1 hb
    have hqk := hq (pGet tyJob dj k) (by rw [pGet_lt hk]; exact List.getElem_mem hk)
    rw [jobAt_eq] at hT hF
    clear hy hq
    dsimp only
    refine ⟨pIn_coe.2 hk, hl, hqk.1, hqk.2, ?_⟩
    clear hqk
    rcases Nat.eq_zero_or_pos k with h0 | h0
    rotate_left
    · rw [e1 h0, pNat_coe]
      generalize pGet tyJob dj k = g at *
      generalize pGet tyJob dj (k - 1) = g1 at *
      clear e1
      (repeat' (first | refine bif_ok (fun h => ?_) (fun h => ?_) | refine And.intro ?_ ?_ | fail))
      all_goals first | exact hl | omega | (unfold pLen; omega) | (refine leafF fun q => ?_; clear hT; grind [pLt, pLe, pGt, pGe, pEq, pNe, pNot, pAndB, pBeq, pInt, pLen, inF, pIn, pTo, pNat]) | (refine leafE ?_; clear hT; grind [pLt, pLe, pGt, pGe, pEq, pNe, pNot, pAndB, pBeq, pInt, pLen, inF, pIn, pTo, pNat]) | (refine (hT ?_).1; clear hT hF; grind [pLt, pLe, pGt, pGe, pEq, pNe, pNot, pAndB, pBeq, pInt, pLen, inF, pIn, pTo, pNat]) | (refine (hT ?_).2; clear hT hF; grind [pLt, pLe, pGt, pGe, pEq, pNe, pNot, pAndB, pBeq, pInt, pLen, inF, pIn, pTo, pNat]) | (clear hT hF; grind [pLt, pLe, pGt, pGe, pEq, pNe, pNot, pAndB, pBeq, pInt, pLen, inF, pIn, pTo, pNat])
    · rw [bif_false (show pGt (k : Int) 0 = false by subst h0; rfl)]
      generalize pGet tyJob dj k = g at *
      generalize pGet tyJob dj (k - 1) = g1 at *
      clear e1
      (repeat' (first | refine bif_ok (fun h => ?_) (fun h => ?_) | refine And.intro ?_ ?_ | fail))
      all_goals first | exact hl | omega | (unfold pLen; omega) | (refine leafF fun q => ?_; clear hT; grind [pLt, pLe, pGt, pGe, pEq, pNe, pNot, pAndB, pBeq, pInt, pLen, inF, pIn, pTo, pNat]) | (refine leafE ?_; clear hT; grind [pLt, pLe, pGt, pGe, pEq, pNe, pNot, pAndB, pBeq, pInt, pLen, inF, pIn, pTo, pNat]) | (refine (hT ?_).1; clear hT hF; grind [pLt, pLe, pGt, pGe, pEq, pNe, pNot, pAndB, pBeq, pInt, pLen, inF, pIn, pTo, pNat]) | (refine (hT ?_).2; clear hT hF; grind [pLt, pLe, pGt, pGe, pEq, pNe, pNot, pAndB, pBeq, pInt, pLen, inF, pIn, pTo, pNat]) | (clear hT hF; grind [pLt, pLe, pGt, pGe, pEq, pNe, pNot, pAndB, pBeq, pInt, pLen, inF, pIn, pTo, pNat])
  · rw [bif_false (by simp [pLt_coe, pLen])]
    refine leafE ?_
    rw [hT]
    clear hy hq
    grind [pLt, pLe, pGt, pGe, pEq, pNe, pNot, pAndB, pBeq, pInt, pLen, inF, pIn, pTo, pNat]

theorem dFault_ok : Meets Try.prog (fun _ => none) 6 cdFault := dFault_meets cFault_ok In_ok jobMay_ok fun cn cl cp dn dj hp => by
  have hl : cl.length < 4611686018427387904 := hp _ List.mem_cons_self
  have hld : dj.length < 4611686018427387904 := hp (pLen dj < 4611686018427387904) (by simp)
  have hq : ∀ q ∈ dj, q.2.2.1.length < 4611686018427387904 ∧ q.2.2.2.1.length < 4611686018427387904 := hp (∀ q ∈ dj, pLen q.2.2.1 < 4611686018427387904 ∧ pLen q.2.2.2.1 < 4611686018427387904) (by simp)
  clear hp
  unfold dFault_VC
  rw [deskF_eq]
  refine ⟨hl, bif_ok (fun h => ?_) fun hc => ?_⟩
  · refine leafE ?_; grind [pLt, pLe, pGt, pGe, pEq, pNe, pNot, pAndB, pBeq, pInt, pLen, inF, pIn, pTo, pNat]
  have hc0 : pEq (cfgF (cn, cl, cp, ())) 0 = true := by simpa [pNe, pEq] using hc
  have hc4 : inF cn 1 4 = true := cfgF_sites4 hc
  rw [hc0, cond_true]
  refine bif_ok (fun h => ?_) fun hd => ?_
  · refine leafE ?_; grind [pLt, pLe, pGt, pGe, pEq, pNe, pNot, pAndB, pBeq, pInt, pLen, inF, pIn, pTo, pNat]
  have hd4 : inF dn 1 1048577 = true := by simpa [pNot] using hd
  (repeat' (first | refine bif_ok (fun h => ?_) (fun h => ?_) | refine And.intro ?_ ?_ | fail))
  all_goals try (refine leafE ?_; grind [pLt, pLe, pGt, pGe, pEq, pNe, pNot, pAndB, pBeq, pInt, pLen, inF, pIn, pTo, pNat])
  · exact UpInv.start
  intro y hy
  rcases UpInv.round hld hy with ⟨k, rfl, hk, hb, -, hF, hT⟩ | ⟨rfl, hT⟩
  · rw [bif_true (by simp [pLt_coe, pLen, hk])]
    rw [pNat_coe, job_eta]
    have e1 : 0 < k → pSubI .i64 (k : Int) 1 = ((k - 1 : Nat) : Int) := pSub1 hb
    have hqk := hq (pGet tyJob dj k) (by rw [pGet_lt hk]; exact List.getElem_mem hk)
    rw [jobAt_eq] at hT hF
    clear hy hq
    dsimp only
    refine ⟨pIn_coe.2 hk, hl, hqk.1, hqk.2, hd4, hc4, ?_⟩
    clear hqk
    rcases Nat.eq_zero_or_pos k with h0 | h0
    rotate_left
    · rw [e1 h0, pNat_coe]
      generalize pGet tyJob dj k = g at *
      generalize pGet tyJob dj (k - 1) = g1 at *
      clear e1
      (repeat' (first | refine bif_ok (fun h => ?_) (fun h => ?_) | refine And.intro ?_ ?_ | fail))
      all_goals first | exact hl | omega | (unfold pLen; omega) | (refine leafF fun q => ?_; clear hT; grind [pLt, pLe, pGt, pGe, pEq, pNe, pNot, pAndB, pBeq, pInt, pLen, inF, pIn, pTo, pNat]) | (refine leafE ?_; clear hT; grind [pLt, pLe, pGt, pGe, pEq, pNe, pNot, pAndB, pBeq, pInt, pLen, inF, pIn, pTo, pNat]) | (refine (hT ?_).1; clear hT hF; grind [pLt, pLe, pGt, pGe, pEq, pNe, pNot, pAndB, pBeq, pInt, pLen, inF, pIn, pTo, pNat]) | (refine (hT ?_).2; clear hT hF; grind [pLt, pLe, pGt, pGe, pEq, pNe, pNot, pAndB, pBeq, pInt, pLen, inF, pIn, pTo, pNat]) | (clear hT hF; grind [pLt, pLe, pGt, pGe, pEq, pNe, pNot, pAndB, pBeq, pInt, pLen, inF, pIn, pTo, pNat])
    · rw [bif_false (show pGt (k : Int) 0 = false by subst h0; rfl)]
      generalize pGet tyJob dj k = g at *
      generalize pGet tyJob dj (k - 1) = g1 at *
      clear e1
      (repeat' (first | refine bif_ok (fun h => ?_) (fun h => ?_) | refine And.intro ?_ ?_ | fail))
      all_goals first | exact hl | omega | (unfold pLen; omega) | (refine leafF fun q => ?_; clear hT; grind [pLt, pLe, pGt, pGe, pEq, pNe, pNot, pAndB, pBeq, pInt, pLen, inF, pIn, pTo, pNat]) | (refine leafE ?_; clear hT; grind [pLt, pLe, pGt, pGe, pEq, pNe, pNot, pAndB, pBeq, pInt, pLen, inF, pIn, pTo, pNat]) | (refine (hT ?_).1; clear hT hF; grind [pLt, pLe, pGt, pGe, pEq, pNe, pNot, pAndB, pBeq, pInt, pLen, inF, pIn, pTo, pNat]) | (refine (hT ?_).2; clear hT hF; grind [pLt, pLe, pGt, pGe, pEq, pNe, pNot, pAndB, pBeq, pInt, pLen, inF, pIn, pTo, pNat]) | (clear hT hF; grind [pLt, pLe, pGt, pGe, pEq, pNe, pNot, pAndB, pBeq, pInt, pLen, inF, pIn, pTo, pNat])
  · rw [bif_false (by simp [pLt_coe, pLen])]
    refine leafE ?_
    rw [hT]
    clear hy hq
    grind [pLt, pLe, pGt, pGe, pEq, pNe, pNot, pAndB, pBeq, pInt, pLen, inF, pIn, pTo, pNat]

end Go.Proofs.Ytjedpmnbeiiegaa
