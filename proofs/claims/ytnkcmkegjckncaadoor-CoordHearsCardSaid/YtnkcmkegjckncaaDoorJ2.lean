/- Plain words of coordinators' turns: what a tick does. No condition. -/
import Derived.Test.YtnkcmkegjckncaaDoorJ1
import Derived.Test.YtnkcmkegjckncaaDoorFF
import Derived.Test.YtnkcmkegjckncaaDoorLib
import Derived.Lib.SliceRun
import Derived.Deep.RegionLaw

/- Jobs and desks: the checks meet their contracts. No condition. -/
namespace Go.Proofs.YtnkcmkegjckncaaDoor
open Go.RowKit

theorem taskAt_eq (c : CfgD) (s q : Int) (l : List TaskD) (k : Nat) : taskAt c s q l k = (taskF c (pGet tyTask l k) && pLe (pGet tyTask l k).2.2.2.2.2.1 q && (decide (k = 0) || pLt (pGet tyTask l (k - 1)).2.2.2.2.2.1 (pGet tyTask l k).2.2.2.2.2.1) &&
      ((pGet tyTask l k).2.2.2.2.2.2.1 || (decide (l.length ≤ k + 1) && pEq s 1))) := rfl
theorem upAt_eq (l : List ND) (m : Int) (k : Nat) : upAt l m k = (pLe 0 (pGet tyN l k).1 && pLt (pGet tyN l k).1 m && (decide (k = 0) || pLt (pGet tyN l (k - 1)).1 (pGet tyN l k).1)) := rfl
theorem jobF_eq (cn : Int) (cl : List LabD) (cp dn jn js : Int) (jt : List TaskD) (ja : List ND) (jq jg : Int) : jobF (cn, cl, cp, ()) dn (jn, js, jt, ja, jq, jg, ()) =
    (pLe 1 jn && pLt jn dn && inF jg 0 1048576 && inF js 1 3 && pLe (pInt jt.length) 10 && inF jq 0 1048576 &&
    allUpto (taskAt (cn, cl, cp, ()) js jq jt) jt.length && allUpto (upAt ja cn) ja.length && (pEq js 3 == decide (0 < ja.length))) := rfl
theorem task_eta (l : List TaskD) (k : Nat) : ((pGet tyTask l k).1, (pGet tyTask l k).2.1, (pGet tyTask l k).2.2.1, (pGet tyTask l k).2.2.2.1, (pGet tyTask l k).2.2.2.2.1, (pGet tyTask l k).2.2.2.2.2.1, (pGet tyTask l k).2.2.2.2.2.2.1, (pGet tyTask l k).2.2.2.2.2.2.2.1, ()) = pGet tyTask l k := rfl
theorem job_ok : Meets Tryd.prog (fun _ => none) 57 cjob := job_meets task_ok fun cn cl cp dn dj jn js jt ja jq jg hp => by
  have hl : cl.length < 4611686018427387904 := hp _ List.mem_cons_self
  have hlt : jt.length < 4611686018427387904 := hp (pLen jt < 4611686018427387904) (by simp)
  have hla : ja.length < 4611686018427387904 := hp (pLen ja < 4611686018427387904) (by simp)
  unfold job_VC job_t3 job_t0 job_t1 job_t2 job_v0
  rw [jobF_eq]
  (repeat' (first | refine bif_ok (fun h => ?_) (fun h => ?_) | refine And.intro ?_ ?_ | fail))
  all_goals try (refine leafF fun q => ?_; clear hp; grind [pLt, pLe, pGt, pGe, pEq, pNe, pNot, pAndB, pBeq, pInt, pLen, inF, pIn, pTo, pNat])
  · exact UpInv.start
  intro y hy
  rcases UpInv.round hlt hy with ⟨k, rfl, hk, hb, -, hF, hT⟩ | ⟨rfl, hT⟩
  · rw [bif_true (by simp [pLt_coe, pLen, hk])]
    (try rw [pNat_coe]); (try rw [task_eta])
    have e1 : 0 < k → pSubI .i64 (k : Int) 1 = ((k - 1 : Nat) : Int) := pSub1 hb
    have e2 := pSub_len1 hlt
    rw [taskAt_eq] at hT hF
    clear hp hy
    dsimp only
    rcases Nat.eq_zero_or_pos k with h0 | h0
    rotate_left
    · rw [e1 h0, pNat_coe]
      generalize pGet tyTask jt k = g at *
      generalize pGet tyTask jt (k - 1) = g1 at *
      clear e1
      (repeat' (first | refine bif_ok (fun h => ?_) (fun h => ?_) | refine And.intro ?_ ?_ | fail))
      all_goals first | exact hl | omega | (unfold pLen; omega) | (refine leafF fun q => ?_; clear hT; grind [pLt, pLe, pGt, pGe, pEq, pNe, pNot, pAndB, pBeq, pInt, pLen, inF, pIn, pTo, pNat]) | (refine leafE ?_; clear hT; grind [pLt, pLe, pGt, pGe, pEq, pNe, pNot, pAndB, pBeq, pInt, pLen, inF, pIn, pTo, pNat]) | (refine (hT ?_).1; clear hT hF; grind [pLt, pLe, pGt, pGe, pEq, pNe, pNot, pAndB, pBeq, pInt, pLen, inF, pIn, pTo, pNat]) | (refine (hT ?_).2; clear hT hF; grind [pLt, pLe, pGt, pGe, pEq, pNe, pNot, pAndB, pBeq, pInt, pLen, inF, pIn, pTo, pNat]) | (clear hT hF; grind [pLt, pLe, pGt, pGe, pEq, pNe, pNot, pAndB, pBeq, pInt, pLen, inF, pIn, pTo, pNat])
    · rw [bif_false (show pGt (k : Int) 0 = false by subst h0; rfl)]
      generalize pGet tyTask jt k = g at *
      generalize pGet tyTask jt (k - 1) = g1 at *
      clear e1
      (repeat' (first | refine bif_ok (fun h => ?_) (fun h => ?_) | refine And.intro ?_ ?_ | fail))
      all_goals first | exact hl | omega | (unfold pLen; omega) | (refine leafF fun q => ?_; clear hT; grind [pLt, pLe, pGt, pGe, pEq, pNe, pNot, pAndB, pBeq, pInt, pLen, inF, pIn, pTo, pNat]) | (refine leafE ?_; clear hT; grind [pLt, pLe, pGt, pGe, pEq, pNe, pNot, pAndB, pBeq, pInt, pLen, inF, pIn, pTo, pNat]) | (refine (hT ?_).1; clear hT hF; grind [pLt, pLe, pGt, pGe, pEq, pNe, pNot, pAndB, pBeq, pInt, pLen, inF, pIn, pTo, pNat]) | (refine (hT ?_).2; clear hT hF; grind [pLt, pLe, pGt, pGe, pEq, pNe, pNot, pAndB, pBeq, pInt, pLen, inF, pIn, pTo, pNat]) | (clear hT hF; grind [pLt, pLe, pGt, pGe, pEq, pNe, pNot, pAndB, pBeq, pInt, pLen, inF, pIn, pTo, pNat])
  · rw [bif_false (by simp [pLt_coe, pLen])]
    refine ⟨UpInv.start, fun y hy => ?_⟩
    rcases UpInv.round hla hy with ⟨k, rfl, hk, hb, -, hF, hU⟩ | ⟨rfl, hU⟩
    · rw [bif_true (by simp [pLt_coe, pLen, hk]), pNat_coe]
      have e1 : 0 < k → pSubI .i64 (k : Int) 1 = ((k - 1 : Nat) : Int) := pSub1 hb
      rw [upAt_eq] at hU hF
      clear hp hy
      (repeat' (first | refine bif_ok (fun h => ?_) (fun h => ?_) | refine And.intro ?_ ?_ | fail))
      all_goals first | exact hl | omega | (unfold pLen; omega) | (refine leafF fun q => ?_; clear hU; grind [pLt, pLe, pGt, pGe, pEq, pNe, pNot, pAndB, pBeq, pInt, pLen, inF, pIn, pTo, pNat]) | (refine leafE ?_; clear hU; grind [pLt, pLe, pGt, pGe, pEq, pNe, pNot, pAndB, pBeq, pInt, pLen, inF, pIn, pTo, pNat]) | (refine (hU ?_).1; clear hU hF; grind [pLt, pLe, pGt, pGe, pEq, pNe, pNot, pAndB, pBeq, pInt, pLen, inF, pIn, pTo, pNat]) | (refine (hU ?_).2; clear hU hF; grind [pLt, pLe, pGt, pGe, pEq, pNe, pNot, pAndB, pBeq, pInt, pLen, inF, pIn, pTo, pNat]) | (clear hU hF; grind [pLt, pLe, pGt, pGe, pEq, pNe, pNot, pAndB, pBeq, pInt, pLen, inF, pIn, pTo, pNat])
    · rw [bif_false (by simp [pLt_coe, pLen])]
      refine leafE ?_
      rw [hT, hU]
      clear hp hy
      grind [pLt, pLe, pGt, pGe, pEq, pNe, pNot, pAndB, pBeq, pInt, pLen, inF, pIn, pTo, pNat]

theorem jobMay_ok : Meets Tryd.prog (fun _ => none) 68 cjobMay := jobMay_meets In_ok taskMay_ok fun cn cl cp d jn js jt ja jq jg hp => by
  have hl : cl.length < 4611686018427387904 := hp _ List.mem_cons_self
  have hlt : jt.length < 4611686018427387904 := hp (pLen jt < 4611686018427387904) (by simp)
  have hla : ja.length < 4611686018427387904 := hp (pLen ja < 4611686018427387904) (by simp)
  have hd := inF_iff.1 (hp (inF d 1 1048577 = true) (by simp))
  have hn := inF_iff.1 (hp (inF cn 1 4 = true) (by simp))
  clear hp
  unfold jobMay_VC jobMay_t2 jobMay_t0 jobMay_t1 jobMay_v0
  rw [jobF_eq, pSubI_in (a := d) (b := 1) (by omega), pSubI_in (a := cn) (b := 1) (by omega)]
  (repeat' (first | refine bif_ok (fun h => ?_) (fun h => ?_) | refine And.intro ?_ ?_ | fail))
  all_goals try (refine leafF fun q => ?_; grind [pLt, pLe, pGt, pGe, pEq, pNe, pNot, pAndB, pBeq, pInt, pLen, inF, pIn, pTo, pNat])
  · exact UpInv.start
  intro y hy
  rcases UpInv.round hlt hy with ⟨k, rfl, hk, hb, -, hF, hT⟩ | ⟨rfl, hT⟩
  · rw [bif_true (by simp [pLt_coe, pLen, hk])]
    (try rw [pNat_coe]); (try rw [task_eta])
    have e1 : 0 < k → pSubI .i64 (k : Int) 1 = ((k - 1 : Nat) : Int) := pSub1 hb
    have e2 := pSub_len1 hlt
    rw [taskAt_eq] at hT hF
    clear hy
    dsimp only
    rcases Nat.eq_zero_or_pos k with h0 | h0
    rotate_left
    · rw [e1 h0, pNat_coe]
      generalize pGet tyTask jt k = g at *
      generalize pGet tyTask jt (k - 1) = g1 at *
      clear e1
      (repeat' (first | refine bif_ok (fun h => ?_) (fun h => ?_) | refine And.intro ?_ ?_ | fail))
      all_goals first | exact hl | omega | (unfold pLen; omega) | (refine leafF fun q => ?_; clear hT; grind [pLt, pLe, pGt, pGe, pEq, pNe, pNot, pAndB, pBeq, pInt, pLen, inF, pIn, pTo, pNat]) | (refine leafE ?_; clear hT; grind [pLt, pLe, pGt, pGe, pEq, pNe, pNot, pAndB, pBeq, pInt, pLen, inF, pIn, pTo, pNat]) | (refine (hT ?_).1; clear hT hF; grind [pLt, pLe, pGt, pGe, pEq, pNe, pNot, pAndB, pBeq, pInt, pLen, inF, pIn, pTo, pNat]) | (refine (hT ?_).2; clear hT hF; grind [pLt, pLe, pGt, pGe, pEq, pNe, pNot, pAndB, pBeq, pInt, pLen, inF, pIn, pTo, pNat]) | (clear hT hF; grind [pLt, pLe, pGt, pGe, pEq, pNe, pNot, pAndB, pBeq, pInt, pLen, inF, pIn, pTo, pNat])
    · rw [bif_false (show pGt (k : Int) 0 = false by subst h0; rfl)]
      generalize pGet tyTask jt k = g at *
      generalize pGet tyTask jt (k - 1) = g1 at *
      clear e1
      (repeat' (first | refine bif_ok (fun h => ?_) (fun h => ?_) | refine And.intro ?_ ?_ | fail))
      all_goals first | exact hl | omega | (unfold pLen; omega) | (refine leafF fun q => ?_; clear hT; grind [pLt, pLe, pGt, pGe, pEq, pNe, pNot, pAndB, pBeq, pInt, pLen, inF, pIn, pTo, pNat]) | (refine leafE ?_; clear hT; grind [pLt, pLe, pGt, pGe, pEq, pNe, pNot, pAndB, pBeq, pInt, pLen, inF, pIn, pTo, pNat]) | (refine (hT ?_).1; clear hT hF; grind [pLt, pLe, pGt, pGe, pEq, pNe, pNot, pAndB, pBeq, pInt, pLen, inF, pIn, pTo, pNat]) | (refine (hT ?_).2; clear hT hF; grind [pLt, pLe, pGt, pGe, pEq, pNe, pNot, pAndB, pBeq, pInt, pLen, inF, pIn, pTo, pNat]) | (clear hT hF; grind [pLt, pLe, pGt, pGe, pEq, pNe, pNot, pAndB, pBeq, pInt, pLen, inF, pIn, pTo, pNat])
  · rw [bif_false (by simp [pLt_coe, pLen])]
    refine ⟨UpInv.start, fun y hy => ?_⟩
    rcases UpInv.round hla hy with ⟨k, rfl, hk, hb, -, hF, hU⟩ | ⟨rfl, hU⟩
    · rw [bif_true (by simp [pLt_coe, pLen, hk]), pNat_coe]
      have e1 : 0 < k → pSubI .i64 (k : Int) 1 = ((k - 1 : Nat) : Int) := pSub1 hb
      rw [upAt_eq] at hU hF
      clear hy
      (repeat' (first | refine bif_ok (fun h => ?_) (fun h => ?_) | refine And.intro ?_ ?_ | fail))
      all_goals first | exact hl | omega | (unfold pLen; omega) | (refine leafF fun q => ?_; clear hU; grind [pLt, pLe, pGt, pGe, pEq, pNe, pNot, pAndB, pBeq, pInt, pLen, inF, pIn, pTo, pNat]) | (refine leafE ?_; clear hU; grind [pLt, pLe, pGt, pGe, pEq, pNe, pNot, pAndB, pBeq, pInt, pLen, inF, pIn, pTo, pNat]) | (refine (hU ?_).1; clear hU hF; grind [pLt, pLe, pGt, pGe, pEq, pNe, pNot, pAndB, pBeq, pInt, pLen, inF, pIn, pTo, pNat]) | (refine (hU ?_).2; clear hU hF; grind [pLt, pLe, pGt, pGe, pEq, pNe, pNot, pAndB, pBeq, pInt, pLen, inF, pIn, pTo, pNat]) | (clear hU hF; grind [pLt, pLe, pGt, pGe, pEq, pNe, pNot, pAndB, pBeq, pInt, pLen, inF, pIn, pTo, pNat])
    · rw [bif_false (by simp [pLt_coe, pLen])]
      refine leafE ?_
      rw [hT, hU]
      clear hy
      grind [pLt, pLe, pGt, pGe, pEq, pNe, pNot, pAndB, pBeq, pInt, pLen, inF, pIn, pTo, pNat]

theorem deskF_eq (cn : Int) (cl : List LabD) (cp dn : Int) (dj : List JobD) : deskF (cn, cl, cp, ()) (dn, dj, ()) =
    cond (pEq (cfgF (cn, cl, cp, ())) 0) (cond (inF dn 1 1048577 && pLe (pInt dj.length) 6 && allUpto (jobAt (cn, cl, cp, ()) (dn, dj, ())) dj.length) 0 9) (cfgF (cn, cl, cp, ())) := rfl
theorem jobAt_eq (c : CfgD) (dn : Int) (dj : List JobD) (k : Nat) : jobAt c (dn, dj, ()) k = (jobF c dn (pGet tyJob dj k) && (decide (k = 0) || pLt (pGet tyJob dj (k - 1)).1 (pGet tyJob dj k).1)) := rfl
theorem job_eta (l : List JobD) (k : Nat) : ((pGet tyJob l k).1, (pGet tyJob l k).2.1, (pGet tyJob l k).2.2.1, (pGet tyJob l k).2.2.2.1, (pGet tyJob l k).2.2.2.2.1, (pGet tyJob l k).2.2.2.2.2.1, ()) = pGet tyJob l k := rfl
theorem cfgF_sites4 {c : CfgD} (h : pNe (cfgF c) 0 = false) : inF c.1 1 4 = true := by
  cases hq : inF c.1 1 4
  · rw [cfgF_sites hq] at h; cases h
  · rfl

theorem cCheck_ok : Meets Tryd.prog (fun _ => none) 30 ccCheck := cCheck_meets lCheck_ok job_ok fun cn cl cp dn dj hp => by
  have hl : cl.length < 4611686018427387904 := hp _ List.mem_cons_self
  have hld : dj.length < 4611686018427387904 := hp (pLen dj < 4611686018427387904) (by simp)
  have hq : ∀ q ∈ dj, q.2.2.1.length < 4611686018427387904 ∧ q.2.2.2.1.length < 4611686018427387904 := hp (∀ q ∈ dj, pLen q.2.2.1 < 4611686018427387904 ∧ pLen q.2.2.2.1 < 4611686018427387904) (by simp)
  clear hp
  unfold cCheck_VC cCheck_t0
  rw [deskF_eq]
  refine ⟨hl, bif_ok (fun h => ?_) fun hc => ?_⟩
  · refine leafE ?_; grind [pLt, pLe, pGt, pGe, pEq, pNe, pNot, pAndB, pBeq, pInt, pLen, inF, pIn, pTo, pNat]
  have hc0 : pEq (cfgF (cn, cl, cp, ())) 0 = true := by simpa [pNe, pEq] using hc
  rw [hc0, cond_true]
  (repeat' (first | refine bif_ok (fun h => ?_) (fun h => ?_) | refine And.intro ?_ ?_ | fail))
  all_goals try (refine leafE ?_; grind [pLt, pLe, pGt, pGe, pEq, pNe, pNot, pAndB, pBeq, pInt, pLen, inF, pIn, pTo, pNat])
  · exact UpInv.start
  intro y hy
  rcases UpInv.round hld hy with ⟨k, rfl, hk, hb, -, hF, hT⟩ | ⟨rfl, hT⟩
  · rw [bif_true (by simp [pLt_coe, pLen, hk])]
    (try rw [pNat_coe]); (try rw [job_eta])
    have e1 : 0 < k → pSubI .i64 (k : Int) 1 = ((k - 1 : Nat) : Int) := pSub1 hb
    have hqk := hq (pGet tyJob dj k) (by rw [pGet_lt hk]; exact List.getElem_mem hk)
    rw [jobAt_eq] at hT hF
    clear hy hq
    dsimp only
    refine ⟨pIn_coe.2 hk, hl, hqk.1, hqk.2, ?_⟩
    clear hqk
    rcases Nat.eq_zero_or_pos k with h0 | h0
    rotate_left
    · rw [e1 h0, pNat_coe]
      generalize pGet tyJob dj k = g at *
      generalize pGet tyJob dj (k - 1) = g1 at *
      clear e1
      (repeat' (first | refine bif_ok (fun h => ?_) (fun h => ?_) | refine And.intro ?_ ?_ | fail))
      all_goals first | exact hl | omega | (unfold pLen; omega) | (refine leafF fun q => ?_; clear hT; grind [pLt, pLe, pGt, pGe, pEq, pNe, pNot, pAndB, pBeq, pInt, pLen, inF, pIn, pTo, pNat]) | (refine leafE ?_; clear hT; grind [pLt, pLe, pGt, pGe, pEq, pNe, pNot, pAndB, pBeq, pInt, pLen, inF, pIn, pTo, pNat]) | (refine (hT ?_).1; clear hT hF; grind [pLt, pLe, pGt, pGe, pEq, pNe, pNot, pAndB, pBeq, pInt, pLen, inF, pIn, pTo, pNat]) | (refine (hT ?_).2; clear hT hF; grind [pLt, pLe, pGt, pGe, pEq, pNe, pNot, pAndB, pBeq, pInt, pLen, inF, pIn, pTo, pNat]) | (clear hT hF; grind [pLt, pLe, pGt, pGe, pEq, pNe, pNot, pAndB, pBeq, pInt, pLen, inF, pIn, pTo, pNat])
    · rw [bif_false (show pGt (k : Int) 0 = false by subst h0; rfl)]
      generalize pGet tyJob dj k = g at *
      generalize pGet tyJob dj (k - 1) = g1 at *
      clear e1
      (repeat' (first | refine bif_ok (fun h => ?_) (fun h => ?_) | refine And.intro ?_ ?_ | fail))
      all_goals first | exact hl | omega | (unfold pLen; omega) | (refine leafF fun q => ?_; clear hT; grind [pLt, pLe, pGt, pGe, pEq, pNe, pNot, pAndB, pBeq, pInt, pLen, inF, pIn, pTo, pNat]) | (refine leafE ?_; clear hT; grind [pLt, pLe, pGt, pGe, pEq, pNe, pNot, pAndB, pBeq, pInt, pLen, inF, pIn, pTo, pNat]) | (refine (hT ?_).1; clear hT hF; grind [pLt, pLe, pGt, pGe, pEq, pNe, pNot, pAndB, pBeq, pInt, pLen, inF, pIn, pTo, pNat]) | (refine (hT ?_).2; clear hT hF; grind [pLt, pLe, pGt, pGe, pEq, pNe, pNot, pAndB, pBeq, pInt, pLen, inF, pIn, pTo, pNat]) | (clear hT hF; grind [pLt, pLe, pGt, pGe, pEq, pNe, pNot, pAndB, pBeq, pInt, pLen, inF, pIn, pTo, pNat])
  · rw [bif_false (by simp [pLt_coe, pLen])]
    refine leafE ?_
    rw [hT]
    clear hy hq
    grind [pLt, pLe, pGt, pGe, pEq, pNe, pNot, pAndB, pBeq, pInt, pLen, inF, pIn, pTo, pNat]

theorem dFault_ok : Meets Tryd.prog (fun _ => none) 49 cdFault := dFault_meets cFault_ok In_ok jobMay_ok fun cn cl cp dn dj hp => by
  have hl : cl.length < 4611686018427387904 := hp _ List.mem_cons_self
  have hld : dj.length < 4611686018427387904 := hp (pLen dj < 4611686018427387904) (by simp)
  have hq : ∀ q ∈ dj, q.2.2.1.length < 4611686018427387904 ∧ q.2.2.2.1.length < 4611686018427387904 := hp (∀ q ∈ dj, pLen q.2.2.1 < 4611686018427387904 ∧ pLen q.2.2.2.1 < 4611686018427387904) (by simp)
  clear hp
  unfold dFault_VC dFault_t0
  rw [deskF_eq]
  refine ⟨hl, bif_ok (fun h => ?_) fun hc => ?_⟩
  · refine leafE ?_; grind [pLt, pLe, pGt, pGe, pEq, pNe, pNot, pAndB, pBeq, pInt, pLen, inF, pIn, pTo, pNat]
  have hc0 : pEq (cfgF (cn, cl, cp, ())) 0 = true := by simpa [pNe, pEq] using hc
  have hc4 : inF cn 1 4 = true := cfgF_sites4 hc
  rw [hc0, cond_true]
  refine bif_ok (fun h => ?_) fun hd => ?_
  · refine leafE ?_; grind [pLt, pLe, pGt, pGe, pEq, pNe, pNot, pAndB, pBeq, pInt, pLen, inF, pIn, pTo, pNat]
  have hd4 : inF dn 1 1048577 = true := by simpa [pNot] using hd
  (repeat' (first | refine bif_ok (fun h => ?_) (fun h => ?_) | refine And.intro ?_ ?_ | fail))
  all_goals try (refine leafE ?_; grind [pLt, pLe, pGt, pGe, pEq, pNe, pNot, pAndB, pBeq, pInt, pLen, inF, pIn, pTo, pNat])
  · exact UpInv.start
  intro y hy
  rcases UpInv.round hld hy with ⟨k, rfl, hk, hb, -, hF, hT⟩ | ⟨rfl, hT⟩
  · rw [bif_true (by simp [pLt_coe, pLen, hk])]
    (try rw [pNat_coe]); (try rw [job_eta])
    have e1 : 0 < k → pSubI .i64 (k : Int) 1 = ((k - 1 : Nat) : Int) := pSub1 hb
    have hqk := hq (pGet tyJob dj k) (by rw [pGet_lt hk]; exact List.getElem_mem hk)
    rw [jobAt_eq] at hT hF
    clear hy hq
    dsimp only
    refine ⟨pIn_coe.2 hk, hl, hqk.1, hqk.2, hd4, hc4, ?_⟩
    clear hqk
    rcases Nat.eq_zero_or_pos k with h0 | h0
    rotate_left
    · rw [e1 h0, pNat_coe]
      generalize pGet tyJob dj k = g at *
      generalize pGet tyJob dj (k - 1) = g1 at *
      clear e1
      (repeat' (first | refine bif_ok (fun h => ?_) (fun h => ?_) | refine And.intro ?_ ?_ | fail))
      all_goals first | exact hl | omega | (unfold pLen; omega) | (refine leafF fun q => ?_; clear hT; grind [pLt, pLe, pGt, pGe, pEq, pNe, pNot, pAndB, pBeq, pInt, pLen, inF, pIn, pTo, pNat]) | (refine leafE ?_; clear hT; grind [pLt, pLe, pGt, pGe, pEq, pNe, pNot, pAndB, pBeq, pInt, pLen, inF, pIn, pTo, pNat]) | (refine (hT ?_).1; clear hT hF; grind [pLt, pLe, pGt, pGe, pEq, pNe, pNot, pAndB, pBeq, pInt, pLen, inF, pIn, pTo, pNat]) | (refine (hT ?_).2; clear hT hF; grind [pLt, pLe, pGt, pGe, pEq, pNe, pNot, pAndB, pBeq, pInt, pLen, inF, pIn, pTo, pNat]) | (clear hT hF; grind [pLt, pLe, pGt, pGe, pEq, pNe, pNot, pAndB, pBeq, pInt, pLen, inF, pIn, pTo, pNat])
    · rw [bif_false (show pGt (k : Int) 0 = false by subst h0; rfl)]
      generalize pGet tyJob dj k = g at *
      generalize pGet tyJob dj (k - 1) = g1 at *
      clear e1
      (repeat' (first | refine bif_ok (fun h => ?_) (fun h => ?_) | refine And.intro ?_ ?_ | fail))
      all_goals first | exact hl | omega | (unfold pLen; omega) | (refine leafF fun q => ?_; clear hT; grind [pLt, pLe, pGt, pGe, pEq, pNe, pNot, pAndB, pBeq, pInt, pLen, inF, pIn, pTo, pNat]) | (refine leafE ?_; clear hT; grind [pLt, pLe, pGt, pGe, pEq, pNe, pNot, pAndB, pBeq, pInt, pLen, inF, pIn, pTo, pNat]) | (refine (hT ?_).1; clear hT hF; grind [pLt, pLe, pGt, pGe, pEq, pNe, pNot, pAndB, pBeq, pInt, pLen, inF, pIn, pTo, pNat]) | (refine (hT ?_).2; clear hT hF; grind [pLt, pLe, pGt, pGe, pEq, pNe, pNot, pAndB, pBeq, pInt, pLen, inF, pIn, pTo, pNat]) | (clear hT hF; grind [pLt, pLe, pGt, pGe, pEq, pNe, pNot, pAndB, pBeq, pInt, pLen, inF, pIn, pTo, pNat])
  · rw [bif_false (by simp [pLt_coe, pLen])]
    refine leafE ?_
    rw [hT]
    clear hy hq
    grind [pLt, pLe, pGt, pGe, pEq, pNe, pNot, pAndB, pBeq, pInt, pLen, inF, pIn, pTo, pNat]


end Go.Proofs.YtnkcmkegjckncaaDoor

/- slices.Delete of one element of an own row, where its walk is known: its contract. It names no program. No condition. -/
namespace Go.Proofs.YtnkcmkegjckncaaDoor
open Go.RowKit Go.Lib

/-- the cells of a row where an element was taken out -/
def DelCells (vals : Array Value) (n i z : Nat) (vals' : Array Value) : Prop :=
  ∀ j, j < (n - 1) * z → vals'[j]? = if j < i * z then vals[j]? else vals[j + z]?
/-- WHAT A WALK OF slices.Delete IS TO SHOW, for elements of z cells. -/
def DelWalk (P : Program) (K : FuncId) (z : Nat) : Prop :=
  ∀ (w : World) (b cap n i : Nat) (vals : Array Value) (T : TypeId), i < n → n ≤ cap → cap ≤ 9223372036854775807 →
    w.heap[b]? = some (.cells vals T (0, 0)) → vals.size = cap * z → (∀ (j : Nat) v, j < n * z → vals[j]? = some v → v.oneCell' = true) →
    Calls P K #[.slice (some ⟨b, 0, none⟩) n cap, .int .i64 (i : Int), .int .i64 ((i + 1 : Nat) : Int)] w fun e w' =>
      w'.os = w.os ∧ w'.tape = w.tape ∧ w'.output = w.output ∧ e = .returned (.slice (some ⟨b, 0, none⟩) (n - 1) cap) ∧ w'.heap.size = w.heap.size ∧ (∀ k, k ≠ b → w'.heap[k]? = w.heap[k]?) ∧
      ∃ vals', w'.heap[b]? = some (.cells vals' T (0, 0)) ∧ vals'.size = cap * z ∧ DelCells vals n i z vals'

def pDel {α : Type} (xs : List α) (i : Nat) : List α := xs.take i ++ xs.drop (i + 1)
theorem pDel_len {α : Type} {xs : List α} {i : Nat} (h : i < xs.length) : (pDel xs i).length = xs.length - 1 := by
  unfold pDel; rw [List.length_append, List.length_take, List.length_drop]; omega
theorem pDel_get {α : Type} {xs : List α} {i : Nat} (h : i < xs.length) {k : Nat} (hk : k < (pDel xs i).length) :
    (k < i ∧ ∃ hk' : k < xs.length, (pDel xs i)[k] = xs[k]) ∨ (i ≤ k ∧ ∃ hk' : k + 1 < xs.length, (pDel xs i)[k] = xs[k + 1]) := by
  have hl := pDel_len h
  have ht : (xs.take i).length = i := by rw [List.length_take]; omega
  by_cases h1 : k < i
  · refine .inl ⟨h1, by omega, ?_⟩
    have e : (pDel xs i)[k]? = xs[k]? := by
      unfold pDel
      rw [List.getElem?_append_left (by omega), List.getElem?_take, if_pos h1]
    rw [List.getElem?_eq_getElem hk, List.getElem?_eq_getElem (by omega)] at e
    exact Option.some.inj e
  · refine .inr ⟨by omega, by omega, ?_⟩
    have e : (pDel xs i)[k]? = xs[k + 1]? := by
      unfold pDel
      rw [List.getElem?_append_right (by omega), ht, List.getElem?_drop]
      congr 1; omega
    rw [List.getElem?_eq_getElem hk, List.getElem?_eq_getElem (by omega)] at e
    exact Option.some.inj e

theorem del_elems {w w' : World} {N N' : Blk} {t : Ty} {xs : List t.den} {vals vals' : Array Value} {i : Nat} (hi : i < xs.length) (hN : ∀ b, N b → N' b) (hs : SameOn N w w')
    (h1 : ∀ (k : Nat) (h : k < xs.length), ∃ us : List Value, Rd t w N us xs[k] ∧ ∀ (j : Nat) (u : Value), us[j]? = some u → vals[k * t.size + j]? = some u)
    (hc : DelCells vals xs.length i t.size vals') :
    ∀ (k : Nat) (h : k < (pDel xs i).length), ∃ us : List Value, Rd t w' N' us (pDel xs i)[k] ∧ ∀ (j : Nat) (u : Value), us[j]? = some u → vals'[k * t.size + j]? = some u := by
  intro k hk
  have hl := pDel_len hi
  have kz : (k + 1) * t.size ≤ (xs.length - 1) * t.size := Nat.mul_le_mul_right _ (by omega)
  rw [Nat.add_mul, Nat.one_mul] at kz
  rcases pDel_get hi hk with ⟨hki, hk', e⟩ | ⟨hki, hk', e⟩
  · obtain ⟨us, hr, hg⟩ := h1 k hk'
    refine ⟨us, by rw [e]; exact hr.mono hN hs, fun j u hj => ?_⟩
    have hjz : j < t.size := by rw [← hr.len]; exact (List.getElem?_eq_some_iff.1 hj).1
    have kz2 : (k + 1) * t.size ≤ i * t.size := Nat.mul_le_mul_right _ (by omega)
    rw [Nat.add_mul, Nat.one_mul] at kz2
    rw [hc _ (by omega), if_pos (by omega)]
    exact hg j u hj
  · obtain ⟨us, hr, hg⟩ := h1 (k + 1) hk'
    refine ⟨us, by rw [e]; exact hr.mono hN hs, fun j u hj => ?_⟩
    have hjz : j < t.size := by rw [← hr.len]; exact (List.getElem?_eq_some_iff.1 hj).1
    have kz2 : i * t.size ≤ k * t.size := Nat.mul_le_mul_right _ hki
    rw [hc _ (by omega), if_neg (by omega)]
    have := hg j u hj
    rwa [Nat.add_mul, Nat.one_mul, show k * t.size + t.size + j = k * t.size + j + t.size by omega] at this

abbrev delShape (t : Ty) : Shape := ⟨[.one (.own 0), .one (.rd (.int .i64)), .one (.rd (.int .i64))], [.row t]⟩
abbrev delPre (t : Ty) : (delShape t).den → List Prop := fun x => [pIn x.1.2.1 (pLen x.2.1), x.1.2.2.1 = pAdd .i64 x.1.2.1 1, pLen x.2.1 < 4611686018427387904]
abbrev delVal (t : Ty) : (delShape t).den → denVars [.slot 0 true t] := fun x => (pDel x.2.1 (pNat x.1.2.1), ())

theorem meets_del {P : Program} {g : Nat → Option Gl} {K : FuncId} {fn : Func} (hf : P.funcs[K]? = some fn) (hb : fn.body.isSome = true) (hn : (fn.name == "runtime.NumGoroutine") = false) {t : Ty} (hz : 0 < t.size)
    (hk : ∀ x : List t.den, kObj t x = .row t x) (hm : rowParse t = fun o => match o with
      | .row t' ys => if h : t' = t then some (castRow h ys) else none
      | _ => none) (hw : DelWalk P K t.size) : Meets P g K (shCtr (delShape t) (delPre t) [0] [.slot 0 true t] (delVal t)) := by
  refine ⟨⟨fn, hf, hb, hn⟩, fun args m0 obs r m1 hc hp => ?_⟩
  unfold shCtr at hc
  split at hc
  · rename_i x hx
    simp only [Option.some.injEq, Prod.mk.injEq] at hc
    obtain ⟨rfl, hrm⟩ := hc
    refine shape_spec hx ?_
    obtain ⟨⟨_, i, i2, _⟩, xs, u⟩ := x
    have hi : 0 ≤ i ∧ i < (xs.length : Int) := hp _ List.mem_cons_self
    have hi2 : i2 = pAdd .i64 i 1 := hp _ (List.mem_cons_of_mem _ List.mem_cons_self)
    have hxl : xs.length < 4611686018427387904 := hp _ (List.mem_cons_of_mem _ (List.mem_cons_of_mem _ List.mem_cons_self))
    clear hp
    have key : ∀ i : Int, 0 ≤ i ∧ i < (xs.length : Int) → ∃ j : Nat, i = (j : Int) ∧ j < xs.length := fun i h => ⟨i.toNat, by omega, by omega⟩
    obtain ⟨j, rfl, hj⟩ := key i hi
    obtain rfl : i2 = ((j + 1 : Nat) : Int) := by rw [hi2]; exact pAdd1 (by omega)
    have er : r = .v false [.hs 1] := (congrArg Prod.fst hrm).symm
    have em : m1 = [(1, some (.row t (pDel xs j))), (0, none)] := by
      rw [← hk]
      exact (congrArg Prod.snd hrm).symm
    subst er em
    clear hrm hx hi2
    intro w N ρ vs hgl hmr hargs hai hmi
    have hm0 : memOf (Shape.mem (delShape t) ⟨⟨(), (j : Int), ((j + 1 : Nat) : Int), ()⟩, xs, u⟩) = fun id => if id = 0 then some (.row t xs) else none := by
      funext id
      match id with
      | 0 => exact congrArg some (hk xs)
      | n + 1 => rfl
    have hm1 : memOf ([(1, some (.row t (pDel xs j))), (0, none)] ++ Shape.mem (delShape t) ⟨⟨(), (j : Int), ((j + 1 : Nat) : Int), ()⟩, xs, u⟩) = fun id => if id = 1 then some (.row t (pDel xs j)) else none := by
      funext id
      match id with
      | 0 => rfl
      | 1 => rfl
      | n + 2 => rfl
    rw [hm0] at hmr hargs
    rw [hm0, hm1]
    have ho0 := hmr.obj 0 _ rfl
    cases hargs with
    | cons a0 r0 => cases r0 with
      | cons a1 r1 => cases r1 with
        | cons a2 r2 => cases r2 with
          | nil =>
    rename_i v0 v1 v2
    obtain ⟨c0, e0, a0⟩ := a0
    obtain rfl : C.hs 0 = c0 := (List.cons.inj e0).1
    obtain ⟨c1, e1, a1⟩ := a1
    obtain rfl : C.int .i64 (j : Int) = c1 := (List.cons.inj e1).1
    obtain ⟨c2, e2, a2⟩ := a2
    obtain rfl : C.int .i64 ((j + 1 : Nat) : Int) = c2 := (List.cons.inj e2).1
    have a0 := a0.hs_row (t := t) (xs := xs) rfl
    have a1 : v1 = .int .i64 (j : Int) := a1
    have a2 : v2 = .int .i64 ((j + 1 : Nat) : Int) := a2
    obtain ⟨hl0, hr0⟩ := ho0
    obtain ⟨b, vals, T, hA, hh, hvs, hel⟩ := hr0 (by omega)
    rw [hA] at a0
    subst a0 a1 a2
    have one0 : ∀ (q : Nat) v, q < xs.length * t.size → vals[q]? = some v → v.oneCell' = true := fun q v hq hv => by
      have hk : q / t.size < xs.length := (Nat.div_lt_iff_lt_mul hz).2 hq
      obtain ⟨us, hr, hg⟩ := hel _ hk
      have hjz : q % t.size < us.length := by rw [hr.len]; exact Nat.mod_lt _ hz
      have := hg (q % t.size) _ (List.getElem?_eq_getElem hjz)
      rw [Nat.mul_comm, Nat.div_add_mod, hv] at this
      rw [Option.some.inj this]
      exact hr.one _ (List.getElem_mem hjz)
    refine (hw w b (ρ 0).cap xs.length j vals T hj hl0.1 hl0.2 hh hvs one0).mono fun e w' hpost => ?_
    obtain ⟨hos, htape, hout, rfl, hsz, hoth, vals', hh2, hvs2, hcells⟩ := hpost
    have hlen : (pDel xs j).length = xs.length - 1 := pDel_len hj
    have hgone : Gone ρ (fun id => if id = 0 then some (Obj.row t xs) else none) [0] b := ⟨0, by simp, .row t xs, _, rfl, rfl, by show 0 < (ρ 0).cap; omega, hA⟩
    obtain ⟨ht, hN, hs, hmr', hown⟩ := hmr.make (w' := w') (ρ' := fun id => if id = 1 then pl0 (some ⟨b, 0, none⟩) (ρ 0).cap else ρ id) (m' := fun id => if id = 1 then some (.row t (pDel xs j)) else none) (N' := N) (nx := 1) (p := pl0 (some ⟨b, 0, none⟩) (ρ 0).cap) (o := .row t (pDel xs j)) (L := [0]) (D := []) (M := [0])
      (fun id => by simp) (fun id hd => by cases hd) rfl
      (fun id o' ho hc => by
        have ho : (if id = 0 then some (Obj.row t xs) else none) = some o' := ho
        split at ho
        · cases ho; cases hc
        · cases ho)
      (fun k hk => .inr ⟨0, by simp, .row t xs, rfl, by show 0 < (ρ 0).cap; omega, by rw [hA]; exact hk.2⟩) (fun k _ hk => hoth k fun e => hk 0 (by simp) (.row t xs) rfl ⟨by show 0 < (ρ 0).cap; omega, by rw [hA, e]⟩) (by rw [hsz]; exact Nat.le_refl _)
      (fun id => by
        match id with
        | 0 => rfl
        | 1 => rfl
        | n + 2 => rfl) (fun _ => rfl) (fun b => ⟨.inl, fun h => h.elim id fun ⟨_, hd, _⟩ => by cases hd⟩)
      (fun _ hs ht => by
        refine ⟨by simp only [if_pos]; rw [hlen]; exact ⟨by show xs.length - 1 ≤ (ρ 0).cap; omega, hl0.2⟩, fun _ => ⟨b, vals', T, by simp only [if_pos], hh2, by simp only [if_pos]; exact hvs2, ?_⟩⟩
        exact del_elems hj (fun _ h => h) hs hel hcells)
    refine ⟨_, _, N, rfl, fun n hn => ?_, fun _ h => h, hmr', ⟨_, rfl, ⟨_, _, _, rfl⟩, fun o' z hmo hz => ?_⟩, ⟨hos, htape, hout, by rw [hsz]; exact Nat.le_refl _, fun k hk hx => hoth k fun e => hx (e ▸ gone_own hgone)⟩, fun b hb => hown b hb, fun b hb => .inl hb⟩
    · have hn : n < 1 := hn
      show (if n = 1 then _ else ρ n) = ρ n
      rw [if_neg (by omega)]
    · have hmo : some (Obj.row t (pDel xs j)) = some o' := hmo
      cases hmo
      cases hz
      show _ = Value.slice (some ⟨b, 0, none⟩) (pDel xs j).length (ρ 0).cap
      rw [hlen]
  · cases hc

/- what the walks share -/
theorem run_clear_K {P : Program} (w : World) (t e ty : TypeId) (z : Value) (ht : P.underlying t = some (.slice e)) (hv : ∀ w, (zeroValue e).run P w = .ok z w) (h1 : ∀ v ∈ z.cells.toList, v.oneCell' = true) (b o n c : Nat) (hn : n = 1)
    (hc : ∀ j, j < z.cells.toList.length → (w.cell? ⟨b, o + j, none⟩).isSome = true) (hf : ∀ j, j < z.cells.toList.length → w.frozen? ⟨b, o + j, none⟩ = false) :
    (Builtin.clear_ #[t] ty #[.slice (some ⟨b, o, none⟩) n c]).run P w = .ok (.tuple #[]) (w.setCells b o z.cells.toList) := by
  subst hn
  have hzc : (Builtin.zeroCells z.cells 1).toList = z.cells.toList := by
    unfold Builtin.zeroCells
    have := range_rep z.cells 1
    simpa [repV] using this
  have hst := run_storeCells_cells (P := P) b o z.cells.toList 0 w (by simpa using hc) (by simpa using hf) h1
  simp only [Nat.add_zero] at hst
  simp [Builtin.clear_, run_underlying ht, hv, hzc, hst]
theorem setCells_heap (b : Nat) : ∀ (vs : List Value) (o : Nat) (w : World) {vals : Array Value} {T : TypeId} {fz : Nat × Nat}, w.heap[b]? = some (.cells vals T fz) → ∃ vals', (w.setCells b o vs).heap[b]? = some (.cells vals' T fz) ∧ vals'.size = vals.size
  | [], _, _, vals, _, _, h => ⟨vals, h, rfl⟩
  | v :: r, o, w, vals, T, fz, h => by
    obtain ⟨vals', h1, h2⟩ := setCells_heap b r (o + 1) (w.setCell ⟨b, o, none⟩ v) (vals := vals.setIfInBounds o v) (T := T) (fz := fz) (by
      simp only [World.setCell, Array.getElem?_modify, if_pos, h, Option.map_some]
      rfl)
    exact ⟨vals', h1, by rw [h2]; simp⟩
theorem setCells_keep (b : Nat) : ∀ (vs : List Value) (o : Nat) (w : World), (w.setCells b o vs).heap.size = w.heap.size ∧ (w.setCells b o vs).os = w.os ∧ (w.setCells b o vs).tape = w.tape ∧ (w.setCells b o vs).output = w.output ∧ ∀ k, k ≠ b → (w.setCells b o vs).heap[k]? = w.heap[k]?
  | [], _, _ => ⟨rfl, rfl, rfl, rfl, fun _ _ => rfl⟩
  | v :: r, o, w => by
    obtain ⟨h1, h2, h3, h4, h5⟩ := setCells_keep b r (o + 1) (w.setCell ⟨b, o, none⟩ v)
    refine ⟨h1.trans (by simp [World.setCell]), h2, h3, h4, fun k hk => (h5 k hk).trans ?_⟩
    simp only [World.setCell, Array.getElem?_modify]
    rw [if_neg (fun e => hk e.symm)]
theorem cell_heap {w : World} {b j : Nat} {vals : Array Value} {T : TypeId} {fz : Nat × Nat} (h : w.heap[b]? = some (.cells vals T fz)) : w.cell? ⟨b, j, none⟩ = vals[j]? := by
  simp [World.cell?, h]
theorem frozen_heap {w : World} {b j : Nat} {vals : Array Value} {T : TypeId} (h : w.heap[b]? = some (.cells vals T (0, 0))) : w.frozen? ⟨b, j, none⟩ = false := by
  simp [World.frozen?, h]
theorem first_len {vals : Array Value} {k : Nat} (h : k ≤ vals.size) : (vals.toList.take k).length = k := by rw [List.length_take, Array.length_toList]; omega
theorem first_get {vals : Array Value} {k j : Nat} {v : Value} (h : (vals.toList.take k)[j]? = some v) : j < k ∧ vals[j]? = some v := by
  rw [List.getElem?_take] at h
  split at h
  · rename_i hj; exact ⟨hj, by simpa using h⟩
  · cases h
theorem first_at {vals : Array Value} {k j : Nat} (hj : j < k) : (vals.toList.take k)[j]? = vals[j]? := by
  rw [List.getElem?_take, if_pos hj]; simp

theorem delWalk_of {P : Program} {K : FuncId} {z : Nat} {zs : List Value} (hzl : zs.length = z)
    (hshift : ∀ (b n c i j : Nat) (cs : List Value) (w : World), j = i + 1 → j ≤ n → n ≤ c → c ≤ 9223372036854775807 → cs.length = n * z →
      (∀ (q : Nat) v, cs[q]? = some v → w.cell? ⟨b, q, none⟩ = some v) → (∀ q, q < n * z → w.frozen? ⟨b, q, none⟩ = false) → (∀ v ∈ cs, v.oneCell' = true) →
      Calls P K #[.slice (some ⟨b, 0, none⟩) n c, .int .i64 (i : Int), .int .i64 (j : Int)] w fun e w' =>
        e = .returned (.slice (some ⟨b, 0, none⟩) (n - 1) c) ∧ w' = (w.drew.setCells b (i * z) (cs.drop (j * z))).setCells b ((n - 1) * z) zs) :
    DelWalk P K z := by
  intro w b cap n i vals T hi hnc hc63 hh hvs one0
  have hnz : n * z ≤ vals.size := by rw [hvs]; exact Nat.mul_le_mul_right _ hnc
  have hcl := first_len hnz
  have hcs : ∀ (j : Nat) v, (vals.toList.take (n * z))[j]? = some v → w.cell? ⟨b, j, none⟩ = some v := fun j v h => by rw [cell_heap hh]; exact (first_get h).2
  have h1c : ∀ v ∈ vals.toList.take (n * z), v.oneCell' = true := fun v hv => by
    obtain ⟨j, hj⟩ := List.getElem?_of_mem hv
    exact one0 j v (first_get hj).1 (first_get hj).2
  have e1 : (i + 1) * z = i * z + z := by rw [Nat.add_mul, Nat.one_mul]
  have e3 : n * z = (i + 1) * z + (n - (i + 1)) * z := by rw [← Nat.add_mul]; congr 1; omega
  have e2 : n * z = (n - 1) * z + z := by
    conv => lhs; rw [show n = (n - 1) + 1 by omega]
    rw [Nat.add_mul, Nat.one_mul]
  have hdl : ((vals.toList.take (n * z)).drop ((i + 1) * z)).length = (n - (i + 1)) * z := by rw [List.length_drop, hcl]; omega
  refine (hshift b n cap i (i + 1) _ w rfl (by omega) hnc hc63 hcl hcs (fun j _ => frozen_heap hh) h1c).mono fun e w' hp => ?_
  obtain ⟨rfl, rfl⟩ := hp
  obtain ⟨v1, hv1, hs1⟩ := setCells_heap b ((vals.toList.take (n * z)).drop ((i + 1) * z)) (i * z) w.drew hh
  obtain ⟨v2, hv2, hs2⟩ := setCells_heap b zs ((n - 1) * z) _ hv1
  obtain ⟨k1, k2, k3, k4, k5⟩ := setCells_keep b ((vals.toList.take (n * z)).drop ((i + 1) * z)) (i * z) w.drew
  obtain ⟨m1, m2, m3, m4, m5⟩ := setCells_keep b zs ((n - 1) * z) (w.drew.setCells b (i * z) ((vals.toList.take (n * z)).drop ((i + 1) * z)))
  refine ⟨m2.trans k2, m3.trans k3, m4.trans k4, rfl, m1.trans k1, fun k hk => (m5 k hk).trans (k5 k hk), v2, hv2, by rw [hs2, hs1, hvs], fun j hj => ?_⟩
  rw [← cell_heap (j := j) hv2, World.cell?_setCells_out b _ _ _ _ (fun _ _ => .inl (by show j < (n - 1) * z; exact hj))]
  split
  · rename_i hji
    rw [World.cell?_setCells_out b _ _ _ _ (fun _ _ => .inl (by show j < i * z; exact hji))]
    exact cell_heap (w := w.drew) hh
  · rename_i hji
    have := World.cell?_setCells_in b ((vals.toList.take (n * z)).drop ((i + 1) * z)) (i * z) w.drew (fun q hq => by rw [cell_heap (w := w.drew) hh, Array.getElem?_eq_getElem (by omega)]; rfl) (j - i * z) (by omega)
    rw [show i * z + (j - i * z) = j by omega] at this
    rw [this, ← List.getElem?_eq_getElem, List.getElem?_drop, first_at (by omega)]
    congr 1; omega


end Go.Proofs.YtnkcmkegjckncaaDoor

/- Plain words of coordinators' turns: what a tick does. No condition. -/
namespace Go.Proofs.YtnkcmkegjckncaaDoor
open Go.RowKit

abbrev tyMsg : Ty := .pair tI (.pair tI (.pair tI (.pair tI (.pair tI (.pair tI (.pair tI (.pair tI (.pair tI (.pair tI (.pair .bool (.pair tI .unit)))))))))))
abbrev tyRec : Ty := .pair tI (.pair tI (.pair tI (.pair tI (.pair tI (.pair tI (.pair .bool (.pair (.sl tyN) .unit)))))))
abbrev tyRep : Ty := .pair tI (.pair tI (.pair tI (.pair tI (.pair tI (.pair tI .unit)))))
abbrev MsgD := Int × Int × Int × Int × Int × Int × Int × Int × Int × Int × Bool × Int × Unit
abbrev RecD := Int × Int × Int × Int × Int × Int × Bool × List ND × Unit
abbrev RepD := Int × Int × Int × Int × Int × Int × Unit
abbrev TurnD := Int × List JobD × List MsgD × List RecD × List RepD × Int × Int × Unit
abbrev WorkD := Int × List LabD × Int × Int × Int × TurnD
abbrev kTurn : List (Bool × Ty) := [(false, tI), (true, tyJob), (true, tyMsg), (true, tyRec), (true, tyRep), (false, tI), (false, tI)]
abbrev vDesk : List (Bool × Ty) := [(false, tI), (true, tyJob)]
abbrev vDeskF : List (Bool × Ty) := [(false, tI), (false, .sl tyJob)]
abbrev vMsg : List (Bool × Ty) := [(false, tI), (false, tI), (false, tI), (false, tI), (false, tI), (false, tI), (false, tI), (false, tI), (false, tI), (false, tI), (false, .bool), (false, tI)]
abbrev pMsg : Par := .agg [.rd tI, .rd tI, .rd tI, .rd tI, .rd tI, .rd tI, .rd tI, .rd tI, .rd tI, .rd tI, .rd .bool, .rd tI]
abbrev pRec : Par := .agg [.rd tI, .rd tI, .rd tI, .rd tI, .rd tI, .rd tI, .rd .bool, .rd (.sl tyN)]
abbrev pTurn : Par := .agg [.rd tI, .rd (.sl tyJob), .rd (.sl tyMsg), .rd (.sl tyRec), .rd (.sl tyRep), .rd tI, .rd tI]

/- a loop that builds: at each round what it has -/
def StepInv {T : Type} (v : Nat → T) (n : Nat) (y : Int × T) : Prop := ∃ k : Nat, k ≤ n ∧ y = ((k : Int), v k)
def StepMu {T : Type} (n : Nat) (y : Int × T) : Nat := n - y.1.toNat
theorem StepInv.start {T : Type} {v : Nat → T} {n : Nat} {z : T} (h : z = v 0) : StepInv v n (0, z) := ⟨0, Nat.zero_le _, by rw [h]; rfl⟩
theorem StepInv.round {T : Type} {v : Nat → T} {n : Nat} {y : Int × T} (hn : n < 4611686018427387904) (h : StepInv v n y) :
    (∃ k : Nat, y = ((k : Int), v k) ∧ k < n ∧ k < 4611686018427387904 ∧ ∀ z, z = v (k + 1) → StepInv v n (pAdd .i64 (k : Int) 1, z) ∧ Nat.le (Nat.succ (StepMu n (pAdd .i64 (k : Int) 1, z))) (StepMu n ((k : Int), v k))) ∨ y = ((n : Int), v n) := by
  obtain ⟨k, hk, rfl⟩ := h
  by_cases hkn : k < n
  · refine .inl ⟨k, rfl, hkn, by omega, fun z hz => ?_⟩
    rw [pAdd1 (by omega), hz]
    exact ⟨⟨k + 1, hkn, rfl⟩, Nat.le_of_eq (by unfold StepMu; simp only [Int.toNat_natCast]; omega)⟩
  · obtain rfl : k = n := by omega
    exact .inr rfl

def keyAtJ (l : List JobD) (k : Int) (j : Nat) : Bool := pEq (pGet tyJob l j).1 k
def idxKeyJ (l : List JobD) (k : Int) : Int := idxOf (keyAtJ l k) l.length
def begE (c : CfgD) (l m : Int) (d : DeskD) : Int := cond (pEq (deskF c d) 0) (cond (placeF c l) (cond (pLe 0 m && pLt m c.1) 0 2) 6) (deskF c d)
def withoutK (l : List JobD) (n : Int) (k : Nat) : List JobD := (List.range k).filterMap fun (i : Nat) => cond (pEq (i : Int) n) none (some (pGet tyJob l i))
def withoutF (l : List JobD) (n : Int) : List JobD := withoutK l n l.length
def hasF (l : List ND) (n : Int) : Int := idxOf (fun j => pEq (pGet tyN l j).1 n) l.length
/-- sorting by swaps: the element at a place sinks -/
def sink : List ND → Nat → List ND
  | xs, 0 => xs
  | xs, j + 1 => cond (pLt (pGet tyN xs (j + 1)).1 (pGet tyN xs j).1) (sink (pSet (pSet xs (j + 1) (pGet tyN xs j)) j (pGet tyN xs (j + 1))) j) xs
def insUp (xs : List ND) : Nat → List ND
  | 0 => xs
  | k + 1 => sink (insUp xs k) (k + 1)
def sortN (l : List ND) : List ND := insUp l (l.length - 1)
/-- has a task a hand at a site? -/
def handAt (cn l : Int) (ts : List TaskD) (s : Int) (i : Nat) : Bool := pEq (pGet tyTask ts i).2.1 l && pEq (pRem (pGet tyTask ts i).2.2.1 cn) s
def handsK (cn l : Int) (ts : List TaskD) (k : Nat) : List ND := (List.range k).filterMap fun (s : Nat) => cond (anyUpto (handAt cn l ts (s : Int)) ts.length) (some ((s : Int), ())) none
def handsF (cn l : Int) (ts : List TaskD) : List ND := handsK cn l ts cn.toNat
def sitesK (cn l : Int) (ts : List TaskD) : Nat → List ND
  | 0 => []
  | k + 1 => cond (pEq (pGet tyTask ts k).2.1 l && pLt (hasF (sitesK cn l ts k) (pRem (pGet tyTask ts k).2.2.1 cn)) 0) (sitesK cn l ts k ++ [(pRem (pGet tyTask ts k).2.2.1 cn, ())]) (sitesK cn l ts k)
def aboutF (a b e g : Int) : MsgD := (b, a, e, a, g, 0, 0, 0, 0, 0, false, 0, ())
def decM (me : Int) (yes : Bool) (n s : Int) : MsgD := (4, me, s, me, n, 0, 0, 0, 0, 0, yes, 0, ())
def saysM (me : Int) (yes : Bool) (n : Int) (a : List ND) : List MsgD := a.map fun s => decM me yes n s.1
abbrev TS := List JobD × List MsgD × List RepD
def noTurn : TurnD := (0, [], [], [], [], 0, 0, ())
/- what is the same -/
def eqNAt (l m : List ND) (j : Nat) : Bool := pEq (pGet tyN l j).1 (pGet tyN m j).1
def sameIntsF (l m : List ND) : Bool := decide (l.length = m.length) && allUpto (eqNAt l m) l.length
def eqTask (a b : TaskD) : Bool := pAndB (pBeq a.1 b.1) (pAndB (pEq a.2.1 b.2.1) (pAndB (pEq a.2.2.1 b.2.2.1) (pAndB (pEq a.2.2.2.1 b.2.2.2.1) (pAndB (pEq a.2.2.2.2.1 b.2.2.2.2.1) (pAndB (pEq a.2.2.2.2.2.1 b.2.2.2.2.2.1)
  (pAndB (pBeq a.2.2.2.2.2.2.1 b.2.2.2.2.2.2.1) (pBeq a.2.2.2.2.2.2.2.1 b.2.2.2.2.2.2.2.1)))))))
def eqTaskAt (l m : List TaskD) (j : Nat) : Bool := eqTask (pGet tyTask l j) (pGet tyTask m j)
def sameTasksF (l m : List TaskD) : Bool := decide (l.length = m.length) && allUpto (eqTaskAt l m) l.length
def sameJobF (a b : JobD) : Bool := !(bif pNe a.1 b.1 then true else bif pNe a.2.1 b.2.1 then true else bif pNe a.2.2.2.2.1 b.2.2.2.2.1 then true else bif pNe a.2.2.2.2.2.1 b.2.2.2.2.2.1 then true else
  bif pNot (sameTasksF a.2.2.1 b.2.2.1) then true else pNot (sameIntsF a.2.2.2.1 b.2.2.2.1))
def eqJobAt (l m : List JobD) (j : Nat) : Bool := sameJobF (pGet tyJob l j) (pGet tyJob m j)
def sameDeskF (a b : DeskD) : Bool := pEq a.1 b.1 && (decide (a.2.1.length = b.2.1.length) && allUpto (eqJobAt a.2.1 b.2.1) a.2.1.length)
def eqMsg (a b : MsgD) : Bool := pAndB (pEq a.1 b.1) (pAndB (pEq a.2.1 b.2.1) (pAndB (pEq a.2.2.1 b.2.2.1) (pAndB (pEq a.2.2.2.1 b.2.2.2.1) (pAndB (pEq a.2.2.2.2.1 b.2.2.2.2.1) (pAndB (pEq a.2.2.2.2.2.1 b.2.2.2.2.2.1)
  (pAndB (pEq a.2.2.2.2.2.2.1 b.2.2.2.2.2.2.1) (pAndB (pEq a.2.2.2.2.2.2.2.1 b.2.2.2.2.2.2.2.1) (pAndB (pEq a.2.2.2.2.2.2.2.2.1 b.2.2.2.2.2.2.2.2.1) (pAndB (pEq a.2.2.2.2.2.2.2.2.2.1 b.2.2.2.2.2.2.2.2.2.1)
  (pAndB (pBeq a.2.2.2.2.2.2.2.2.2.2.1 b.2.2.2.2.2.2.2.2.2.2.1) (pEq a.2.2.2.2.2.2.2.2.2.2.2.1 b.2.2.2.2.2.2.2.2.2.2.2.1)))))))))))
def eqMsgAt (l m : List MsgD) (j : Nat) : Bool := eqMsg (pGet tyMsg l j) (pGet tyMsg m j)
def sameMsgsF (l m : List MsgD) : Bool := decide (l.length = m.length) && allUpto (eqMsgAt l m) l.length
def sameRecF (a b : RecD) : Bool := pEq a.1 b.1 && (pEq a.2.1 b.2.1 && pEq a.2.2.1 b.2.2.1) && pEq a.2.2.2.1 b.2.2.2.1 && pEq a.2.2.2.2.1 b.2.2.2.2.1 && pEq a.2.2.2.2.2.1 b.2.2.2.2.2.1 && pBeq a.2.2.2.2.2.2.1 b.2.2.2.2.2.2.1 && sameIntsF a.2.2.2.2.2.2.2.1 b.2.2.2.2.2.2.2.1
def eqRecAt (l m : List RecD) (j : Nat) : Bool := sameRecF (pGet tyRec l j) (pGet tyRec m j)
def sameRecsF (l m : List RecD) : Bool := decide (l.length = m.length) && allUpto (eqRecAt l m) l.length
def eqRep (a b : RepD) : Bool := pAndB (pEq a.1 b.1) (pAndB (pEq a.2.1 b.2.1) (pAndB (pEq a.2.2.1 b.2.2.1) (pAndB (pEq a.2.2.2.1 b.2.2.2.1) (pAndB (pEq a.2.2.2.2.1 b.2.2.2.2.1) (pEq a.2.2.2.2.2.1 b.2.2.2.2.2.1)))))
def eqRepAt (l m : List RepD) (j : Nat) : Bool := eqRep (pGet tyRep l j) (pGet tyRep m j)
def sameRepsF (l m : List RepD) : Bool := decide (l.length = m.length) && allUpto (eqRepAt l m) l.length
def sameTurnF (a b : TurnD) : Bool := pEq a.2.2.2.2.2.1 b.2.2.2.2.2.1 && pEq a.2.2.2.2.2.2.1 b.2.2.2.2.2.2.1 && sameDeskF (a.1, a.2.1, ()) (b.1, b.2.1, ()) && sameMsgsF a.2.2.1 b.2.2.1 && sameRecsF a.2.2.2.1 b.2.2.2.1 && sameRepsF a.2.2.2.2.1 b.2.2.2.2.1

/- loops -/
def tasksCopyInv (l : List TaskD) : Int × List TaskD × Unit → Prop := StepInv (fun k => (l.take k, ())) l.length
def tasksCopyMu (l : List TaskD) : Int × List TaskD × Unit → Nat := StepMu l.length
def intsCopyInv (l : List ND) : Int × List ND × Unit → Prop := StepInv (fun k => (l.take k, ())) l.length
def intsCopyMu (l : List ND) : Int × List ND × Unit → Nat := StepMu l.length
def cownInv (dn : Int) (dj : List JobD) : Int × (Int × List JobD × Unit) × Unit → Prop := StepInv (fun k => ((dn, dj.take k, ()), ())) dj.length
def cownMu (_ : Int) (dj : List JobD) : Int × (Int × List JobD × Unit) × Unit → Nat := StepMu dj.length
def deskCopyInv := cownInv
def deskCopyMu := cownMu
def indexJInv (l : List JobD) (n : Int) : Int × Unit → Prop := FindInv (keyAtJ l n) l.length
def indexJMu (l : List JobD) (_ : Int) : Int × Unit → Nat := UpMu l.length
def jobAtInv (_ : Int) (dj : List JobD) (n : Int) : Int × Unit → Prop := FindInv (keyAtJ dj n) dj.length
def jobAtMu (_ : Int) (dj : List JobD) (_ : Int) : Int × Unit → Nat := UpMu dj.length
def withoutInv (l : List JobD) (n : Int) : Int × List JobD × Unit → Prop := StepInv (fun k => (withoutK l n k, ())) l.length
def withoutMu (l : List JobD) (_ : Int) : Int × List JobD × Unit → Nat := StepMu l.length
def idxNInv (l : List ND) (n : Int) : Int × Unit → Prop := FindInv (fun j => pEq (pGet tyN l j).1 n) l.length
def idxNMu (l : List ND) (_ : Int) : Int × Unit → Nat := UpMu l.length
def handsAInv (cn : Int) (_ : List LabD) (_ l _ _ : Int) (jt : List TaskD) (_ : List ND) (_ _ : Int) : Int × List ND × Unit → Prop := StepInv (fun k => (handsK cn l jt k, ())) cn.toNat
def handsAMu (cn : Int) (_ : List LabD) (_ _ _ _ : Int) (_ : List TaskD) (_ : List ND) (_ _ : Int) : Int × List ND × Unit → Nat := StepMu cn.toNat
def handsBInv (cn : Int) (_ : List LabD) (_ l _ _ : Int) (jt : List TaskD) (_ : List ND) (_ _ : Int) (s : Int) : Int × Bool × Unit → Prop := StepInv (fun k => (anyUpto (handAt cn l jt s) k, ())) jt.length
def handsBMu (_ : Int) (_ : List LabD) (_ _ _ _ : Int) (jt : List TaskD) (_ : List ND) (_ _ : Int) (_ : Int) : Int × Bool × Unit → Nat := StepMu jt.length
def insAInv (_ _ : Int) (l : List ND) (y : Int × List ND × Unit) : Prop := ∃ k : Nat, k ≤ l.length - 1 ∧ y = (((k + 1 : Nat) : Int), insUp l k, ())
def insAMu (_ _ : Int) (l : List ND) (y : Int × List ND × Unit) : Nat := l.length - y.1.toNat
def insBInv (_ _ : Int) (l : List ND) (row : List ND) (i : Int) (y : Int × List ND × Unit) : Prop := ∃ j : Nat, y.1 = (j : Int) ∧ j < l.length ∧ y.2.1.length = l.length ∧ sink y.2.1 j = sink row (pNat i)
def insBMu (_ _ : Int) (_ : List ND) (_ : List ND) (_ : Int) (y : Int × List ND × Unit) : Nat := y.1.toNat
def len8 : ByteArray := bs [0, 1, 2, 2, 3, 3, 3, 3, 4, 4, 4, 4, 4, 4, 4, 4, 5, 5, 5, 5, 5, 5, 5, 5, 5, 5, 5, 5, 5, 5, 5, 5, 6, 6, 6, 6, 6, 6, 6, 6, 6, 6, 6, 6, 6, 6, 6, 6, 6, 6, 6, 6, 6, 6, 6, 6, 6, 6, 6, 6, 6, 6, 6, 6, 7, 7, 7, 7, 7, 7, 7, 7, 7, 7, 7, 7, 7, 7, 7, 7, 7, 7, 7, 7, 7, 7, 7, 7, 7, 7, 7, 7, 7, 7, 7, 7, 7, 7, 7, 7, 7, 7, 7, 7, 7, 7, 7, 7, 7, 7, 7, 7, 7, 7, 7, 7, 7, 7, 7, 7, 7, 7, 7, 7, 7, 7, 7, 7, 8, 8, 8, 8, 8, 8, 8, 8, 8, 8, 8, 8, 8, 8, 8, 8, 8, 8, 8, 8, 8, 8, 8, 8, 8, 8, 8, 8, 8, 8, 8, 8, 8, 8, 8, 8, 8, 8, 8, 8, 8, 8, 8, 8, 8, 8, 8, 8, 8, 8, 8, 8, 8, 8, 8, 8, 8, 8, 8, 8, 8, 8, 8, 8, 8, 8, 8, 8, 8, 8, 8, 8, 8, 8, 8, 8, 8, 8, 8, 8, 8, 8, 8, 8, 8, 8, 8, 8, 8, 8, 8, 8, 8, 8, 8, 8, 8, 8, 8, 8, 8, 8, 8, 8, 8, 8, 8, 8, 8, 8, 8, 8, 8, 8, 8, 8, 8, 8, 8, 8, 8, 8, 8, 8, 8, 8, 8, 8]
def lenF (a : Int) : Int := pAdd .i64 0 (pWrap .i64 (pStrGet len8 (pNat (pWrap .u8 a))))
def pdqInv (a b e : Int) (_ : List ND) (y : Int × Int × Int × Bool × Bool × Unit) : Prop := y = (b, a, e, true, true, ())
def pdqMu (_ _ _ : Int) (_ : List ND) (_ : Int × Int × Int × Bool × Bool × Unit) : Nat := 0
def sameTasksInv (l m : List TaskD) : Int × Unit → Prop := fun y => l.length = m.length ∧ UpInv (eqTaskAt l m) l.length y
def sameTasksMu (l _m : List TaskD) : Int × Unit → Nat := UpMu l.length
def sameIntsInv (l m : List ND) : Int × Unit → Prop := fun y => l.length = m.length ∧ UpInv (eqNAt l m) l.length y
def sameIntsMu (l _m : List ND) : Int × Unit → Nat := UpMu l.length
def sameDeskInv (_ : Int) (l : List JobD) (_ : Int) (m : List JobD) : Int × Unit → Prop := fun y => l.length = m.length ∧ UpInv (eqJobAt l m) l.length y
def sameDeskMu (_ : Int) (l : List JobD) (_ : Int) (_m : List JobD) : Int × Unit → Nat := UpMu l.length
def sameMsgsInv (l m : List MsgD) : Int × Unit → Prop := fun y => l.length = m.length ∧ UpInv (eqMsgAt l m) l.length y
def sameMsgsMu (l _m : List MsgD) : Int × Unit → Nat := UpMu l.length
def sameRecordsInv (l m : List RecD) : Int × Unit → Prop := fun y => l.length = m.length ∧ UpInv (eqRecAt l m) l.length y
def sameRecordsMu (l _m : List RecD) : Int × Unit → Nat := UpMu l.length
def sameRepsInv (l m : List RepD) : Int × Unit → Prop := fun y => l.length = m.length ∧ UpInv (eqRepAt l m) l.length y
def sameRepsMu (l _m : List RepD) : Int × Unit → Nat := UpMu l.length

/- a turn -/
def sitesInv (cn l : Int) (ts : List TaskD) : Int × List ND × Unit → Prop := StepInv (fun k => (sitesK cn l ts k, ())) ts.length
def sitesMu (_ _ : Int) (ts : List TaskD) : Int × List ND × Unit → Nat := StepMu ts.length
end Go.Proofs.YtnkcmkegjckncaaDoor
