/- A purge: functions meet their contracts. No condition. -/
import Derived.Test.YtpgolfigfbjbeaaLpV
namespace Go.Proofs.Ytpgolfigfbjbeaa
open Go.RowKit

theorem In_ok : Meets Try.prog (fun _ => none) 16 cIn := In_meets fun a b c => by
  unfold In_VC
  simp only [pGe, pLe, Bool.cond_eq_ite, decide_eq_true_eq, Prod.mk.injEq, eq_self, and_true, inF]
  repeat' split
  all_goals (rw [Bool.eq_iff_iff]; simp only [Bool.and_eq_true, decide_eq_true_eq, Bool.false_eq_true]; constructor <;> intro h <;> first | omega | exact h.elim)
theorem one_ok : Meets Try.prog (fun _ => none) 15 cone := one_meets fun a b => by
  unfold one_VC
  simp only [pGe, pLe, Bool.cond_eq_ite, decide_eq_true_eq, Prod.mk.injEq, eq_self, and_true, inF, labF]
  repeat' split
  all_goals (rw [Bool.eq_iff_iff]; simp only [Bool.and_eq_true, decide_eq_true_eq, Bool.false_eq_true]; constructor <;> intro h <;> first | omega | exact h.elim)

theorem cfgF_sites {c : CfgD} (h : inF c.1 1 4 = false) : cfgF c = 2 := by unfold cfgF; rw [h]; rfl
theorem cfgF_len {c : CfgD} (h1 : inF c.1 1 4 = true) (h : inF (pInt c.2.1.length) 1 6 = false) : cfgF c = 1 := by unfold cfgF; rw [h1, h]; rfl
theorem cfgF_first {c : CfgD} {n : Int} (h1 : inF c.1 1 4 = true) (h2 : inF (pInt c.2.1.length) 1 6 = true) (h : firstE (labE c.2.1) c.2.1.length = n) (hn : pEq n 0 = false) : cfgF c = n := by
  unfold cfgF; rw [h1, h2, h, hn]; rfl
theorem cfgF_end {c : CfgD} (h1 : inF c.1 1 4 = true) (h2 : inF (pInt c.2.1.length) 1 6 = true) (h : firstE (labE c.2.1) c.2.1.length = 0) : cfgF c = cond (inF c.2.2.1 1 1048576) 0 2 := by
  unfold cfgF; rw [h1, h2, h]; rfl
theorem inF_iff {x a b : Int} : inF x a b = true ↔ a ≤ x ∧ x ≤ b := by simp [inF, pLe]
theorem inF_not {x a b : Int} : inF x a b = false ↔ ¬ (a ≤ x ∧ x ≤ b) := by rw [← inF_iff]; simp

theorem labE_bad {l : List LabD} {k : Nat} (h : labF (pGet tyLab l k) = false) : labE l k = 2 := by unfold labE; rw [h]; rfl
theorem labE_ok {l : List LabD} {k : Nat} (h : labF (pGet tyLab l k) = true) : labE l k = cond (allUpto (fun i => !eqLabAt l i k) k) 0 7 := by unfold labE; rw [h]; rfl

/-- the loop over the labels, behind the first two tests -/
theorem cfg_round {c : CfgD} (h1 : inF c.1 1 4 = true) (h2 : inF (pInt c.2.1.length) 1 6 = true) {k : Nat} (hk : pEq (labE c.2.1 k) 0 = false → firstE (labE c.2.1) c.2.1.length = labE c.2.1 k)
    (h : labF (pGet tyLab c.2.1 k) = false) : ((2 : Int), ()) = (cfgF c, ()) := by
  rw [cfgF_first h1 h2 (n := 2) (by rw [hk (by rw [labE_bad h]; rfl), labE_bad h]) rfl]
theorem cfg_twice {c : CfgD} (h1 : inF c.1 1 4 = true) (h2 : inF (pInt c.2.1.length) 1 6 = true) {k : Nat} (hk : pEq (labE c.2.1 k) 0 = false → firstE (labE c.2.1) c.2.1.length = labE c.2.1 k)
    (h : labF (pGet tyLab c.2.1 k) = true) (ha : allUpto (fun i => !eqLabAt c.2.1 i k) k = false) : ((7 : Int), ()) = (cfgF c, ()) := by
  have e : labE c.2.1 k = 7 := by rw [labE_ok h, ha]; rfl
  rw [cfgF_first h1 h2 (n := 7) (by rw [hk (by rw [e]; rfl), e]) rfl]

theorem lB_start {cn : Int} {cl : List LabD} {cp : Int} {k : Nat} : lCheckBInv cn cl cp (k : Int) (0, ()) := UpInv.start
theorem lB_round {cn : Int} {cl : List LabD} {cp : Int} {k : Nat} {z : denVars [.slot 41 false tI]} (hk : k < 4611686018427387904) (h : lCheckBInv cn cl cp (k : Int) z) :
    (∃ i : Nat, z = ((i : Int), ()) ∧ i < k ∧ i < 4611686018427387904 ∧ (eqLabAt cl i k = true → allUpto (fun i => !eqLabAt cl i k) k = false) ∧
      (eqLabAt cl i k = false → lCheckBInv cn cl cp (k : Int) (pAdd .i64 (i : Int) 1, ()) ∧ Nat.le (Nat.succ (lCheckBMu cn cl cp (k : Int) (pAdd .i64 (i : Int) 1, ()))) (lCheckBMu cn cl cp (k : Int) ((i : Int), ())))) ∨
    (z = ((k : Int), ()) ∧ allUpto (fun i => !eqLabAt cl i k) k = true) := by
  unfold lCheckBInv lCheckBMu at *
  simp only [pNat_coe] at h ⊢
  rcases UpInv.round hk h with ⟨i, hz, hi, hib, _, hF, hT⟩ | h
  · exact .inl ⟨i, hz, hi, hib, fun h => hF (by simp [h]), fun h => hT (by simp [h])⟩
  · exact .inr h

theorem lCheck_ok : Meets Try.prog (fun _ => none) 7 clCheck := lCheck_meets one_ok fun cn cl cp hp => by
  have hl : cl.length < 4611686018427387904 := hp _ List.mem_cons_self
  unfold lCheck_VC
  simp only [pLen]
  cases hb1 : pLt cn 1
  case true => exact congrArg (·, ()) (cfgF_sites (by rw [inF_not]; simp only [pLt, decide_eq_true_eq] at hb1; omega)).symm
  cases hb2 : pGt cn 4
  case true => exact congrArg (·, ()) (cfgF_sites (by rw [inF_not]; simp only [pGt, decide_eq_true_eq] at hb2; simp only; omega)).symm
  have h1 : inF cn 1 4 = true := by rw [inF_iff]; simp only [pLt, pGt, decide_eq_false_iff_not] at hb1 hb2; omega
  cases hb3 : pLt (pInt cl.length) 1
  case true => exact congrArg (·, ()) (cfgF_len h1 (by rw [inF_not]; simp only [pLt, decide_eq_true_eq] at hb3; simp only; omega)).symm
  cases hb4 : pGt (pInt cl.length) 6
  case true => exact congrArg (·, ()) (cfgF_len h1 (by rw [inF_not]; simp only [pGt, decide_eq_true_eq] at hb4; simp only; omega)).symm
  have h2 : inF (pInt cl.length) 1 6 = true := by rw [inF_iff]; simp only [pLt, pGt, decide_eq_false_iff_not] at hb3 hb4; omega
  refine ⟨UpInv.start, fun y hy => ?_⟩
  rcases FirstInv.round hl hy with ⟨k, rfl, hk, hb, hF, hT⟩ | ⟨rfl, hT⟩
  · simp only [pLt_coe, pLen, hk, decide_true, cond_true, pIn_coe, pNat_coe, true_and]
    cases hlab : labF (pGet tyLab cl k)
    case false => exact cfg_round (c := (cn, cl, cp, ())) h1 h2 hF hlab
    refine ⟨by rw [pTo_coe]; omega, lB_start, fun z hz => ?_⟩
    rcases lB_round hb hz with ⟨i, rfl, hi, hib, hiF, hiT⟩ | ⟨rfl, hiT⟩
    · rw [pSub0_len (by omega), bif_true (show pLt (i : Int) (pInt k) = true from by simp [pLt_coe, hi])]
      refine ⟨pIn_coe.2 hi, ?_⟩
      rw [pNat_coe, pGet_sub0 hi]
      have e : pAndB (pEq (pGet tyLab cl i).1 (pGet tyLab cl k).1) (pEq (pGet tyLab cl i).2.1 (pGet tyLab cl k).2.1) = eqLabAt cl i k := rfl
      rw [e]
      cases hq : eqLabAt cl i k with
      | true => exact cfg_twice (c := (cn, cl, cp, ())) h1 h2 hF hlab (hiF hq)
      | false => exact hiT hq
    · rw [pSub0_len (by omega), bif_false (show pLt (k : Int) (pInt k) = false from by simp [pLt_coe])]
      exact hT (by rw [labE_ok hlab, hiT]; rfl)
  · simp only [pLt_coe, Nat.lt_irrefl, decide_false, cond_false]
    rw [cfgF_end (c := (cn, cl, cp, ())) h1 h2 hT]
    simp only [pLt, pGt, Bool.cond_eq_ite, decide_eq_true_eq, inF_iff]
    repeat' split
    all_goals first | rfl | (exfalso; omega)

theorem cFault_ok : Meets Try.prog (fun _ => none) 11 ccFault := cFault_meets In_ok fun cn cl cp hp => by
  have hl : cl.length < 4611686018427387904 := hp _ List.mem_cons_self
  unfold cFault_VC
  cases h1 : inF cn 1 4
  case false => exact congrArg (·, ()) (cfgF_sites h1).symm
  simp only [pLen]
  cases h2 : inF (pInt cl.length) 1 6
  case false => exact congrArg (·, ()) (cfgF_len h1 h2).symm
  refine ⟨UpInv.start, fun y hy => ?_⟩
  rcases FirstInv.round hl hy with ⟨k, rfl, hk, hb, hF, hT⟩ | ⟨rfl, hT⟩
  · simp only [pLt_coe, hk, decide_true, cond_true, pIn_coe, pNat_coe, true_and]
    cases ha : inF (pGet tyLab cl k).1 0 9
    case false => exact cfg_round (c := (cn, cl, cp, ())) h1 h2 hF (by unfold labF; rw [ha]; rfl)
    cases hc : inF (pGet tyLab cl k).2.1 0 15
    case false => exact cfg_round (c := (cn, cl, cp, ())) h1 h2 hF (by unfold labF; rw [ha, hc]; rfl)
    have hlab : labF (pGet tyLab cl k) = true := by unfold labF; rw [ha, hc]; rfl
    refine ⟨lB_start, fun z hz => ?_⟩
    rcases lB_round hb hz with ⟨i, rfl, hi, hib, hiF, hiT⟩ | ⟨rfl, hiT⟩
    · have hi2 : i < cl.length := by omega
      rw [bif_true (show pLt (i : Int) (k : Int) = true from by simp [pLt, hi])]
      refine ⟨pIn_coe.2 hi2, ?_⟩
      rw [pNat_coe]
      have e : pAndB (pEq (pGet tyLab cl i).1 (pGet tyLab cl k).1) (pEq (pGet tyLab cl i).2.1 (pGet tyLab cl k).2.1) = eqLabAt cl i k := rfl
      rw [e]
      cases hq : eqLabAt cl i k with
      | true => exact cfg_twice (c := (cn, cl, cp, ())) h1 h2 hF hlab (hiF hq)
      | false => exact hiT hq
    · rw [show pLt (k : Int) (k : Int) = false from by simp [pLt]]
      exact hT (by rw [labE_ok hlab, hiT]; rfl)
  · simp only [pLt_coe, Nat.lt_irrefl, decide_false, cond_false]
    rw [cfgF_end (c := (cn, cl, cp, ())) h1 h2 hT]
    cases inF cp 1 1048576 <;> rfl

theorem pSub_len1 {n : Nat} (h : n < 4611686018427387904) : pSubI .i64 (pInt n) 1 = (n : Int) - 1 := by unfold pInt; rw [pSubI_in (by omega)]
theorem labelMay_ok : Meets Try.prog (fun _ => none) 12 clabelMay := labelMay_meets In_ok fun cn cl cp l hp => by
  have hl : cl.length < 4611686018427387904 := hp _ List.mem_cons_self
  unfold labelMay_VC
  rw [pLen, pSub_len1 hl]
  refine congrArg (·, ()) ?_
  rw [Bool.eq_iff_iff]
  simp only [pInt, placeF]
  simp only [inF, pLe, pLt, Bool.and_eq_true, decide_eq_true_eq]
  omega

theorem placeF_in {c : CfgD} {l : Int} (h : placeF c l = true) : pIn l (pLen c.2.1) := by
  simp only [placeF, pLe, pLt, pInt, Bool.and_eq_true, decide_eq_true_eq] at h
  exact ⟨h.1, of_decide_eq_true h.2⟩
theorem place_ok : Meets Try.prog (fun _ => none) 8 cplace := place_meets fun cn cl cp l => by
  unfold place_VC
  have : placeF (cn, cl, cp, ()) l = (pLe 0 l && pLt l (pInt cl.length)) := rfl
  rw [this]
  cases h : pGe l 0
  · have : pLe 0 l = false := by simpa [pGe, pLe] using h
    rw [this]; rfl
  · have : pLe 0 l = true := by simpa [pGe, pLe] using h
    rw [this]; rfl
theorem above_ok : Meets Try.prog (fun _ => none) 10 cabove := above_meets fun a b c d => by
  unfold above_VC aboveF
  simp only
  cases pGe a c <;> rfl
theorem domin_ok : Meets Try.prog (fun _ => none) 13 cdomin := domin_meets fun a b c d => by
  unfold domin_VC aboveF
  simp only
  cases pGe a c <;> rfl
theorem aown_ok : Meets Try.prog (fun _ => none) 9 caown := aown_meets fun zk zs zt zl zp ze zck zcn zcl zcy zcv zi hp => by
  have hr : pRoom (pLen ze) 8 := hp _ List.mem_cons_self
  refine ⟨?_, rfl⟩
  unfold pPlus pLen at *
  rw [List.length_nil, Nat.zero_add]; exact hr

theorem zapK_succ (h : Nat → Bool) (l : List ND) (k : Nat) : zapK h l (k + 1) = zapK h l k ++ [cond (h k) (0, ()) (pGet tyN l k)] := by
  unfold zapK; rw [List.range_succ, List.map_append]; rfl
theorem zapK_len (h : Nat → Bool) (l : List ND) (k : Nat) : (zapK h l k).length = k := by simp [zapK]
theorem zapK_congr {h h' : Nat → Bool} {l : List ND} {k : Nat} (e : ∀ i, h i = h' i) : zapK h l k = zapK h' l k := by
  rw [show h = h' from funext e]
theorem zapK_id {h : Nat → Bool} {l : List ND} (e : ∀ i, h i = false) : ∀ {k : Nat}, k ≤ l.length → zapK h l k = l.take k
  | 0, _ => rfl
  | k + 1, hk => by
    rw [zapK_succ, zapK_id e (by omega), e k, cond_false, ← take_app (t := tyN) (by omega)]; rfl
theorem zap_hit {h : Nat → Bool} {l : List ND} {k : Nat} (hk : k < l.length) (e : h k = true) : pSet (zapK h l k ++ l.drop k) k (0, ()) = zapK h l (k + 1) ++ l.drop (k + 1) := by
  unfold pSet
  rw [zapK_succ, e, cond_true, List.set_append_right _ _ (by rw [zapK_len]; exact Nat.le_refl _), zapK_len, Nat.sub_self, List.drop_eq_getElem_cons hk, List.set_cons_zero, List.append_assoc]
  rfl
theorem zap_miss {h : Nat → Bool} {l : List ND} {k : Nat} (hk : k < l.length) (e : h k = false) : zapK h l k ++ l.drop k = zapK h l (k + 1) ++ l.drop (k + 1) := by
  rw [zapK_succ, e, cond_false, List.drop_eq_getElem_cons hk, pGet_lt hk, List.append_assoc]
  rfl
theorem purgeK_succ {c : CfgD} {l : Int} {zs : List ActD} {k : Nat} (hk : k < zs.length) : purgeK c l zs (k + 1) = purgeK c l zs k ++ (bif goneF c l (pGet tyAct zs k) then [] else [purgeAct c l (pGet tyAct zs k)]) := by
  unfold purgeK
  rw [← take_app (t := tyAct) hk]
  unfold pApp
  rw [List.filter_append, List.map_append]
  congr 1
  cases h : goneF c l (pGet tyAct zs k) <;> simp [h]
theorem purgeK_len {c : CfgD} {l : Int} {zs : List ActD} {k : Nat} (hk : k ≤ zs.length) : (purgeK c l zs k).length ≤ k := by
  unfold purgeK
  rw [List.length_map]
  exact Nat.le_trans (List.length_filter_le _ _) (by rw [List.length_take]; omega)
theorem withKeep_eta (a : ActD) : withKeep a a.2.2.2.2.2.1 = a := rfl
theorem purgeAct_id {c : CfgD} {l : Int} {a : ActD} (h : pEq a.1 6 = false) : purgeAct c l a = a := by
  unfold purgeAct
  rw [zapK_id (fun i => by unfold hidAt; rw [h]; rfl) (Nat.le_refl _), List.take_length, withKeep_eta]

section
variable {cn : Int} {cl : List LabD} {cp l : Int} {zs : List ActD} {k : Nat} {x : ActD}
theorem push_ok (hk : k < zs.length) (hl : zs.length < 4611686018427387904) (hr : pRoom (pLen zs) 120) (hx : x = purgeAct (cn, cl, cp, ()) l (pGet tyAct zs k)) (hg : goneF (cn, cl, cp, ()) l (pGet tyAct zs k) = false) :
    pRoom (pPlus (pLen (purgeK (cn, cl, cp, ()) l zs k)) (pLen [x])) 120 ∧ purgeInv cn cl cp l zs (pAdd .i64 (k : Int) 1, pApp (purgeK (cn, cl, cp, ()) l zs k) [x], ()) ∧
      Nat.le (Nat.succ (purgeMu cn cl cp l zs (pAdd .i64 (k : Int) 1, pApp (purgeK (cn, cl, cp, ()) l zs k) [x], ()))) (purgeMu cn cl cp l zs ((k : Int), purgeK (cn, cl, cp, ()) l zs k, ())) := by
  have hn := purgeK_len (c := (cn, cl, cp, ())) (l := l) (zs := zs) (k := k) (by omega)
  rw [pAdd1 (by omega)]
  refine ⟨?_, ⟨k + 1, ?_, hk⟩, ?_⟩
  · unfold pRoom pPlus pLen at *
    exact Nat.le_trans (Nat.mul_le_mul_right 120 (show (purgeK (cn, cl, cp, ()) l zs k).length + 1 ≤ zs.length by omega)) hr
  · rw [purgeK_succ hk, hg, cond_false, hx]; rfl
  · unfold purgeMu; simp only [Int.toNat_natCast]; exact Nat.le_of_eq (by omega)
theorem skip_ok (hk : k < zs.length) (hl : zs.length < 4611686018427387904) (hg : goneF (cn, cl, cp, ()) l (pGet tyAct zs k) = true) :
    purgeInv cn cl cp l zs (pAdd .i64 (k : Int) 1, purgeK (cn, cl, cp, ()) l zs k, ()) ∧
      Nat.le (Nat.succ (purgeMu cn cl cp l zs (pAdd .i64 (k : Int) 1, purgeK (cn, cl, cp, ()) l zs k, ()))) (purgeMu cn cl cp l zs ((k : Int), purgeK (cn, cl, cp, ()) l zs k, ())) := by
  rw [pAdd1 (by omega)]
  refine ⟨⟨k + 1, ?_, hk⟩, ?_⟩
  · rw [purgeK_succ hk, hg, cond_true, List.append_nil]
  · unfold purgeMu; simp only [Int.toNat_natCast]; exact Nat.le_of_eq (by omega)
theorem purge_end (hc : pEq (cfgF (cn, cl, cp, ())) 0 = true) (hp : placeF (cn, cl, cp, ()) l = true) : (purgeK (cn, cl, cp, ()) l zs zs.length, (0 : Int), ()) = (purgeF (cn, cl, cp, ()) l zs, purgeE (cn, cl, cp, ()) l, ()) := by
  unfold purgeF purgeE; rw [hc, hp]; rfl
theorem purge_cfg (hc : pEq (cfgF (cn, cl, cp, ())) 0 = false) : (([] : List ActD), cfgF (cn, cl, cp, ()), ()) = (purgeF (cn, cl, cp, ()) l zs, purgeE (cn, cl, cp, ()) l, ()) := by
  unfold purgeF purgeE; rw [hc]; rfl
theorem purge_place (hc : pEq (cfgF (cn, cl, cp, ())) 0 = true) (hp : placeF (cn, cl, cp, ()) l = false) : (([] : List ActD), (6 : Int), ()) = (purgeF (cn, cl, cp, ()) l zs, purgeE (cn, cl, cp, ()) l, ()) := by
  unfold purgeF purgeE; rw [hc, hp]; rfl
end
theorem pNe_not {a b : Int} : pNe a b = !pEq a b := rfl
theorem hide_at {c : CfgD} {l : Int} {j : Nat} (hp : placeF c (j : Int) = true) : hideF c l (j : Int) = !aboveF (pGet tyLab c.2.1 (pNat l)) (pGet tyLab c.2.1 j) := by
  unfold hideF; rw [hp, pNat_coe]; rfl
theorem act_tail (a : ActD) : a.2.2.2.2.2.2 = (a.2.2.2.2.2.2.1, a.2.2.2.2.2.2.2.1, a.2.2.2.2.2.2.2.2.1, a.2.2.2.2.2.2.2.2.2.1, a.2.2.2.2.2.2.2.2.2.2.1, a.2.2.2.2.2.2.2.2.2.2.2.1, ()) := rfl

theorem Purge_ok : Meets Try.prog (fun _ => none) 4 cPurge := Purge_meets lCheck_ok place_ok aown_ok above_ok fun cn cl cp l zs hp => by
  have hl : cl.length < 4611686018427387904 := hp (pLen cl < 4611686018427387904) (by simp)
  have hz : zs.length < 4611686018427387904 := hp (pLen zs < 4611686018427387904) (by simp)
  have hr : pRoom (pLen zs) 120 := hp (pRoom (pLen zs) 120) (by simp)
  have hq := hp (∀ q ∈ zs, pLen q.2.2.2.2.2.1 < 4611686018427387904 ∧ pRoom (pLen q.2.2.2.2.2.1) 8) (by simp)
  clear hp
  unfold Purge_VC
  refine ⟨hl, bif_ok (fun h => purge_cfg (by rw [pNe_not] at h; simpa using h)) fun hc => bif_ok (fun h => purge_place (by rw [pNe_not] at hc; simpa using hc) (by simpa [pNot] using h)) fun hP => ?_⟩
  have hc : pEq (cfgF (cn, cl, cp, ())) 0 = true := by rw [pNe_not] at hc; simpa using hc
  have hP : placeF (cn, cl, cp, ()) l = true := by simpa [pNot] using hP
  have hli : pIn l (pLen cl) := placeF_in (c := (cn, cl, cp, ())) hP
  refine ⟨⟨0, rfl, Nat.zero_le _⟩, fun y hy => ?_⟩
  obtain ⟨k, rfl, hk⟩ := hy
  by_cases hkn : k < zs.length
  · rw [bif_true (by simp [pLt_coe, pLen, hkn]), pNat_coe]
    generalize ha : pGet tyAct zs k = a
    obtain ⟨q1, q2⟩ := hq a (by rw [← ha, pGet_lt hkn]; exact List.getElem_mem hkn)
    have push : ∀ x, x = purgeAct (cn, cl, cp, ()) l a → goneF (cn, cl, cp, ()) l a = false → _ := fun x h1 h2 => push_ok (cn := cn) (cl := cl) (cp := cp) (l := l) (x := x) hkn hz hr (by rw [ha]; exact h1) (by rw [ha]; exact h2)
    have skip := fun h1 => skip_ok (cn := cn) (cl := cl) (cp := cp) (l := l) hkn hz (by rw [ha]; exact h1)
    refine ⟨pIn_coe.2 hkn, q2, ?_⟩
    have inner : pEq a.1 6 = true → purgeKInv cn cl cp l zs (k : Int) ((0 : Int), a, ()) ∧ ∀ z : Int × ActD × Unit, purgeKInv cn cl cp l zs (k : Int) z → ∃ j : Nat, z = ((j : Int), withKeep a (zapK (fun q => hideF (cn, cl, cp, ()) l (q : Int)) a.2.2.2.2.2.1 j ++ a.2.2.2.2.2.1.drop j), ()) ∧ j ≤ a.2.2.2.2.2.1.length := fun _ => by
      unfold purgeKInv
      rw [pNat_coe, ha]
      exact ⟨⟨0, rfl, Nat.zero_le _⟩, fun z hz => hz⟩
    have step : ∀ j : Nat, j < a.2.2.2.2.2.1.length → ∀ e, e = zapK (fun q => hideF (cn, cl, cp, ()) l (q : Int)) a.2.2.2.2.2.1 (j + 1) ++ a.2.2.2.2.2.1.drop (j + 1) → ∀ e0, purgeKInv cn cl cp l zs (k : Int) (pAdd .i64 (j : Int) 1, withKeep a e, ()) ∧
        Nat.le (Nat.succ (purgeKMu cn cl cp l zs (k : Int) (pAdd .i64 (j : Int) 1, withKeep a e, ()))) (purgeKMu cn cl cp l zs (k : Int) ((j : Int), e0, ())) := fun j hj e he e0 => by
      have q1' : a.2.2.2.2.2.1.length < 4611686018427387904 := q1
      unfold purgeKInv purgeKMu
      rw [pNat_coe, ha, pAdd1 (by omega), he]
      refine ⟨⟨j + 1, rfl, hj⟩, ?_⟩
      simp only [Int.toNat_natCast]; exact Nat.le_of_eq (by omega)
    cases h5 : pEq a.1 5
    case true => exact push a (purgeAct_id (by simp only [pEq, beq_iff_eq] at h5 ⊢; rw [h5]; rfl)).symm (by unfold goneF bottomF; rw [h5]; rfl)
    cases h7 : pEq a.1 7
    case true => exact push a (purgeAct_id (by simp only [pEq, beq_iff_eq] at h7 ⊢; rw [h7]; rfl)).symm (by unfold goneF bottomF; rw [h7]; simp)
    cases h6 : pEq a.1 6
    case true =>
      simp only [cond_false, cond_true]
      refine ⟨(inner h6).1, fun z hz => ?_⟩
      obtain ⟨j, rfl, hj⟩ := (inner h6).2 z hz
      by_cases hjn : j < a.2.2.2.2.2.1.length
      · rw [bif_true (by simp [pLt_coe, pLen, hjn]), pNat_coe]
        refine bif_ok (fun hpj => ⟨hli, placeF_in (c := (cn, cl, cp, ())) hpj, bif_ok (fun hab => ⟨?_, ?_⟩) fun hab => ?_⟩) fun hpj => ?_
        · show pIn (j : Int) (zapK (fun q => hideF (cn, cl, cp, ()) l (q : Int)) a.2.2.2.2.2.1 j ++ a.2.2.2.2.2.1.drop j).length
          rw [pIn_coe, List.length_append, zapK_len, List.length_drop]; omega
        · exact step j hjn _ (zap_hit hjn (by rw [hide_at hpj]; exact hab)) _
        · exact step j hjn _ (zap_miss hjn (by rw [hide_at hpj]; exact hab)) _
        · exact step j hjn _ (zap_miss hjn (by unfold hideF; rw [hpj]; rfl)) _
      · have : j = a.2.2.2.2.2.1.length := by omega
        subst this
        rw [bif_false (by simp [pLt_coe, pLen])]
        refine push _ ?_ (by unfold goneF bottomF; rw [h6]; simp)
        unfold purgeAct
        rw [List.drop_length, List.append_nil, zapK_congr (h' := hidAt (cn, cl, cp, ()) l a) fun i => by unfold hidAt; rw [h6]; rfl]
    case false =>
      have hb : bottomF a.1 = false := by unfold bottomF; rw [h5, h6, h7]; rfl
      simp only [cond_false]
      refine bif_ok (fun hpj => ⟨hli, placeF_in (c := (cn, cl, cp, ())) hpj, bif_ok (fun hab => ?_) fun hab => ?_⟩) fun hpj => ?_
      · exact skip (by unfold goneF hideF; rw [hb, hpj]; exact hab)
      · exact push a (purgeAct_id h6).symm (by unfold goneF hideF; rw [hb, hpj]; exact hab)
      · exact push a (purgeAct_id h6).symm (by unfold goneF hideF; rw [hb, hpj]; rfl)
  · have : k = zs.length := by omega
    subst this
    rw [bif_false (by simp [pLt_coe, pLen])]
    exact purge_end hc hP

theorem PurgeOf_ok : Meets Try.prog (fun _ => none) 5 cPurgeOf := PurgeOf_meets cFault_ok labelMay_ok domin_ok fun cn cl cp l zs hp => by
  have hl : cl.length < 4611686018427387904 := hp (pLen cl < 4611686018427387904) (by simp)
  have hz : zs.length < 4611686018427387904 := hp (pLen zs < 4611686018427387904) (by simp)
  have hr : pRoom (pLen zs) 120 := hp (pRoom (pLen zs) 120) (by simp)
  have hq := hp (∀ q ∈ zs, pLen q.2.2.2.2.2.1 < 4611686018427387904 ∧ pRoom (pLen q.2.2.2.2.2.1) 8) (by simp)
  clear hp
  unfold PurgeOf_VC
  refine ⟨hl, ?_⟩
  cases hc : pEq (cfgF (cn, cl, cp, ())) 0
  case false =>
    simp only [cond_false]
    rw [bif_true (show pNe (cfgF (cn, cl, cp, ())) 0 = true from by rw [pNe_not, hc]; rfl)]
    exact purge_cfg hc
  rw [cond_true]
  refine ⟨hl, ?_⟩
  cases hP : placeF (cn, cl, cp, ()) l
  case false =>
    rw [bif_true (show pNot false = true from rfl), bif_true (show pNe 6 0 = true from rfl)]
    exact purge_place hc hP
  rw [bif_false (show pNot true = false from rfl), bif_false (show pNe (cfgF (cn, cl, cp, ())) 0 = false from by rw [pNe_not, hc]; rfl)]
  have hli : pIn l (pLen cl) := placeF_in (c := (cn, cl, cp, ())) hP
  refine ⟨⟨0, rfl, Nat.zero_le _⟩, fun y hy => ?_⟩
  obtain ⟨k, rfl, hk⟩ := hy
  by_cases hkn : k < zs.length
  · rw [bif_true (by simp [pLt_coe, pLen, hkn]), pNat_coe]
    generalize ha : pGet tyAct zs k = a
    obtain ⟨q1, q2⟩ := hq a (by rw [← ha, pGet_lt hkn]; exact List.getElem_mem hkn)
    have q1' : a.2.2.2.2.2.1.length < 4611686018427387904 := q1
    have push : goneF (cn, cl, cp, ()) l a = false → _ := fun h2 => push_ok (cn := cn) (cl := cl) (cp := cp) (l := l) (x := purgeAct (cn, cl, cp, ()) l a) hkn hz hr (by rw [ha]) (by rw [ha]; exact h2)
    have skip := fun h1 => skip_ok (cn := cn) (cl := cl) (cp := cp) (l := l) hkn hz (by rw [ha]; exact h1)
    have step : ∀ j : Nat, j < a.2.2.2.2.2.1.length → ∀ x : ND, x = cond (hidAt (cn, cl, cp, ()) l a j) (0, ()) (pGet tyN a.2.2.2.2.2.1 j) → pRoom (pPlus (pLen (zapK (hidAt (cn, cl, cp, ()) l a) a.2.2.2.2.2.1 j)) (pLen [x])) 8 ∧
        purgeOfInv cn cl cp l zs (k : Int) (pAdd .i64 (j : Int) 1, pApp (zapK (hidAt (cn, cl, cp, ()) l a) a.2.2.2.2.2.1 j) [x], ()) ∧
        Nat.le (Nat.succ (purgeOfMu cn cl cp l zs (k : Int) (pAdd .i64 (j : Int) 1, pApp (zapK (hidAt (cn, cl, cp, ()) l a) a.2.2.2.2.2.1 j) [x], ()))) (purgeOfMu cn cl cp l zs (k : Int) ((j : Int), zapK (hidAt (cn, cl, cp, ()) l a) a.2.2.2.2.2.1 j, ())) := fun j hj x hx => by
      unfold purgeOfInv purgeOfMu
      rw [pNat_coe, ha, pAdd1 (by omega)]
      refine ⟨?_, ⟨j + 1, by rw [zapK_succ, hx]; rfl, hj⟩, ?_⟩
      · unfold pRoom pPlus pLen at *
        rw [zapK_len]
        exact Nat.le_trans (Nat.mul_le_mul_right 8 (show j + 1 ≤ a.2.2.2.2.2.1.length by omega)) q2
      · simp only [Int.toNat_natCast]; exact Nat.le_of_eq (by omega)
    refine ⟨pIn_coe.2 hkn, (by unfold purgeOfInv; exact ⟨0, rfl, Nat.zero_le _⟩), fun z hz => ?_⟩
    have hz' : ∃ j : Nat, z = ((j : Int), zapK (hidAt (cn, cl, cp, ()) l a) a.2.2.2.2.2.1 j, ()) ∧ j ≤ a.2.2.2.2.2.1.length := by
      unfold purgeOfInv at hz
      rw [pNat_coe, ha] at hz
      exact hz
    obtain ⟨j, rfl, hj⟩ := hz'
    by_cases hjn : j < a.2.2.2.2.2.1.length
    · rw [bif_true (by simp [pLt_coe, pLen, hjn]), pNat_coe]
      refine ⟨pIn_coe.2 hjn, bif_ok (fun h6 => ⟨hl, bif_ok (fun hpj => ⟨hli, placeF_in (c := (cn, cl, cp, ())) hpj, bif_ok (fun hab => ?_) fun hab => ?_⟩) fun hpj => ?_⟩) fun h6 => ?_⟩
      · exact step j hjn _ (by unfold hidAt; rw [hide_at hpj, h6]; have hab : (!aboveF (pGet tyLab cl (pNat l)) (pGet tyLab cl j)) = true := hab; rw [hab]; rfl)
      · exact step j hjn _ (by unfold hidAt; rw [hide_at hpj, h6]; have hab : (!aboveF (pGet tyLab cl (pNat l)) (pGet tyLab cl j)) = false := hab; rw [hab]; rfl)
      · exact step j hjn _ (by unfold hidAt hideF; rw [hpj, h6]; rfl)
      · exact step j hjn _ (by unfold hidAt hideF; rw [h6]; rfl)
    · have : j = a.2.2.2.2.2.1.length := by omega
      subst this
      rw [bif_false (by simp [pLt_coe, pLen])]
      cases h5 : pEq a.1 5
      case true => exact push (by unfold goneF bottomF; rw [h5]; rfl)
      cases h7 : pEq a.1 7
      case true => exact push (by unfold goneF bottomF; rw [h7]; simp)
      cases h6 : pEq a.1 6
      case true => exact push (by unfold goneF bottomF; rw [h6]; simp)
      have hb : bottomF a.1 = false := by unfold bottomF; rw [h5, h6, h7]; rfl
      simp only [cond_false]
      rw [bif_true (show pNot false = true from rfl)]
      refine ⟨hl, bif_ok (fun hpj => ⟨hli, placeF_in (c := (cn, cl, cp, ())) hpj, bif_ok (fun hab => ?_) fun hab => ?_⟩) fun hpj => ?_⟩
      · exact skip (by unfold goneF hideF; rw [hb, hpj]; exact hab)
      · exact push (by unfold goneF hideF; rw [hb, hpj]; exact hab)
      · exact push (by unfold goneF hideF; rw [hb, hpj]; rfl)
  · have : k = zs.length := by omega
    subst this
    rw [bif_false (by simp [pLt_coe, pLen])]
    exact purge_end hc hP

theorem sameInts_ok : Meets Try.prog (fun _ => none) 14 csameInts := sameInts_meets fun l m hp => by
  have hl : l.length < 4611686018427387904 := hp _ List.mem_cons_self
  unfold sameInts_VC
  refine bif_ok (fun h => leafF fun q => ?_) fun h => ?_
  · unfold sameIntsF at q; simp only [Bool.and_eq_true, decide_eq_true_eq] at q
    have : pNe (pInt l.length) (pInt m.length) = true := h
    rw [q.1] at this; simp [pNe] at this
  have hn : l.length = m.length := by
    have : pNe (pInt l.length) (pInt m.length) = false := h
    simp only [pNe, pInt, bne_eq_false_iff_eq] at this; omega
  refine ⟨⟨hn, UpInv.start⟩, fun y ⟨_, hy⟩ => ?_⟩
  rcases UpInv.round hl hy with ⟨k, rfl, hk, hb, -, hF, hT⟩ | ⟨rfl, hT⟩
  · have hk2 : k < m.length := by omega
    rw [bif_true (by simp [pLt_coe, pLen, hk]), pNat_coe]
    refine ⟨pIn_coe.2 hk, pIn_coe.2 hk2, bif_ok (fun h => leafF fun q => ?_) fun h => ?_⟩
    · have h' : eqNAt l m k = false := by have h2 : (!eqNAt l m k) = true := h; simpa using h2
      unfold sameIntsF at q
      rw [hF h'] at q; simp at q
    · have h' : eqNAt l m k = true := by have h2 : (!eqNAt l m k) = false := h; simpa using h2
      exact ⟨⟨hn, (hT h').1⟩, (hT h').2⟩
  · rw [bif_false (by simp [pLt_coe, pLen])]
    refine leafT fun q => ?_
    unfold sameIntsF at q
    rw [hT, hn] at q; simp at q
theorem sameActs_ok : Meets Try.prog (fun _ => none) 6 csameActs := sameActs_meets sameInts_ok fun l m hp => by
  have hl : l.length < 4611686018427387904 := hp (pLen l < 4611686018427387904) (by simp)
  have hq := hp (∀ q ∈ l, pLen q.2.2.2.2.2.1 < 4611686018427387904) (by simp)
  clear hp
  unfold sameActs_VC
  refine bif_ok (fun h => leafF fun q => ?_) fun h => ?_
  · unfold sameActsF at q; simp only [Bool.and_eq_true, decide_eq_true_eq] at q
    have : pNe (pInt l.length) (pInt m.length) = true := h
    rw [q.1] at this; simp [pNe] at this
  have hn : l.length = m.length := by
    have : pNe (pInt l.length) (pInt m.length) = false := h
    simp only [pNe, pInt, bne_eq_false_iff_eq] at this; omega
  refine ⟨⟨hn, UpInv.start⟩, fun y ⟨_, hy⟩ => ?_⟩
  rcases UpInv.round hl hy with ⟨k, rfl, hk, hb, -, hF, hT⟩ | ⟨rfl, hT⟩
  · have hk2 : k < m.length := by omega
    rw [bif_true (by simp [pLt_coe, pLen, hk]), pNat_coe]
    have hbad : eqActAt l m k = false → (false, ()) = (sameActsF l m, ()) := fun h' => leafF fun q => by
      unfold sameActsF at q
      rw [hF h'] at q; simp at q
    have hq1 := hq (pGet tyAct l k) (by rw [pGet_lt hk]; exact List.getElem_mem hk)
    refine ⟨pIn_coe.2 hk, pIn_coe.2 hk2, bif_ok (fun h1 => hbad ?_) fun h1 => bif_ok (fun h2 => hbad ?_) fun h2 => bif_ok (fun h3 => hbad ?_) fun h3 => bif_ok (fun h4 => hbad ?_) fun h4 => bif_ok (fun h5 => hbad ?_) fun h5 => bif_ok (fun h6 => hbad ?_) fun h6 => bif_ok (fun h7 => hbad ?_) fun h7 => ⟨hq1, bif_ok (fun h8 => hbad ?_) fun h8 => ?_⟩⟩
    · unfold eqActAt eqAct; rw [h1]; rfl
    · unfold eqActAt eqAct; rw [h1, h2]; rfl
    · unfold eqActAt eqAct; rw [h1, h2, h3]; rfl
    · unfold eqActAt eqAct; rw [h1, h2, h3, h4]; rfl
    · unfold eqActAt eqAct; rw [h1, h2, h3, h4, h5]; rfl
    · unfold eqActAt eqAct; rw [h1, h2, h3, h4, h5, h6]; rfl
    · unfold eqActAt eqAct; rw [h1, h2, h3, h4, h5, h6, h7]; rfl
    · unfold eqActAt eqAct; rw [h1, h2, h3, h4, h5, h6, h7, h8]; rfl
    · have h' : eqActAt l m k = true := by unfold eqActAt eqAct; rw [h1, h2, h3, h4, h5, h6, h7, h8]; rfl
      exact ⟨⟨hn, (hT h').1⟩, (hT h').2⟩
  · rw [bif_false (by simp [pLt_coe, pLen])]
    refine leafT fun q => ?_
    unfold sameActsF at q
    rw [hT, hn] at q; simp at q

theorem sameInts_refl (l : List ND) : sameIntsF l l = true := by
  unfold sameIntsF
  rw [allUpto_true fun j _ => by simp [eqNAt, pEq]]; simp
theorem sameActs_refl (l : List ActD) : sameActsF l l = true := by
  unfold sameActsF
  rw [allUpto_true fun j _ => by unfold eqActAt eqAct; rw [sameInts_refl]; simp [pNe, pNot, pAndB, pEq, pStrEq]]; simp
theorem purgeF_mem {c : CfgD} {l : Int} {zs : List ActD} {q : ActD} (h : q ∈ purgeF c l zs) : ∃ a ∈ zs, q.2.2.2.2.2.1.length = a.2.2.2.2.2.1.length := by
  unfold purgeF at h
  cases h1 : pEq (cfgF c) 0
  · rw [h1] at h; cases h
  cases h2 : placeF c l
  · rw [h1, h2] at h; cases h
  rw [h1, h2, cond_true, cond_true] at h
  unfold purgeK at h
  obtain ⟨a, ha, rfl⟩ := List.mem_map.1 h
  refine ⟨a, List.mem_of_mem_take (List.mem_filter.1 ha).1, ?_⟩
  show (zapK _ _ _).length = _
  rw [zapK_len]
theorem purgeF_len {c : CfgD} {l : Int} {zs : List ActD} : (purgeF c l zs).length ≤ zs.length := by
  unfold purgeF
  cases h1 : pEq (cfgF c) 0
  · exact Nat.zero_le _
  cases h2 : placeF c l
  · exact Nat.zero_le _
  exact purgeK_len (Nat.le_refl _)
theorem lt62 {n b : Nat} (h : n * b ≤ 140737488351232) (hb : 1 ≤ b) : n < 4611686018427387904 := by
  have := Nat.mul_le_mul_left n hb
  omega

end Go.Proofs.Ytpgolfigfbjbeaa
