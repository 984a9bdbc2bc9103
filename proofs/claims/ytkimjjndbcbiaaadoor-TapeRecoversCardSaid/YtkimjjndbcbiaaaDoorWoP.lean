/- wire.DecodeRecord meets its contract, by kinds. No condition. -/
import Derived.Test.YtkimjjndbcbiaaaDoorWlV
import Derived.Test.YtkimjjndbcbiaaaDoorWoW
import Derived.Test.YtkimjjndbcbiaaaDoorWhQ
import Derived.Test.YtkimjjndbcbiaaaDoorWrP
namespace Go.Proofs.YtkimjjndbcbiaaaDoor
open Go.RowKit

theorem rrow0 : pGet tyParts recordsT (pNat 0) = (false, false, false, false, false, false, false, false, ()) := rfl
theorem rkind_at {k : Int} {b : List ByteD} {n : Int} (h : kindE k b 0 = 0) (hn : takeN b 1 = n) : kindV k b = n ∧ kindS k b = (takeR b 1, 0) := by
  unfold kindV kindS
  rw [h, hn]
  exact ⟨rfl, rfl⟩
theorem rkind_no {k : Int} {b : List ByteD} (h : pEq (kindE k b 0) 0 = false) : kindV k b = 0 := by
  unfold kindV; rw [h]; rfl
theorem recO_cfg {c : CfgD} {b : List ByteD} (h : pNe (cfgF c) 0 = true) : recOE c b = cfgF c ∧ recO c b = noRec := by
  have h1 : pEq (cfgF c) 0 = false := by simpa [pNe, pEq] using h
  have h2 : recOE c b = cfgF c := by unfold recOE; rw [h1]; rfl
  refine ⟨h2, ?_⟩
  unfold recO; rw [h2, h1]; rfl
theorem rec_end {c : CfgD} {b : List ByteD} {R : List ByteD} {F : Int} {m : RecD} {P P2 : Prop} (hc : pNe (cfgF c) 0 = false) (hP : P) (hP2 : P2) (hS : (rSit (recPart b) b).2 = (R, F)) (hm : recRaw (recPart b) (kindV 6 b) b = m) :
    bif pEq (endE R F) 0 then (P ∧ P2 ∧ bif pNe (recF c m) 0 then (noRec, recF c m, ()) = (recO c b, recOE c b, ()) else (m, 0, ()) = (recO c b, recOE c b, ())) else
      bif pNe (endE R F) 0 then (noRec, endE R F, ()) = (recO c b, recOE c b, ()) else (m, 0, ()) = (recO c b, recOE c b, ()) := by
  have h1 : pEq (cfgF c) 0 = true := by simpa [pNe, pEq] using hc
  have h2 : recOE c b = cond (pEq (endE R F) 0) (recF c m) (endE R F) := by
    unfold recOE; rw [h1, hS, hm]; rfl
  have h3 : recO c b = cond (pEq (recOE c b) 0) m noRec := by unfold recO; rw [hm]
  rw [h3, h2]
  cases he : pEq (endE R F) 0 with
  | true =>
    simp only [cond_true]
    refine ⟨hP, hP2, ?_⟩
    cases hq : pEq (recF c m) 0 with
    | true =>
      have : recF c m = 0 := by simpa [pEq] using hq
      rw [show pNe (recF c m) 0 = false by simpa [pNe, pEq] using hq, this]; rfl
    | false => rw [show pNe (recF c m) 0 = true by simpa [pNe, pEq] using hq]; rfl
  | false =>
    rw [show pNe (endE R F) 0 = true by simpa [pNe, pEq] using he]
    show (noRec, endE R F, ()) = (cond (pEq (endE R F) 0) m noRec, endE R F, ())
    rw [he]; rfl

theorem stK_succ (s : RdS) : ∀ j, stK s (j + 1) = stK (stepS s 1) j
  | 0 => rfl
  | j + 1 => by
    show stepS (stK s (j + 1)) 1 = stepS (stK (stepS s 1) j) 1
    rw [stK_succ s j]
theorem siK_succ (s : RdS) : ∀ j, siK s (j + 1) = (takeN s.1 1, ()) :: siK (stepS s 1) j
  | 0 => rfl
  | j + 1 => by
    show siK s (j + 1) ++ [(takeN (stK s (j + 1)).1 1, ())] = (takeN s.1 1, ()) :: (siK (stepS s 1) j ++ [(takeN (stK (stepS s 1) j).1 1, ())])
    rw [siK_succ s j, stK_succ s j]
    rfl
theorem siK_len (s : RdS) : ∀ j, (siK s j).length = j
  | 0 => rfl
  | j + 1 => by show (siK s j ++ [_]).length = j + 1; rw [List.length_append, siK_len s j]; rfl
theorem sitS_stop : ∀ (n j : Nat) (s : RdS), j ≤ n → (∀ i, i < j → (stK s i).2 = 0) → (j = n ∨ (stK s j).2 ≠ 0) → sitS s n = (siK s j, stK s j)
  | 0, j, s, hj, _, _ => by
    have : j = 0 := by omega
    subst this; rfl
  | n + 1, 0, s, _, _, h => by
    rcases h with h | h
    · cases h
    · have h' : s.2 ≠ 0 := h
      have h0 : pEq s.2 0 = false := by simpa [pEq] using h'
      show cond (pEq s.2 0) _ _ = _
      rw [h0]; rfl
  | n + 1, j + 1, s, hj, ha, h => by
    have h0 : s.2 = 0 := ha 0 (by omega)
    have h0' : pEq s.2 0 = true := by simpa [pEq] using h0
    have ih := sitS_stop n j (stepS s 1) (by omega) (fun i hi => by rw [← stK_succ]; exact ha (i + 1) (by omega)) (by
      rcases h with h | h
      · left; omega
      · right; rw [← stK_succ]; exact h)
    show cond (pEq s.2 0) _ _ = _
    rw [h0', cond_true, ih, siK_succ, stK_succ]
theorem okB_stK {s : RdS} (h : okB s.1) : ∀ j, okB (stK s j).1
  | 0 => h
  | j + 1 => okB_takeR (okB_stK h j)
theorem len_stK {s : RdS} {n : Nat} (h : s.1.length < n) : ∀ j, (stK s j).1.length < n
  | 0 => h
  | j + 1 => len_takeR (len_stK h j)
theorem takeN1 {l : List ByteD} (h : okB l) : 0 ≤ takeN l 1 ∧ takeN l 1 ≤ 255 := by
  cases hs : pLt (pInt l.length) 1 with
  | true => rw [(take_short hs).1]; decide
  | false =>
    rw [(take_long hs).1]
    have h' : ¬ ((l.length : Nat) : Int) < 1 := of_decide_eq_false hs
    have := valB_bound h 1 (by omega)
    have e : pNat 1 = 1 := rfl
    rw [e]
    have e2 : (256 : Int) ^ 1 = 256 := by decide
    omega
theorem cnt_ok {l : List ByteD} (h : okB l) : 0 ≤ rCnt l ∧ rCnt l ≤ 255 := takeN1 (okB_takeR (okB_takeR (okB_takeR h)))
theorem rS7_three (l : List ByteD) : rS7 (false, false, false, false, false, false, false, true, ()) l = rS3 l := rfl
theorem sit_three {l : List ByteD} {j : Nat} (hp : recPart l = pGet tyParts recordsT (pNat 3)) (hv : kindV 6 l = 3) (hb : okB l) (hj : (j : Int) ≤ rCnt l) (ha : ∀ i, i < j → (stK (rBase l) i).2 = 0) (h : (j : Int) = rCnt l ∨ (stK (rBase l) j).2 ≠ 0) :
    (rSit (recPart l) l).2 = ((stK (rBase l) j).1, (stK (rBase l) j).2) ∧ recRaw (recPart l) (kindV 6 l) l = rCells l j := by
  have hc := cnt_ok hb
  have e : sitS (rBase l) (pNat (rCnt l)) = (siK (rBase l) j, stK (rBase l) j) := sitS_stop _ _ _ (by unfold pNat; omega) ha (by
    rcases h with h | h
    · left; unfold pNat; omega
    · exact .inr h)
  rw [hp, hv, rrow3]
  have e2 : rSit (false, false, false, false, false, false, false, true, ()) l = sitS (rBase l) (pNat (rCnt l)) := rfl
  unfold recRaw
  rw [e2, e]
  exact ⟨rfl, rfl⟩
theorem room8 {α : Type} {l : List α} {x : α} (h : l.length < 1000000) : pRoom (pPlus (pLen l) (pLen [x])) 8 := by
  unfold pRoom pPlus pLen; simp only [List.length_cons, List.length_nil]; omega

theorem rkind6_0_ok : Meets Tryd.prog (fun _ => none) 55 crkind6_0 := meets_mono rkind_ok fun x hp => by
  have h1 : okB x.2.1.1 := (hp _ List.mem_cons_self)
  have h2 : pLen x.2.1.1 < 4611686018427387904 := (hp _ (List.mem_cons_of_mem _ List.mem_cons_self))
  have h3 : pEq x.1.2.1 6 = true := (hp _ (List.mem_cons_of_mem _ (List.mem_cons_of_mem _ List.mem_cons_self)))
  have h4 : pEq (kindE 6 x.2.1.1 x.2.1.2.1) 0 = false := (hp _ (List.mem_cons_of_mem _ (List.mem_cons_of_mem _ (List.mem_cons_of_mem _ List.mem_cons_self))))
  have h6 : x.1.2.1 = 6 := by simpa [pEq] using h3
  refine ⟨fun p hq => ?_, ?_⟩
  · simp only [List.mem_cons, List.not_mem_nil, or_false] at hq
    rcases hq with rfl | rfl
    · exact h1
    · exact h2
  · show (cond (pEq (kindE x.1.2.1 x.2.1.1 x.2.1.2.1) 0) (takeN x.2.1.1 1) 0, (takeR x.2.1.1 1, kindE x.1.2.1 x.2.1.1 x.2.1.2.1, ()), ()) = _
    rw [h6, h4]
    rfl
set_option maxHeartbeats 2000000 in
theorem DecodeRecord0_ok : Meets Tryd.prog tabsR 24 cDecodeRecord0 := DecodeRecord0_meets lCheck_ok.any cloneB_ok.any rkind6_0_ok.any rtake_ok.any rtxn_ok.any rbit_ok.any rend_ok.any CheckRecord_ok fun cn cl cp l hp => by
  have hl : cl.length < 4611686018427387904 := (hp _ List.mem_cons_self)
  have hb : okB l := (hp _ (List.mem_cons_of_mem _ List.mem_cons_self))
  have hr : pRoom (pLen l) 1 := (hp _ (List.mem_cons_of_mem _ (List.mem_cons_of_mem _ List.mem_cons_self)))
  have h1 : pEq (kindE 6 l 0) 0 = false := (hp _ (List.mem_cons_of_mem _ (List.mem_cons_of_mem _ (List.mem_cons_of_mem _ List.mem_cons_self))))
  have hv := rkind_no h1
  have hs : kindS 6 l = (takeR l 1, kindE 6 l 0) := rfl
  clear hp
  have hll : l.length < 4611686018427387904 := by unfold pRoom pLen at hr; omega
  have hp : recPart l = pGet tyParts recordsT (pNat 0) := by unfold recPart; rw [hv]
  unfold DecodeRecord0_VC
  refine ⟨hl, bif_ok (fun h => ?_) fun hc => ?_⟩
  · obtain ⟨e1, e2⟩ := recO_cfg (b := l) h
    rw [e1, e2]
  · (repeat' (first | refine rec_end hc hl (nle (by decide)) ?_ ?_ | with_reducible refine And.intro ?_ ?_ | fail))
    all_goals first
      | exact hr
      | exact h1
      | (repeat' refine okB_takeR ?_
         exact hb)
      | (repeat' refine len_takeR ?_
         exact hll)
      | decide
      | (unfold pIn; decide)
      | (rw [hp]; unfold rSit rS7 rS6 rS5 rS4 rS3; rw [hs]; rfl)
      | (rw [hp, hv]; unfold recRaw rSit rS7 rS6 rS5 rS4 rS3; rw [hs]; rfl)
      | skip

theorem rkind6_1_ok : Meets Tryd.prog (fun _ => none) 55 crkind6_1 := meets_mono rkind_ok fun x hp => by
  have h1 : okB x.2.1.1 := (hp _ List.mem_cons_self)
  have h2 : pLen x.2.1.1 < 4611686018427387904 := (hp _ (List.mem_cons_of_mem _ List.mem_cons_self))
  have h3 : pEq x.1.2.1 6 = true := (hp _ (List.mem_cons_of_mem _ (List.mem_cons_of_mem _ List.mem_cons_self)))
  have h4 : kindE 6 x.2.1.1 x.2.1.2.1 = 0 := (hp _ (List.mem_cons_of_mem _ (List.mem_cons_of_mem _ (List.mem_cons_of_mem _ List.mem_cons_self))))
  have h5 : takeN x.2.1.1 1 = 1 := (hp _ (List.mem_cons_of_mem _ (List.mem_cons_of_mem _ (List.mem_cons_of_mem _ (List.mem_cons_of_mem _ List.mem_cons_self)))))
  have h6 : x.1.2.1 = 6 := by simpa [pEq] using h3
  refine ⟨fun p hq => ?_, ?_⟩
  · simp only [List.mem_cons, List.not_mem_nil, or_false] at hq
    rcases hq with rfl | rfl
    · exact h1
    · exact h2
  · show (cond (pEq (kindE x.1.2.1 x.2.1.1 x.2.1.2.1) 0) (takeN x.2.1.1 1) 0, (takeR x.2.1.1 1, kindE x.1.2.1 x.2.1.1 x.2.1.2.1, ()), ()) = _
    rw [h6, h4, h5]
    rfl
set_option maxHeartbeats 2000000 in
theorem DecodeRecord1_ok : Meets Tryd.prog tabsR 24 cDecodeRecord1 := DecodeRecord1_meets lCheck_ok.any cloneB_ok.any rkind6_1_ok.any rtake_ok.any rtxn_ok.any rbit_ok.any rend_ok.any CheckRecord_ok fun cn cl cp l hp => by
  have hl : cl.length < 4611686018427387904 := (hp _ List.mem_cons_self)
  have hb : okB l := (hp _ (List.mem_cons_of_mem _ List.mem_cons_self))
  have hr : pRoom (pLen l) 1 := (hp _ (List.mem_cons_of_mem _ (List.mem_cons_of_mem _ List.mem_cons_self)))
  have h1 : kindE 6 l 0 = 0 := (hp _ (List.mem_cons_of_mem _ (List.mem_cons_of_mem _ (List.mem_cons_of_mem _ List.mem_cons_self))))
  have h2 : takeN l 1 = 1 := (hp _ (List.mem_cons_of_mem _ (List.mem_cons_of_mem _ (List.mem_cons_of_mem _ (List.mem_cons_of_mem _ List.mem_cons_self)))))
  obtain ⟨hv, hs⟩ := rkind_at h1 h2
  clear hp
  have hll : l.length < 4611686018427387904 := by unfold pRoom pLen at hr; omega
  have hp : recPart l = pGet tyParts recordsT (pNat 1) := by unfold recPart; rw [hv]
  unfold DecodeRecord1_VC
  refine ⟨hl, bif_ok (fun h => ?_) fun hc => ?_⟩
  · obtain ⟨e1, e2⟩ := recO_cfg (b := l) h
    rw [e1, e2]
  · (repeat' (first | refine rec_end hc hl (nle (by decide)) ?_ ?_ | with_reducible refine And.intro ?_ ?_ | fail))
    all_goals first
      | exact hr
      | exact h1
      | exact h2
      | (repeat' refine okB_takeR ?_
         exact hb)
      | (repeat' refine len_takeR ?_
         exact hll)
      | decide
      | (unfold pIn; decide)
      | (rw [hp]; unfold rSit rS7 rS6 rS5 rS4 rS3; rw [hs]; rfl)
      | (rw [hp, hv]; unfold recRaw rSit rS7 rS6 rS5 rS4 rS3; rw [hs]; rfl)
      | skip

theorem rkind6_2_ok : Meets Tryd.prog (fun _ => none) 55 crkind6_2 := meets_mono rkind_ok fun x hp => by
  have h1 : okB x.2.1.1 := (hp _ List.mem_cons_self)
  have h2 : pLen x.2.1.1 < 4611686018427387904 := (hp _ (List.mem_cons_of_mem _ List.mem_cons_self))
  have h3 : pEq x.1.2.1 6 = true := (hp _ (List.mem_cons_of_mem _ (List.mem_cons_of_mem _ List.mem_cons_self)))
  have h4 : kindE 6 x.2.1.1 x.2.1.2.1 = 0 := (hp _ (List.mem_cons_of_mem _ (List.mem_cons_of_mem _ (List.mem_cons_of_mem _ List.mem_cons_self))))
  have h5 : takeN x.2.1.1 1 = 2 := (hp _ (List.mem_cons_of_mem _ (List.mem_cons_of_mem _ (List.mem_cons_of_mem _ (List.mem_cons_of_mem _ List.mem_cons_self)))))
  have h6 : x.1.2.1 = 6 := by simpa [pEq] using h3
  refine ⟨fun p hq => ?_, ?_⟩
  · simp only [List.mem_cons, List.not_mem_nil, or_false] at hq
    rcases hq with rfl | rfl
    · exact h1
    · exact h2
  · show (cond (pEq (kindE x.1.2.1 x.2.1.1 x.2.1.2.1) 0) (takeN x.2.1.1 1) 0, (takeR x.2.1.1 1, kindE x.1.2.1 x.2.1.1 x.2.1.2.1, ()), ()) = _
    rw [h6, h4, h5]
    rfl
set_option maxHeartbeats 2000000 in
theorem DecodeRecord2_ok : Meets Tryd.prog tabsR 24 cDecodeRecord2 := DecodeRecord2_meets lCheck_ok.any cloneB_ok.any rkind6_2_ok.any rtake_ok.any rtxn_ok.any rbit_ok.any rend_ok.any CheckRecord_ok fun cn cl cp l hp => by
  have hl : cl.length < 4611686018427387904 := (hp _ List.mem_cons_self)
  have hb : okB l := (hp _ (List.mem_cons_of_mem _ List.mem_cons_self))
  have hr : pRoom (pLen l) 1 := (hp _ (List.mem_cons_of_mem _ (List.mem_cons_of_mem _ List.mem_cons_self)))
  have h1 : kindE 6 l 0 = 0 := (hp _ (List.mem_cons_of_mem _ (List.mem_cons_of_mem _ (List.mem_cons_of_mem _ List.mem_cons_self))))
  have h2 : takeN l 1 = 2 := (hp _ (List.mem_cons_of_mem _ (List.mem_cons_of_mem _ (List.mem_cons_of_mem _ (List.mem_cons_of_mem _ List.mem_cons_self)))))
  obtain ⟨hv, hs⟩ := rkind_at h1 h2
  clear hp
  have hll : l.length < 4611686018427387904 := by unfold pRoom pLen at hr; omega
  have hp : recPart l = pGet tyParts recordsT (pNat 2) := by unfold recPart; rw [hv]
  unfold DecodeRecord2_VC
  refine ⟨hl, bif_ok (fun h => ?_) fun hc => ?_⟩
  · obtain ⟨e1, e2⟩ := recO_cfg (b := l) h
    rw [e1, e2]
  · (repeat' (first | refine rec_end hc hl (nle (by decide)) ?_ ?_ | with_reducible refine And.intro ?_ ?_ | fail))
    all_goals first
      | exact hr
      | exact h1
      | exact h2
      | (repeat' refine okB_takeR ?_
         exact hb)
      | (repeat' refine len_takeR ?_
         exact hll)
      | decide
      | (unfold pIn; decide)
      | (rw [hp]; unfold rSit rS7 rS6 rS5 rS4 rS3; rw [hs]; rfl)
      | (rw [hp, hv]; unfold recRaw rSit rS7 rS6 rS5 rS4 rS3; rw [hs]; rfl)
      | skip

theorem rkind6_3_ok : Meets Tryd.prog (fun _ => none) 55 crkind6_3 := meets_mono rkind_ok fun x hp => by
  have h1 : okB x.2.1.1 := (hp _ List.mem_cons_self)
  have h2 : pLen x.2.1.1 < 4611686018427387904 := (hp _ (List.mem_cons_of_mem _ List.mem_cons_self))
  have h3 : pEq x.1.2.1 6 = true := (hp _ (List.mem_cons_of_mem _ (List.mem_cons_of_mem _ List.mem_cons_self)))
  have h4 : kindE 6 x.2.1.1 x.2.1.2.1 = 0 := (hp _ (List.mem_cons_of_mem _ (List.mem_cons_of_mem _ (List.mem_cons_of_mem _ List.mem_cons_self))))
  have h5 : takeN x.2.1.1 1 = 3 := (hp _ (List.mem_cons_of_mem _ (List.mem_cons_of_mem _ (List.mem_cons_of_mem _ (List.mem_cons_of_mem _ List.mem_cons_self)))))
  have h6 : x.1.2.1 = 6 := by simpa [pEq] using h3
  refine ⟨fun p hq => ?_, ?_⟩
  · simp only [List.mem_cons, List.not_mem_nil, or_false] at hq
    rcases hq with rfl | rfl
    · exact h1
    · exact h2
  · show (cond (pEq (kindE x.1.2.1 x.2.1.1 x.2.1.2.1) 0) (takeN x.2.1.1 1) 0, (takeR x.2.1.1 1, kindE x.1.2.1 x.2.1.1 x.2.1.2.1, ()), ()) = _
    rw [h6, h4, h5]
    rfl
set_option maxHeartbeats 2000000 in
theorem DecodeRecord3_ok : Meets Tryd.prog tabsR 24 cDecodeRecord3 := DecodeRecord3_meets lCheck_ok.any cloneB_ok.any rkind6_3_ok.any rtake_ok.any rtxn_ok.any rbit_ok.any rend_ok.any CheckRecord_ok fun cn cl cp l hp => by
  have hl : cl.length < 4611686018427387904 := (hp _ List.mem_cons_self)
  have hb : okB l := (hp _ (List.mem_cons_of_mem _ List.mem_cons_self))
  have hr : pRoom (pLen l) 1 := (hp _ (List.mem_cons_of_mem _ (List.mem_cons_of_mem _ List.mem_cons_self)))
  have h1 : kindE 6 l 0 = 0 := (hp _ (List.mem_cons_of_mem _ (List.mem_cons_of_mem _ (List.mem_cons_of_mem _ List.mem_cons_self))))
  have h2 : takeN l 1 = 3 := (hp _ (List.mem_cons_of_mem _ (List.mem_cons_of_mem _ (List.mem_cons_of_mem _ (List.mem_cons_of_mem _ List.mem_cons_self)))))
  obtain ⟨hv, hs⟩ := rkind_at h1 h2
  clear hp
  have hll : l.length < 4611686018427387904 := by unfold pRoom pLen at hr; omega
  have hp : recPart l = pGet tyParts recordsT (pNat 3) := by unfold recPart; rw [hv]
  unfold DecodeRecord3_VC
  refine ⟨hl, bif_ok (fun h => ?_) fun hc => ?_⟩
  · obtain ⟨e1, e2⟩ := recO_cfg (b := l) h
    rw [e1, e2]
  · obtain ⟨n0, n255⟩ := cnt_ok hb
    have hR3 : rS3 l = (takeR (takeR (takeR l 1) 1) 3, takeE (takeR (takeR l 1) 1) (takeE (takeR l 1) 0 1) 3) := by unfold rS3; rw [hs]; rfl
    have hcnt : takeN (takeR (takeR (takeR l 1) 1) 3) 1 = rCnt l := by unfold rCnt; rw [hR3]
    have hbB : okB (rBase l).1 := okB_takeR (okB_takeR (okB_takeR (okB_takeR hb)))
    have hlB : (rBase l).1.length < 4611686018427387904 := len_takeR (len_takeR (len_takeR (len_takeR hll)))
    (repeat' (first | (with_reducible refine And.intro ?_ ?_) | fail))
    all_goals first
      | exact hr
      | exact h1
      | exact h2
      | (repeat' refine okB_takeR ?_
         exact hb)
      | (repeat' refine len_takeR ?_
         exact hll)
      | decide
      | (unfold pIn; decide)
      | skip
    · refine ⟨0, n0, fun i hi => absurd hi (Nat.not_lt_zero _), ?_⟩
      unfold rCells rBase
      rw [hR3, hs, hcnt]
      simp only [stepS, stK, siK, Int.natCast_zero, Int.sub_zero]
    · rintro y ⟨j, hj, ha, rfl⟩
      have fin : ∀ (h : (j : Int) = rCnt l ∨ (stK (rBase l) j).2 ≠ 0), _ := fun h => rec_end (c := (cn, cl, cp, ())) (b := l) hc hl (nle (show (siK (rBase l) j).length < 4611686018427387904 by rw [siK_len]; omega)) (sit_three hp hv hb hj ha h).1 (sit_three hp hv hb hj ha h).2
      dsimp only
      refine bif_ok (fun h => ?_) fun h => ?_
      · have hjn : (j : Int) < rCnt l := by have : rCnt l - (j : Int) > 0 := of_decide_eq_true h
                                            omega
        refine bif_ok (fun h => ?_) fun h => ?_
        · have hf : (stK (rBase l) j).2 = 0 := by simpa [pEq] using h
          refine ⟨by decide, okB_stK hbB j, len_stK hlB j, room8 (α := NumD) (by show (siK (rBase l) j).length < 1000000; rw [siK_len]; omega), ⟨j + 1, by omega, fun i hi => ?_, ?_⟩, Nat.le_of_eq ?_⟩
          · rcases Nat.lt_or_ge i j with h1 | h1
            · exact ha i h1
            · have : i = j := by omega
              subst this; exact hf
          · have e : pSubI .i64 (rCnt l - (j : Int)) 1 = rCnt l - ((j + 1 : Nat) : Int) := by rw [pSubI_in (by omega)]; omega
            rw [e]
            rfl
          · have e : pSubI .i64 (rCnt l - (j : Int)) 1 = rCnt l - ((j + 1 : Nat) : Int) := by rw [pSubI_in (by omega)]; omega
            unfold decSMu
            simp only
            rw [e]
            omega
        · exact fin (.inr (by simpa [pEq] using h))
      · exact fin (.inl (by have : ¬ rCnt l - (j : Int) > 0 := of_decide_eq_false h
                            omega))

theorem rkind6_4_ok : Meets Tryd.prog (fun _ => none) 55 crkind6_4 := meets_mono rkind_ok fun x hp => by
  have h1 : okB x.2.1.1 := (hp _ List.mem_cons_self)
  have h2 : pLen x.2.1.1 < 4611686018427387904 := (hp _ (List.mem_cons_of_mem _ List.mem_cons_self))
  have h3 : pEq x.1.2.1 6 = true := (hp _ (List.mem_cons_of_mem _ (List.mem_cons_of_mem _ List.mem_cons_self)))
  have h4 : kindE 6 x.2.1.1 x.2.1.2.1 = 0 := (hp _ (List.mem_cons_of_mem _ (List.mem_cons_of_mem _ (List.mem_cons_of_mem _ List.mem_cons_self))))
  have h5 : takeN x.2.1.1 1 = 4 := (hp _ (List.mem_cons_of_mem _ (List.mem_cons_of_mem _ (List.mem_cons_of_mem _ (List.mem_cons_of_mem _ List.mem_cons_self)))))
  have h6 : x.1.2.1 = 6 := by simpa [pEq] using h3
  refine ⟨fun p hq => ?_, ?_⟩
  · simp only [List.mem_cons, List.not_mem_nil, or_false] at hq
    rcases hq with rfl | rfl
    · exact h1
    · exact h2
  · show (cond (pEq (kindE x.1.2.1 x.2.1.1 x.2.1.2.1) 0) (takeN x.2.1.1 1) 0, (takeR x.2.1.1 1, kindE x.1.2.1 x.2.1.1 x.2.1.2.1, ()), ()) = _
    rw [h6, h4, h5]
    rfl
set_option maxHeartbeats 2000000 in
theorem DecodeRecord4_ok : Meets Tryd.prog tabsR 24 cDecodeRecord4 := DecodeRecord4_meets lCheck_ok.any cloneB_ok.any rkind6_4_ok.any rtake_ok.any rtxn_ok.any rbit_ok.any rend_ok.any CheckRecord_ok fun cn cl cp l hp => by
  have hl : cl.length < 4611686018427387904 := (hp _ List.mem_cons_self)
  have hb : okB l := (hp _ (List.mem_cons_of_mem _ List.mem_cons_self))
  have hr : pRoom (pLen l) 1 := (hp _ (List.mem_cons_of_mem _ (List.mem_cons_of_mem _ List.mem_cons_self)))
  have h1 : kindE 6 l 0 = 0 := (hp _ (List.mem_cons_of_mem _ (List.mem_cons_of_mem _ (List.mem_cons_of_mem _ List.mem_cons_self))))
  have h2 : takeN l 1 = 4 := (hp _ (List.mem_cons_of_mem _ (List.mem_cons_of_mem _ (List.mem_cons_of_mem _ (List.mem_cons_of_mem _ List.mem_cons_self)))))
  obtain ⟨hv, hs⟩ := rkind_at h1 h2
  clear hp
  have hll : l.length < 4611686018427387904 := by unfold pRoom pLen at hr; omega
  have hp : recPart l = pGet tyParts recordsT (pNat 4) := by unfold recPart; rw [hv]
  unfold DecodeRecord4_VC
  refine ⟨hl, bif_ok (fun h => ?_) fun hc => ?_⟩
  · obtain ⟨e1, e2⟩ := recO_cfg (b := l) h
    rw [e1, e2]
  · (repeat' (first | refine rec_end hc hl (nle (by decide)) ?_ ?_ | with_reducible refine And.intro ?_ ?_ | fail))
    all_goals first
      | exact hr
      | exact h1
      | exact h2
      | (repeat' refine okB_takeR ?_
         exact hb)
      | (repeat' refine len_takeR ?_
         exact hll)
      | decide
      | (unfold pIn; decide)
      | (rw [hp]; unfold rSit rS7 rS6 rS5 rS4 rS3; rw [hs]; rfl)
      | (rw [hp, hv]; unfold recRaw rSit rS7 rS6 rS5 rS4 rS3; rw [hs]; rfl)
      | skip

theorem rkind6_5_ok : Meets Tryd.prog (fun _ => none) 55 crkind6_5 := meets_mono rkind_ok fun x hp => by
  have h1 : okB x.2.1.1 := (hp _ List.mem_cons_self)
  have h2 : pLen x.2.1.1 < 4611686018427387904 := (hp _ (List.mem_cons_of_mem _ List.mem_cons_self))
  have h3 : pEq x.1.2.1 6 = true := (hp _ (List.mem_cons_of_mem _ (List.mem_cons_of_mem _ List.mem_cons_self)))
  have h4 : kindE 6 x.2.1.1 x.2.1.2.1 = 0 := (hp _ (List.mem_cons_of_mem _ (List.mem_cons_of_mem _ (List.mem_cons_of_mem _ List.mem_cons_self))))
  have h5 : takeN x.2.1.1 1 = 5 := (hp _ (List.mem_cons_of_mem _ (List.mem_cons_of_mem _ (List.mem_cons_of_mem _ (List.mem_cons_of_mem _ List.mem_cons_self)))))
  have h6 : x.1.2.1 = 6 := by simpa [pEq] using h3
  refine ⟨fun p hq => ?_, ?_⟩
  · simp only [List.mem_cons, List.not_mem_nil, or_false] at hq
    rcases hq with rfl | rfl
    · exact h1
    · exact h2
  · show (cond (pEq (kindE x.1.2.1 x.2.1.1 x.2.1.2.1) 0) (takeN x.2.1.1 1) 0, (takeR x.2.1.1 1, kindE x.1.2.1 x.2.1.1 x.2.1.2.1, ()), ()) = _
    rw [h6, h4, h5]
    rfl
set_option maxHeartbeats 2000000 in
theorem DecodeRecord5_ok : Meets Tryd.prog tabsR 24 cDecodeRecord5 := DecodeRecord5_meets lCheck_ok.any cloneB_ok.any rkind6_5_ok.any rtake_ok.any rtxn_ok.any rbit_ok.any rend_ok.any CheckRecord_ok fun cn cl cp l hp => by
  have hl : cl.length < 4611686018427387904 := (hp _ List.mem_cons_self)
  have hb : okB l := (hp _ (List.mem_cons_of_mem _ List.mem_cons_self))
  have hr : pRoom (pLen l) 1 := (hp _ (List.mem_cons_of_mem _ (List.mem_cons_of_mem _ List.mem_cons_self)))
  have h1 : kindE 6 l 0 = 0 := (hp _ (List.mem_cons_of_mem _ (List.mem_cons_of_mem _ (List.mem_cons_of_mem _ List.mem_cons_self))))
  have h2 : takeN l 1 = 5 := (hp _ (List.mem_cons_of_mem _ (List.mem_cons_of_mem _ (List.mem_cons_of_mem _ (List.mem_cons_of_mem _ List.mem_cons_self)))))
  obtain ⟨hv, hs⟩ := rkind_at h1 h2
  clear hp
  have hll : l.length < 4611686018427387904 := by unfold pRoom pLen at hr; omega
  have hp : recPart l = pGet tyParts recordsT (pNat 5) := by unfold recPart; rw [hv]
  unfold DecodeRecord5_VC
  refine ⟨hl, bif_ok (fun h => ?_) fun hc => ?_⟩
  · obtain ⟨e1, e2⟩ := recO_cfg (b := l) h
    rw [e1, e2]
  · (repeat' (first | refine rec_end hc hl (nle (by decide)) ?_ ?_ | with_reducible refine And.intro ?_ ?_ | fail))
    all_goals first
      | exact hr
      | exact h1
      | exact h2
      | (repeat' refine okB_takeR ?_
         exact hb)
      | (repeat' refine len_takeR ?_
         exact hll)
      | decide
      | (unfold pIn; decide)
      | (rw [hp]; unfold rSit rS7 rS6 rS5 rS4 rS3; rw [hs]; rfl)
      | (rw [hp, hv]; unfold recRaw rSit rS7 rS6 rS5 rS4 rS3; rw [hs]; rfl)
      | skip

theorem rkind6_6_ok : Meets Tryd.prog (fun _ => none) 55 crkind6_6 := meets_mono rkind_ok fun x hp => by
  have h1 : okB x.2.1.1 := (hp _ List.mem_cons_self)
  have h2 : pLen x.2.1.1 < 4611686018427387904 := (hp _ (List.mem_cons_of_mem _ List.mem_cons_self))
  have h3 : pEq x.1.2.1 6 = true := (hp _ (List.mem_cons_of_mem _ (List.mem_cons_of_mem _ List.mem_cons_self)))
  have h4 : kindE 6 x.2.1.1 x.2.1.2.1 = 0 := (hp _ (List.mem_cons_of_mem _ (List.mem_cons_of_mem _ (List.mem_cons_of_mem _ List.mem_cons_self))))
  have h5 : takeN x.2.1.1 1 = 6 := (hp _ (List.mem_cons_of_mem _ (List.mem_cons_of_mem _ (List.mem_cons_of_mem _ (List.mem_cons_of_mem _ List.mem_cons_self)))))
  have h6 : x.1.2.1 = 6 := by simpa [pEq] using h3
  refine ⟨fun p hq => ?_, ?_⟩
  · simp only [List.mem_cons, List.not_mem_nil, or_false] at hq
    rcases hq with rfl | rfl
    · exact h1
    · exact h2
  · show (cond (pEq (kindE x.1.2.1 x.2.1.1 x.2.1.2.1) 0) (takeN x.2.1.1 1) 0, (takeR x.2.1.1 1, kindE x.1.2.1 x.2.1.1 x.2.1.2.1, ()), ()) = _
    rw [h6, h4, h5]
    rfl
set_option maxHeartbeats 2000000 in
theorem DecodeRecord6_ok : Meets Tryd.prog tabsR 24 cDecodeRecord6 := DecodeRecord6_meets lCheck_ok.any cloneB_ok.any rkind6_6_ok.any rtake_ok.any rtxn_ok.any rbit_ok.any rend_ok.any CheckRecord_ok fun cn cl cp l hp => by
  have hl : cl.length < 4611686018427387904 := (hp _ List.mem_cons_self)
  have hb : okB l := (hp _ (List.mem_cons_of_mem _ List.mem_cons_self))
  have hr : pRoom (pLen l) 1 := (hp _ (List.mem_cons_of_mem _ (List.mem_cons_of_mem _ List.mem_cons_self)))
  have h1 : kindE 6 l 0 = 0 := (hp _ (List.mem_cons_of_mem _ (List.mem_cons_of_mem _ (List.mem_cons_of_mem _ List.mem_cons_self))))
  have h2 : takeN l 1 = 6 := (hp _ (List.mem_cons_of_mem _ (List.mem_cons_of_mem _ (List.mem_cons_of_mem _ (List.mem_cons_of_mem _ List.mem_cons_self)))))
  obtain ⟨hv, hs⟩ := rkind_at h1 h2
  clear hp
  have hll : l.length < 4611686018427387904 := by unfold pRoom pLen at hr; omega
  have hp : recPart l = pGet tyParts recordsT (pNat 6) := by unfold recPart; rw [hv]
  unfold DecodeRecord6_VC
  refine ⟨hl, bif_ok (fun h => ?_) fun hc => ?_⟩
  · obtain ⟨e1, e2⟩ := recO_cfg (b := l) h
    rw [e1, e2]
  · (repeat' (first | refine rec_end hc hl (nle (by decide)) ?_ ?_ | with_reducible refine And.intro ?_ ?_ | fail))
    all_goals first
      | exact hr
      | exact h1
      | exact h2
      | (repeat' refine okB_takeR ?_
         exact hb)
      | (repeat' refine len_takeR ?_
         exact hll)
      | decide
      | (unfold pIn; decide)
      | (rw [hp]; unfold rSit rS7 rS6 rS5 rS4 rS3; rw [hs]; rfl)
      | (rw [hp, hv]; unfold recRaw rSit rS7 rS6 rS5 rS4 rS3; rw [hs]; rfl)
      | skip

/-- what kinds there are -/
theorem kinds6 (b : List ByteD) : pEq (kindE 6 b 0) 0 = false ∨ kindE 6 b 0 = 0 ∧ ∃ k : Fin 6, takeN b 1 = (k : Nat) + 1 := by
  cases h : pEq (kindE 6 b 0) 0 with
  | false => exact .inl rfl
  | true =>
    refine .inr ⟨by simpa [pEq] using h, ?_⟩
    have h0 : kindE 6 b 0 = 0 := by simpa [pEq] using h
    have hin : inF (takeN b 1) 1 6 = true := by
      cases hi : inF (takeN b 1) 1 6 with
      | true => rfl
      | false =>
        unfold kindE at h0
        rw [hi] at h0
        cases ht : pEq (takeE b 0 1) 0 with
        | true => rw [ht] at h0; cases h0
        | false =>
          rw [ht] at h0
          have : takeE b 0 1 = 0 := h0
          rw [this] at ht; cases ht
    rw [inF_iff] at hin
    exact ⟨⟨(takeN b 1).toNat - 1, by omega⟩, by simp only; omega⟩

def preDR : Fin 7 → Shape.den ⟨[pCfg, .one (.rd (.sl tyB))], []⟩ → List Prop := fun i x =>
  [pLen x.1.1.2.1 < 4611686018427387904, okB x.1.2.1, pRoom (pLen x.1.2.1) 1] ++ (if i.val = 0 then [pEq (kindE 6 x.1.2.1 0) 0 = false] else [kindE 6 x.1.2.1 0 = 0, takeN x.1.2.1 1 = (i.val : Int)])
theorem DecodeRecord_ok : Meets Tryd.prog tabsR 24 cDecodeRecord := by
  refine meets_split preDR 0 (fun i => ?_) fun x hp => ?_
  · match i with
    | ⟨0, _⟩ => exact DecodeRecord0_ok
    | ⟨1, _⟩ => exact DecodeRecord1_ok
    | ⟨2, _⟩ => exact DecodeRecord2_ok
    | ⟨3, _⟩ => exact DecodeRecord3_ok
    | ⟨4, _⟩ => exact DecodeRecord4_ok
    | ⟨5, _⟩ => exact DecodeRecord5_ok
    | ⟨6, _⟩ => exact DecodeRecord6_ok
  · have h1 : pLen x.1.1.2.1 < 4611686018427387904 := (hp _ List.mem_cons_self)
    have h2 : okB x.1.2.1 := (hp _ (List.mem_cons_of_mem _ List.mem_cons_self))
    have h3 : pRoom (pLen x.1.2.1) 1 := (hp _ (List.mem_cons_of_mem _ (List.mem_cons_of_mem _ List.mem_cons_self)))
    rcases kinds6 x.1.2.1 with h | ⟨h, k, hk⟩
    · refine ⟨0, fun p hq => ?_⟩
      simp only [preDR, List.cons_append, List.nil_append, List.mem_cons, List.not_mem_nil, or_false, Fin.val_zero, if_true] at hq
      rcases hq with rfl | rfl | rfl | rfl
      · exact h1
      · exact h2
      · exact h3
      · exact h
    · refine ⟨⟨k.val + 1, by omega⟩, fun p hq => ?_⟩
      simp only [preDR, List.cons_append, List.nil_append, List.mem_cons, List.not_mem_nil, or_false, Nat.add_one_ne_zero, if_false] at hq
      rcases hq with rfl | rfl | rfl | rfl | rfl
      · exact h1
      · exact h2
      · exact h3
      · exact h
      · rw [hk]; rfl

end Go.Proofs.YtkimjjndbcbiaaaDoor
