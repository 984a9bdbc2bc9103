/- The document's reading of a record meets its contract, by kinds. No condition. -/
import Derived.Test.YtkimjjndbcbiaaaDoorWoV
import Derived.Test.YtkimjjndbcbiaaaDoorWoP
namespace Go.Proofs.YtkimjjndbcbiaaaDoor
open Go.RowKit

theorem ryOk_next {rs : List ByteD} {q : List ByteD} {fa k : Int} (hq : q <:+ rs) (h : eyOk rs (atF rs q) fa) (hk : 1 ≤ k) : eyOk rs (atF rs (takeR q k)) (takeE q fa k) := by
  have := eyOk_next h hk
  rw [drop_at hq] at this
  exact this
theorem ryOk_kind {rs : List ByteD} {k : Int} : eyOk rs (atF rs (takeR rs 1)) (kindE k rs 0) := by
  refine eyOk_at fun h5 => ?_
  unfold kindE at h5
  cases hb : (!(inF (takeN rs 1) 1 k) && pEq (takeE rs 0 1) 0) with
  | true => rw [hb] at h5; cases h5
  | false =>
    rw [hb] at h5
    exact takeE_five (by decide) (fun hf => by cases hf) h5
theorem ryOk_zero {rs : List ByteD} : eyOk rs 0 0 := ⟨Int.le_refl _, Int.natCast_nonneg _, fun h => by cases h⟩
theorem ryOk_no {rs q : List ByteD} : eyOk rs (atF rs q) 0 := eyOk_at fun h => by cases h
theorem rat_lt {rs q : List ByteD} (h : q <:+ rs) : pLt (atF rs q) (pInt (pLen rs)) = pGt (pInt q.length) 0 := by
  have hl := h.length_le
  unfold pLt pGt atF pInt pLen
  rw [Bool.eq_iff_iff]
  simp only [decide_eq_true_eq]
  omega
theorem rec_end2 {c : CfgD} {b : List ByteD} {R : List ByteD} {F : Int} {m : RecD} {P P2 : Prop} (hR : R <:+ b) (hc : pNe (cfgF c) 0 = false) (hP : P) (hP2 : P2) (hS : (rSit (recPart b) b).2 = (R, F)) (hm : recRaw (recPart b) (kindV 6 b) b = m) :
    bif pEq F 0 then (bif pLt (atF b R) (pInt (pLen b)) then (noRec, 4, ()) = (recO c b, recOE c b, ()) else (bif pEq F 0 then (P ∧ P2 ∧ bif pNe (recF c m) 0 then (noRec, recF c m, ()) = (recO c b, recOE c b, ()) else (m, 0, ()) = (recO c b, recOE c b, ())) else
      bif pNe F 0 then (noRec, F, ()) = (recO c b, recOE c b, ()) else (m, 0, ()) = (recO c b, recOE c b, ()))) else (bif pEq F 0 then (P ∧ P2 ∧ bif pNe (recF c m) 0 then (noRec, recF c m, ()) = (recO c b, recOE c b, ()) else (m, 0, ()) = (recO c b, recOE c b, ())) else
      bif pNe F 0 then (noRec, F, ()) = (recO c b, recOE c b, ()) else (m, 0, ()) = (recO c b, recOE c b, ())) := by
  have hk := rec_end hc hP hP2 hS hm
  rw [rat_lt hR]
  unfold endE at hk
  cases hF : pEq F 0 with
  | false =>
    rw [hF, Bool.false_and, cond_false, hF] at hk
    exact hk
  | true =>
    rw [hF, Bool.true_and] at hk
    cases hg : pGt (pInt R.length) 0 with
    | true => rw [hg] at hk; exact hk
    | false => rw [hg, cond_false, hF] at hk; exact hk
theorem suf_stK {rs : List ByteD} {s : RdS} (h : s.1 <:+ rs) : ∀ j, (stK s j).1 <:+ rs
  | 0 => h
  | j + 1 => takeR_suf 1 (suf_stK h j)
theorem ryOk_stK {rs : List ByteD} {s : RdS} (h : s.1 <:+ rs) (hy : eyOk rs (atF rs s.1) s.2) : ∀ j, eyOk rs (atF rs (stK s j).1) (stK s j).2
  | 0 => hy
  | j + 1 => ryOk_next (suf_stK h j) (ryOk_stK h hy j) (by decide)

theorem yfirst6_0_ok : Meets Tryd.prog (fun _ => none) 60 cyfirst6_0 := meets_mono yfirst_ok fun x hp => by
  have h1 : okB x.2.1.1 := (hp _ List.mem_cons_self)
  have h2 : pLen x.2.1.1 < 4611686018427387904 := (hp _ (List.mem_cons_of_mem _ List.mem_cons_self))
  have h0 : eyOk x.2.1.1 x.2.1.2.1 x.2.1.2.2.1 := (hp _ (List.mem_cons_of_mem _ (List.mem_cons_of_mem _ List.mem_cons_self)))
  have h3 : pEq x.1.2.1 6 = true := (hp _ (List.mem_cons_of_mem _ (List.mem_cons_of_mem _ (List.mem_cons_of_mem _ List.mem_cons_self))))
  have h4 : pEq (kindE 6 (dropF x.2.1.1 x.2.1.2.1) x.2.1.2.2.1) 0 = false := (hp _ (List.mem_cons_of_mem _ (List.mem_cons_of_mem _ (List.mem_cons_of_mem _ (List.mem_cons_of_mem _ List.mem_cons_self)))))
  have h6 : x.1.2.1 = 6 := by simpa [pEq] using h3
  refine ⟨fun p hq => ?_, ?_⟩
  · simp only [List.mem_cons, List.not_mem_nil, or_false] at hq
    rcases hq with rfl | rfl | rfl
    · exact h1
    · exact h2
    · exact h0
  · show (cond (pEq (kindE x.1.2.1 (dropF x.2.1.1 x.2.1.2.1) x.2.1.2.2.1) 0) (takeN (dropF x.2.1.1 x.2.1.2.1) 1) 0, (x.2.1.1, atF x.2.1.1 (takeR (dropF x.2.1.1 x.2.1.2.1) 1), kindE x.1.2.1 (dropF x.2.1.1 x.2.1.2.1) x.2.1.2.2.1, ()), ()) = _
    rw [h6, h4]
    rfl
set_option maxHeartbeats 4000000 in
theorem RecordOf0_ok : Meets Tryd.prog (fun _ => none) 26 cRecordOf0 := RecordOf0_meets cFault_ok yfirst6_0_ok ynum_ok ywho_ok yyes_ok RecordFault_ok fun cn cl cp l hp => by
  have hl : cl.length < 4611686018427387904 := (hp _ List.mem_cons_self)
  have hb : okB l := (hp _ (List.mem_cons_of_mem _ List.mem_cons_self))
  have hll : l.length < 4611686018427387904 := (hp _ (List.mem_cons_of_mem _ (List.mem_cons_of_mem _ List.mem_cons_self)))
  have h1 : pEq (kindE 6 l 0) 0 = false := (hp _ (List.mem_cons_of_mem _ (List.mem_cons_of_mem _ (List.mem_cons_of_mem _ List.mem_cons_self))))
  have hv := rkind_no h1
  have hs : kindS 6 l = (takeR l 1, kindE 6 l 0) := rfl
  have hz : eyOk l (atF l (takeR l 1)) (kindE 6 l 0) := ryOk_kind
  clear hp
  have hp : recPart l = pGet tyParts recordsT (pNat 0) := by unfold recPart; rw [hv]
  have D0 : dropF l (atF l (takeR l 1)) = (takeR l 1) := drop_at (takeR_suf _ (List.suffix_refl _))
  have D1 : dropF l (atF l (takeR (takeR l 1) 1)) = (takeR (takeR l 1) 1) := drop_at (takeR_suf _ (takeR_suf _ (List.suffix_refl _)))
  have D2 : dropF l (atF l (takeR (takeR (takeR l 1) 1) 3)) = (takeR (takeR (takeR l 1) 1) 3) := drop_at (takeR_suf _ (takeR_suf _ (takeR_suf _ (List.suffix_refl _))))
  have s1 : stepS (kindS 6 l) 1 = ((takeR (takeR l 1) 1), (takeE (takeR l 1) (kindE 6 l 0) 1)) := by rw [hs]; rfl
  have s2 : stepS (stepS (kindS 6 l) 1) 3 = ((takeR (takeR (takeR l 1) 1) 3), (takeE (takeR (takeR l 1) 1) (takeE (takeR l 1) (kindE 6 l 0) 1) 3)) := by rw [s1]; rfl
  have e3 : rS3 l = ((takeR (takeR (takeR l 1) 1) 3), (takeE (takeR (takeR l 1) 1) (takeE (takeR l 1) (kindE 6 l 0) 1) 3)) := s2
  have e4 : rS4 (pGet tyParts recordsT (pNat 0)) l = ((takeR (takeR (takeR l 1) 1) 3), (takeE (takeR (takeR l 1) 1) (takeE (takeR l 1) (kindE 6 l 0) 1) 3)) := by unfold rS4; rw [e3]; rfl
  have e5 : rS5 (pGet tyParts recordsT (pNat 0)) l = ((takeR (takeR (takeR l 1) 1) 3), (takeE (takeR (takeR l 1) 1) (takeE (takeR l 1) (kindE 6 l 0) 1) 3)) := by unfold rS5; rw [e4]; rfl
  have e6 : rS6 (pGet tyParts recordsT (pNat 0)) l = ((takeR (takeR (takeR l 1) 1) 3), (takeE (takeR (takeR l 1) 1) (takeE (takeR l 1) (kindE 6 l 0) 1) 3)) := by unfold rS6; rw [e5]; rfl
  have e7 : rS7 (pGet tyParts recordsT (pNat 0)) l = ((takeR (takeR (takeR l 1) 1) 3), (takeE (takeR (takeR l 1) 1) (takeE (takeR l 1) (kindE 6 l 0) 1) 3)) := by unfold rS7; rw [e6]; rfl
  have e8 : rSit (pGet tyParts recordsT (pNat 0)) l = ([], ((takeR (takeR (takeR l 1) 1) 3), (takeE (takeR (takeR l 1) 1) (takeE (takeR l 1) (kindE 6 l 0) 1) 3))) := by unfold rSit; rw [e7]; rfl
  unfold RecordOf0_VC
  simp only [drop_zero, D0, D1, D2]
  refine ⟨hl, bif_ok (fun h => ?_) fun hc => ?_⟩
  · obtain ⟨e1, e2⟩ := recO_cfg (b := l) h
    rw [e1, e2]
  · (repeat' (first | refine rec_end2 ?_ hc hl (nle (by decide)) ?_ ?_ | with_reducible refine And.intro ?_ ?_ | fail))
    all_goals first
      | exact hb
      | exact hll
      | exact h1
      | exact ryOk_zero
      | (repeat' (first | exact hz | refine ryOk_next ?_ ?_ (by decide) | exact List.suffix_refl _ | refine takeR_suf _ ?_)
         done)
      | (repeat' (first | exact List.suffix_refl _ | refine takeR_suf _ ?_)
         done)
      | decide
      | (rw [hp]; exact congrArg Prod.snd e8)
      | (rw [hp, hv]; unfold recRaw; rw [s1, hs, e3, e4, e5, e6, e8]; rfl)
      | skip

theorem yfirst6_1_ok : Meets Tryd.prog (fun _ => none) 60 cyfirst6_1 := meets_mono yfirst_ok fun x hp => by
  have h1 : okB x.2.1.1 := (hp _ List.mem_cons_self)
  have h2 : pLen x.2.1.1 < 4611686018427387904 := (hp _ (List.mem_cons_of_mem _ List.mem_cons_self))
  have h0 : eyOk x.2.1.1 x.2.1.2.1 x.2.1.2.2.1 := (hp _ (List.mem_cons_of_mem _ (List.mem_cons_of_mem _ List.mem_cons_self)))
  have h3 : pEq x.1.2.1 6 = true := (hp _ (List.mem_cons_of_mem _ (List.mem_cons_of_mem _ (List.mem_cons_of_mem _ List.mem_cons_self))))
  have h4 : kindE 6 (dropF x.2.1.1 x.2.1.2.1) x.2.1.2.2.1 = 0 := (hp _ (List.mem_cons_of_mem _ (List.mem_cons_of_mem _ (List.mem_cons_of_mem _ (List.mem_cons_of_mem _ List.mem_cons_self)))))
  have h5 : takeN (dropF x.2.1.1 x.2.1.2.1) 1 = 1 := (hp _ (List.mem_cons_of_mem _ (List.mem_cons_of_mem _ (List.mem_cons_of_mem _ (List.mem_cons_of_mem _ (List.mem_cons_of_mem _ List.mem_cons_self))))))
  have h6 : x.1.2.1 = 6 := by simpa [pEq] using h3
  refine ⟨fun p hq => ?_, ?_⟩
  · simp only [List.mem_cons, List.not_mem_nil, or_false] at hq
    rcases hq with rfl | rfl | rfl
    · exact h1
    · exact h2
    · exact h0
  · show (cond (pEq (kindE x.1.2.1 (dropF x.2.1.1 x.2.1.2.1) x.2.1.2.2.1) 0) (takeN (dropF x.2.1.1 x.2.1.2.1) 1) 0, (x.2.1.1, atF x.2.1.1 (takeR (dropF x.2.1.1 x.2.1.2.1) 1), kindE x.1.2.1 (dropF x.2.1.1 x.2.1.2.1) x.2.1.2.2.1, ()), ()) = _
    rw [h6, h4, h5]
    rfl
set_option maxHeartbeats 4000000 in
theorem RecordOf1_ok : Meets Tryd.prog (fun _ => none) 26 cRecordOf1 := RecordOf1_meets cFault_ok yfirst6_1_ok ynum_ok ywho_ok yyes_ok RecordFault_ok fun cn cl cp l hp => by
  have hl : cl.length < 4611686018427387904 := (hp _ List.mem_cons_self)
  have hb : okB l := (hp _ (List.mem_cons_of_mem _ List.mem_cons_self))
  have hll : l.length < 4611686018427387904 := (hp _ (List.mem_cons_of_mem _ (List.mem_cons_of_mem _ List.mem_cons_self)))
  have h1 : kindE 6 l 0 = 0 := (hp _ (List.mem_cons_of_mem _ (List.mem_cons_of_mem _ (List.mem_cons_of_mem _ List.mem_cons_self))))
  have h2 : takeN l 1 = 1 := (hp _ (List.mem_cons_of_mem _ (List.mem_cons_of_mem _ (List.mem_cons_of_mem _ (List.mem_cons_of_mem _ List.mem_cons_self)))))
  obtain ⟨hv, hs⟩ := rkind_at h1 h2
  have hz : eyOk l (atF l (takeR l 1)) 0 := ryOk_no
  clear hp
  have hp : recPart l = pGet tyParts recordsT (pNat 1) := by unfold recPart; rw [hv]
  have D0 : dropF l (atF l (takeR l 1)) = (takeR l 1) := drop_at (takeR_suf _ (List.suffix_refl _))
  have D1 : dropF l (atF l (takeR (takeR l 1) 1)) = (takeR (takeR l 1) 1) := drop_at (takeR_suf _ (takeR_suf _ (List.suffix_refl _)))
  have D2 : dropF l (atF l (takeR (takeR (takeR l 1) 1) 3)) = (takeR (takeR (takeR l 1) 1) 3) := drop_at (takeR_suf _ (takeR_suf _ (takeR_suf _ (List.suffix_refl _))))
  have D3 : dropF l (atF l (takeR (takeR (takeR (takeR l 1) 1) 3) 1)) = (takeR (takeR (takeR (takeR l 1) 1) 3) 1) := drop_at (takeR_suf _ (takeR_suf _ (takeR_suf _ (takeR_suf _ (List.suffix_refl _)))))
  have D4 : dropF l (atF l (takeR (takeR (takeR (takeR (takeR l 1) 1) 3) 1) 4)) = (takeR (takeR (takeR (takeR (takeR l 1) 1) 3) 1) 4) := drop_at (takeR_suf _ (takeR_suf _ (takeR_suf _ (takeR_suf _ (takeR_suf _ (List.suffix_refl _))))))
  have D5 : dropF l (atF l (takeR (takeR (takeR (takeR (takeR (takeR l 1) 1) 3) 1) 4) 3)) = (takeR (takeR (takeR (takeR (takeR (takeR l 1) 1) 3) 1) 4) 3) := drop_at (takeR_suf _ (takeR_suf _ (takeR_suf _ (takeR_suf _ (takeR_suf _ (takeR_suf _ (List.suffix_refl _)))))))
  have s1 : stepS (kindS 6 l) 1 = ((takeR (takeR l 1) 1), (takeE (takeR l 1) 0 1)) := by rw [hs]; rfl
  have s2 : stepS (stepS (kindS 6 l) 1) 3 = ((takeR (takeR (takeR l 1) 1) 3), (takeE (takeR (takeR l 1) 1) (takeE (takeR l 1) 0 1) 3)) := by rw [s1]; rfl
  have e3 : rS3 l = ((takeR (takeR (takeR l 1) 1) 3), (takeE (takeR (takeR l 1) 1) (takeE (takeR l 1) 0 1) 3)) := s2
  have e4 : rS4 (pGet tyParts recordsT (pNat 1)) l = ((takeR (takeR (takeR (takeR l 1) 1) 3) 1), (takeE (takeR (takeR (takeR l 1) 1) 3) (takeE (takeR (takeR l 1) 1) (takeE (takeR l 1) 0 1) 3) 1)) := by unfold rS4; rw [e3]; rfl
  have e5 : rS5 (pGet tyParts recordsT (pNat 1)) l = ((takeR (takeR (takeR (takeR (takeR l 1) 1) 3) 1) 4), (takeE (takeR (takeR (takeR (takeR l 1) 1) 3) 1) (takeE (takeR (takeR (takeR l 1) 1) 3) (takeE (takeR (takeR l 1) 1) (takeE (takeR l 1) 0 1) 3) 1) 4)) := by unfold rS5; rw [e4]; rfl
  have e6 : rS6 (pGet tyParts recordsT (pNat 1)) l = ((takeR (takeR (takeR (takeR (takeR (takeR l 1) 1) 3) 1) 4) 3), (takeE (takeR (takeR (takeR (takeR (takeR l 1) 1) 3) 1) 4) (takeE (takeR (takeR (takeR (takeR l 1) 1) 3) 1) (takeE (takeR (takeR (takeR l 1) 1) 3) (takeE (takeR (takeR l 1) 1) (takeE (takeR l 1) 0 1) 3) 1) 4) 3)) := by unfold rS6; rw [e5]; rfl
  have e7 : rS7 (pGet tyParts recordsT (pNat 1)) l = ((takeR (takeR (takeR (takeR (takeR (takeR l 1) 1) 3) 1) 4) 3), (takeE (takeR (takeR (takeR (takeR (takeR l 1) 1) 3) 1) 4) (takeE (takeR (takeR (takeR (takeR l 1) 1) 3) 1) (takeE (takeR (takeR (takeR l 1) 1) 3) (takeE (takeR (takeR l 1) 1) (takeE (takeR l 1) 0 1) 3) 1) 4) 3)) := by unfold rS7; rw [e6]; rfl
  have e8 : rSit (pGet tyParts recordsT (pNat 1)) l = ([], ((takeR (takeR (takeR (takeR (takeR (takeR l 1) 1) 3) 1) 4) 3), (takeE (takeR (takeR (takeR (takeR (takeR l 1) 1) 3) 1) 4) (takeE (takeR (takeR (takeR (takeR l 1) 1) 3) 1) (takeE (takeR (takeR (takeR l 1) 1) 3) (takeE (takeR (takeR l 1) 1) (takeE (takeR l 1) 0 1) 3) 1) 4) 3))) := by unfold rSit; rw [e7]; rfl
  unfold RecordOf1_VC
  simp only [drop_zero, D0, D1, D2, D3, D4, D5]
  refine ⟨hl, bif_ok (fun h => ?_) fun hc => ?_⟩
  · obtain ⟨e1, e2⟩ := recO_cfg (b := l) h
    rw [e1, e2]
  · (repeat' (first | refine rec_end2 ?_ hc hl (nle (by decide)) ?_ ?_ | with_reducible refine And.intro ?_ ?_ | fail))
    all_goals first
      | exact hb
      | exact hll
      | exact h1
      | exact h2
      | exact ryOk_zero
      | (repeat' (first | exact hz | refine ryOk_next ?_ ?_ (by decide) | exact List.suffix_refl _ | refine takeR_suf _ ?_)
         done)
      | (repeat' (first | exact List.suffix_refl _ | refine takeR_suf _ ?_)
         done)
      | decide
      | (rw [hp]; exact congrArg Prod.snd e8)
      | (rw [hp, hv]; unfold recRaw; rw [s1, hs, e3, e4, e5, e6, e8]; rfl)
      | skip

theorem yfirst6_2_ok : Meets Tryd.prog (fun _ => none) 60 cyfirst6_2 := meets_mono yfirst_ok fun x hp => by
  have h1 : okB x.2.1.1 := (hp _ List.mem_cons_self)
  have h2 : pLen x.2.1.1 < 4611686018427387904 := (hp _ (List.mem_cons_of_mem _ List.mem_cons_self))
  have h0 : eyOk x.2.1.1 x.2.1.2.1 x.2.1.2.2.1 := (hp _ (List.mem_cons_of_mem _ (List.mem_cons_of_mem _ List.mem_cons_self)))
  have h3 : pEq x.1.2.1 6 = true := (hp _ (List.mem_cons_of_mem _ (List.mem_cons_of_mem _ (List.mem_cons_of_mem _ List.mem_cons_self))))
  have h4 : kindE 6 (dropF x.2.1.1 x.2.1.2.1) x.2.1.2.2.1 = 0 := (hp _ (List.mem_cons_of_mem _ (List.mem_cons_of_mem _ (List.mem_cons_of_mem _ (List.mem_cons_of_mem _ List.mem_cons_self)))))
  have h5 : takeN (dropF x.2.1.1 x.2.1.2.1) 1 = 2 := (hp _ (List.mem_cons_of_mem _ (List.mem_cons_of_mem _ (List.mem_cons_of_mem _ (List.mem_cons_of_mem _ (List.mem_cons_of_mem _ List.mem_cons_self))))))
  have h6 : x.1.2.1 = 6 := by simpa [pEq] using h3
  refine ⟨fun p hq => ?_, ?_⟩
  · simp only [List.mem_cons, List.not_mem_nil, or_false] at hq
    rcases hq with rfl | rfl | rfl
    · exact h1
    · exact h2
    · exact h0
  · show (cond (pEq (kindE x.1.2.1 (dropF x.2.1.1 x.2.1.2.1) x.2.1.2.2.1) 0) (takeN (dropF x.2.1.1 x.2.1.2.1) 1) 0, (x.2.1.1, atF x.2.1.1 (takeR (dropF x.2.1.1 x.2.1.2.1) 1), kindE x.1.2.1 (dropF x.2.1.1 x.2.1.2.1) x.2.1.2.2.1, ()), ()) = _
    rw [h6, h4, h5]
    rfl
set_option maxHeartbeats 4000000 in
theorem RecordOf2_ok : Meets Tryd.prog (fun _ => none) 26 cRecordOf2 := RecordOf2_meets cFault_ok yfirst6_2_ok ynum_ok ywho_ok yyes_ok RecordFault_ok fun cn cl cp l hp => by
  have hl : cl.length < 4611686018427387904 := (hp _ List.mem_cons_self)
  have hb : okB l := (hp _ (List.mem_cons_of_mem _ List.mem_cons_self))
  have hll : l.length < 4611686018427387904 := (hp _ (List.mem_cons_of_mem _ (List.mem_cons_of_mem _ List.mem_cons_self)))
  have h1 : kindE 6 l 0 = 0 := (hp _ (List.mem_cons_of_mem _ (List.mem_cons_of_mem _ (List.mem_cons_of_mem _ List.mem_cons_self))))
  have h2 : takeN l 1 = 2 := (hp _ (List.mem_cons_of_mem _ (List.mem_cons_of_mem _ (List.mem_cons_of_mem _ (List.mem_cons_of_mem _ List.mem_cons_self)))))
  obtain ⟨hv, hs⟩ := rkind_at h1 h2
  have hz : eyOk l (atF l (takeR l 1)) 0 := ryOk_no
  clear hp
  have hp : recPart l = pGet tyParts recordsT (pNat 2) := by unfold recPart; rw [hv]
  have D0 : dropF l (atF l (takeR l 1)) = (takeR l 1) := drop_at (takeR_suf _ (List.suffix_refl _))
  have D1 : dropF l (atF l (takeR (takeR l 1) 1)) = (takeR (takeR l 1) 1) := drop_at (takeR_suf _ (takeR_suf _ (List.suffix_refl _)))
  have D2 : dropF l (atF l (takeR (takeR (takeR l 1) 1) 3)) = (takeR (takeR (takeR l 1) 1) 3) := drop_at (takeR_suf _ (takeR_suf _ (takeR_suf _ (List.suffix_refl _))))
  have D3 : dropF l (atF l (takeR (takeR (takeR (takeR l 1) 1) 3) 1)) = (takeR (takeR (takeR (takeR l 1) 1) 3) 1) := drop_at (takeR_suf _ (takeR_suf _ (takeR_suf _ (takeR_suf _ (List.suffix_refl _)))))
  have s1 : stepS (kindS 6 l) 1 = ((takeR (takeR l 1) 1), (takeE (takeR l 1) 0 1)) := by rw [hs]; rfl
  have s2 : stepS (stepS (kindS 6 l) 1) 3 = ((takeR (takeR (takeR l 1) 1) 3), (takeE (takeR (takeR l 1) 1) (takeE (takeR l 1) 0 1) 3)) := by rw [s1]; rfl
  have e3 : rS3 l = ((takeR (takeR (takeR l 1) 1) 3), (takeE (takeR (takeR l 1) 1) (takeE (takeR l 1) 0 1) 3)) := s2
  have e4 : rS4 (pGet tyParts recordsT (pNat 2)) l = ((takeR (takeR (takeR l 1) 1) 3), (takeE (takeR (takeR l 1) 1) (takeE (takeR l 1) 0 1) 3)) := by unfold rS4; rw [e3]; rfl
  have e5 : rS5 (pGet tyParts recordsT (pNat 2)) l = ((takeR (takeR (takeR l 1) 1) 3), (takeE (takeR (takeR l 1) 1) (takeE (takeR l 1) 0 1) 3)) := by unfold rS5; rw [e4]; rfl
  have e6 : rS6 (pGet tyParts recordsT (pNat 2)) l = ((takeR (takeR (takeR l 1) 1) 3), (takeE (takeR (takeR l 1) 1) (takeE (takeR l 1) 0 1) 3)) := by unfold rS6; rw [e5]; rfl
  have e7 : rS7 (pGet tyParts recordsT (pNat 2)) l = ((takeR (takeR (takeR (takeR l 1) 1) 3) 1), (bitE (takeR (takeR (takeR l 1) 1) 3) (takeE (takeR (takeR l 1) 1) (takeE (takeR l 1) 0 1) 3))) := by unfold rS7; rw [e6]; rfl
  have e8 : rSit (pGet tyParts recordsT (pNat 2)) l = ([], ((takeR (takeR (takeR (takeR l 1) 1) 3) 1), (bitE (takeR (takeR (takeR l 1) 1) 3) (takeE (takeR (takeR l 1) 1) (takeE (takeR l 1) 0 1) 3)))) := by unfold rSit; rw [e7]; rfl
  unfold RecordOf2_VC
  simp only [drop_zero, D0, D1, D2, D3]
  refine ⟨hl, bif_ok (fun h => ?_) fun hc => ?_⟩
  · obtain ⟨e1, e2⟩ := recO_cfg (b := l) h
    rw [e1, e2]
  · (repeat' (first | refine rec_end2 ?_ hc hl (nle (by decide)) ?_ ?_ | with_reducible refine And.intro ?_ ?_ | fail))
    all_goals first
      | exact hb
      | exact hll
      | exact h1
      | exact h2
      | exact ryOk_zero
      | (repeat' (first | exact hz | refine ryOk_next ?_ ?_ (by decide) | exact List.suffix_refl _ | refine takeR_suf _ ?_)
         done)
      | (repeat' (first | exact List.suffix_refl _ | refine takeR_suf _ ?_)
         done)
      | decide
      | (rw [hp]; exact congrArg Prod.snd e8)
      | (rw [hp, hv]; unfold recRaw; rw [s1, hs, e3, e4, e5, e6, e8]; rfl)
      | skip

theorem yfirst6_3_ok : Meets Tryd.prog (fun _ => none) 60 cyfirst6_3 := meets_mono yfirst_ok fun x hp => by
  have h1 : okB x.2.1.1 := (hp _ List.mem_cons_self)
  have h2 : pLen x.2.1.1 < 4611686018427387904 := (hp _ (List.mem_cons_of_mem _ List.mem_cons_self))
  have h0 : eyOk x.2.1.1 x.2.1.2.1 x.2.1.2.2.1 := (hp _ (List.mem_cons_of_mem _ (List.mem_cons_of_mem _ List.mem_cons_self)))
  have h3 : pEq x.1.2.1 6 = true := (hp _ (List.mem_cons_of_mem _ (List.mem_cons_of_mem _ (List.mem_cons_of_mem _ List.mem_cons_self))))
  have h4 : kindE 6 (dropF x.2.1.1 x.2.1.2.1) x.2.1.2.2.1 = 0 := (hp _ (List.mem_cons_of_mem _ (List.mem_cons_of_mem _ (List.mem_cons_of_mem _ (List.mem_cons_of_mem _ List.mem_cons_self)))))
  have h5 : takeN (dropF x.2.1.1 x.2.1.2.1) 1 = 3 := (hp _ (List.mem_cons_of_mem _ (List.mem_cons_of_mem _ (List.mem_cons_of_mem _ (List.mem_cons_of_mem _ (List.mem_cons_of_mem _ List.mem_cons_self))))))
  have h6 : x.1.2.1 = 6 := by simpa [pEq] using h3
  refine ⟨fun p hq => ?_, ?_⟩
  · simp only [List.mem_cons, List.not_mem_nil, or_false] at hq
    rcases hq with rfl | rfl | rfl
    · exact h1
    · exact h2
    · exact h0
  · show (cond (pEq (kindE x.1.2.1 (dropF x.2.1.1 x.2.1.2.1) x.2.1.2.2.1) 0) (takeN (dropF x.2.1.1 x.2.1.2.1) 1) 0, (x.2.1.1, atF x.2.1.1 (takeR (dropF x.2.1.1 x.2.1.2.1) 1), kindE x.1.2.1 (dropF x.2.1.1 x.2.1.2.1) x.2.1.2.2.1, ()), ()) = _
    rw [h6, h4, h5]
    rfl
set_option maxHeartbeats 4000000 in
theorem RecordOf3_ok : Meets Tryd.prog (fun _ => none) 26 cRecordOf3 := RecordOf3_meets cFault_ok yfirst6_3_ok ynum_ok ywho_ok yyes_ok RecordFault_ok fun cn cl cp l hp => by
  have hl : cl.length < 4611686018427387904 := (hp _ List.mem_cons_self)
  have hb : okB l := (hp _ (List.mem_cons_of_mem _ List.mem_cons_self))
  have hll : l.length < 4611686018427387904 := (hp _ (List.mem_cons_of_mem _ (List.mem_cons_of_mem _ List.mem_cons_self)))
  have h1 : kindE 6 l 0 = 0 := (hp _ (List.mem_cons_of_mem _ (List.mem_cons_of_mem _ (List.mem_cons_of_mem _ List.mem_cons_self))))
  have h2 : takeN l 1 = 3 := (hp _ (List.mem_cons_of_mem _ (List.mem_cons_of_mem _ (List.mem_cons_of_mem _ (List.mem_cons_of_mem _ List.mem_cons_self)))))
  obtain ⟨hv, hs⟩ := rkind_at h1 h2
  have hz : eyOk l (atF l (takeR l 1)) 0 := ryOk_no
  clear hp
  have hp : recPart l = pGet tyParts recordsT (pNat 3) := by unfold recPart; rw [hv]
  have D0 : dropF l (atF l (takeR l 1)) = (takeR l 1) := drop_at (takeR_suf _ (List.suffix_refl _))
  have D1 : dropF l (atF l (takeR (takeR l 1) 1)) = (takeR (takeR l 1) 1) := drop_at (takeR_suf _ (takeR_suf _ (List.suffix_refl _)))
  have D2 : dropF l (atF l (takeR (takeR (takeR l 1) 1) 3)) = (takeR (takeR (takeR l 1) 1) 3) := drop_at (takeR_suf _ (takeR_suf _ (takeR_suf _ (List.suffix_refl _))))
  have D3 : dropF l (atF l (takeR (takeR (takeR (takeR l 1) 1) 3) 1)) = (takeR (takeR (takeR (takeR l 1) 1) 3) 1) := drop_at (takeR_suf _ (takeR_suf _ (takeR_suf _ (takeR_suf _ (List.suffix_refl _)))))
  have s1 : stepS (kindS 6 l) 1 = ((takeR (takeR l 1) 1), (takeE (takeR l 1) 0 1)) := by rw [hs]; rfl
  have s2 : stepS (stepS (kindS 6 l) 1) 3 = ((takeR (takeR (takeR l 1) 1) 3), (takeE (takeR (takeR l 1) 1) (takeE (takeR l 1) 0 1) 3)) := by rw [s1]; rfl
  have e3 : rS3 l = ((takeR (takeR (takeR l 1) 1) 3), (takeE (takeR (takeR l 1) 1) (takeE (takeR l 1) 0 1) 3)) := s2
  have e4 : rS4 (pGet tyParts recordsT (pNat 3)) l = ((takeR (takeR (takeR l 1) 1) 3), (takeE (takeR (takeR l 1) 1) (takeE (takeR l 1) 0 1) 3)) := by unfold rS4; rw [e3]; rfl
  have e5 : rS5 (pGet tyParts recordsT (pNat 3)) l = ((takeR (takeR (takeR l 1) 1) 3), (takeE (takeR (takeR l 1) 1) (takeE (takeR l 1) 0 1) 3)) := by unfold rS5; rw [e4]; rfl
  have e6 : rS6 (pGet tyParts recordsT (pNat 3)) l = ((takeR (takeR (takeR l 1) 1) 3), (takeE (takeR (takeR l 1) 1) (takeE (takeR l 1) 0 1) 3)) := by unfold rS6; rw [e5]; rfl
  have e7 : rS7 (pGet tyParts recordsT (pNat 3)) l = ((takeR (takeR (takeR l 1) 1) 3), (takeE (takeR (takeR l 1) 1) (takeE (takeR l 1) 0 1) 3)) := by unfold rS7; rw [e6]; rfl
  unfold RecordOf3_VC
  simp only [drop_zero, D0, D1, D2, D3]
  refine ⟨hl, bif_ok (fun h => ?_) fun hc => ?_⟩
  · obtain ⟨e1, e2⟩ := recO_cfg (b := l) h
    rw [e1, e2]
  · obtain ⟨n0, n255⟩ := cnt_ok hb
    have hcnt : takeN (takeR (takeR (takeR l 1) 1) 3) 1 = rCnt l := by unfold rCnt; rw [e3]
    have hB : rBase l = (takeR (takeR (takeR (takeR l 1) 1) 3) 1, takeE (takeR (takeR (takeR l 1) 1) 3) (takeE (takeR (takeR l 1) 1) (takeE (takeR l 1) 0 1) 3) 1) := by unfold rBase; rw [e3]; rfl
    have sB : (rBase l).1 <:+ l := by rw [hB]; exact takeR_suf _ (takeR_suf _ (takeR_suf _ (takeR_suf _ (List.suffix_refl _))))
    have yB : eyOk l (atF l (rBase l).1) (rBase l).2 := by
      rw [hB]
      exact ryOk_next (takeR_suf _ (takeR_suf _ (takeR_suf _ (List.suffix_refl _)))) (ryOk_next (takeR_suf _ (takeR_suf _ (List.suffix_refl _))) (ryOk_next (takeR_suf _ (List.suffix_refl _)) hz (by decide)) (by decide)) (by decide)
    (repeat' (first | (with_reducible refine And.intro ?_ ?_) | fail))
    all_goals first
      | exact hb
      | exact hll
      | exact h1
      | exact h2
      | exact ryOk_zero
      | (repeat' (first | exact hz | refine ryOk_next ?_ ?_ (by decide) | exact List.suffix_refl _ | refine takeR_suf _ ?_)
         done)
      | (repeat' (first | exact List.suffix_refl _ | refine takeR_suf _ ?_)
         done)
      | decide
      | skip
    · refine ⟨0, n0, fun i hi => absurd hi (Nat.not_lt_zero _), ?_⟩
      unfold rCells
      rw [s1, hs]
      simp only [stK, siK, Int.natCast_zero, hB]
    · rintro y ⟨j, hj, ha, rfl⟩
      have fin : ∀ (h : (j : Int) = rCnt l ∨ (stK (rBase l) j).2 ≠ 0), _ := fun h => rec_end2 (c := (cn, cl, cp, ())) (b := l) (suf_stK sB j) hc hl (nle (show (siK (rBase l) j).length < 4611686018427387904 by rw [siK_len]; omega)) (sit_three hp hv hb hj ha h).1 (sit_three hp hv hb hj ha h).2
      dsimp only
      rw [hcnt]
      refine bif_ok (fun h => ?_) fun h => ?_
      · have hjn : (j : Int) < rCnt l := of_decide_eq_true h
        refine bif_ok (fun h => ?_) fun h => ?_
        · have hf : (stK (rBase l) j).2 = 0 := by simpa [pEq] using h
          have e : pAdd .i64 (j : Int) 1 = ((j + 1 : Nat) : Int) := pAdd1 (by omega)
          rw [drop_at (suf_stK sB j), e]
          refine ⟨by decide, hb, hll, ryOk_stK sB yB j, room8 (α := NumD) (by show (siK (rBase l) j).length < 1000000; rw [siK_len]; omega), ⟨j + 1, by omega, fun i hi => ?_, rfl⟩, Nat.le_of_eq ?_⟩
          · rcases Nat.lt_or_ge i j with h1 | h1
            · exact ha i h1
            · have : i = j := by omega
              subst this; exact hf
          · unfold recOMu
            simp only
            omega
        · exact fin (.inr (by simpa [pEq] using h))
      · exact fin (.inl (by have : ¬ (j : Int) < rCnt l := of_decide_eq_false h
                            omega))

theorem yfirst6_4_ok : Meets Tryd.prog (fun _ => none) 60 cyfirst6_4 := meets_mono yfirst_ok fun x hp => by
  have h1 : okB x.2.1.1 := (hp _ List.mem_cons_self)
  have h2 : pLen x.2.1.1 < 4611686018427387904 := (hp _ (List.mem_cons_of_mem _ List.mem_cons_self))
  have h0 : eyOk x.2.1.1 x.2.1.2.1 x.2.1.2.2.1 := (hp _ (List.mem_cons_of_mem _ (List.mem_cons_of_mem _ List.mem_cons_self)))
  have h3 : pEq x.1.2.1 6 = true := (hp _ (List.mem_cons_of_mem _ (List.mem_cons_of_mem _ (List.mem_cons_of_mem _ List.mem_cons_self))))
  have h4 : kindE 6 (dropF x.2.1.1 x.2.1.2.1) x.2.1.2.2.1 = 0 := (hp _ (List.mem_cons_of_mem _ (List.mem_cons_of_mem _ (List.mem_cons_of_mem _ (List.mem_cons_of_mem _ List.mem_cons_self)))))
  have h5 : takeN (dropF x.2.1.1 x.2.1.2.1) 1 = 4 := (hp _ (List.mem_cons_of_mem _ (List.mem_cons_of_mem _ (List.mem_cons_of_mem _ (List.mem_cons_of_mem _ (List.mem_cons_of_mem _ List.mem_cons_self))))))
  have h6 : x.1.2.1 = 6 := by simpa [pEq] using h3
  refine ⟨fun p hq => ?_, ?_⟩
  · simp only [List.mem_cons, List.not_mem_nil, or_false] at hq
    rcases hq with rfl | rfl | rfl
    · exact h1
    · exact h2
    · exact h0
  · show (cond (pEq (kindE x.1.2.1 (dropF x.2.1.1 x.2.1.2.1) x.2.1.2.2.1) 0) (takeN (dropF x.2.1.1 x.2.1.2.1) 1) 0, (x.2.1.1, atF x.2.1.1 (takeR (dropF x.2.1.1 x.2.1.2.1) 1), kindE x.1.2.1 (dropF x.2.1.1 x.2.1.2.1) x.2.1.2.2.1, ()), ()) = _
    rw [h6, h4, h5]
    rfl
set_option maxHeartbeats 4000000 in
theorem RecordOf4_ok : Meets Tryd.prog (fun _ => none) 26 cRecordOf4 := RecordOf4_meets cFault_ok yfirst6_4_ok ynum_ok ywho_ok yyes_ok RecordFault_ok fun cn cl cp l hp => by
  have hl : cl.length < 4611686018427387904 := (hp _ List.mem_cons_self)
  have hb : okB l := (hp _ (List.mem_cons_of_mem _ List.mem_cons_self))
  have hll : l.length < 4611686018427387904 := (hp _ (List.mem_cons_of_mem _ (List.mem_cons_of_mem _ List.mem_cons_self)))
  have h1 : kindE 6 l 0 = 0 := (hp _ (List.mem_cons_of_mem _ (List.mem_cons_of_mem _ (List.mem_cons_of_mem _ List.mem_cons_self))))
  have h2 : takeN l 1 = 4 := (hp _ (List.mem_cons_of_mem _ (List.mem_cons_of_mem _ (List.mem_cons_of_mem _ (List.mem_cons_of_mem _ List.mem_cons_self)))))
  obtain ⟨hv, hs⟩ := rkind_at h1 h2
  have hz : eyOk l (atF l (takeR l 1)) 0 := ryOk_no
  clear hp
  have hp : recPart l = pGet tyParts recordsT (pNat 4) := by unfold recPart; rw [hv]
  have D0 : dropF l (atF l (takeR l 1)) = (takeR l 1) := drop_at (takeR_suf _ (List.suffix_refl _))
  have D1 : dropF l (atF l (takeR (takeR l 1) 1)) = (takeR (takeR l 1) 1) := drop_at (takeR_suf _ (takeR_suf _ (List.suffix_refl _)))
  have D2 : dropF l (atF l (takeR (takeR (takeR l 1) 1) 3)) = (takeR (takeR (takeR l 1) 1) 3) := drop_at (takeR_suf _ (takeR_suf _ (takeR_suf _ (List.suffix_refl _))))
  have s1 : stepS (kindS 6 l) 1 = ((takeR (takeR l 1) 1), (takeE (takeR l 1) 0 1)) := by rw [hs]; rfl
  have s2 : stepS (stepS (kindS 6 l) 1) 3 = ((takeR (takeR (takeR l 1) 1) 3), (takeE (takeR (takeR l 1) 1) (takeE (takeR l 1) 0 1) 3)) := by rw [s1]; rfl
  have e3 : rS3 l = ((takeR (takeR (takeR l 1) 1) 3), (takeE (takeR (takeR l 1) 1) (takeE (takeR l 1) 0 1) 3)) := s2
  have e4 : rS4 (pGet tyParts recordsT (pNat 4)) l = ((takeR (takeR (takeR l 1) 1) 3), (takeE (takeR (takeR l 1) 1) (takeE (takeR l 1) 0 1) 3)) := by unfold rS4; rw [e3]; rfl
  have e5 : rS5 (pGet tyParts recordsT (pNat 4)) l = ((takeR (takeR (takeR l 1) 1) 3), (takeE (takeR (takeR l 1) 1) (takeE (takeR l 1) 0 1) 3)) := by unfold rS5; rw [e4]; rfl
  have e6 : rS6 (pGet tyParts recordsT (pNat 4)) l = ((takeR (takeR (takeR l 1) 1) 3), (takeE (takeR (takeR l 1) 1) (takeE (takeR l 1) 0 1) 3)) := by unfold rS6; rw [e5]; rfl
  have e7 : rS7 (pGet tyParts recordsT (pNat 4)) l = ((takeR (takeR (takeR l 1) 1) 3), (takeE (takeR (takeR l 1) 1) (takeE (takeR l 1) 0 1) 3)) := by unfold rS7; rw [e6]; rfl
  have e8 : rSit (pGet tyParts recordsT (pNat 4)) l = ([], ((takeR (takeR (takeR l 1) 1) 3), (takeE (takeR (takeR l 1) 1) (takeE (takeR l 1) 0 1) 3))) := by unfold rSit; rw [e7]; rfl
  unfold RecordOf4_VC
  simp only [drop_zero, D0, D1, D2]
  refine ⟨hl, bif_ok (fun h => ?_) fun hc => ?_⟩
  · obtain ⟨e1, e2⟩ := recO_cfg (b := l) h
    rw [e1, e2]
  · (repeat' (first | refine rec_end2 ?_ hc hl (nle (by decide)) ?_ ?_ | with_reducible refine And.intro ?_ ?_ | fail))
    all_goals first
      | exact hb
      | exact hll
      | exact h1
      | exact h2
      | exact ryOk_zero
      | (repeat' (first | exact hz | refine ryOk_next ?_ ?_ (by decide) | exact List.suffix_refl _ | refine takeR_suf _ ?_)
         done)
      | (repeat' (first | exact List.suffix_refl _ | refine takeR_suf _ ?_)
         done)
      | decide
      | (rw [hp]; exact congrArg Prod.snd e8)
      | (rw [hp, hv]; unfold recRaw; rw [s1, hs, e3, e4, e5, e6, e8]; rfl)
      | skip

theorem yfirst6_5_ok : Meets Tryd.prog (fun _ => none) 60 cyfirst6_5 := meets_mono yfirst_ok fun x hp => by
  have h1 : okB x.2.1.1 := (hp _ List.mem_cons_self)
  have h2 : pLen x.2.1.1 < 4611686018427387904 := (hp _ (List.mem_cons_of_mem _ List.mem_cons_self))
  have h0 : eyOk x.2.1.1 x.2.1.2.1 x.2.1.2.2.1 := (hp _ (List.mem_cons_of_mem _ (List.mem_cons_of_mem _ List.mem_cons_self)))
  have h3 : pEq x.1.2.1 6 = true := (hp _ (List.mem_cons_of_mem _ (List.mem_cons_of_mem _ (List.mem_cons_of_mem _ List.mem_cons_self))))
  have h4 : kindE 6 (dropF x.2.1.1 x.2.1.2.1) x.2.1.2.2.1 = 0 := (hp _ (List.mem_cons_of_mem _ (List.mem_cons_of_mem _ (List.mem_cons_of_mem _ (List.mem_cons_of_mem _ List.mem_cons_self)))))
  have h5 : takeN (dropF x.2.1.1 x.2.1.2.1) 1 = 5 := (hp _ (List.mem_cons_of_mem _ (List.mem_cons_of_mem _ (List.mem_cons_of_mem _ (List.mem_cons_of_mem _ (List.mem_cons_of_mem _ List.mem_cons_self))))))
  have h6 : x.1.2.1 = 6 := by simpa [pEq] using h3
  refine ⟨fun p hq => ?_, ?_⟩
  · simp only [List.mem_cons, List.not_mem_nil, or_false] at hq
    rcases hq with rfl | rfl | rfl
    · exact h1
    · exact h2
    · exact h0
  · show (cond (pEq (kindE x.1.2.1 (dropF x.2.1.1 x.2.1.2.1) x.2.1.2.2.1) 0) (takeN (dropF x.2.1.1 x.2.1.2.1) 1) 0, (x.2.1.1, atF x.2.1.1 (takeR (dropF x.2.1.1 x.2.1.2.1) 1), kindE x.1.2.1 (dropF x.2.1.1 x.2.1.2.1) x.2.1.2.2.1, ()), ()) = _
    rw [h6, h4, h5]
    rfl
set_option maxHeartbeats 4000000 in
theorem RecordOf5_ok : Meets Tryd.prog (fun _ => none) 26 cRecordOf5 := RecordOf5_meets cFault_ok yfirst6_5_ok ynum_ok ywho_ok yyes_ok RecordFault_ok fun cn cl cp l hp => by
  have hl : cl.length < 4611686018427387904 := (hp _ List.mem_cons_self)
  have hb : okB l := (hp _ (List.mem_cons_of_mem _ List.mem_cons_self))
  have hll : l.length < 4611686018427387904 := (hp _ (List.mem_cons_of_mem _ (List.mem_cons_of_mem _ List.mem_cons_self)))
  have h1 : kindE 6 l 0 = 0 := (hp _ (List.mem_cons_of_mem _ (List.mem_cons_of_mem _ (List.mem_cons_of_mem _ List.mem_cons_self))))
  have h2 : takeN l 1 = 5 := (hp _ (List.mem_cons_of_mem _ (List.mem_cons_of_mem _ (List.mem_cons_of_mem _ (List.mem_cons_of_mem _ List.mem_cons_self)))))
  obtain ⟨hv, hs⟩ := rkind_at h1 h2
  have hz : eyOk l (atF l (takeR l 1)) 0 := ryOk_no
  clear hp
  have hp : recPart l = pGet tyParts recordsT (pNat 5) := by unfold recPart; rw [hv]
  have D0 : dropF l (atF l (takeR l 1)) = (takeR l 1) := drop_at (takeR_suf _ (List.suffix_refl _))
  have D1 : dropF l (atF l (takeR (takeR l 1) 1)) = (takeR (takeR l 1) 1) := drop_at (takeR_suf _ (takeR_suf _ (List.suffix_refl _)))
  have D2 : dropF l (atF l (takeR (takeR (takeR l 1) 1) 3)) = (takeR (takeR (takeR l 1) 1) 3) := drop_at (takeR_suf _ (takeR_suf _ (takeR_suf _ (List.suffix_refl _))))
  have s1 : stepS (kindS 6 l) 1 = ((takeR (takeR l 1) 1), (takeE (takeR l 1) 0 1)) := by rw [hs]; rfl
  have s2 : stepS (stepS (kindS 6 l) 1) 3 = ((takeR (takeR (takeR l 1) 1) 3), (takeE (takeR (takeR l 1) 1) (takeE (takeR l 1) 0 1) 3)) := by rw [s1]; rfl
  have e3 : rS3 l = ((takeR (takeR (takeR l 1) 1) 3), (takeE (takeR (takeR l 1) 1) (takeE (takeR l 1) 0 1) 3)) := s2
  have e4 : rS4 (pGet tyParts recordsT (pNat 5)) l = ((takeR (takeR (takeR l 1) 1) 3), (takeE (takeR (takeR l 1) 1) (takeE (takeR l 1) 0 1) 3)) := by unfold rS4; rw [e3]; rfl
  have e5 : rS5 (pGet tyParts recordsT (pNat 5)) l = ((takeR (takeR (takeR l 1) 1) 3), (takeE (takeR (takeR l 1) 1) (takeE (takeR l 1) 0 1) 3)) := by unfold rS5; rw [e4]; rfl
  have e6 : rS6 (pGet tyParts recordsT (pNat 5)) l = ((takeR (takeR (takeR l 1) 1) 3), (takeE (takeR (takeR l 1) 1) (takeE (takeR l 1) 0 1) 3)) := by unfold rS6; rw [e5]; rfl
  have e7 : rS7 (pGet tyParts recordsT (pNat 5)) l = ((takeR (takeR (takeR l 1) 1) 3), (takeE (takeR (takeR l 1) 1) (takeE (takeR l 1) 0 1) 3)) := by unfold rS7; rw [e6]; rfl
  have e8 : rSit (pGet tyParts recordsT (pNat 5)) l = ([], ((takeR (takeR (takeR l 1) 1) 3), (takeE (takeR (takeR l 1) 1) (takeE (takeR l 1) 0 1) 3))) := by unfold rSit; rw [e7]; rfl
  unfold RecordOf5_VC
  simp only [drop_zero, D0, D1, D2]
  refine ⟨hl, bif_ok (fun h => ?_) fun hc => ?_⟩
  · obtain ⟨e1, e2⟩ := recO_cfg (b := l) h
    rw [e1, e2]
  · (repeat' (first | refine rec_end2 ?_ hc hl (nle (by decide)) ?_ ?_ | with_reducible refine And.intro ?_ ?_ | fail))
    all_goals first
      | exact hb
      | exact hll
      | exact h1
      | exact h2
      | exact ryOk_zero
      | (repeat' (first | exact hz | refine ryOk_next ?_ ?_ (by decide) | exact List.suffix_refl _ | refine takeR_suf _ ?_)
         done)
      | (repeat' (first | exact List.suffix_refl _ | refine takeR_suf _ ?_)
         done)
      | decide
      | (rw [hp]; exact congrArg Prod.snd e8)
      | (rw [hp, hv]; unfold recRaw; rw [s1, hs, e3, e4, e5, e6, e8]; rfl)
      | skip

theorem yfirst6_6_ok : Meets Tryd.prog (fun _ => none) 60 cyfirst6_6 := meets_mono yfirst_ok fun x hp => by
  have h1 : okB x.2.1.1 := (hp _ List.mem_cons_self)
  have h2 : pLen x.2.1.1 < 4611686018427387904 := (hp _ (List.mem_cons_of_mem _ List.mem_cons_self))
  have h0 : eyOk x.2.1.1 x.2.1.2.1 x.2.1.2.2.1 := (hp _ (List.mem_cons_of_mem _ (List.mem_cons_of_mem _ List.mem_cons_self)))
  have h3 : pEq x.1.2.1 6 = true := (hp _ (List.mem_cons_of_mem _ (List.mem_cons_of_mem _ (List.mem_cons_of_mem _ List.mem_cons_self))))
  have h4 : kindE 6 (dropF x.2.1.1 x.2.1.2.1) x.2.1.2.2.1 = 0 := (hp _ (List.mem_cons_of_mem _ (List.mem_cons_of_mem _ (List.mem_cons_of_mem _ (List.mem_cons_of_mem _ List.mem_cons_self)))))
  have h5 : takeN (dropF x.2.1.1 x.2.1.2.1) 1 = 6 := (hp _ (List.mem_cons_of_mem _ (List.mem_cons_of_mem _ (List.mem_cons_of_mem _ (List.mem_cons_of_mem _ (List.mem_cons_of_mem _ List.mem_cons_self))))))
  have h6 : x.1.2.1 = 6 := by simpa [pEq] using h3
  refine ⟨fun p hq => ?_, ?_⟩
  · simp only [List.mem_cons, List.not_mem_nil, or_false] at hq
    rcases hq with rfl | rfl | rfl
    · exact h1
    · exact h2
    · exact h0
  · show (cond (pEq (kindE x.1.2.1 (dropF x.2.1.1 x.2.1.2.1) x.2.1.2.2.1) 0) (takeN (dropF x.2.1.1 x.2.1.2.1) 1) 0, (x.2.1.1, atF x.2.1.1 (takeR (dropF x.2.1.1 x.2.1.2.1) 1), kindE x.1.2.1 (dropF x.2.1.1 x.2.1.2.1) x.2.1.2.2.1, ()), ()) = _
    rw [h6, h4, h5]
    rfl
set_option maxHeartbeats 4000000 in
theorem RecordOf6_ok : Meets Tryd.prog (fun _ => none) 26 cRecordOf6 := RecordOf6_meets cFault_ok yfirst6_6_ok ynum_ok ywho_ok yyes_ok RecordFault_ok fun cn cl cp l hp => by
  have hl : cl.length < 4611686018427387904 := (hp _ List.mem_cons_self)
  have hb : okB l := (hp _ (List.mem_cons_of_mem _ List.mem_cons_self))
  have hll : l.length < 4611686018427387904 := (hp _ (List.mem_cons_of_mem _ (List.mem_cons_of_mem _ List.mem_cons_self)))
  have h1 : kindE 6 l 0 = 0 := (hp _ (List.mem_cons_of_mem _ (List.mem_cons_of_mem _ (List.mem_cons_of_mem _ List.mem_cons_self))))
  have h2 : takeN l 1 = 6 := (hp _ (List.mem_cons_of_mem _ (List.mem_cons_of_mem _ (List.mem_cons_of_mem _ (List.mem_cons_of_mem _ List.mem_cons_self)))))
  obtain ⟨hv, hs⟩ := rkind_at h1 h2
  have hz : eyOk l (atF l (takeR l 1)) 0 := ryOk_no
  clear hp
  have hp : recPart l = pGet tyParts recordsT (pNat 6) := by unfold recPart; rw [hv]
  have D0 : dropF l (atF l (takeR l 1)) = (takeR l 1) := drop_at (takeR_suf _ (List.suffix_refl _))
  have D1 : dropF l (atF l (takeR (takeR l 1) 1)) = (takeR (takeR l 1) 1) := drop_at (takeR_suf _ (takeR_suf _ (List.suffix_refl _)))
  have D2 : dropF l (atF l (takeR (takeR (takeR l 1) 1) 3)) = (takeR (takeR (takeR l 1) 1) 3) := drop_at (takeR_suf _ (takeR_suf _ (takeR_suf _ (List.suffix_refl _))))
  have D3 : dropF l (atF l (takeR (takeR (takeR (takeR l 1) 1) 3) 1)) = (takeR (takeR (takeR (takeR l 1) 1) 3) 1) := drop_at (takeR_suf _ (takeR_suf _ (takeR_suf _ (takeR_suf _ (List.suffix_refl _)))))
  have s1 : stepS (kindS 6 l) 1 = ((takeR (takeR l 1) 1), (takeE (takeR l 1) 0 1)) := by rw [hs]; rfl
  have s2 : stepS (stepS (kindS 6 l) 1) 3 = ((takeR (takeR (takeR l 1) 1) 3), (takeE (takeR (takeR l 1) 1) (takeE (takeR l 1) 0 1) 3)) := by rw [s1]; rfl
  have e3 : rS3 l = ((takeR (takeR (takeR l 1) 1) 3), (takeE (takeR (takeR l 1) 1) (takeE (takeR l 1) 0 1) 3)) := s2
  have e4 : rS4 (pGet tyParts recordsT (pNat 6)) l = ((takeR (takeR (takeR l 1) 1) 3), (takeE (takeR (takeR l 1) 1) (takeE (takeR l 1) 0 1) 3)) := by unfold rS4; rw [e3]; rfl
  have e5 : rS5 (pGet tyParts recordsT (pNat 6)) l = ((takeR (takeR (takeR l 1) 1) 3), (takeE (takeR (takeR l 1) 1) (takeE (takeR l 1) 0 1) 3)) := by unfold rS5; rw [e4]; rfl
  have e6 : rS6 (pGet tyParts recordsT (pNat 6)) l = ((takeR (takeR (takeR l 1) 1) 3), (takeE (takeR (takeR l 1) 1) (takeE (takeR l 1) 0 1) 3)) := by unfold rS6; rw [e5]; rfl
  have e7 : rS7 (pGet tyParts recordsT (pNat 6)) l = ((takeR (takeR (takeR (takeR l 1) 1) 3) 1), (bitE (takeR (takeR (takeR l 1) 1) 3) (takeE (takeR (takeR l 1) 1) (takeE (takeR l 1) 0 1) 3))) := by unfold rS7; rw [e6]; rfl
  have e8 : rSit (pGet tyParts recordsT (pNat 6)) l = ([], ((takeR (takeR (takeR (takeR l 1) 1) 3) 1), (bitE (takeR (takeR (takeR l 1) 1) 3) (takeE (takeR (takeR l 1) 1) (takeE (takeR l 1) 0 1) 3)))) := by unfold rSit; rw [e7]; rfl
  unfold RecordOf6_VC
  simp only [drop_zero, D0, D1, D2, D3]
  refine ⟨hl, bif_ok (fun h => ?_) fun hc => ?_⟩
  · obtain ⟨e1, e2⟩ := recO_cfg (b := l) h
    rw [e1, e2]
  · (repeat' (first | refine rec_end2 ?_ hc hl (nle (by decide)) ?_ ?_ | with_reducible refine And.intro ?_ ?_ | fail))
    all_goals first
      | exact hb
      | exact hll
      | exact h1
      | exact h2
      | exact ryOk_zero
      | (repeat' (first | exact hz | refine ryOk_next ?_ ?_ (by decide) | exact List.suffix_refl _ | refine takeR_suf _ ?_)
         done)
      | (repeat' (first | exact List.suffix_refl _ | refine takeR_suf _ ?_)
         done)
      | decide
      | (rw [hp]; exact congrArg Prod.snd e8)
      | (rw [hp, hv]; unfold recRaw; rw [s1, hs, e3, e4, e5, e6, e8]; rfl)
      | skip

def preRO : Fin 7 → Shape.den ⟨[pCfg, .one (.rd (.sl tyB))], []⟩ → List Prop := fun i x =>
  [pLen x.1.1.2.1 < 4611686018427387904, okB x.1.2.1, pLen x.1.2.1 < 4611686018427387904] ++ (if i.val = 0 then [pEq (kindE 6 x.1.2.1 0) 0 = false] else [kindE 6 x.1.2.1 0 = 0, takeN x.1.2.1 1 = (i.val : Int)])
theorem RecordOf_ok : Meets Tryd.prog (fun _ => none) 26 cRecordOf := by
  refine meets_split preRO 0 (fun i => ?_) fun x hp => ?_
  · match i with
    | ⟨0, _⟩ => exact RecordOf0_ok
    | ⟨1, _⟩ => exact RecordOf1_ok
    | ⟨2, _⟩ => exact RecordOf2_ok
    | ⟨3, _⟩ => exact RecordOf3_ok
    | ⟨4, _⟩ => exact RecordOf4_ok
    | ⟨5, _⟩ => exact RecordOf5_ok
    | ⟨6, _⟩ => exact RecordOf6_ok
  · have h1 : pLen x.1.1.2.1 < 4611686018427387904 := (hp _ List.mem_cons_self)
    have h2 : okB x.1.2.1 := (hp _ (List.mem_cons_of_mem _ List.mem_cons_self))
    have h3 : pLen x.1.2.1 < 4611686018427387904 := (hp _ (List.mem_cons_of_mem _ (List.mem_cons_of_mem _ List.mem_cons_self)))
    rcases kinds6 x.1.2.1 with h | ⟨h, k, hk⟩
    · refine ⟨0, fun p hq => ?_⟩
      simp only [preRO, List.cons_append, List.nil_append, List.mem_cons, List.not_mem_nil, or_false, Fin.val_zero, if_true] at hq
      rcases hq with rfl | rfl | rfl | rfl
      · exact h1
      · exact h2
      · exact h3
      · exact h
    · refine ⟨⟨k.val + 1, by omega⟩, fun p hq => ?_⟩
      simp only [preRO, List.cons_append, List.nil_append, List.mem_cons, List.not_mem_nil, or_false, Nat.add_one_ne_zero, if_false] at hq
      rcases hq with rfl | rfl | rfl | rfl | rfl
      · exact h1
      · exact h2
      · exact h3
      · exact h
      · rw [hk]; rfl

end Go.Proofs.YtkimjjndbcbiaaaDoor
