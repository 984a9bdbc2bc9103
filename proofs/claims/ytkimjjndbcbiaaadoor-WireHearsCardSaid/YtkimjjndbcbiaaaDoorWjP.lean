/- The document's reading of a message meets its contract: by kinds. No condition. -/
import Derived.Test.YtkimjjndbcbiaaaDoorWjV
import Derived.Test.YtkimjjndbcbiaaaDoorWkP
namespace Go.Proofs.YtkimjjndbcbiaaaDoor
open Go.RowKit

theorem takeR_suf' {rs q : List ByteD} {k : Int} (h : q <:+ rs) : (takeR q k <:+ rs) = True := eq_true (takeR_suf k h)
theorem eyOk_next' {rs : List ByteD} {q : List ByteD} {fa k : Int} (hq : q <:+ rs) (h : eyOk rs (atF rs q) fa) (hk : 1 ≤ k) : eyOk rs (atF rs (takeR q k)) (takeE q fa k) := by
  have := eyOk_next h hk
  rw [drop_at hq] at this
  exact this
theorem eyOk_bit {rs : List ByteD} {q : List ByteD} {fa : Int} (hq : q <:+ rs) (h : eyOk rs (atF rs q) fa) : eyOk rs (atF rs (takeR q 1)) (bitE q fa) := by
  have h1 := eyOk_next' hq h (k := 1) (by decide)
  refine eyOk_at fun h5 => ?_
  unfold bitE at h5
  cases hb : (pGt (takeN q 1) 1 && pEq (takeE q fa 1) 0) with
  | true => rw [hb] at h5; cases h5
  | false =>
    rw [hb] at h5
    exact takeE_five (by decide) (fun hf => by
      have := short_of_five (k := 1) h hf
      rw [drop_at hq] at this; exact this) h5
theorem eyOk_kind {rs : List ByteD} {k : Int} : eyOk rs (atF rs (takeR rs 1)) (kindE k rs 0) := by
  refine eyOk_at fun h5 => ?_
  unfold kindE at h5
  cases hb : (!(inF (takeN rs 1) 1 k) && pEq (takeE rs 0 1) 0) with
  | true => rw [hb] at h5; cases h5
  | false =>
    rw [hb] at h5
    exact takeE_five (by decide) (fun hf => by cases hf) h5
theorem eyOk_zero {rs : List ByteD} : eyOk rs 0 0 := ⟨Int.le_refl _, Int.natCast_nonneg _, fun h => by cases h⟩
theorem eyOk_no {rs q : List ByteD} : eyOk rs (atF rs q) 0 := eyOk_at fun h => by cases h

theorem at_lt {rs q : List ByteD} (h : q <:+ rs) : pLt (atF rs q) (pInt (pLen rs)) = pGt (pInt q.length) 0 := by
  have hl := h.length_le
  unfold pLt pGt atF pInt pLen
  rw [Bool.eq_iff_iff]
  simp only [decide_eq_true_eq]
  omega
theorem msg_end2 {c : CfgD} {b : List ByteD} {R : List ByteD} {F : Int} {m : MsgD} {P : Prop} (hR : R <:+ b) (hc : pNe (cfgF c) 0 = false) (hP : P) (hS : mS12 (msgPart b) b = (R, F)) (hm : msgRaw (msgPart b) (kindV 9 b) b = m) :
    bif pEq F 0 then (bif pLt (atF b R) (pInt (pLen b)) then (noMsg, 4, ()) = (msgO c b, msgOE c b, ()) else (bif pEq F 0 then (P ∧ bif pNe (msgF c m) 0 then (noMsg, msgF c m, ()) = (msgO c b, msgOE c b, ()) else (m, 0, ()) = (msgO c b, msgOE c b, ())) else
      bif pNe F 0 then (noMsg, F, ()) = (msgO c b, msgOE c b, ()) else (m, 0, ()) = (msgO c b, msgOE c b, ()))) else (bif pEq F 0 then (P ∧ bif pNe (msgF c m) 0 then (noMsg, msgF c m, ()) = (msgO c b, msgOE c b, ()) else (m, 0, ()) = (msgO c b, msgOE c b, ())) else
      bif pNe F 0 then (noMsg, F, ()) = (msgO c b, msgOE c b, ()) else (m, 0, ()) = (msgO c b, msgOE c b, ())) := by
  have hk := msg_end hc hP hS hm
  rw [at_lt hR]
  unfold endE at hk
  cases hF : pEq F 0 with
  | false =>
    rw [hF, Bool.false_and, cond_false, hF] at hk
    exact hk
  | true =>
    rw [hF, Bool.true_and] at hk
    cases hg : pGt (pInt R.length) 0 with
    | true => rw [hg] at hk; exact hk
    | false => rw [hg, cond_false, hF] at hk; exact hk

theorem yfirst9_0_ok : Meets Tryd.prog (fun _ => none) 60 cyfirst9_0 := meets_mono yfirst_ok fun x hp => by
  have h1 : okB x.2.1.1 := (hp _ List.mem_cons_self)
  have h2 : pLen x.2.1.1 < 4611686018427387904 := (hp _ (List.mem_cons_of_mem _ List.mem_cons_self))
  have h0 : eyOk x.2.1.1 x.2.1.2.1 x.2.1.2.2.1 := (hp _ (List.mem_cons_of_mem _ (List.mem_cons_of_mem _ List.mem_cons_self)))
  have h3 : pEq x.1.2.1 9 = true := (hp _ (List.mem_cons_of_mem _ (List.mem_cons_of_mem _ (List.mem_cons_of_mem _ List.mem_cons_self))))
  have h4 : pEq (kindE 9 (dropF x.2.1.1 x.2.1.2.1) x.2.1.2.2.1) 0 = false := (hp _ (List.mem_cons_of_mem _ (List.mem_cons_of_mem _ (List.mem_cons_of_mem _ (List.mem_cons_of_mem _ List.mem_cons_self)))))
  have h6 : x.1.2.1 = 9 := by simpa [pEq] using h3
  refine ⟨fun p hq => ?_, ?_⟩
  · simp only [List.mem_cons, List.not_mem_nil, or_false] at hq
    rcases hq with rfl | rfl | rfl
    · exact h1
    · exact h2
    · exact h0
  · show (cond (pEq (kindE x.1.2.1 (dropF x.2.1.1 x.2.1.2.1) x.2.1.2.2.1) 0) (takeN (dropF x.2.1.1 x.2.1.2.1) 1) 0, (x.2.1.1, atF x.2.1.1 (takeR (dropF x.2.1.1 x.2.1.2.1) 1), kindE x.1.2.1 (dropF x.2.1.1 x.2.1.2.1) x.2.1.2.2.1, ()), ()) = _
    rw [h6, h4]
    rfl
set_option maxHeartbeats 4000000 in
theorem MessageOf0_ok : Meets Tryd.prog (fun _ => none) 29 cMessageOf0 := MessageOf0_meets cFault_ok yfirst9_0_ok ynum_ok ywho_ok yyes_ok MessageFault_ok fun cn cl cp l hp => by
  have hl : cl.length < 4611686018427387904 := (hp _ List.mem_cons_self)
  have hb : okB l := (hp _ (List.mem_cons_of_mem _ List.mem_cons_self))
  have hll : l.length < 4611686018427387904 := (hp _ (List.mem_cons_of_mem _ (List.mem_cons_of_mem _ List.mem_cons_self)))
  have h1 : pEq (kindE 9 l 0) 0 = false := (hp _ (List.mem_cons_of_mem _ (List.mem_cons_of_mem _ (List.mem_cons_of_mem _ List.mem_cons_self))))
  have hv := kind_no h1
  have hs : kindS 9 l = (takeR l 1, kindE 9 l 0) := rfl
  have hz : eyOk l (atF l (takeR l 1)) (kindE 9 l 0) := eyOk_kind
  clear hp
  have hp : msgPart l = pGet tyParts messagesT (pNat 0) := by unfold msgPart; rw [hv]
  have D0 : dropF l (atF l (takeR l 1)) = (takeR l 1) := drop_at (takeR_suf _ (List.suffix_refl _))
  have D1 : dropF l (atF l (takeR (takeR l 1) 1)) = (takeR (takeR l 1) 1) := drop_at (takeR_suf _ (takeR_suf _ (List.suffix_refl _)))
  have D2 : dropF l (atF l (takeR (takeR (takeR l 1) 1) 1)) = (takeR (takeR (takeR l 1) 1) 1) := drop_at (takeR_suf _ (takeR_suf _ (takeR_suf _ (List.suffix_refl _))))
  have D3 : dropF l (atF l (takeR (takeR (takeR (takeR l 1) 1) 1) 1)) = (takeR (takeR (takeR (takeR l 1) 1) 1) 1) := drop_at (takeR_suf _ (takeR_suf _ (takeR_suf _ (takeR_suf _ (List.suffix_refl _)))))
  have D4 : dropF l (atF l (takeR (takeR (takeR (takeR (takeR l 1) 1) 1) 1) 3)) = (takeR (takeR (takeR (takeR (takeR l 1) 1) 1) 1) 3) := drop_at (takeR_suf _ (takeR_suf _ (takeR_suf _ (takeR_suf _ (takeR_suf _ (List.suffix_refl _))))))
  unfold MessageOf0_VC
  simp only [drop_zero, D0, D1, D2, D3, D4]
  refine ⟨hl, bif_ok (fun h => ?_) fun hc => ?_⟩
  · obtain ⟨e1, e2⟩ := msgO_cfg (b := l) h
    rw [e1, e2]
  · (repeat' (first | refine msg_end2 ?_ hc hl ?_ ?_ | with_reducible refine And.intro ?_ ?_ | fail))
    all_goals first
      | exact hb
      | exact hll
      | exact h1
      | exact eyOk_zero
      | (repeat' (first | exact hz | refine eyOk_next' ?_ ?_ (by decide) | refine eyOk_bit ?_ ?_ | exact List.suffix_refl _ | refine takeR_suf _ ?_)
         done)
      | (repeat' (first | exact List.suffix_refl _ | refine takeR_suf _ ?_)
         done)
      | decide
      | (rw [hp]; unfold mS12 mS11 mS10 mS9 mS8 mS7 mS6 mS5; rw [hs]; rfl)
      | (rw [hp, hv]; unfold msgRaw mS11 mS10 mS9 mS8 mS7 mS6 mS5; rw [hs]; rfl)
      | skip

theorem yfirst9_1_ok : Meets Tryd.prog (fun _ => none) 60 cyfirst9_1 := meets_mono yfirst_ok fun x hp => by
  have h1 : okB x.2.1.1 := (hp _ List.mem_cons_self)
  have h2 : pLen x.2.1.1 < 4611686018427387904 := (hp _ (List.mem_cons_of_mem _ List.mem_cons_self))
  have h0 : eyOk x.2.1.1 x.2.1.2.1 x.2.1.2.2.1 := (hp _ (List.mem_cons_of_mem _ (List.mem_cons_of_mem _ List.mem_cons_self)))
  have h3 : pEq x.1.2.1 9 = true := (hp _ (List.mem_cons_of_mem _ (List.mem_cons_of_mem _ (List.mem_cons_of_mem _ List.mem_cons_self))))
  have h4 : kindE 9 (dropF x.2.1.1 x.2.1.2.1) x.2.1.2.2.1 = 0 := (hp _ (List.mem_cons_of_mem _ (List.mem_cons_of_mem _ (List.mem_cons_of_mem _ (List.mem_cons_of_mem _ List.mem_cons_self)))))
  have h5 : takeN (dropF x.2.1.1 x.2.1.2.1) 1 = 1 := (hp _ (List.mem_cons_of_mem _ (List.mem_cons_of_mem _ (List.mem_cons_of_mem _ (List.mem_cons_of_mem _ (List.mem_cons_of_mem _ List.mem_cons_self))))))
  have h6 : x.1.2.1 = 9 := by simpa [pEq] using h3
  refine ⟨fun p hq => ?_, ?_⟩
  · simp only [List.mem_cons, List.not_mem_nil, or_false] at hq
    rcases hq with rfl | rfl | rfl
    · exact h1
    · exact h2
    · exact h0
  · show (cond (pEq (kindE x.1.2.1 (dropF x.2.1.1 x.2.1.2.1) x.2.1.2.2.1) 0) (takeN (dropF x.2.1.1 x.2.1.2.1) 1) 0, (x.2.1.1, atF x.2.1.1 (takeR (dropF x.2.1.1 x.2.1.2.1) 1), kindE x.1.2.1 (dropF x.2.1.1 x.2.1.2.1) x.2.1.2.2.1, ()), ()) = _
    rw [h6, h4, h5]
    rfl
set_option maxHeartbeats 4000000 in
theorem MessageOf1_ok : Meets Tryd.prog (fun _ => none) 29 cMessageOf1 := MessageOf1_meets cFault_ok yfirst9_1_ok ynum_ok ywho_ok yyes_ok MessageFault_ok fun cn cl cp l hp => by
  have hl : cl.length < 4611686018427387904 := (hp _ List.mem_cons_self)
  have hb : okB l := (hp _ (List.mem_cons_of_mem _ List.mem_cons_self))
  have hll : l.length < 4611686018427387904 := (hp _ (List.mem_cons_of_mem _ (List.mem_cons_of_mem _ List.mem_cons_self)))
  have h1 : kindE 9 l 0 = 0 := (hp _ (List.mem_cons_of_mem _ (List.mem_cons_of_mem _ (List.mem_cons_of_mem _ List.mem_cons_self))))
  have h2 : takeN l 1 = 1 := (hp _ (List.mem_cons_of_mem _ (List.mem_cons_of_mem _ (List.mem_cons_of_mem _ (List.mem_cons_of_mem _ List.mem_cons_self)))))
  obtain ⟨hv, hs⟩ := kind_at h1 h2
  have hz : eyOk l (atF l (takeR l 1)) 0 := eyOk_no
  clear hp
  have hp : msgPart l = pGet tyParts messagesT (pNat 1) := by unfold msgPart; rw [hv]
  have D0 : dropF l (atF l (takeR l 1)) = (takeR l 1) := drop_at (takeR_suf _ (List.suffix_refl _))
  have D1 : dropF l (atF l (takeR (takeR l 1) 1)) = (takeR (takeR l 1) 1) := drop_at (takeR_suf _ (takeR_suf _ (List.suffix_refl _)))
  have D2 : dropF l (atF l (takeR (takeR (takeR l 1) 1) 1)) = (takeR (takeR (takeR l 1) 1) 1) := drop_at (takeR_suf _ (takeR_suf _ (takeR_suf _ (List.suffix_refl _))))
  have D3 : dropF l (atF l (takeR (takeR (takeR (takeR l 1) 1) 1) 1)) = (takeR (takeR (takeR (takeR l 1) 1) 1) 1) := drop_at (takeR_suf _ (takeR_suf _ (takeR_suf _ (takeR_suf _ (List.suffix_refl _)))))
  have D4 : dropF l (atF l (takeR (takeR (takeR (takeR (takeR l 1) 1) 1) 1) 3)) = (takeR (takeR (takeR (takeR (takeR l 1) 1) 1) 1) 3) := drop_at (takeR_suf _ (takeR_suf _ (takeR_suf _ (takeR_suf _ (takeR_suf _ (List.suffix_refl _))))))
  have D5 : dropF l (atF l (takeR (takeR (takeR (takeR (takeR (takeR l 1) 1) 1) 1) 3) 1)) = (takeR (takeR (takeR (takeR (takeR (takeR l 1) 1) 1) 1) 3) 1) := drop_at (takeR_suf _ (takeR_suf _ (takeR_suf _ (takeR_suf _ (takeR_suf _ (takeR_suf _ (List.suffix_refl _)))))))
  have D6 : dropF l (atF l (takeR (takeR (takeR (takeR (takeR (takeR (takeR l 1) 1) 1) 1) 3) 1) 1)) = (takeR (takeR (takeR (takeR (takeR (takeR (takeR l 1) 1) 1) 1) 3) 1) 1) := drop_at (takeR_suf _ (takeR_suf _ (takeR_suf _ (takeR_suf _ (takeR_suf _ (takeR_suf _ (takeR_suf _ (List.suffix_refl _))))))))
  have D7 : dropF l (atF l (takeR (takeR (takeR (takeR (takeR (takeR (takeR (takeR l 1) 1) 1) 1) 3) 1) 1) 3)) = (takeR (takeR (takeR (takeR (takeR (takeR (takeR (takeR l 1) 1) 1) 1) 3) 1) 1) 3) := drop_at (takeR_suf _ (takeR_suf _ (takeR_suf _ (takeR_suf _ (takeR_suf _ (takeR_suf _ (takeR_suf _ (takeR_suf _ (List.suffix_refl _)))))))))
  unfold MessageOf1_VC
  simp only [drop_zero, D0, D1, D2, D3, D4, D5, D6, D7]
  refine ⟨hl, bif_ok (fun h => ?_) fun hc => ?_⟩
  · obtain ⟨e1, e2⟩ := msgO_cfg (b := l) h
    rw [e1, e2]
  · (repeat' (first | refine msg_end2 ?_ hc hl ?_ ?_ | with_reducible refine And.intro ?_ ?_ | fail))
    all_goals first
      | exact hb
      | exact hll
      | exact h1
      | exact h2
      | exact eyOk_zero
      | (repeat' (first | exact hz | refine eyOk_next' ?_ ?_ (by decide) | refine eyOk_bit ?_ ?_ | exact List.suffix_refl _ | refine takeR_suf _ ?_)
         done)
      | (repeat' (first | exact List.suffix_refl _ | refine takeR_suf _ ?_)
         done)
      | decide
      | (rw [hp]; unfold mS12 mS11 mS10 mS9 mS8 mS7 mS6 mS5; rw [hs]; rfl)
      | (rw [hp, hv]; unfold msgRaw mS11 mS10 mS9 mS8 mS7 mS6 mS5; rw [hs]; rfl)
      | skip

theorem yfirst9_2_ok : Meets Tryd.prog (fun _ => none) 60 cyfirst9_2 := meets_mono yfirst_ok fun x hp => by
  have h1 : okB x.2.1.1 := (hp _ List.mem_cons_self)
  have h2 : pLen x.2.1.1 < 4611686018427387904 := (hp _ (List.mem_cons_of_mem _ List.mem_cons_self))
  have h0 : eyOk x.2.1.1 x.2.1.2.1 x.2.1.2.2.1 := (hp _ (List.mem_cons_of_mem _ (List.mem_cons_of_mem _ List.mem_cons_self)))
  have h3 : pEq x.1.2.1 9 = true := (hp _ (List.mem_cons_of_mem _ (List.mem_cons_of_mem _ (List.mem_cons_of_mem _ List.mem_cons_self))))
  have h4 : kindE 9 (dropF x.2.1.1 x.2.1.2.1) x.2.1.2.2.1 = 0 := (hp _ (List.mem_cons_of_mem _ (List.mem_cons_of_mem _ (List.mem_cons_of_mem _ (List.mem_cons_of_mem _ List.mem_cons_self)))))
  have h5 : takeN (dropF x.2.1.1 x.2.1.2.1) 1 = 2 := (hp _ (List.mem_cons_of_mem _ (List.mem_cons_of_mem _ (List.mem_cons_of_mem _ (List.mem_cons_of_mem _ (List.mem_cons_of_mem _ List.mem_cons_self))))))
  have h6 : x.1.2.1 = 9 := by simpa [pEq] using h3
  refine ⟨fun p hq => ?_, ?_⟩
  · simp only [List.mem_cons, List.not_mem_nil, or_false] at hq
    rcases hq with rfl | rfl | rfl
    · exact h1
    · exact h2
    · exact h0
  · show (cond (pEq (kindE x.1.2.1 (dropF x.2.1.1 x.2.1.2.1) x.2.1.2.2.1) 0) (takeN (dropF x.2.1.1 x.2.1.2.1) 1) 0, (x.2.1.1, atF x.2.1.1 (takeR (dropF x.2.1.1 x.2.1.2.1) 1), kindE x.1.2.1 (dropF x.2.1.1 x.2.1.2.1) x.2.1.2.2.1, ()), ()) = _
    rw [h6, h4, h5]
    rfl
set_option maxHeartbeats 4000000 in
theorem MessageOf2_ok : Meets Tryd.prog (fun _ => none) 29 cMessageOf2 := MessageOf2_meets cFault_ok yfirst9_2_ok ynum_ok ywho_ok yyes_ok MessageFault_ok fun cn cl cp l hp => by
  have hl : cl.length < 4611686018427387904 := (hp _ List.mem_cons_self)
  have hb : okB l := (hp _ (List.mem_cons_of_mem _ List.mem_cons_self))
  have hll : l.length < 4611686018427387904 := (hp _ (List.mem_cons_of_mem _ (List.mem_cons_of_mem _ List.mem_cons_self)))
  have h1 : kindE 9 l 0 = 0 := (hp _ (List.mem_cons_of_mem _ (List.mem_cons_of_mem _ (List.mem_cons_of_mem _ List.mem_cons_self))))
  have h2 : takeN l 1 = 2 := (hp _ (List.mem_cons_of_mem _ (List.mem_cons_of_mem _ (List.mem_cons_of_mem _ (List.mem_cons_of_mem _ List.mem_cons_self)))))
  obtain ⟨hv, hs⟩ := kind_at h1 h2
  have hz : eyOk l (atF l (takeR l 1)) 0 := eyOk_no
  clear hp
  have hp : msgPart l = pGet tyParts messagesT (pNat 2) := by unfold msgPart; rw [hv]
  have D0 : dropF l (atF l (takeR l 1)) = (takeR l 1) := drop_at (takeR_suf _ (List.suffix_refl _))
  have D1 : dropF l (atF l (takeR (takeR l 1) 1)) = (takeR (takeR l 1) 1) := drop_at (takeR_suf _ (takeR_suf _ (List.suffix_refl _)))
  have D2 : dropF l (atF l (takeR (takeR (takeR l 1) 1) 1)) = (takeR (takeR (takeR l 1) 1) 1) := drop_at (takeR_suf _ (takeR_suf _ (takeR_suf _ (List.suffix_refl _))))
  have D3 : dropF l (atF l (takeR (takeR (takeR (takeR l 1) 1) 1) 1)) = (takeR (takeR (takeR (takeR l 1) 1) 1) 1) := drop_at (takeR_suf _ (takeR_suf _ (takeR_suf _ (takeR_suf _ (List.suffix_refl _)))))
  have D4 : dropF l (atF l (takeR (takeR (takeR (takeR (takeR l 1) 1) 1) 1) 3)) = (takeR (takeR (takeR (takeR (takeR l 1) 1) 1) 1) 3) := drop_at (takeR_suf _ (takeR_suf _ (takeR_suf _ (takeR_suf _ (takeR_suf _ (List.suffix_refl _))))))
  have D5 : dropF l (atF l (takeR (takeR (takeR (takeR (takeR (takeR l 1) 1) 1) 1) 3) 1)) = (takeR (takeR (takeR (takeR (takeR (takeR l 1) 1) 1) 1) 3) 1) := drop_at (takeR_suf _ (takeR_suf _ (takeR_suf _ (takeR_suf _ (takeR_suf _ (takeR_suf _ (List.suffix_refl _)))))))
  have D6 : dropF l (atF l (takeR (takeR (takeR (takeR (takeR (takeR (takeR l 1) 1) 1) 1) 3) 1) 4)) = (takeR (takeR (takeR (takeR (takeR (takeR (takeR l 1) 1) 1) 1) 3) 1) 4) := drop_at (takeR_suf _ (takeR_suf _ (takeR_suf _ (takeR_suf _ (takeR_suf _ (takeR_suf _ (takeR_suf _ (List.suffix_refl _))))))))
  have D7 : dropF l (atF l (takeR (takeR (takeR (takeR (takeR (takeR (takeR (takeR l 1) 1) 1) 1) 3) 1) 4) 3)) = (takeR (takeR (takeR (takeR (takeR (takeR (takeR (takeR l 1) 1) 1) 1) 3) 1) 4) 3) := drop_at (takeR_suf _ (takeR_suf _ (takeR_suf _ (takeR_suf _ (takeR_suf _ (takeR_suf _ (takeR_suf _ (takeR_suf _ (List.suffix_refl _)))))))))
  unfold MessageOf2_VC
  simp only [drop_zero, D0, D1, D2, D3, D4, D5, D6, D7]
  refine ⟨hl, bif_ok (fun h => ?_) fun hc => ?_⟩
  · obtain ⟨e1, e2⟩ := msgO_cfg (b := l) h
    rw [e1, e2]
  · (repeat' (first | refine msg_end2 ?_ hc hl ?_ ?_ | with_reducible refine And.intro ?_ ?_ | fail))
    all_goals first
      | exact hb
      | exact hll
      | exact h1
      | exact h2
      | exact eyOk_zero
      | (repeat' (first | exact hz | refine eyOk_next' ?_ ?_ (by decide) | refine eyOk_bit ?_ ?_ | exact List.suffix_refl _ | refine takeR_suf _ ?_)
         done)
      | (repeat' (first | exact List.suffix_refl _ | refine takeR_suf _ ?_)
         done)
      | decide
      | (rw [hp]; unfold mS12 mS11 mS10 mS9 mS8 mS7 mS6 mS5; rw [hs]; rfl)
      | (rw [hp, hv]; unfold msgRaw mS11 mS10 mS9 mS8 mS7 mS6 mS5; rw [hs]; rfl)
      | skip

theorem yfirst9_3_ok : Meets Tryd.prog (fun _ => none) 60 cyfirst9_3 := meets_mono yfirst_ok fun x hp => by
  have h1 : okB x.2.1.1 := (hp _ List.mem_cons_self)
  have h2 : pLen x.2.1.1 < 4611686018427387904 := (hp _ (List.mem_cons_of_mem _ List.mem_cons_self))
  have h0 : eyOk x.2.1.1 x.2.1.2.1 x.2.1.2.2.1 := (hp _ (List.mem_cons_of_mem _ (List.mem_cons_of_mem _ List.mem_cons_self)))
  have h3 : pEq x.1.2.1 9 = true := (hp _ (List.mem_cons_of_mem _ (List.mem_cons_of_mem _ (List.mem_cons_of_mem _ List.mem_cons_self))))
  have h4 : kindE 9 (dropF x.2.1.1 x.2.1.2.1) x.2.1.2.2.1 = 0 := (hp _ (List.mem_cons_of_mem _ (List.mem_cons_of_mem _ (List.mem_cons_of_mem _ (List.mem_cons_of_mem _ List.mem_cons_self)))))
  have h5 : takeN (dropF x.2.1.1 x.2.1.2.1) 1 = 3 := (hp _ (List.mem_cons_of_mem _ (List.mem_cons_of_mem _ (List.mem_cons_of_mem _ (List.mem_cons_of_mem _ (List.mem_cons_of_mem _ List.mem_cons_self))))))
  have h6 : x.1.2.1 = 9 := by simpa [pEq] using h3
  refine ⟨fun p hq => ?_, ?_⟩
  · simp only [List.mem_cons, List.not_mem_nil, or_false] at hq
    rcases hq with rfl | rfl | rfl
    · exact h1
    · exact h2
    · exact h0
  · show (cond (pEq (kindE x.1.2.1 (dropF x.2.1.1 x.2.1.2.1) x.2.1.2.2.1) 0) (takeN (dropF x.2.1.1 x.2.1.2.1) 1) 0, (x.2.1.1, atF x.2.1.1 (takeR (dropF x.2.1.1 x.2.1.2.1) 1), kindE x.1.2.1 (dropF x.2.1.1 x.2.1.2.1) x.2.1.2.2.1, ()), ()) = _
    rw [h6, h4, h5]
    rfl
set_option maxHeartbeats 4000000 in
theorem MessageOf3_ok : Meets Tryd.prog (fun _ => none) 29 cMessageOf3 := MessageOf3_meets cFault_ok yfirst9_3_ok ynum_ok ywho_ok yyes_ok MessageFault_ok fun cn cl cp l hp => by
  have hl : cl.length < 4611686018427387904 := (hp _ List.mem_cons_self)
  have hb : okB l := (hp _ (List.mem_cons_of_mem _ List.mem_cons_self))
  have hll : l.length < 4611686018427387904 := (hp _ (List.mem_cons_of_mem _ (List.mem_cons_of_mem _ List.mem_cons_self)))
  have h1 : kindE 9 l 0 = 0 := (hp _ (List.mem_cons_of_mem _ (List.mem_cons_of_mem _ (List.mem_cons_of_mem _ List.mem_cons_self))))
  have h2 : takeN l 1 = 3 := (hp _ (List.mem_cons_of_mem _ (List.mem_cons_of_mem _ (List.mem_cons_of_mem _ (List.mem_cons_of_mem _ List.mem_cons_self)))))
  obtain ⟨hv, hs⟩ := kind_at h1 h2
  have hz : eyOk l (atF l (takeR l 1)) 0 := eyOk_no
  clear hp
  have hp : msgPart l = pGet tyParts messagesT (pNat 3) := by unfold msgPart; rw [hv]
  have D0 : dropF l (atF l (takeR l 1)) = (takeR l 1) := drop_at (takeR_suf _ (List.suffix_refl _))
  have D1 : dropF l (atF l (takeR (takeR l 1) 1)) = (takeR (takeR l 1) 1) := drop_at (takeR_suf _ (takeR_suf _ (List.suffix_refl _)))
  have D2 : dropF l (atF l (takeR (takeR (takeR l 1) 1) 1)) = (takeR (takeR (takeR l 1) 1) 1) := drop_at (takeR_suf _ (takeR_suf _ (takeR_suf _ (List.suffix_refl _))))
  have D3 : dropF l (atF l (takeR (takeR (takeR (takeR l 1) 1) 1) 1)) = (takeR (takeR (takeR (takeR l 1) 1) 1) 1) := drop_at (takeR_suf _ (takeR_suf _ (takeR_suf _ (takeR_suf _ (List.suffix_refl _)))))
  have D4 : dropF l (atF l (takeR (takeR (takeR (takeR (takeR l 1) 1) 1) 1) 3)) = (takeR (takeR (takeR (takeR (takeR l 1) 1) 1) 1) 3) := drop_at (takeR_suf _ (takeR_suf _ (takeR_suf _ (takeR_suf _ (takeR_suf _ (List.suffix_refl _))))))
  have D5 : dropF l (atF l (takeR (takeR (takeR (takeR (takeR (takeR l 1) 1) 1) 1) 3) 1)) = (takeR (takeR (takeR (takeR (takeR (takeR l 1) 1) 1) 1) 3) 1) := drop_at (takeR_suf _ (takeR_suf _ (takeR_suf _ (takeR_suf _ (takeR_suf _ (takeR_suf _ (List.suffix_refl _)))))))
  have D6 : dropF l (atF l (takeR (takeR (takeR (takeR (takeR (takeR (takeR l 1) 1) 1) 1) 3) 1) 1)) = (takeR (takeR (takeR (takeR (takeR (takeR (takeR l 1) 1) 1) 1) 3) 1) 1) := drop_at (takeR_suf _ (takeR_suf _ (takeR_suf _ (takeR_suf _ (takeR_suf _ (takeR_suf _ (takeR_suf _ (List.suffix_refl _))))))))
  have D7 : dropF l (atF l (takeR (takeR (takeR (takeR (takeR (takeR (takeR (takeR l 1) 1) 1) 1) 3) 1) 1) 3)) = (takeR (takeR (takeR (takeR (takeR (takeR (takeR (takeR l 1) 1) 1) 1) 3) 1) 1) 3) := drop_at (takeR_suf _ (takeR_suf _ (takeR_suf _ (takeR_suf _ (takeR_suf _ (takeR_suf _ (takeR_suf _ (takeR_suf _ (List.suffix_refl _)))))))))
  unfold MessageOf3_VC
  simp only [drop_zero, D0, D1, D2, D3, D4, D5, D6, D7]
  refine ⟨hl, bif_ok (fun h => ?_) fun hc => ?_⟩
  · obtain ⟨e1, e2⟩ := msgO_cfg (b := l) h
    rw [e1, e2]
  · (repeat' (first | refine msg_end2 ?_ hc hl ?_ ?_ | with_reducible refine And.intro ?_ ?_ | fail))
    all_goals first
      | exact hb
      | exact hll
      | exact h1
      | exact h2
      | exact eyOk_zero
      | (repeat' (first | exact hz | refine eyOk_next' ?_ ?_ (by decide) | refine eyOk_bit ?_ ?_ | exact List.suffix_refl _ | refine takeR_suf _ ?_)
         done)
      | (repeat' (first | exact List.suffix_refl _ | refine takeR_suf _ ?_)
         done)
      | decide
      | (rw [hp]; unfold mS12 mS11 mS10 mS9 mS8 mS7 mS6 mS5; rw [hs]; rfl)
      | (rw [hp, hv]; unfold msgRaw mS11 mS10 mS9 mS8 mS7 mS6 mS5; rw [hs]; rfl)
      | skip

theorem yfirst9_4_ok : Meets Tryd.prog (fun _ => none) 60 cyfirst9_4 := meets_mono yfirst_ok fun x hp => by
  have h1 : okB x.2.1.1 := (hp _ List.mem_cons_self)
  have h2 : pLen x.2.1.1 < 4611686018427387904 := (hp _ (List.mem_cons_of_mem _ List.mem_cons_self))
  have h0 : eyOk x.2.1.1 x.2.1.2.1 x.2.1.2.2.1 := (hp _ (List.mem_cons_of_mem _ (List.mem_cons_of_mem _ List.mem_cons_self)))
  have h3 : pEq x.1.2.1 9 = true := (hp _ (List.mem_cons_of_mem _ (List.mem_cons_of_mem _ (List.mem_cons_of_mem _ List.mem_cons_self))))
  have h4 : kindE 9 (dropF x.2.1.1 x.2.1.2.1) x.2.1.2.2.1 = 0 := (hp _ (List.mem_cons_of_mem _ (List.mem_cons_of_mem _ (List.mem_cons_of_mem _ (List.mem_cons_of_mem _ List.mem_cons_self)))))
  have h5 : takeN (dropF x.2.1.1 x.2.1.2.1) 1 = 4 := (hp _ (List.mem_cons_of_mem _ (List.mem_cons_of_mem _ (List.mem_cons_of_mem _ (List.mem_cons_of_mem _ (List.mem_cons_of_mem _ List.mem_cons_self))))))
  have h6 : x.1.2.1 = 9 := by simpa [pEq] using h3
  refine ⟨fun p hq => ?_, ?_⟩
  · simp only [List.mem_cons, List.not_mem_nil, or_false] at hq
    rcases hq with rfl | rfl | rfl
    · exact h1
    · exact h2
    · exact h0
  · show (cond (pEq (kindE x.1.2.1 (dropF x.2.1.1 x.2.1.2.1) x.2.1.2.2.1) 0) (takeN (dropF x.2.1.1 x.2.1.2.1) 1) 0, (x.2.1.1, atF x.2.1.1 (takeR (dropF x.2.1.1 x.2.1.2.1) 1), kindE x.1.2.1 (dropF x.2.1.1 x.2.1.2.1) x.2.1.2.2.1, ()), ()) = _
    rw [h6, h4, h5]
    rfl
set_option maxHeartbeats 4000000 in
theorem MessageOf4_ok : Meets Tryd.prog (fun _ => none) 29 cMessageOf4 := MessageOf4_meets cFault_ok yfirst9_4_ok ynum_ok ywho_ok yyes_ok MessageFault_ok fun cn cl cp l hp => by
  have hl : cl.length < 4611686018427387904 := (hp _ List.mem_cons_self)
  have hb : okB l := (hp _ (List.mem_cons_of_mem _ List.mem_cons_self))
  have hll : l.length < 4611686018427387904 := (hp _ (List.mem_cons_of_mem _ (List.mem_cons_of_mem _ List.mem_cons_self)))
  have h1 : kindE 9 l 0 = 0 := (hp _ (List.mem_cons_of_mem _ (List.mem_cons_of_mem _ (List.mem_cons_of_mem _ List.mem_cons_self))))
  have h2 : takeN l 1 = 4 := (hp _ (List.mem_cons_of_mem _ (List.mem_cons_of_mem _ (List.mem_cons_of_mem _ (List.mem_cons_of_mem _ List.mem_cons_self)))))
  obtain ⟨hv, hs⟩ := kind_at h1 h2
  have hz : eyOk l (atF l (takeR l 1)) 0 := eyOk_no
  clear hp
  have hp : msgPart l = pGet tyParts messagesT (pNat 4) := by unfold msgPart; rw [hv]
  have D0 : dropF l (atF l (takeR l 1)) = (takeR l 1) := drop_at (takeR_suf _ (List.suffix_refl _))
  have D1 : dropF l (atF l (takeR (takeR l 1) 1)) = (takeR (takeR l 1) 1) := drop_at (takeR_suf _ (takeR_suf _ (List.suffix_refl _)))
  have D2 : dropF l (atF l (takeR (takeR (takeR l 1) 1) 1)) = (takeR (takeR (takeR l 1) 1) 1) := drop_at (takeR_suf _ (takeR_suf _ (takeR_suf _ (List.suffix_refl _))))
  have D3 : dropF l (atF l (takeR (takeR (takeR (takeR l 1) 1) 1) 1)) = (takeR (takeR (takeR (takeR l 1) 1) 1) 1) := drop_at (takeR_suf _ (takeR_suf _ (takeR_suf _ (takeR_suf _ (List.suffix_refl _)))))
  have D4 : dropF l (atF l (takeR (takeR (takeR (takeR (takeR l 1) 1) 1) 1) 3)) = (takeR (takeR (takeR (takeR (takeR l 1) 1) 1) 1) 3) := drop_at (takeR_suf _ (takeR_suf _ (takeR_suf _ (takeR_suf _ (takeR_suf _ (List.suffix_refl _))))))
  have D5 : dropF l (atF l (takeR (takeR (takeR (takeR (takeR (takeR l 1) 1) 1) 1) 3) 1)) = (takeR (takeR (takeR (takeR (takeR (takeR l 1) 1) 1) 1) 3) 1) := drop_at (takeR_suf _ (takeR_suf _ (takeR_suf _ (takeR_suf _ (takeR_suf _ (takeR_suf _ (List.suffix_refl _)))))))
  unfold MessageOf4_VC
  simp only [drop_zero, D0, D1, D2, D3, D4, D5]
  refine ⟨hl, bif_ok (fun h => ?_) fun hc => ?_⟩
  · obtain ⟨e1, e2⟩ := msgO_cfg (b := l) h
    rw [e1, e2]
  · (repeat' (first | refine msg_end2 ?_ hc hl ?_ ?_ | with_reducible refine And.intro ?_ ?_ | fail))
    all_goals first
      | exact hb
      | exact hll
      | exact h1
      | exact h2
      | exact eyOk_zero
      | (repeat' (first | exact hz | refine eyOk_next' ?_ ?_ (by decide) | refine eyOk_bit ?_ ?_ | exact List.suffix_refl _ | refine takeR_suf _ ?_)
         done)
      | (repeat' (first | exact List.suffix_refl _ | refine takeR_suf _ ?_)
         done)
      | decide
      | (rw [hp]; unfold mS12 mS11 mS10 mS9 mS8 mS7 mS6 mS5; rw [hs]; rfl)
      | (rw [hp, hv]; unfold msgRaw mS11 mS10 mS9 mS8 mS7 mS6 mS5; rw [hs]; rfl)
      | skip

theorem yfirst9_5_ok : Meets Tryd.prog (fun _ => none) 60 cyfirst9_5 := meets_mono yfirst_ok fun x hp => by
  have h1 : okB x.2.1.1 := (hp _ List.mem_cons_self)
  have h2 : pLen x.2.1.1 < 4611686018427387904 := (hp _ (List.mem_cons_of_mem _ List.mem_cons_self))
  have h0 : eyOk x.2.1.1 x.2.1.2.1 x.2.1.2.2.1 := (hp _ (List.mem_cons_of_mem _ (List.mem_cons_of_mem _ List.mem_cons_self)))
  have h3 : pEq x.1.2.1 9 = true := (hp _ (List.mem_cons_of_mem _ (List.mem_cons_of_mem _ (List.mem_cons_of_mem _ List.mem_cons_self))))
  have h4 : kindE 9 (dropF x.2.1.1 x.2.1.2.1) x.2.1.2.2.1 = 0 := (hp _ (List.mem_cons_of_mem _ (List.mem_cons_of_mem _ (List.mem_cons_of_mem _ (List.mem_cons_of_mem _ List.mem_cons_self)))))
  have h5 : takeN (dropF x.2.1.1 x.2.1.2.1) 1 = 5 := (hp _ (List.mem_cons_of_mem _ (List.mem_cons_of_mem _ (List.mem_cons_of_mem _ (List.mem_cons_of_mem _ (List.mem_cons_of_mem _ List.mem_cons_self))))))
  have h6 : x.1.2.1 = 9 := by simpa [pEq] using h3
  refine ⟨fun p hq => ?_, ?_⟩
  · simp only [List.mem_cons, List.not_mem_nil, or_false] at hq
    rcases hq with rfl | rfl | rfl
    · exact h1
    · exact h2
    · exact h0
  · show (cond (pEq (kindE x.1.2.1 (dropF x.2.1.1 x.2.1.2.1) x.2.1.2.2.1) 0) (takeN (dropF x.2.1.1 x.2.1.2.1) 1) 0, (x.2.1.1, atF x.2.1.1 (takeR (dropF x.2.1.1 x.2.1.2.1) 1), kindE x.1.2.1 (dropF x.2.1.1 x.2.1.2.1) x.2.1.2.2.1, ()), ()) = _
    rw [h6, h4, h5]
    rfl
set_option maxHeartbeats 4000000 in
theorem MessageOf5_ok : Meets Tryd.prog (fun _ => none) 29 cMessageOf5 := MessageOf5_meets cFault_ok yfirst9_5_ok ynum_ok ywho_ok yyes_ok MessageFault_ok fun cn cl cp l hp => by
  have hl : cl.length < 4611686018427387904 := (hp _ List.mem_cons_self)
  have hb : okB l := (hp _ (List.mem_cons_of_mem _ List.mem_cons_self))
  have hll : l.length < 4611686018427387904 := (hp _ (List.mem_cons_of_mem _ (List.mem_cons_of_mem _ List.mem_cons_self)))
  have h1 : kindE 9 l 0 = 0 := (hp _ (List.mem_cons_of_mem _ (List.mem_cons_of_mem _ (List.mem_cons_of_mem _ List.mem_cons_self))))
  have h2 : takeN l 1 = 5 := (hp _ (List.mem_cons_of_mem _ (List.mem_cons_of_mem _ (List.mem_cons_of_mem _ (List.mem_cons_of_mem _ List.mem_cons_self)))))
  obtain ⟨hv, hs⟩ := kind_at h1 h2
  have hz : eyOk l (atF l (takeR l 1)) 0 := eyOk_no
  clear hp
  have hp : msgPart l = pGet tyParts messagesT (pNat 5) := by unfold msgPart; rw [hv]
  have D0 : dropF l (atF l (takeR l 1)) = (takeR l 1) := drop_at (takeR_suf _ (List.suffix_refl _))
  have D1 : dropF l (atF l (takeR (takeR l 1) 1)) = (takeR (takeR l 1) 1) := drop_at (takeR_suf _ (takeR_suf _ (List.suffix_refl _)))
  have D2 : dropF l (atF l (takeR (takeR (takeR l 1) 1) 1)) = (takeR (takeR (takeR l 1) 1) 1) := drop_at (takeR_suf _ (takeR_suf _ (takeR_suf _ (List.suffix_refl _))))
  have D3 : dropF l (atF l (takeR (takeR (takeR (takeR l 1) 1) 1) 1)) = (takeR (takeR (takeR (takeR l 1) 1) 1) 1) := drop_at (takeR_suf _ (takeR_suf _ (takeR_suf _ (takeR_suf _ (List.suffix_refl _)))))
  have D4 : dropF l (atF l (takeR (takeR (takeR (takeR (takeR l 1) 1) 1) 1) 3)) = (takeR (takeR (takeR (takeR (takeR l 1) 1) 1) 1) 3) := drop_at (takeR_suf _ (takeR_suf _ (takeR_suf _ (takeR_suf _ (takeR_suf _ (List.suffix_refl _))))))
  have D5 : dropF l (atF l (takeR (takeR (takeR (takeR (takeR (takeR l 1) 1) 1) 1) 3) 1)) = (takeR (takeR (takeR (takeR (takeR (takeR l 1) 1) 1) 1) 3) 1) := drop_at (takeR_suf _ (takeR_suf _ (takeR_suf _ (takeR_suf _ (takeR_suf _ (takeR_suf _ (List.suffix_refl _)))))))
  have D6 : dropF l (atF l (takeR (takeR (takeR (takeR (takeR (takeR (takeR l 1) 1) 1) 1) 3) 1) 1)) = (takeR (takeR (takeR (takeR (takeR (takeR (takeR l 1) 1) 1) 1) 3) 1) 1) := drop_at (takeR_suf _ (takeR_suf _ (takeR_suf _ (takeR_suf _ (takeR_suf _ (takeR_suf _ (takeR_suf _ (List.suffix_refl _))))))))
  have D7 : dropF l (atF l (takeR (takeR (takeR (takeR (takeR (takeR (takeR (takeR l 1) 1) 1) 1) 3) 1) 1) 4)) = (takeR (takeR (takeR (takeR (takeR (takeR (takeR (takeR l 1) 1) 1) 1) 3) 1) 1) 4) := drop_at (takeR_suf _ (takeR_suf _ (takeR_suf _ (takeR_suf _ (takeR_suf _ (takeR_suf _ (takeR_suf _ (takeR_suf _ (List.suffix_refl _)))))))))
  have D8 : dropF l (atF l (takeR (takeR (takeR (takeR (takeR (takeR (takeR (takeR (takeR l 1) 1) 1) 1) 3) 1) 1) 4) 3)) = (takeR (takeR (takeR (takeR (takeR (takeR (takeR (takeR (takeR l 1) 1) 1) 1) 3) 1) 1) 4) 3) := drop_at (takeR_suf _ (takeR_suf _ (takeR_suf _ (takeR_suf _ (takeR_suf _ (takeR_suf _ (takeR_suf _ (takeR_suf _ (takeR_suf _ (List.suffix_refl _))))))))))
  have D9 : dropF l (atF l (takeR (takeR (takeR (takeR (takeR (takeR (takeR (takeR (takeR (takeR l 1) 1) 1) 1) 3) 1) 1) 4) 3) 3)) = (takeR (takeR (takeR (takeR (takeR (takeR (takeR (takeR (takeR (takeR l 1) 1) 1) 1) 3) 1) 1) 4) 3) 3) := drop_at (takeR_suf _ (takeR_suf _ (takeR_suf _ (takeR_suf _ (takeR_suf _ (takeR_suf _ (takeR_suf _ (takeR_suf _ (takeR_suf _ (takeR_suf _ (List.suffix_refl _)))))))))))
  have D10 : dropF l (atF l (takeR (takeR (takeR (takeR (takeR (takeR (takeR (takeR (takeR (takeR (takeR l 1) 1) 1) 1) 3) 1) 1) 4) 3) 3) 1)) = (takeR (takeR (takeR (takeR (takeR (takeR (takeR (takeR (takeR (takeR (takeR l 1) 1) 1) 1) 3) 1) 1) 4) 3) 3) 1) := drop_at (takeR_suf _ (takeR_suf _ (takeR_suf _ (takeR_suf _ (takeR_suf _ (takeR_suf _ (takeR_suf _ (takeR_suf _ (takeR_suf _ (takeR_suf _ (takeR_suf _ (List.suffix_refl _))))))))))))
  unfold MessageOf5_VC
  simp only [drop_zero, D0, D1, D2, D3, D4, D5, D6, D7, D8, D9, D10]
  refine ⟨hl, bif_ok (fun h => ?_) fun hc => ?_⟩
  · obtain ⟨e1, e2⟩ := msgO_cfg (b := l) h
    rw [e1, e2]
  · (repeat' (first | refine msg_end2 ?_ hc hl ?_ ?_ | with_reducible refine And.intro ?_ ?_ | fail))
    all_goals first
      | exact hb
      | exact hll
      | exact h1
      | exact h2
      | exact eyOk_zero
      | (repeat' (first | exact hz | refine eyOk_next' ?_ ?_ (by decide) | refine eyOk_bit ?_ ?_ | exact List.suffix_refl _ | refine takeR_suf _ ?_)
         done)
      | (repeat' (first | exact List.suffix_refl _ | refine takeR_suf _ ?_)
         done)
      | decide
      | (rw [hp]; unfold mS12 mS11 mS10 mS9 mS8 mS7 mS6 mS5; rw [hs]; rfl)
      | (rw [hp, hv]; unfold msgRaw mS11 mS10 mS9 mS8 mS7 mS6 mS5; rw [hs]; rfl)
      | skip

theorem yfirst9_6_ok : Meets Tryd.prog (fun _ => none) 60 cyfirst9_6 := meets_mono yfirst_ok fun x hp => by
  have h1 : okB x.2.1.1 := (hp _ List.mem_cons_self)
  have h2 : pLen x.2.1.1 < 4611686018427387904 := (hp _ (List.mem_cons_of_mem _ List.mem_cons_self))
  have h0 : eyOk x.2.1.1 x.2.1.2.1 x.2.1.2.2.1 := (hp _ (List.mem_cons_of_mem _ (List.mem_cons_of_mem _ List.mem_cons_self)))
  have h3 : pEq x.1.2.1 9 = true := (hp _ (List.mem_cons_of_mem _ (List.mem_cons_of_mem _ (List.mem_cons_of_mem _ List.mem_cons_self))))
  have h4 : kindE 9 (dropF x.2.1.1 x.2.1.2.1) x.2.1.2.2.1 = 0 := (hp _ (List.mem_cons_of_mem _ (List.mem_cons_of_mem _ (List.mem_cons_of_mem _ (List.mem_cons_of_mem _ List.mem_cons_self)))))
  have h5 : takeN (dropF x.2.1.1 x.2.1.2.1) 1 = 6 := (hp _ (List.mem_cons_of_mem _ (List.mem_cons_of_mem _ (List.mem_cons_of_mem _ (List.mem_cons_of_mem _ (List.mem_cons_of_mem _ List.mem_cons_self))))))
  have h6 : x.1.2.1 = 9 := by simpa [pEq] using h3
  refine ⟨fun p hq => ?_, ?_⟩
  · simp only [List.mem_cons, List.not_mem_nil, or_false] at hq
    rcases hq with rfl | rfl | rfl
    · exact h1
    · exact h2
    · exact h0
  · show (cond (pEq (kindE x.1.2.1 (dropF x.2.1.1 x.2.1.2.1) x.2.1.2.2.1) 0) (takeN (dropF x.2.1.1 x.2.1.2.1) 1) 0, (x.2.1.1, atF x.2.1.1 (takeR (dropF x.2.1.1 x.2.1.2.1) 1), kindE x.1.2.1 (dropF x.2.1.1 x.2.1.2.1) x.2.1.2.2.1, ()), ()) = _
    rw [h6, h4, h5]
    rfl
set_option maxHeartbeats 4000000 in
theorem MessageOf6_ok : Meets Tryd.prog (fun _ => none) 29 cMessageOf6 := MessageOf6_meets cFault_ok yfirst9_6_ok ynum_ok ywho_ok yyes_ok MessageFault_ok fun cn cl cp l hp => by
  have hl : cl.length < 4611686018427387904 := (hp _ List.mem_cons_self)
  have hb : okB l := (hp _ (List.mem_cons_of_mem _ List.mem_cons_self))
  have hll : l.length < 4611686018427387904 := (hp _ (List.mem_cons_of_mem _ (List.mem_cons_of_mem _ List.mem_cons_self)))
  have h1 : kindE 9 l 0 = 0 := (hp _ (List.mem_cons_of_mem _ (List.mem_cons_of_mem _ (List.mem_cons_of_mem _ List.mem_cons_self))))
  have h2 : takeN l 1 = 6 := (hp _ (List.mem_cons_of_mem _ (List.mem_cons_of_mem _ (List.mem_cons_of_mem _ (List.mem_cons_of_mem _ List.mem_cons_self)))))
  obtain ⟨hv, hs⟩ := kind_at h1 h2
  have hz : eyOk l (atF l (takeR l 1)) 0 := eyOk_no
  clear hp
  have hp : msgPart l = pGet tyParts messagesT (pNat 6) := by unfold msgPart; rw [hv]
  have D0 : dropF l (atF l (takeR l 1)) = (takeR l 1) := drop_at (takeR_suf _ (List.suffix_refl _))
  have D1 : dropF l (atF l (takeR (takeR l 1) 1)) = (takeR (takeR l 1) 1) := drop_at (takeR_suf _ (takeR_suf _ (List.suffix_refl _)))
  have D2 : dropF l (atF l (takeR (takeR (takeR l 1) 1) 1)) = (takeR (takeR (takeR l 1) 1) 1) := drop_at (takeR_suf _ (takeR_suf _ (takeR_suf _ (List.suffix_refl _))))
  have D3 : dropF l (atF l (takeR (takeR (takeR (takeR l 1) 1) 1) 1)) = (takeR (takeR (takeR (takeR l 1) 1) 1) 1) := drop_at (takeR_suf _ (takeR_suf _ (takeR_suf _ (takeR_suf _ (List.suffix_refl _)))))
  have D4 : dropF l (atF l (takeR (takeR (takeR (takeR (takeR l 1) 1) 1) 1) 3)) = (takeR (takeR (takeR (takeR (takeR l 1) 1) 1) 1) 3) := drop_at (takeR_suf _ (takeR_suf _ (takeR_suf _ (takeR_suf _ (takeR_suf _ (List.suffix_refl _))))))
  have D5 : dropF l (atF l (takeR (takeR (takeR (takeR (takeR (takeR l 1) 1) 1) 1) 3) 1)) = (takeR (takeR (takeR (takeR (takeR (takeR l 1) 1) 1) 1) 3) 1) := drop_at (takeR_suf _ (takeR_suf _ (takeR_suf _ (takeR_suf _ (takeR_suf _ (takeR_suf _ (List.suffix_refl _)))))))
  have D6 : dropF l (atF l (takeR (takeR (takeR (takeR (takeR (takeR (takeR l 1) 1) 1) 1) 3) 1) 3)) = (takeR (takeR (takeR (takeR (takeR (takeR (takeR l 1) 1) 1) 1) 3) 1) 3) := drop_at (takeR_suf _ (takeR_suf _ (takeR_suf _ (takeR_suf _ (takeR_suf _ (takeR_suf _ (takeR_suf _ (List.suffix_refl _))))))))
  have D7 : dropF l (atF l (takeR (takeR (takeR (takeR (takeR (takeR (takeR (takeR l 1) 1) 1) 1) 3) 1) 3) 1)) = (takeR (takeR (takeR (takeR (takeR (takeR (takeR (takeR l 1) 1) 1) 1) 3) 1) 3) 1) := drop_at (takeR_suf _ (takeR_suf _ (takeR_suf _ (takeR_suf _ (takeR_suf _ (takeR_suf _ (takeR_suf _ (takeR_suf _ (List.suffix_refl _)))))))))
  unfold MessageOf6_VC
  simp only [drop_zero, D0, D1, D2, D3, D4, D5, D6, D7]
  refine ⟨hl, bif_ok (fun h => ?_) fun hc => ?_⟩
  · obtain ⟨e1, e2⟩ := msgO_cfg (b := l) h
    rw [e1, e2]
  · (repeat' (first | refine msg_end2 ?_ hc hl ?_ ?_ | with_reducible refine And.intro ?_ ?_ | fail))
    all_goals first
      | exact hb
      | exact hll
      | exact h1
      | exact h2
      | exact eyOk_zero
      | (repeat' (first | exact hz | refine eyOk_next' ?_ ?_ (by decide) | refine eyOk_bit ?_ ?_ | exact List.suffix_refl _ | refine takeR_suf _ ?_)
         done)
      | (repeat' (first | exact List.suffix_refl _ | refine takeR_suf _ ?_)
         done)
      | decide
      | (rw [hp]; unfold mS12 mS11 mS10 mS9 mS8 mS7 mS6 mS5; rw [hs]; rfl)
      | (rw [hp, hv]; unfold msgRaw mS11 mS10 mS9 mS8 mS7 mS6 mS5; rw [hs]; rfl)
      | skip

theorem yfirst9_7_ok : Meets Tryd.prog (fun _ => none) 60 cyfirst9_7 := meets_mono yfirst_ok fun x hp => by
  have h1 : okB x.2.1.1 := (hp _ List.mem_cons_self)
  have h2 : pLen x.2.1.1 < 4611686018427387904 := (hp _ (List.mem_cons_of_mem _ List.mem_cons_self))
  have h0 : eyOk x.2.1.1 x.2.1.2.1 x.2.1.2.2.1 := (hp _ (List.mem_cons_of_mem _ (List.mem_cons_of_mem _ List.mem_cons_self)))
  have h3 : pEq x.1.2.1 9 = true := (hp _ (List.mem_cons_of_mem _ (List.mem_cons_of_mem _ (List.mem_cons_of_mem _ List.mem_cons_self))))
  have h4 : kindE 9 (dropF x.2.1.1 x.2.1.2.1) x.2.1.2.2.1 = 0 := (hp _ (List.mem_cons_of_mem _ (List.mem_cons_of_mem _ (List.mem_cons_of_mem _ (List.mem_cons_of_mem _ List.mem_cons_self)))))
  have h5 : takeN (dropF x.2.1.1 x.2.1.2.1) 1 = 7 := (hp _ (List.mem_cons_of_mem _ (List.mem_cons_of_mem _ (List.mem_cons_of_mem _ (List.mem_cons_of_mem _ (List.mem_cons_of_mem _ List.mem_cons_self))))))
  have h6 : x.1.2.1 = 9 := by simpa [pEq] using h3
  refine ⟨fun p hq => ?_, ?_⟩
  · simp only [List.mem_cons, List.not_mem_nil, or_false] at hq
    rcases hq with rfl | rfl | rfl
    · exact h1
    · exact h2
    · exact h0
  · show (cond (pEq (kindE x.1.2.1 (dropF x.2.1.1 x.2.1.2.1) x.2.1.2.2.1) 0) (takeN (dropF x.2.1.1 x.2.1.2.1) 1) 0, (x.2.1.1, atF x.2.1.1 (takeR (dropF x.2.1.1 x.2.1.2.1) 1), kindE x.1.2.1 (dropF x.2.1.1 x.2.1.2.1) x.2.1.2.2.1, ()), ()) = _
    rw [h6, h4, h5]
    rfl
set_option maxHeartbeats 4000000 in
theorem MessageOf7_ok : Meets Tryd.prog (fun _ => none) 29 cMessageOf7 := MessageOf7_meets cFault_ok yfirst9_7_ok ynum_ok ywho_ok yyes_ok MessageFault_ok fun cn cl cp l hp => by
  have hl : cl.length < 4611686018427387904 := (hp _ List.mem_cons_self)
  have hb : okB l := (hp _ (List.mem_cons_of_mem _ List.mem_cons_self))
  have hll : l.length < 4611686018427387904 := (hp _ (List.mem_cons_of_mem _ (List.mem_cons_of_mem _ List.mem_cons_self)))
  have h1 : kindE 9 l 0 = 0 := (hp _ (List.mem_cons_of_mem _ (List.mem_cons_of_mem _ (List.mem_cons_of_mem _ List.mem_cons_self))))
  have h2 : takeN l 1 = 7 := (hp _ (List.mem_cons_of_mem _ (List.mem_cons_of_mem _ (List.mem_cons_of_mem _ (List.mem_cons_of_mem _ List.mem_cons_self)))))
  obtain ⟨hv, hs⟩ := kind_at h1 h2
  have hz : eyOk l (atF l (takeR l 1)) 0 := eyOk_no
  clear hp
  have hp : msgPart l = pGet tyParts messagesT (pNat 7) := by unfold msgPart; rw [hv]
  have D0 : dropF l (atF l (takeR l 1)) = (takeR l 1) := drop_at (takeR_suf _ (List.suffix_refl _))
  have D1 : dropF l (atF l (takeR (takeR l 1) 1)) = (takeR (takeR l 1) 1) := drop_at (takeR_suf _ (takeR_suf _ (List.suffix_refl _)))
  have D2 : dropF l (atF l (takeR (takeR (takeR l 1) 1) 1)) = (takeR (takeR (takeR l 1) 1) 1) := drop_at (takeR_suf _ (takeR_suf _ (takeR_suf _ (List.suffix_refl _))))
  have D3 : dropF l (atF l (takeR (takeR (takeR (takeR l 1) 1) 1) 1)) = (takeR (takeR (takeR (takeR l 1) 1) 1) 1) := drop_at (takeR_suf _ (takeR_suf _ (takeR_suf _ (takeR_suf _ (List.suffix_refl _)))))
  have D4 : dropF l (atF l (takeR (takeR (takeR (takeR (takeR l 1) 1) 1) 1) 3)) = (takeR (takeR (takeR (takeR (takeR l 1) 1) 1) 1) 3) := drop_at (takeR_suf _ (takeR_suf _ (takeR_suf _ (takeR_suf _ (takeR_suf _ (List.suffix_refl _))))))
  have D5 : dropF l (atF l (takeR (takeR (takeR (takeR (takeR (takeR l 1) 1) 1) 1) 3) 1)) = (takeR (takeR (takeR (takeR (takeR (takeR l 1) 1) 1) 1) 3) 1) := drop_at (takeR_suf _ (takeR_suf _ (takeR_suf _ (takeR_suf _ (takeR_suf _ (takeR_suf _ (List.suffix_refl _)))))))
  have D6 : dropF l (atF l (takeR (takeR (takeR (takeR (takeR (takeR (takeR l 1) 1) 1) 1) 3) 1) 1)) = (takeR (takeR (takeR (takeR (takeR (takeR (takeR l 1) 1) 1) 1) 3) 1) 1) := drop_at (takeR_suf _ (takeR_suf _ (takeR_suf _ (takeR_suf _ (takeR_suf _ (takeR_suf _ (takeR_suf _ (List.suffix_refl _))))))))
  have D7 : dropF l (atF l (takeR (takeR (takeR (takeR (takeR (takeR (takeR (takeR l 1) 1) 1) 1) 3) 1) 1) 3)) = (takeR (takeR (takeR (takeR (takeR (takeR (takeR (takeR l 1) 1) 1) 1) 3) 1) 1) 3) := drop_at (takeR_suf _ (takeR_suf _ (takeR_suf _ (takeR_suf _ (takeR_suf _ (takeR_suf _ (takeR_suf _ (takeR_suf _ (List.suffix_refl _)))))))))
  have D8 : dropF l (atF l (takeR (takeR (takeR (takeR (takeR (takeR (takeR (takeR (takeR l 1) 1) 1) 1) 3) 1) 1) 3) 1)) = (takeR (takeR (takeR (takeR (takeR (takeR (takeR (takeR (takeR l 1) 1) 1) 1) 3) 1) 1) 3) 1) := drop_at (takeR_suf _ (takeR_suf _ (takeR_suf _ (takeR_suf _ (takeR_suf _ (takeR_suf _ (takeR_suf _ (takeR_suf _ (takeR_suf _ (List.suffix_refl _))))))))))
  unfold MessageOf7_VC
  simp only [drop_zero, D0, D1, D2, D3, D4, D5, D6, D7, D8]
  refine ⟨hl, bif_ok (fun h => ?_) fun hc => ?_⟩
  · obtain ⟨e1, e2⟩ := msgO_cfg (b := l) h
    rw [e1, e2]
  · (repeat' (first | refine msg_end2 ?_ hc hl ?_ ?_ | with_reducible refine And.intro ?_ ?_ | fail))
    all_goals first
      | exact hb
      | exact hll
      | exact h1
      | exact h2
      | exact eyOk_zero
      | (repeat' (first | exact hz | refine eyOk_next' ?_ ?_ (by decide) | refine eyOk_bit ?_ ?_ | exact List.suffix_refl _ | refine takeR_suf _ ?_)
         done)
      | (repeat' (first | exact List.suffix_refl _ | refine takeR_suf _ ?_)
         done)
      | decide
      | (rw [hp]; unfold mS12 mS11 mS10 mS9 mS8 mS7 mS6 mS5; rw [hs]; rfl)
      | (rw [hp, hv]; unfold msgRaw mS11 mS10 mS9 mS8 mS7 mS6 mS5; rw [hs]; rfl)
      | skip

theorem yfirst9_8_ok : Meets Tryd.prog (fun _ => none) 60 cyfirst9_8 := meets_mono yfirst_ok fun x hp => by
  have h1 : okB x.2.1.1 := (hp _ List.mem_cons_self)
  have h2 : pLen x.2.1.1 < 4611686018427387904 := (hp _ (List.mem_cons_of_mem _ List.mem_cons_self))
  have h0 : eyOk x.2.1.1 x.2.1.2.1 x.2.1.2.2.1 := (hp _ (List.mem_cons_of_mem _ (List.mem_cons_of_mem _ List.mem_cons_self)))
  have h3 : pEq x.1.2.1 9 = true := (hp _ (List.mem_cons_of_mem _ (List.mem_cons_of_mem _ (List.mem_cons_of_mem _ List.mem_cons_self))))
  have h4 : kindE 9 (dropF x.2.1.1 x.2.1.2.1) x.2.1.2.2.1 = 0 := (hp _ (List.mem_cons_of_mem _ (List.mem_cons_of_mem _ (List.mem_cons_of_mem _ (List.mem_cons_of_mem _ List.mem_cons_self)))))
  have h5 : takeN (dropF x.2.1.1 x.2.1.2.1) 1 = 8 := (hp _ (List.mem_cons_of_mem _ (List.mem_cons_of_mem _ (List.mem_cons_of_mem _ (List.mem_cons_of_mem _ (List.mem_cons_of_mem _ List.mem_cons_self))))))
  have h6 : x.1.2.1 = 9 := by simpa [pEq] using h3
  refine ⟨fun p hq => ?_, ?_⟩
  · simp only [List.mem_cons, List.not_mem_nil, or_false] at hq
    rcases hq with rfl | rfl | rfl
    · exact h1
    · exact h2
    · exact h0
  · show (cond (pEq (kindE x.1.2.1 (dropF x.2.1.1 x.2.1.2.1) x.2.1.2.2.1) 0) (takeN (dropF x.2.1.1 x.2.1.2.1) 1) 0, (x.2.1.1, atF x.2.1.1 (takeR (dropF x.2.1.1 x.2.1.2.1) 1), kindE x.1.2.1 (dropF x.2.1.1 x.2.1.2.1) x.2.1.2.2.1, ()), ()) = _
    rw [h6, h4, h5]
    rfl
set_option maxHeartbeats 4000000 in
theorem MessageOf8_ok : Meets Tryd.prog (fun _ => none) 29 cMessageOf8 := MessageOf8_meets cFault_ok yfirst9_8_ok ynum_ok ywho_ok yyes_ok MessageFault_ok fun cn cl cp l hp => by
  have hl : cl.length < 4611686018427387904 := (hp _ List.mem_cons_self)
  have hb : okB l := (hp _ (List.mem_cons_of_mem _ List.mem_cons_self))
  have hll : l.length < 4611686018427387904 := (hp _ (List.mem_cons_of_mem _ (List.mem_cons_of_mem _ List.mem_cons_self)))
  have h1 : kindE 9 l 0 = 0 := (hp _ (List.mem_cons_of_mem _ (List.mem_cons_of_mem _ (List.mem_cons_of_mem _ List.mem_cons_self))))
  have h2 : takeN l 1 = 8 := (hp _ (List.mem_cons_of_mem _ (List.mem_cons_of_mem _ (List.mem_cons_of_mem _ (List.mem_cons_of_mem _ List.mem_cons_self)))))
  obtain ⟨hv, hs⟩ := kind_at h1 h2
  have hz : eyOk l (atF l (takeR l 1)) 0 := eyOk_no
  clear hp
  have hp : msgPart l = pGet tyParts messagesT (pNat 8) := by unfold msgPart; rw [hv]
  have D0 : dropF l (atF l (takeR l 1)) = (takeR l 1) := drop_at (takeR_suf _ (List.suffix_refl _))
  have D1 : dropF l (atF l (takeR (takeR l 1) 1)) = (takeR (takeR l 1) 1) := drop_at (takeR_suf _ (takeR_suf _ (List.suffix_refl _)))
  have D2 : dropF l (atF l (takeR (takeR (takeR l 1) 1) 1)) = (takeR (takeR (takeR l 1) 1) 1) := drop_at (takeR_suf _ (takeR_suf _ (takeR_suf _ (List.suffix_refl _))))
  have D3 : dropF l (atF l (takeR (takeR (takeR (takeR l 1) 1) 1) 1)) = (takeR (takeR (takeR (takeR l 1) 1) 1) 1) := drop_at (takeR_suf _ (takeR_suf _ (takeR_suf _ (takeR_suf _ (List.suffix_refl _)))))
  have D4 : dropF l (atF l (takeR (takeR (takeR (takeR (takeR l 1) 1) 1) 1) 3)) = (takeR (takeR (takeR (takeR (takeR l 1) 1) 1) 1) 3) := drop_at (takeR_suf _ (takeR_suf _ (takeR_suf _ (takeR_suf _ (takeR_suf _ (List.suffix_refl _))))))
  unfold MessageOf8_VC
  simp only [drop_zero, D0, D1, D2, D3, D4]
  refine ⟨hl, bif_ok (fun h => ?_) fun hc => ?_⟩
  · obtain ⟨e1, e2⟩ := msgO_cfg (b := l) h
    rw [e1, e2]
  · (repeat' (first | refine msg_end2 ?_ hc hl ?_ ?_ | with_reducible refine And.intro ?_ ?_ | fail))
    all_goals first
      | exact hb
      | exact hll
      | exact h1
      | exact h2
      | exact eyOk_zero
      | (repeat' (first | exact hz | refine eyOk_next' ?_ ?_ (by decide) | refine eyOk_bit ?_ ?_ | exact List.suffix_refl _ | refine takeR_suf _ ?_)
         done)
      | (repeat' (first | exact List.suffix_refl _ | refine takeR_suf _ ?_)
         done)
      | decide
      | (rw [hp]; unfold mS12 mS11 mS10 mS9 mS8 mS7 mS6 mS5; rw [hs]; rfl)
      | (rw [hp, hv]; unfold msgRaw mS11 mS10 mS9 mS8 mS7 mS6 mS5; rw [hs]; rfl)
      | skip

theorem yfirst9_9_ok : Meets Tryd.prog (fun _ => none) 60 cyfirst9_9 := meets_mono yfirst_ok fun x hp => by
  have h1 : okB x.2.1.1 := (hp _ List.mem_cons_self)
  have h2 : pLen x.2.1.1 < 4611686018427387904 := (hp _ (List.mem_cons_of_mem _ List.mem_cons_self))
  have h0 : eyOk x.2.1.1 x.2.1.2.1 x.2.1.2.2.1 := (hp _ (List.mem_cons_of_mem _ (List.mem_cons_of_mem _ List.mem_cons_self)))
  have h3 : pEq x.1.2.1 9 = true := (hp _ (List.mem_cons_of_mem _ (List.mem_cons_of_mem _ (List.mem_cons_of_mem _ List.mem_cons_self))))
  have h4 : kindE 9 (dropF x.2.1.1 x.2.1.2.1) x.2.1.2.2.1 = 0 := (hp _ (List.mem_cons_of_mem _ (List.mem_cons_of_mem _ (List.mem_cons_of_mem _ (List.mem_cons_of_mem _ List.mem_cons_self)))))
  have h5 : takeN (dropF x.2.1.1 x.2.1.2.1) 1 = 9 := (hp _ (List.mem_cons_of_mem _ (List.mem_cons_of_mem _ (List.mem_cons_of_mem _ (List.mem_cons_of_mem _ (List.mem_cons_of_mem _ List.mem_cons_self))))))
  have h6 : x.1.2.1 = 9 := by simpa [pEq] using h3
  refine ⟨fun p hq => ?_, ?_⟩
  · simp only [List.mem_cons, List.not_mem_nil, or_false] at hq
    rcases hq with rfl | rfl | rfl
    · exact h1
    · exact h2
    · exact h0
  · show (cond (pEq (kindE x.1.2.1 (dropF x.2.1.1 x.2.1.2.1) x.2.1.2.2.1) 0) (takeN (dropF x.2.1.1 x.2.1.2.1) 1) 0, (x.2.1.1, atF x.2.1.1 (takeR (dropF x.2.1.1 x.2.1.2.1) 1), kindE x.1.2.1 (dropF x.2.1.1 x.2.1.2.1) x.2.1.2.2.1, ()), ()) = _
    rw [h6, h4, h5]
    rfl
set_option maxHeartbeats 4000000 in
theorem MessageOf9_ok : Meets Tryd.prog (fun _ => none) 29 cMessageOf9 := MessageOf9_meets cFault_ok yfirst9_9_ok ynum_ok ywho_ok yyes_ok MessageFault_ok fun cn cl cp l hp => by
  have hl : cl.length < 4611686018427387904 := (hp _ List.mem_cons_self)
  have hb : okB l := (hp _ (List.mem_cons_of_mem _ List.mem_cons_self))
  have hll : l.length < 4611686018427387904 := (hp _ (List.mem_cons_of_mem _ (List.mem_cons_of_mem _ List.mem_cons_self)))
  have h1 : kindE 9 l 0 = 0 := (hp _ (List.mem_cons_of_mem _ (List.mem_cons_of_mem _ (List.mem_cons_of_mem _ List.mem_cons_self))))
  have h2 : takeN l 1 = 9 := (hp _ (List.mem_cons_of_mem _ (List.mem_cons_of_mem _ (List.mem_cons_of_mem _ (List.mem_cons_of_mem _ List.mem_cons_self)))))
  obtain ⟨hv, hs⟩ := kind_at h1 h2
  have hz : eyOk l (atF l (takeR l 1)) 0 := eyOk_no
  clear hp
  have hp : msgPart l = pGet tyParts messagesT (pNat 9) := by unfold msgPart; rw [hv]
  have D0 : dropF l (atF l (takeR l 1)) = (takeR l 1) := drop_at (takeR_suf _ (List.suffix_refl _))
  have D1 : dropF l (atF l (takeR (takeR l 1) 1)) = (takeR (takeR l 1) 1) := drop_at (takeR_suf _ (takeR_suf _ (List.suffix_refl _)))
  have D2 : dropF l (atF l (takeR (takeR (takeR l 1) 1) 1)) = (takeR (takeR (takeR l 1) 1) 1) := drop_at (takeR_suf _ (takeR_suf _ (takeR_suf _ (List.suffix_refl _))))
  have D3 : dropF l (atF l (takeR (takeR (takeR (takeR l 1) 1) 1) 1)) = (takeR (takeR (takeR (takeR l 1) 1) 1) 1) := drop_at (takeR_suf _ (takeR_suf _ (takeR_suf _ (takeR_suf _ (List.suffix_refl _)))))
  have D4 : dropF l (atF l (takeR (takeR (takeR (takeR (takeR l 1) 1) 1) 1) 3)) = (takeR (takeR (takeR (takeR (takeR l 1) 1) 1) 1) 3) := drop_at (takeR_suf _ (takeR_suf _ (takeR_suf _ (takeR_suf _ (takeR_suf _ (List.suffix_refl _))))))
  unfold MessageOf9_VC
  simp only [drop_zero, D0, D1, D2, D3, D4]
  refine ⟨hl, bif_ok (fun h => ?_) fun hc => ?_⟩
  · obtain ⟨e1, e2⟩ := msgO_cfg (b := l) h
    rw [e1, e2]
  · (repeat' (first | refine msg_end2 ?_ hc hl ?_ ?_ | with_reducible refine And.intro ?_ ?_ | fail))
    all_goals first
      | exact hb
      | exact hll
      | exact h1
      | exact h2
      | exact eyOk_zero
      | (repeat' (first | exact hz | refine eyOk_next' ?_ ?_ (by decide) | refine eyOk_bit ?_ ?_ | exact List.suffix_refl _ | refine takeR_suf _ ?_)
         done)
      | (repeat' (first | exact List.suffix_refl _ | refine takeR_suf _ ?_)
         done)
      | decide
      | (rw [hp]; unfold mS12 mS11 mS10 mS9 mS8 mS7 mS6 mS5; rw [hs]; rfl)
      | (rw [hp, hv]; unfold msgRaw mS11 mS10 mS9 mS8 mS7 mS6 mS5; rw [hs]; rfl)
      | skip

def preMO : Fin 10 → Shape.den ⟨[pCfg, .one (.rd (.sl tyB))], []⟩ → List Prop := fun i x =>
  [pLen x.1.1.2.1 < 4611686018427387904, okB x.1.2.1, pLen x.1.2.1 < 4611686018427387904] ++ (if i.val = 0 then [pEq (kindE 9 x.1.2.1 0) 0 = false] else [kindE 9 x.1.2.1 0 = 0, takeN x.1.2.1 1 = (i.val : Int)])
theorem MessageOf_ok : Meets Tryd.prog (fun _ => none) 29 cMessageOf := by
  refine meets_split preMO 0 (fun i => ?_) fun x hp => ?_
  · match i with
    | ⟨0, _⟩ => exact MessageOf0_ok
    | ⟨1, _⟩ => exact MessageOf1_ok
    | ⟨2, _⟩ => exact MessageOf2_ok
    | ⟨3, _⟩ => exact MessageOf3_ok
    | ⟨4, _⟩ => exact MessageOf4_ok
    | ⟨5, _⟩ => exact MessageOf5_ok
    | ⟨6, _⟩ => exact MessageOf6_ok
    | ⟨7, _⟩ => exact MessageOf7_ok
    | ⟨8, _⟩ => exact MessageOf8_ok
    | ⟨9, _⟩ => exact MessageOf9_ok
  · have h1 : pLen x.1.1.2.1 < 4611686018427387904 := (hp _ List.mem_cons_self)
    have h2 : okB x.1.2.1 := (hp _ (List.mem_cons_of_mem _ List.mem_cons_self))
    have h3 : pLen x.1.2.1 < 4611686018427387904 := (hp _ (List.mem_cons_of_mem _ (List.mem_cons_of_mem _ List.mem_cons_self)))
    rcases kinds9 x.1.2.1 with h | ⟨h, k, hk⟩
    · refine ⟨0, fun p hq => ?_⟩
      simp only [preMO, List.cons_append, List.nil_append, List.mem_cons, List.not_mem_nil, or_false, Fin.val_zero, if_true] at hq
      rcases hq with rfl | rfl | rfl | rfl
      · exact h1
      · exact h2
      · exact h3
      · exact h
    · refine ⟨⟨k.val + 1, by omega⟩, fun p hq => ?_⟩
      simp only [preMO, List.cons_append, List.nil_append, List.mem_cons, List.not_mem_nil, or_false, Nat.add_one_ne_zero, if_false] at hq
      rcases hq with rfl | rfl | rfl | rfl | rfl
      · exact h1
      · exact h2
      · exact h3
      · exact h
      · rw [hk]; rfl

end Go.Proofs.YtkimjjndbcbiaaaDoor
