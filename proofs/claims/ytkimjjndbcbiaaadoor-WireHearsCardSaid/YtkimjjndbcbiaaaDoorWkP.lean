/- wire.DecodeMessage meets its contract: by kinds. No condition. -/
import Derived.Test.YtkimjjndbcbiaaaDoorWkV
import Derived.Test.YtkimjjndbcbiaaaDoorWhQ
import Derived.Test.YtkimjjndbcbiaaaDoorNeP
namespace Go.Proofs.YtkimjjndbcbiaaaDoor
open Go.RowKit

theorem row0 : pGet tyParts messagesT (pNat 0) = (false, false, false, false, false, false, false, false, ()) := rfl

theorem msgO_cfg {c : CfgD} {b : List ByteD} (h : pNe (cfgF c) 0 = true) : msgOE c b = cfgF c ∧ msgO c b = noMsg := by
  have h1 : pEq (cfgF c) 0 = false := by simpa [pNe, pEq] using h
  have h2 : msgOE c b = cfgF c := by unfold msgOE; rw [h1]; rfl
  refine ⟨h2, ?_⟩
  unfold msgO; rw [h2, h1]; rfl
theorem msg_end {c : CfgD} {b : List ByteD} {R : List ByteD} {F : Int} {m : MsgD} {P : Prop} (hc : pNe (cfgF c) 0 = false) (hP : P) (hS : mS12 (msgPart b) b = (R, F)) (hm : msgRaw (msgPart b) (kindV 9 b) b = m) :
    bif pEq (endE R F) 0 then (P ∧ bif pNe (msgF c m) 0 then (noMsg, msgF c m, ()) = (msgO c b, msgOE c b, ()) else (m, 0, ()) = (msgO c b, msgOE c b, ())) else
      bif pNe (endE R F) 0 then (noMsg, endE R F, ()) = (msgO c b, msgOE c b, ()) else (m, 0, ()) = (msgO c b, msgOE c b, ()) := by
  have h1 : pEq (cfgF c) 0 = true := by simpa [pNe, pEq] using hc
  have h2 : msgOE c b = cond (pEq (endE R F) 0) (msgF c m) (endE R F) := by
    unfold msgOE; rw [h1, hS, hm]; rfl
  have h3 : msgO c b = cond (pEq (msgOE c b) 0) m noMsg := by unfold msgO; rw [hm]
  rw [h3, h2]
  cases he : pEq (endE R F) 0 with
  | true =>
    simp only [cond_true]
    refine ⟨hP, ?_⟩
    cases hq : pEq (msgF c m) 0 with
    | true =>
      have : msgF c m = 0 := by simpa [pEq] using hq
      rw [show pNe (msgF c m) 0 = false by simpa [pNe, pEq] using hq, this]; rfl
    | false => rw [show pNe (msgF c m) 0 = true by simpa [pNe, pEq] using hq]; rfl
  | false =>
    rw [show pNe (endE R F) 0 = true by simpa [pNe, pEq] using he]
    show (noMsg, endE R F, ()) = (cond (pEq (endE R F) 0) m noMsg, endE R F, ())
    rw [he]; rfl

theorem kind_at {k : Int} {b : List ByteD} {n : Int} (h : kindE k b 0 = 0) (hn : takeN b 1 = n) : kindV k b = n ∧ kindS k b = (takeR b 1, 0) := by
  unfold kindV kindS
  rw [h, hn]
  exact ⟨rfl, rfl⟩
theorem kind_no {k : Int} {b : List ByteD} (h : pEq (kindE k b 0) 0 = false) : kindV k b = 0 := by
  unfold kindV; rw [h]; rfl

theorem rkind9_0_ok : Meets Tryd.prog (fun _ => none) 55 crkind9_0 := meets_mono rkind_ok fun x hp => by
  have h1 : okB x.2.1.1 := (hp _ List.mem_cons_self)
  have h2 : pLen x.2.1.1 < 4611686018427387904 := (hp _ (List.mem_cons_of_mem _ List.mem_cons_self))
  have h3 : pEq x.1.2.1 9 = true := (hp _ (List.mem_cons_of_mem _ (List.mem_cons_of_mem _ List.mem_cons_self)))
  have h4 : pEq (kindE 9 x.2.1.1 x.2.1.2.1) 0 = false := (hp _ (List.mem_cons_of_mem _ (List.mem_cons_of_mem _ (List.mem_cons_of_mem _ List.mem_cons_self))))
  have h6 : x.1.2.1 = 9 := by simpa [pEq] using h3
  refine ⟨fun p hq => ?_, ?_⟩
  · simp only [List.mem_cons, List.not_mem_nil, or_false] at hq
    rcases hq with rfl | rfl
    · exact h1
    · exact h2
  · show (cond (pEq (kindE x.1.2.1 x.2.1.1 x.2.1.2.1) 0) (takeN x.2.1.1 1) 0, (takeR x.2.1.1 1, kindE x.1.2.1 x.2.1.1 x.2.1.2.1, ()), ()) = _
    rw [h6, h4]
    rfl
set_option maxHeartbeats 2000000 in
theorem DecodeMessage0_ok : Meets Tryd.prog tabsM 28 cDecodeMessage0 := DecodeMessage0_meets lCheck_ok.any cloneB_ok.any rkind9_0_ok.any rtake_ok.any rtxn_ok.any rbit_ok.any rend_ok.any CheckMessage_ok fun cn cl cp l hp => by
  have hl : cl.length < 4611686018427387904 := (hp _ List.mem_cons_self)
  have hb : okB l := (hp _ (List.mem_cons_of_mem _ List.mem_cons_self))
  have hr : pRoom (pLen l) 1 := (hp _ (List.mem_cons_of_mem _ (List.mem_cons_of_mem _ List.mem_cons_self)))
  have h1 : pEq (kindE 9 l 0) 0 = false := (hp _ (List.mem_cons_of_mem _ (List.mem_cons_of_mem _ (List.mem_cons_of_mem _ List.mem_cons_self))))
  have hv := kind_no h1
  have hs : kindS 9 l = (takeR l 1, kindE 9 l 0) := rfl
  clear hp
  have hll : l.length < 4611686018427387904 := by unfold pRoom pLen at hr; omega
  have hp : msgPart l = pGet tyParts messagesT (pNat 0) := by unfold msgPart; rw [hv]
  unfold DecodeMessage0_VC
  refine ⟨hl, bif_ok (fun h => ?_) fun hc => ?_⟩
  · obtain ⟨e1, e2⟩ := msgO_cfg (b := l) h
    rw [e1, e2]
  · (repeat' (first | refine msg_end hc hl ?_ ?_ | with_reducible refine And.intro ?_ ?_ | fail))
    all_goals first
      | exact hr
      | exact h1
      | (repeat' refine okB_takeR ?_
         exact hb)
      | (repeat' refine len_takeR ?_
         exact hll)
      | decide
      | (unfold pIn; decide)
      | (rw [hp]; unfold mS12 mS11 mS10 mS9 mS8 mS7 mS6 mS5; rw [hs]; rfl)
      | (rw [hp, hv]; unfold msgRaw mS11 mS10 mS9 mS8 mS7 mS6 mS5; rw [hs]; rfl)
      | skip

theorem rkind9_1_ok : Meets Tryd.prog (fun _ => none) 55 crkind9_1 := meets_mono rkind_ok fun x hp => by
  have h1 : okB x.2.1.1 := (hp _ List.mem_cons_self)
  have h2 : pLen x.2.1.1 < 4611686018427387904 := (hp _ (List.mem_cons_of_mem _ List.mem_cons_self))
  have h3 : pEq x.1.2.1 9 = true := (hp _ (List.mem_cons_of_mem _ (List.mem_cons_of_mem _ List.mem_cons_self)))
  have h4 : kindE 9 x.2.1.1 x.2.1.2.1 = 0 := (hp _ (List.mem_cons_of_mem _ (List.mem_cons_of_mem _ (List.mem_cons_of_mem _ List.mem_cons_self))))
  have h5 : takeN x.2.1.1 1 = 1 := (hp _ (List.mem_cons_of_mem _ (List.mem_cons_of_mem _ (List.mem_cons_of_mem _ (List.mem_cons_of_mem _ List.mem_cons_self)))))
  have h6 : x.1.2.1 = 9 := by simpa [pEq] using h3
  refine ⟨fun p hq => ?_, ?_⟩
  · simp only [List.mem_cons, List.not_mem_nil, or_false] at hq
    rcases hq with rfl | rfl
    · exact h1
    · exact h2
  · show (cond (pEq (kindE x.1.2.1 x.2.1.1 x.2.1.2.1) 0) (takeN x.2.1.1 1) 0, (takeR x.2.1.1 1, kindE x.1.2.1 x.2.1.1 x.2.1.2.1, ()), ()) = _
    rw [h6, h4, h5]
    rfl
set_option maxHeartbeats 2000000 in
theorem DecodeMessage1_ok : Meets Tryd.prog tabsM 28 cDecodeMessage1 := DecodeMessage1_meets lCheck_ok.any cloneB_ok.any rkind9_1_ok.any rtake_ok.any rtxn_ok.any rbit_ok.any rend_ok.any CheckMessage_ok fun cn cl cp l hp => by
  have hl : cl.length < 4611686018427387904 := (hp _ List.mem_cons_self)
  have hb : okB l := (hp _ (List.mem_cons_of_mem _ List.mem_cons_self))
  have hr : pRoom (pLen l) 1 := (hp _ (List.mem_cons_of_mem _ (List.mem_cons_of_mem _ List.mem_cons_self)))
  have h1 : kindE 9 l 0 = 0 := (hp _ (List.mem_cons_of_mem _ (List.mem_cons_of_mem _ (List.mem_cons_of_mem _ List.mem_cons_self))))
  have h2 : takeN l 1 = 1 := (hp _ (List.mem_cons_of_mem _ (List.mem_cons_of_mem _ (List.mem_cons_of_mem _ (List.mem_cons_of_mem _ List.mem_cons_self)))))
  obtain ⟨hv, hs⟩ := kind_at h1 h2
  clear hp
  have hll : l.length < 4611686018427387904 := by unfold pRoom pLen at hr; omega
  have hp : msgPart l = pGet tyParts messagesT (pNat 1) := by unfold msgPart; rw [hv]
  unfold DecodeMessage1_VC
  refine ⟨hl, bif_ok (fun h => ?_) fun hc => ?_⟩
  · obtain ⟨e1, e2⟩ := msgO_cfg (b := l) h
    rw [e1, e2]
  · (repeat' (first | refine msg_end hc hl ?_ ?_ | with_reducible refine And.intro ?_ ?_ | fail))
    all_goals first
      | exact hr
      | exact h1
      | exact h2
      | (repeat' refine okB_takeR ?_
         exact hb)
      | (repeat' refine len_takeR ?_
         exact hll)
      | decide
      | (unfold pIn; decide)
      | (rw [hp]; unfold mS12 mS11 mS10 mS9 mS8 mS7 mS6 mS5; rw [hs]; rfl)
      | (rw [hp, hv]; unfold msgRaw mS11 mS10 mS9 mS8 mS7 mS6 mS5; rw [hs]; rfl)
      | skip

theorem rkind9_2_ok : Meets Tryd.prog (fun _ => none) 55 crkind9_2 := meets_mono rkind_ok fun x hp => by
  have h1 : okB x.2.1.1 := (hp _ List.mem_cons_self)
  have h2 : pLen x.2.1.1 < 4611686018427387904 := (hp _ (List.mem_cons_of_mem _ List.mem_cons_self))
  have h3 : pEq x.1.2.1 9 = true := (hp _ (List.mem_cons_of_mem _ (List.mem_cons_of_mem _ List.mem_cons_self)))
  have h4 : kindE 9 x.2.1.1 x.2.1.2.1 = 0 := (hp _ (List.mem_cons_of_mem _ (List.mem_cons_of_mem _ (List.mem_cons_of_mem _ List.mem_cons_self))))
  have h5 : takeN x.2.1.1 1 = 2 := (hp _ (List.mem_cons_of_mem _ (List.mem_cons_of_mem _ (List.mem_cons_of_mem _ (List.mem_cons_of_mem _ List.mem_cons_self)))))
  have h6 : x.1.2.1 = 9 := by simpa [pEq] using h3
  refine ⟨fun p hq => ?_, ?_⟩
  · simp only [List.mem_cons, List.not_mem_nil, or_false] at hq
    rcases hq with rfl | rfl
    · exact h1
    · exact h2
  · show (cond (pEq (kindE x.1.2.1 x.2.1.1 x.2.1.2.1) 0) (takeN x.2.1.1 1) 0, (takeR x.2.1.1 1, kindE x.1.2.1 x.2.1.1 x.2.1.2.1, ()), ()) = _
    rw [h6, h4, h5]
    rfl
set_option maxHeartbeats 2000000 in
theorem DecodeMessage2_ok : Meets Tryd.prog tabsM 28 cDecodeMessage2 := DecodeMessage2_meets lCheck_ok.any cloneB_ok.any rkind9_2_ok.any rtake_ok.any rtxn_ok.any rbit_ok.any rend_ok.any CheckMessage_ok fun cn cl cp l hp => by
  have hl : cl.length < 4611686018427387904 := (hp _ List.mem_cons_self)
  have hb : okB l := (hp _ (List.mem_cons_of_mem _ List.mem_cons_self))
  have hr : pRoom (pLen l) 1 := (hp _ (List.mem_cons_of_mem _ (List.mem_cons_of_mem _ List.mem_cons_self)))
  have h1 : kindE 9 l 0 = 0 := (hp _ (List.mem_cons_of_mem _ (List.mem_cons_of_mem _ (List.mem_cons_of_mem _ List.mem_cons_self))))
  have h2 : takeN l 1 = 2 := (hp _ (List.mem_cons_of_mem _ (List.mem_cons_of_mem _ (List.mem_cons_of_mem _ (List.mem_cons_of_mem _ List.mem_cons_self)))))
  obtain ⟨hv, hs⟩ := kind_at h1 h2
  clear hp
  have hll : l.length < 4611686018427387904 := by unfold pRoom pLen at hr; omega
  have hp : msgPart l = pGet tyParts messagesT (pNat 2) := by unfold msgPart; rw [hv]
  unfold DecodeMessage2_VC
  refine ⟨hl, bif_ok (fun h => ?_) fun hc => ?_⟩
  · obtain ⟨e1, e2⟩ := msgO_cfg (b := l) h
    rw [e1, e2]
  · (repeat' (first | refine msg_end hc hl ?_ ?_ | with_reducible refine And.intro ?_ ?_ | fail))
    all_goals first
      | exact hr
      | exact h1
      | exact h2
      | (repeat' refine okB_takeR ?_
         exact hb)
      | (repeat' refine len_takeR ?_
         exact hll)
      | decide
      | (unfold pIn; decide)
      | (rw [hp]; unfold mS12 mS11 mS10 mS9 mS8 mS7 mS6 mS5; rw [hs]; rfl)
      | (rw [hp, hv]; unfold msgRaw mS11 mS10 mS9 mS8 mS7 mS6 mS5; rw [hs]; rfl)
      | skip

theorem rkind9_3_ok : Meets Tryd.prog (fun _ => none) 55 crkind9_3 := meets_mono rkind_ok fun x hp => by
  have h1 : okB x.2.1.1 := (hp _ List.mem_cons_self)
  have h2 : pLen x.2.1.1 < 4611686018427387904 := (hp _ (List.mem_cons_of_mem _ List.mem_cons_self))
  have h3 : pEq x.1.2.1 9 = true := (hp _ (List.mem_cons_of_mem _ (List.mem_cons_of_mem _ List.mem_cons_self)))
  have h4 : kindE 9 x.2.1.1 x.2.1.2.1 = 0 := (hp _ (List.mem_cons_of_mem _ (List.mem_cons_of_mem _ (List.mem_cons_of_mem _ List.mem_cons_self))))
  have h5 : takeN x.2.1.1 1 = 3 := (hp _ (List.mem_cons_of_mem _ (List.mem_cons_of_mem _ (List.mem_cons_of_mem _ (List.mem_cons_of_mem _ List.mem_cons_self)))))
  have h6 : x.1.2.1 = 9 := by simpa [pEq] using h3
  refine ⟨fun p hq => ?_, ?_⟩
  · simp only [List.mem_cons, List.not_mem_nil, or_false] at hq
    rcases hq with rfl | rfl
    · exact h1
    · exact h2
  · show (cond (pEq (kindE x.1.2.1 x.2.1.1 x.2.1.2.1) 0) (takeN x.2.1.1 1) 0, (takeR x.2.1.1 1, kindE x.1.2.1 x.2.1.1 x.2.1.2.1, ()), ()) = _
    rw [h6, h4, h5]
    rfl
set_option maxHeartbeats 2000000 in
theorem DecodeMessage3_ok : Meets Tryd.prog tabsM 28 cDecodeMessage3 := DecodeMessage3_meets lCheck_ok.any cloneB_ok.any rkind9_3_ok.any rtake_ok.any rtxn_ok.any rbit_ok.any rend_ok.any CheckMessage_ok fun cn cl cp l hp => by
  have hl : cl.length < 4611686018427387904 := (hp _ List.mem_cons_self)
  have hb : okB l := (hp _ (List.mem_cons_of_mem _ List.mem_cons_self))
  have hr : pRoom (pLen l) 1 := (hp _ (List.mem_cons_of_mem _ (List.mem_cons_of_mem _ List.mem_cons_self)))
  have h1 : kindE 9 l 0 = 0 := (hp _ (List.mem_cons_of_mem _ (List.mem_cons_of_mem _ (List.mem_cons_of_mem _ List.mem_cons_self))))
  have h2 : takeN l 1 = 3 := (hp _ (List.mem_cons_of_mem _ (List.mem_cons_of_mem _ (List.mem_cons_of_mem _ (List.mem_cons_of_mem _ List.mem_cons_self)))))
  obtain ⟨hv, hs⟩ := kind_at h1 h2
  clear hp
  have hll : l.length < 4611686018427387904 := by unfold pRoom pLen at hr; omega
  have hp : msgPart l = pGet tyParts messagesT (pNat 3) := by unfold msgPart; rw [hv]
  unfold DecodeMessage3_VC
  refine ⟨hl, bif_ok (fun h => ?_) fun hc => ?_⟩
  · obtain ⟨e1, e2⟩ := msgO_cfg (b := l) h
    rw [e1, e2]
  · (repeat' (first | refine msg_end hc hl ?_ ?_ | with_reducible refine And.intro ?_ ?_ | fail))
    all_goals first
      | exact hr
      | exact h1
      | exact h2
      | (repeat' refine okB_takeR ?_
         exact hb)
      | (repeat' refine len_takeR ?_
         exact hll)
      | decide
      | (unfold pIn; decide)
      | (rw [hp]; unfold mS12 mS11 mS10 mS9 mS8 mS7 mS6 mS5; rw [hs]; rfl)
      | (rw [hp, hv]; unfold msgRaw mS11 mS10 mS9 mS8 mS7 mS6 mS5; rw [hs]; rfl)
      | skip

theorem rkind9_4_ok : Meets Tryd.prog (fun _ => none) 55 crkind9_4 := meets_mono rkind_ok fun x hp => by
  have h1 : okB x.2.1.1 := (hp _ List.mem_cons_self)
  have h2 : pLen x.2.1.1 < 4611686018427387904 := (hp _ (List.mem_cons_of_mem _ List.mem_cons_self))
  have h3 : pEq x.1.2.1 9 = true := (hp _ (List.mem_cons_of_mem _ (List.mem_cons_of_mem _ List.mem_cons_self)))
  have h4 : kindE 9 x.2.1.1 x.2.1.2.1 = 0 := (hp _ (List.mem_cons_of_mem _ (List.mem_cons_of_mem _ (List.mem_cons_of_mem _ List.mem_cons_self))))
  have h5 : takeN x.2.1.1 1 = 4 := (hp _ (List.mem_cons_of_mem _ (List.mem_cons_of_mem _ (List.mem_cons_of_mem _ (List.mem_cons_of_mem _ List.mem_cons_self)))))
  have h6 : x.1.2.1 = 9 := by simpa [pEq] using h3
  refine ⟨fun p hq => ?_, ?_⟩
  · simp only [List.mem_cons, List.not_mem_nil, or_false] at hq
    rcases hq with rfl | rfl
    · exact h1
    · exact h2
  · show (cond (pEq (kindE x.1.2.1 x.2.1.1 x.2.1.2.1) 0) (takeN x.2.1.1 1) 0, (takeR x.2.1.1 1, kindE x.1.2.1 x.2.1.1 x.2.1.2.1, ()), ()) = _
    rw [h6, h4, h5]
    rfl
set_option maxHeartbeats 2000000 in
theorem DecodeMessage4_ok : Meets Tryd.prog tabsM 28 cDecodeMessage4 := DecodeMessage4_meets lCheck_ok.any cloneB_ok.any rkind9_4_ok.any rtake_ok.any rtxn_ok.any rbit_ok.any rend_ok.any CheckMessage_ok fun cn cl cp l hp => by
  have hl : cl.length < 4611686018427387904 := (hp _ List.mem_cons_self)
  have hb : okB l := (hp _ (List.mem_cons_of_mem _ List.mem_cons_self))
  have hr : pRoom (pLen l) 1 := (hp _ (List.mem_cons_of_mem _ (List.mem_cons_of_mem _ List.mem_cons_self)))
  have h1 : kindE 9 l 0 = 0 := (hp _ (List.mem_cons_of_mem _ (List.mem_cons_of_mem _ (List.mem_cons_of_mem _ List.mem_cons_self))))
  have h2 : takeN l 1 = 4 := (hp _ (List.mem_cons_of_mem _ (List.mem_cons_of_mem _ (List.mem_cons_of_mem _ (List.mem_cons_of_mem _ List.mem_cons_self)))))
  obtain ⟨hv, hs⟩ := kind_at h1 h2
  clear hp
  have hll : l.length < 4611686018427387904 := by unfold pRoom pLen at hr; omega
  have hp : msgPart l = pGet tyParts messagesT (pNat 4) := by unfold msgPart; rw [hv]
  unfold DecodeMessage4_VC
  refine ⟨hl, bif_ok (fun h => ?_) fun hc => ?_⟩
  · obtain ⟨e1, e2⟩ := msgO_cfg (b := l) h
    rw [e1, e2]
  · (repeat' (first | refine msg_end hc hl ?_ ?_ | with_reducible refine And.intro ?_ ?_ | fail))
    all_goals first
      | exact hr
      | exact h1
      | exact h2
      | (repeat' refine okB_takeR ?_
         exact hb)
      | (repeat' refine len_takeR ?_
         exact hll)
      | decide
      | (unfold pIn; decide)
      | (rw [hp]; unfold mS12 mS11 mS10 mS9 mS8 mS7 mS6 mS5; rw [hs]; rfl)
      | (rw [hp, hv]; unfold msgRaw mS11 mS10 mS9 mS8 mS7 mS6 mS5; rw [hs]; rfl)
      | skip

theorem rkind9_5_ok : Meets Tryd.prog (fun _ => none) 55 crkind9_5 := meets_mono rkind_ok fun x hp => by
  have h1 : okB x.2.1.1 := (hp _ List.mem_cons_self)
  have h2 : pLen x.2.1.1 < 4611686018427387904 := (hp _ (List.mem_cons_of_mem _ List.mem_cons_self))
  have h3 : pEq x.1.2.1 9 = true := (hp _ (List.mem_cons_of_mem _ (List.mem_cons_of_mem _ List.mem_cons_self)))
  have h4 : kindE 9 x.2.1.1 x.2.1.2.1 = 0 := (hp _ (List.mem_cons_of_mem _ (List.mem_cons_of_mem _ (List.mem_cons_of_mem _ List.mem_cons_self))))
  have h5 : takeN x.2.1.1 1 = 5 := (hp _ (List.mem_cons_of_mem _ (List.mem_cons_of_mem _ (List.mem_cons_of_mem _ (List.mem_cons_of_mem _ List.mem_cons_self)))))
  have h6 : x.1.2.1 = 9 := by simpa [pEq] using h3
  refine ⟨fun p hq => ?_, ?_⟩
  · simp only [List.mem_cons, List.not_mem_nil, or_false] at hq
    rcases hq with rfl | rfl
    · exact h1
    · exact h2
  · show (cond (pEq (kindE x.1.2.1 x.2.1.1 x.2.1.2.1) 0) (takeN x.2.1.1 1) 0, (takeR x.2.1.1 1, kindE x.1.2.1 x.2.1.1 x.2.1.2.1, ()), ()) = _
    rw [h6, h4, h5]
    rfl
set_option maxHeartbeats 2000000 in
theorem DecodeMessage5_ok : Meets Tryd.prog tabsM 28 cDecodeMessage5 := DecodeMessage5_meets lCheck_ok.any cloneB_ok.any rkind9_5_ok.any rtake_ok.any rtxn_ok.any rbit_ok.any rend_ok.any CheckMessage_ok fun cn cl cp l hp => by
  have hl : cl.length < 4611686018427387904 := (hp _ List.mem_cons_self)
  have hb : okB l := (hp _ (List.mem_cons_of_mem _ List.mem_cons_self))
  have hr : pRoom (pLen l) 1 := (hp _ (List.mem_cons_of_mem _ (List.mem_cons_of_mem _ List.mem_cons_self)))
  have h1 : kindE 9 l 0 = 0 := (hp _ (List.mem_cons_of_mem _ (List.mem_cons_of_mem _ (List.mem_cons_of_mem _ List.mem_cons_self))))
  have h2 : takeN l 1 = 5 := (hp _ (List.mem_cons_of_mem _ (List.mem_cons_of_mem _ (List.mem_cons_of_mem _ (List.mem_cons_of_mem _ List.mem_cons_self)))))
  obtain ⟨hv, hs⟩ := kind_at h1 h2
  clear hp
  have hll : l.length < 4611686018427387904 := by unfold pRoom pLen at hr; omega
  have hp : msgPart l = pGet tyParts messagesT (pNat 5) := by unfold msgPart; rw [hv]
  unfold DecodeMessage5_VC
  refine ⟨hl, bif_ok (fun h => ?_) fun hc => ?_⟩
  · obtain ⟨e1, e2⟩ := msgO_cfg (b := l) h
    rw [e1, e2]
  · (repeat' (first | refine msg_end hc hl ?_ ?_ | with_reducible refine And.intro ?_ ?_ | fail))
    all_goals first
      | exact hr
      | exact h1
      | exact h2
      | (repeat' refine okB_takeR ?_
         exact hb)
      | (repeat' refine len_takeR ?_
         exact hll)
      | decide
      | (unfold pIn; decide)
      | (rw [hp]; unfold mS12 mS11 mS10 mS9 mS8 mS7 mS6 mS5; rw [hs]; rfl)
      | (rw [hp, hv]; unfold msgRaw mS11 mS10 mS9 mS8 mS7 mS6 mS5; rw [hs]; rfl)
      | skip

theorem rkind9_6_ok : Meets Tryd.prog (fun _ => none) 55 crkind9_6 := meets_mono rkind_ok fun x hp => by
  have h1 : okB x.2.1.1 := (hp _ List.mem_cons_self)
  have h2 : pLen x.2.1.1 < 4611686018427387904 := (hp _ (List.mem_cons_of_mem _ List.mem_cons_self))
  have h3 : pEq x.1.2.1 9 = true := (hp _ (List.mem_cons_of_mem _ (List.mem_cons_of_mem _ List.mem_cons_self)))
  have h4 : kindE 9 x.2.1.1 x.2.1.2.1 = 0 := (hp _ (List.mem_cons_of_mem _ (List.mem_cons_of_mem _ (List.mem_cons_of_mem _ List.mem_cons_self))))
  have h5 : takeN x.2.1.1 1 = 6 := (hp _ (List.mem_cons_of_mem _ (List.mem_cons_of_mem _ (List.mem_cons_of_mem _ (List.mem_cons_of_mem _ List.mem_cons_self)))))
  have h6 : x.1.2.1 = 9 := by simpa [pEq] using h3
  refine ⟨fun p hq => ?_, ?_⟩
  · simp only [List.mem_cons, List.not_mem_nil, or_false] at hq
    rcases hq with rfl | rfl
    · exact h1
    · exact h2
  · show (cond (pEq (kindE x.1.2.1 x.2.1.1 x.2.1.2.1) 0) (takeN x.2.1.1 1) 0, (takeR x.2.1.1 1, kindE x.1.2.1 x.2.1.1 x.2.1.2.1, ()), ()) = _
    rw [h6, h4, h5]
    rfl
set_option maxHeartbeats 2000000 in
theorem DecodeMessage6_ok : Meets Tryd.prog tabsM 28 cDecodeMessage6 := DecodeMessage6_meets lCheck_ok.any cloneB_ok.any rkind9_6_ok.any rtake_ok.any rtxn_ok.any rbit_ok.any rend_ok.any CheckMessage_ok fun cn cl cp l hp => by
  have hl : cl.length < 4611686018427387904 := (hp _ List.mem_cons_self)
  have hb : okB l := (hp _ (List.mem_cons_of_mem _ List.mem_cons_self))
  have hr : pRoom (pLen l) 1 := (hp _ (List.mem_cons_of_mem _ (List.mem_cons_of_mem _ List.mem_cons_self)))
  have h1 : kindE 9 l 0 = 0 := (hp _ (List.mem_cons_of_mem _ (List.mem_cons_of_mem _ (List.mem_cons_of_mem _ List.mem_cons_self))))
  have h2 : takeN l 1 = 6 := (hp _ (List.mem_cons_of_mem _ (List.mem_cons_of_mem _ (List.mem_cons_of_mem _ (List.mem_cons_of_mem _ List.mem_cons_self)))))
  obtain ⟨hv, hs⟩ := kind_at h1 h2
  clear hp
  have hll : l.length < 4611686018427387904 := by unfold pRoom pLen at hr; omega
  have hp : msgPart l = pGet tyParts messagesT (pNat 6) := by unfold msgPart; rw [hv]
  unfold DecodeMessage6_VC
  refine ⟨hl, bif_ok (fun h => ?_) fun hc => ?_⟩
  · obtain ⟨e1, e2⟩ := msgO_cfg (b := l) h
    rw [e1, e2]
  · (repeat' (first | refine msg_end hc hl ?_ ?_ | with_reducible refine And.intro ?_ ?_ | fail))
    all_goals first
      | exact hr
      | exact h1
      | exact h2
      | (repeat' refine okB_takeR ?_
         exact hb)
      | (repeat' refine len_takeR ?_
         exact hll)
      | decide
      | (unfold pIn; decide)
      | (rw [hp]; unfold mS12 mS11 mS10 mS9 mS8 mS7 mS6 mS5; rw [hs]; rfl)
      | (rw [hp, hv]; unfold msgRaw mS11 mS10 mS9 mS8 mS7 mS6 mS5; rw [hs]; rfl)
      | skip

theorem rkind9_7_ok : Meets Tryd.prog (fun _ => none) 55 crkind9_7 := meets_mono rkind_ok fun x hp => by
  have h1 : okB x.2.1.1 := (hp _ List.mem_cons_self)
  have h2 : pLen x.2.1.1 < 4611686018427387904 := (hp _ (List.mem_cons_of_mem _ List.mem_cons_self))
  have h3 : pEq x.1.2.1 9 = true := (hp _ (List.mem_cons_of_mem _ (List.mem_cons_of_mem _ List.mem_cons_self)))
  have h4 : kindE 9 x.2.1.1 x.2.1.2.1 = 0 := (hp _ (List.mem_cons_of_mem _ (List.mem_cons_of_mem _ (List.mem_cons_of_mem _ List.mem_cons_self))))
  have h5 : takeN x.2.1.1 1 = 7 := (hp _ (List.mem_cons_of_mem _ (List.mem_cons_of_mem _ (List.mem_cons_of_mem _ (List.mem_cons_of_mem _ List.mem_cons_self)))))
  have h6 : x.1.2.1 = 9 := by simpa [pEq] using h3
  refine ⟨fun p hq => ?_, ?_⟩
  · simp only [List.mem_cons, List.not_mem_nil, or_false] at hq
    rcases hq with rfl | rfl
    · exact h1
    · exact h2
  · show (cond (pEq (kindE x.1.2.1 x.2.1.1 x.2.1.2.1) 0) (takeN x.2.1.1 1) 0, (takeR x.2.1.1 1, kindE x.1.2.1 x.2.1.1 x.2.1.2.1, ()), ()) = _
    rw [h6, h4, h5]
    rfl
set_option maxHeartbeats 2000000 in
theorem DecodeMessage7_ok : Meets Tryd.prog tabsM 28 cDecodeMessage7 := DecodeMessage7_meets lCheck_ok.any cloneB_ok.any rkind9_7_ok.any rtake_ok.any rtxn_ok.any rbit_ok.any rend_ok.any CheckMessage_ok fun cn cl cp l hp => by
  have hl : cl.length < 4611686018427387904 := (hp _ List.mem_cons_self)
  have hb : okB l := (hp _ (List.mem_cons_of_mem _ List.mem_cons_self))
  have hr : pRoom (pLen l) 1 := (hp _ (List.mem_cons_of_mem _ (List.mem_cons_of_mem _ List.mem_cons_self)))
  have h1 : kindE 9 l 0 = 0 := (hp _ (List.mem_cons_of_mem _ (List.mem_cons_of_mem _ (List.mem_cons_of_mem _ List.mem_cons_self))))
  have h2 : takeN l 1 = 7 := (hp _ (List.mem_cons_of_mem _ (List.mem_cons_of_mem _ (List.mem_cons_of_mem _ (List.mem_cons_of_mem _ List.mem_cons_self)))))
  obtain ⟨hv, hs⟩ := kind_at h1 h2
  clear hp
  have hll : l.length < 4611686018427387904 := by unfold pRoom pLen at hr; omega
  have hp : msgPart l = pGet tyParts messagesT (pNat 7) := by unfold msgPart; rw [hv]
  unfold DecodeMessage7_VC
  refine ⟨hl, bif_ok (fun h => ?_) fun hc => ?_⟩
  · obtain ⟨e1, e2⟩ := msgO_cfg (b := l) h
    rw [e1, e2]
  · (repeat' (first | refine msg_end hc hl ?_ ?_ | with_reducible refine And.intro ?_ ?_ | fail))
    all_goals first
      | exact hr
      | exact h1
      | exact h2
      | (repeat' refine okB_takeR ?_
         exact hb)
      | (repeat' refine len_takeR ?_
         exact hll)
      | decide
      | (unfold pIn; decide)
      | (rw [hp]; unfold mS12 mS11 mS10 mS9 mS8 mS7 mS6 mS5; rw [hs]; rfl)
      | (rw [hp, hv]; unfold msgRaw mS11 mS10 mS9 mS8 mS7 mS6 mS5; rw [hs]; rfl)
      | skip

theorem rkind9_8_ok : Meets Tryd.prog (fun _ => none) 55 crkind9_8 := meets_mono rkind_ok fun x hp => by
  have h1 : okB x.2.1.1 := (hp _ List.mem_cons_self)
  have h2 : pLen x.2.1.1 < 4611686018427387904 := (hp _ (List.mem_cons_of_mem _ List.mem_cons_self))
  have h3 : pEq x.1.2.1 9 = true := (hp _ (List.mem_cons_of_mem _ (List.mem_cons_of_mem _ List.mem_cons_self)))
  have h4 : kindE 9 x.2.1.1 x.2.1.2.1 = 0 := (hp _ (List.mem_cons_of_mem _ (List.mem_cons_of_mem _ (List.mem_cons_of_mem _ List.mem_cons_self))))
  have h5 : takeN x.2.1.1 1 = 8 := (hp _ (List.mem_cons_of_mem _ (List.mem_cons_of_mem _ (List.mem_cons_of_mem _ (List.mem_cons_of_mem _ List.mem_cons_self)))))
  have h6 : x.1.2.1 = 9 := by simpa [pEq] using h3
  refine ⟨fun p hq => ?_, ?_⟩
  · simp only [List.mem_cons, List.not_mem_nil, or_false] at hq
    rcases hq with rfl | rfl
    · exact h1
    · exact h2
  · show (cond (pEq (kindE x.1.2.1 x.2.1.1 x.2.1.2.1) 0) (takeN x.2.1.1 1) 0, (takeR x.2.1.1 1, kindE x.1.2.1 x.2.1.1 x.2.1.2.1, ()), ()) = _
    rw [h6, h4, h5]
    rfl
set_option maxHeartbeats 2000000 in
theorem DecodeMessage8_ok : Meets Tryd.prog tabsM 28 cDecodeMessage8 := DecodeMessage8_meets lCheck_ok.any cloneB_ok.any rkind9_8_ok.any rtake_ok.any rtxn_ok.any rbit_ok.any rend_ok.any CheckMessage_ok fun cn cl cp l hp => by
  have hl : cl.length < 4611686018427387904 := (hp _ List.mem_cons_self)
  have hb : okB l := (hp _ (List.mem_cons_of_mem _ List.mem_cons_self))
  have hr : pRoom (pLen l) 1 := (hp _ (List.mem_cons_of_mem _ (List.mem_cons_of_mem _ List.mem_cons_self)))
  have h1 : kindE 9 l 0 = 0 := (hp _ (List.mem_cons_of_mem _ (List.mem_cons_of_mem _ (List.mem_cons_of_mem _ List.mem_cons_self))))
  have h2 : takeN l 1 = 8 := (hp _ (List.mem_cons_of_mem _ (List.mem_cons_of_mem _ (List.mem_cons_of_mem _ (List.mem_cons_of_mem _ List.mem_cons_self)))))
  obtain ⟨hv, hs⟩ := kind_at h1 h2
  clear hp
  have hll : l.length < 4611686018427387904 := by unfold pRoom pLen at hr; omega
  have hp : msgPart l = pGet tyParts messagesT (pNat 8) := by unfold msgPart; rw [hv]
  unfold DecodeMessage8_VC
  refine ⟨hl, bif_ok (fun h => ?_) fun hc => ?_⟩
  · obtain ⟨e1, e2⟩ := msgO_cfg (b := l) h
    rw [e1, e2]
  · (repeat' (first | refine msg_end hc hl ?_ ?_ | with_reducible refine And.intro ?_ ?_ | fail))
    all_goals first
      | exact hr
      | exact h1
      | exact h2
      | (repeat' refine okB_takeR ?_
         exact hb)
      | (repeat' refine len_takeR ?_
         exact hll)
      | decide
      | (unfold pIn; decide)
      | (rw [hp]; unfold mS12 mS11 mS10 mS9 mS8 mS7 mS6 mS5; rw [hs]; rfl)
      | (rw [hp, hv]; unfold msgRaw mS11 mS10 mS9 mS8 mS7 mS6 mS5; rw [hs]; rfl)
      | skip

theorem rkind9_9_ok : Meets Tryd.prog (fun _ => none) 55 crkind9_9 := meets_mono rkind_ok fun x hp => by
  have h1 : okB x.2.1.1 := (hp _ List.mem_cons_self)
  have h2 : pLen x.2.1.1 < 4611686018427387904 := (hp _ (List.mem_cons_of_mem _ List.mem_cons_self))
  have h3 : pEq x.1.2.1 9 = true := (hp _ (List.mem_cons_of_mem _ (List.mem_cons_of_mem _ List.mem_cons_self)))
  have h4 : kindE 9 x.2.1.1 x.2.1.2.1 = 0 := (hp _ (List.mem_cons_of_mem _ (List.mem_cons_of_mem _ (List.mem_cons_of_mem _ List.mem_cons_self))))
  have h5 : takeN x.2.1.1 1 = 9 := (hp _ (List.mem_cons_of_mem _ (List.mem_cons_of_mem _ (List.mem_cons_of_mem _ (List.mem_cons_of_mem _ List.mem_cons_self)))))
  have h6 : x.1.2.1 = 9 := by simpa [pEq] using h3
  refine ⟨fun p hq => ?_, ?_⟩
  · simp only [List.mem_cons, List.not_mem_nil, or_false] at hq
    rcases hq with rfl | rfl
    · exact h1
    · exact h2
  · show (cond (pEq (kindE x.1.2.1 x.2.1.1 x.2.1.2.1) 0) (takeN x.2.1.1 1) 0, (takeR x.2.1.1 1, kindE x.1.2.1 x.2.1.1 x.2.1.2.1, ()), ()) = _
    rw [h6, h4, h5]
    rfl
set_option maxHeartbeats 2000000 in
theorem DecodeMessage9_ok : Meets Tryd.prog tabsM 28 cDecodeMessage9 := DecodeMessage9_meets lCheck_ok.any cloneB_ok.any rkind9_9_ok.any rtake_ok.any rtxn_ok.any rbit_ok.any rend_ok.any CheckMessage_ok fun cn cl cp l hp => by
  have hl : cl.length < 4611686018427387904 := (hp _ List.mem_cons_self)
  have hb : okB l := (hp _ (List.mem_cons_of_mem _ List.mem_cons_self))
  have hr : pRoom (pLen l) 1 := (hp _ (List.mem_cons_of_mem _ (List.mem_cons_of_mem _ List.mem_cons_self)))
  have h1 : kindE 9 l 0 = 0 := (hp _ (List.mem_cons_of_mem _ (List.mem_cons_of_mem _ (List.mem_cons_of_mem _ List.mem_cons_self))))
  have h2 : takeN l 1 = 9 := (hp _ (List.mem_cons_of_mem _ (List.mem_cons_of_mem _ (List.mem_cons_of_mem _ (List.mem_cons_of_mem _ List.mem_cons_self)))))
  obtain ⟨hv, hs⟩ := kind_at h1 h2
  clear hp
  have hll : l.length < 4611686018427387904 := by unfold pRoom pLen at hr; omega
  have hp : msgPart l = pGet tyParts messagesT (pNat 9) := by unfold msgPart; rw [hv]
  unfold DecodeMessage9_VC
  refine ⟨hl, bif_ok (fun h => ?_) fun hc => ?_⟩
  · obtain ⟨e1, e2⟩ := msgO_cfg (b := l) h
    rw [e1, e2]
  · (repeat' (first | refine msg_end hc hl ?_ ?_ | with_reducible refine And.intro ?_ ?_ | fail))
    all_goals first
      | exact hr
      | exact h1
      | exact h2
      | (repeat' refine okB_takeR ?_
         exact hb)
      | (repeat' refine len_takeR ?_
         exact hll)
      | decide
      | (unfold pIn; decide)
      | (rw [hp]; unfold mS12 mS11 mS10 mS9 mS8 mS7 mS6 mS5; rw [hs]; rfl)
      | (rw [hp, hv]; unfold msgRaw mS11 mS10 mS9 mS8 mS7 mS6 mS5; rw [hs]; rfl)
      | skip

/-- what kinds there are -/
theorem kinds9 (b : List ByteD) : pEq (kindE 9 b 0) 0 = false ∨ kindE 9 b 0 = 0 ∧ ∃ k : Fin 9, takeN b 1 = (k : Nat) + 1 := by
  cases h : pEq (kindE 9 b 0) 0 with
  | false => exact .inl rfl
  | true =>
    refine .inr ⟨by simpa [pEq] using h, ?_⟩
    have h0 : kindE 9 b 0 = 0 := by simpa [pEq] using h
    have hin : inF (takeN b 1) 1 9 = true := by
      cases hi : inF (takeN b 1) 1 9 with
      | true => rfl
      | false =>
        unfold kindE at h0
        rw [hi] at h0
        cases ht : pEq (takeE b 0 1) 0 with
        | true => rw [ht] at h0; cases h0
        | false =>
          rw [ht] at h0
          have : takeE b 0 1 = 0 := h0
          rw [this] at ht; cases ht
    rw [inF_iff] at hin
    exact ⟨⟨(takeN b 1).toNat - 1, by omega⟩, by simp only; omega⟩

def preDM : Fin 10 → Shape.den ⟨[pCfg, .one (.rd (.sl tyB))], []⟩ → List Prop := fun i x =>
  [pLen x.1.1.2.1 < 4611686018427387904, okB x.1.2.1, pRoom (pLen x.1.2.1) 1] ++ (if i.val = 0 then [pEq (kindE 9 x.1.2.1 0) 0 = false] else [kindE 9 x.1.2.1 0 = 0, takeN x.1.2.1 1 = (i.val : Int)])
theorem DecodeMessage_ok : Meets Tryd.prog tabsM 28 cDecodeMessage := by
  refine meets_split preDM 0 (fun i => ?_) fun x hp => ?_
  · match i with
    | ⟨0, _⟩ => exact DecodeMessage0_ok
    | ⟨1, _⟩ => exact DecodeMessage1_ok
    | ⟨2, _⟩ => exact DecodeMessage2_ok
    | ⟨3, _⟩ => exact DecodeMessage3_ok
    | ⟨4, _⟩ => exact DecodeMessage4_ok
    | ⟨5, _⟩ => exact DecodeMessage5_ok
    | ⟨6, _⟩ => exact DecodeMessage6_ok
    | ⟨7, _⟩ => exact DecodeMessage7_ok
    | ⟨8, _⟩ => exact DecodeMessage8_ok
    | ⟨9, _⟩ => exact DecodeMessage9_ok
  · have h1 : pLen x.1.1.2.1 < 4611686018427387904 := (hp _ List.mem_cons_self)
    have h2 : okB x.1.2.1 := (hp _ (List.mem_cons_of_mem _ List.mem_cons_self))
    have h3 : pRoom (pLen x.1.2.1) 1 := (hp _ (List.mem_cons_of_mem _ (List.mem_cons_of_mem _ List.mem_cons_self)))
    rcases kinds9 x.1.2.1 with h | ⟨h, k, hk⟩
    · refine ⟨0, fun p hq => ?_⟩
      simp only [preDM, List.cons_append, List.nil_append, List.mem_cons, List.not_mem_nil, or_false, Fin.val_zero, if_true] at hq
      rcases hq with rfl | rfl | rfl | rfl
      · exact h1
      · exact h2
      · exact h3
      · exact h
    · refine ⟨⟨k.val + 1, by omega⟩, fun p hq => ?_⟩
      simp only [preDM, List.cons_append, List.nil_append, List.mem_cons, List.not_mem_nil, or_false, Nat.add_one_ne_zero, if_false] at hq
      rcases hq with rfl | rfl | rfl | rfl | rfl
      · exact h1
      · exact h2
      · exact h3
      · exact h
      · rw [hk]; rfl

end Go.Proofs.YtkimjjndbcbiaaaDoor
