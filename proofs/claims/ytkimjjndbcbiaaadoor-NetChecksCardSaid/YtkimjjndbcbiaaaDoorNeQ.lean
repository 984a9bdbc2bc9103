/- What is on its way: the checks meet their contracts. No condition. -/
import Derived.Test.YtkimjjndbcbiaaaDoorNeP
namespace Go.Proofs.YtkimjjndbcbiaaaDoor
open Go.RowKit

theorem flyF_cfg {c : CfgD} {fl : List RowD} (h : pNe (cfgF c) 0 = true) : flyF c fl = cfgF c := by
  unfold flyF; rw [show pEq (cfgF c) 0 = false by simpa [pNe, pEq] using h]; rfl
theorem flyF_eq {c : CfgD} {fl : List RowD} (h : pNe (cfgF c) 0 = false) : flyF c fl = cond (pEq (pInt fl.length) (c.1 * c.1) && allUpto (rowAt c fl) fl.length) 0 9 := by
  unfold flyF; rw [show pEq (cfgF c) 0 = true by simpa [pNe, pEq] using h]; rfl

theorem msgF_ok {c : CfgD} {m : MsgD} (h : pEq (msgF c m) 0 = true) : 0 ≤ m.2.1 ∧ m.2.1 < c.1 ∧ 0 ≤ m.2.2.1 ∧ m.2.2.1 < c.1 := by
  have hr : msgRange c m = true := by
    unfold msgF at h
    revert h
    cases hc : pEq (cfgF c) 0
    case false => intro h; rw [cond_false, hc] at h; cases h
    cases inF m.1 1 9
    case false => intro h; cases h
    cases msgRange c m
    case false => intro h; cases h
    intro _; rfl
  unfold msgRange at hr
  simp only [Bool.and_eq_true, pLe, pLt, decide_eq_true_eq] at hr
  omega

theorem gt30 {α : Type} {l : List α} (h : pGt (pInt (pLen l)) 30 = true) : 30 < l.length := by
  simp [pGt, pInt, pLen] at h; omega
theorem le30 {α : Type} {l : List α} (h : pGt (pInt (pLen l)) 30 = false) : l.length ≤ 30 := by
  simp [pGt, pInt, pLen] at h; omega

theorem way_eq {cn f t : Int} {i : Nat} (h1 : 1 ≤ cn) (h4 : cn ≤ 4) (hf : 0 ≤ f) (hf2 : f < cn) (ht : 0 ≤ t) (ht2 : t < cn) : (pEq f ((i : Int) / cn) && pEq t ((i : Int) % cn)) = pEq (f * cn + t) (i : Int) := by
  have : cn = 1 ∨ cn = 2 ∨ cn = 3 ∨ cn = 4 := by omega
  rw [Bool.eq_iff_iff]
  simp only [pEq, Bool.and_eq_true, beq_iff_eq]
  rcases this with rfl | rfl | rfl | rfl <;> omega

theorem rowAt_long {c : CfgD} {fl : List RowD} {i : Nat} (h : 30 < (pGet tyRow fl i).1.length) : rowAt c fl i = false := by
  unfold rowAt
  rw [show decide ((pGet tyRow fl i).1.length ≤ 30) = false by simpa using h]; rfl
theorem rowAt_ok {c : CfgD} {fl : List RowD} {i : Nat} (h : (pGet tyRow fl i).1.length ≤ 30) : rowAt c fl i = allUpto (flyAt c fl i) (pGet tyRow fl i).1.length := by
  unfold rowAt
  rw [show decide ((pGet tyRow fl i).1.length ≤ 30) = true by simpa using h]; rfl

theorem quo_ok {cn : Int} {k : Nat} (h1 : 1 ≤ cn) (h4 : cn ≤ 4) (hk : k < 4611686018427387904) : pQuo .i64 (k : Int) cn = (k : Int) / cn ∧ pRem (k : Int) cn = (k : Int) % cn := by
  unfold pQuo pRem
  have : cn = 1 ∨ cn = 2 ∨ cn = 3 ∨ cn = 4 := by omega
  rcases this with rfl | rfl | rfl | rfl <;> refine ⟨?_, ?_⟩ <;> first
    | (rw [Int.tmod_eq_emod_of_nonneg (by omega)])
    | (rw [Int.tdiv_eq_ediv_of_nonneg (by omega)]; exact Go.IntWalk.i64_in _ (by omega))

theorem nrow_round {c : CfgD} {fl : List RowD} {k : Nat} {z : Int × Unit} (hq : ∀ q ∈ fl, pLen q.1 < 4611686018427387904) (hk : k < fl.length) (h : UpInv (flyAt c fl k) (pGet tyRow fl k).1.length z) :
    (∃ i : Nat, z = ((i : Int), ()) ∧ i < (pGet tyRow fl k).1.length ∧ i < 4611686018427387904 ∧ (flyAt c fl k i = false → allUpto (flyAt c fl k) (pGet tyRow fl k).1.length = false) ∧
      (flyAt c fl k i = true → UpInv (flyAt c fl k) (pGet tyRow fl k).1.length (pAdd .i64 (i : Int) 1, ()) ∧ Nat.le (Nat.succ (UpMu (pGet tyRow fl k).1.length (pAdd .i64 (i : Int) 1, ()))) (UpMu (pGet tyRow fl k).1.length ((i : Int), ())))) ∨
    (z = (((pGet tyRow fl k).1.length : Int), ()) ∧ allUpto (flyAt c fl k) (pGet tyRow fl k).1.length = true) := by
  have hb : (pGet tyRow fl k).1.length < 4611686018427387904 := by
    have : pGet tyRow fl k = fl[k] := pGet_lt (t := tyRow) hk
    rw [this]; exact hq _ (List.getElem_mem hk)
  rcases UpInv.round hb h with ⟨i, hz, hi, hib, _, hF, hT⟩ | h
  · exact .inl ⟨i, hz, hi, hib, hF, hT⟩
  · exact .inr h

theorem fly_nine {c : CfgD} {fl : List RowD} (hc : pNe (cfgF c) 0 = false) (h : (pEq (pInt fl.length) (c.1 * c.1) && allUpto (rowAt c fl) fl.length) = false) : ((9 : Int), ()) = (flyF c fl, ()) := by
  rw [flyF_eq hc, h]; rfl

theorem nCheck_ok : Meets Tryd.prog tabsM 12 cnCheck := nCheck_meets lCheck_ok.any CheckMessage_ok fun cn cl cp fl hp => by
  have hl : cl.length < 4611686018427387904 := hp _ List.mem_cons_self
  have hf : fl.length < 4611686018427387904 := hp (pLen fl < 4611686018427387904) (by simp)
  have hq : ∀ q ∈ fl, pLen q.1 < 4611686018427387904 := hp (∀ q ∈ fl, pLen q.1 < 4611686018427387904) (by simp)
  clear hp
  unfold nCheck_VC
  refine ⟨hl, bif_ok (fun h => ?_) fun hc => ?_⟩
  · rw [flyF_cfg h]
  have h4 := inF_iff.1 (cfgF_sites4 hc)
  simp only at h4
  have hm : pMul .i64 cn cn = cn * cn := by
    unfold pMul
    refine Go.IntWalk.i64_in _ ?_
    have : cn = 1 ∨ cn = 2 ∨ cn = 3 ∨ cn = 4 := by omega
    rcases this with rfl | rfl | rfl | rfl <;> decide
  rw [hm, pLen]
  refine bif_ok (fun h => ?_) fun hn => ?_
  · refine fly_nine hc ?_
    rw [show pEq (pInt fl.length) (cn * cn) = false by simpa [pNe, pEq] using h]; rfl
  have hn : pEq (pInt fl.length) (cn * cn) = true := by simpa [pNe, pEq] using hn
  refine ⟨UpInv.start, fun y hy => ?_⟩
  rcases UpInv.round hf hy with ⟨k, rfl, hk, hb, _, hF, hT⟩ | ⟨rfl, hT⟩
  · simp only [pNat_coe]
    rw [bif_true (by simp [pLt_coe, hk])]
    refine ⟨pIn_coe.2 hk, bif_ok (fun h => ?_) fun h => ?_⟩
    · refine fly_nine hc ?_
      have h : 30 < (pGet tyRow fl k).1.length := gt30 h
      rw [hF (rowAt_long h), Bool.and_false]
    have h30 : (pGet tyRow fl k).1.length ≤ 30 := le30 h
    rw [rowAt_ok h30] at hF hT
    refine ⟨UpInv.start, fun z hz => ?_⟩
    have hz : UpInv (flyAt (cn, cl, cp, ()) fl k) (pGet tyRow fl k).1.length z := hz
    rcases nrow_round hq hk hz with ⟨i, rfl, hi, hib, hiF, hiT⟩ | ⟨rfl, hiT⟩
    · simp only [pNat_coe]
      rw [bif_true (by simp [pLt_coe, pLen, hi])]
      refine ⟨pIn_coe.2 hi, hl, ?_⟩
      have hat : flyAt (cn, cl, cp, ()) fl k i = (pEq (msgF (cn, cl, cp, ()) (pGet tyMsg (pGet tyRow fl k).1 i)) 0 && pEq (pGet tyMsg (pGet tyRow fl k).1 i).2.1 ((k : Int) / cn) && pEq (pGet tyMsg (pGet tyRow fl k).1 i).2.2.1 ((k : Int) % cn)) := rfl
      obtain ⟨hq1, hq2⟩ := quo_ok (k := k) h4.1 h4.2 hb
      rw [hq1, hq2]
      have bad : flyAt (cn, cl, cp, ()) fl k i = false → ((9 : Int), ()) = (flyF (cn, cl, cp, ()) fl, ()) := fun hbad => fly_nine hc (by rw [hF (hiF hbad), Bool.and_false])
      refine bif_ok (fun h => ?_) fun h => ?_
      · exact bad (by rw [hat, show pEq _ 0 = false by simpa [pNe, pEq] using h]; rfl)
      have g1 : pEq (msgF (cn, cl, cp, ()) (pGet tyMsg (pGet tyRow fl k).1 i)) 0 = true := by simpa [pNe, pEq] using h
      refine ⟨by unfold pNz; omega, bif_ok (fun h => ?_) fun h => ?_⟩
      · exact bad (by rw [hat, g1, show pEq (pGet tyMsg (pGet tyRow fl k).1 i).2.1 ((k : Int) / cn) = false by simpa [pNe, pEq] using h]; rfl)
      have g2 : pEq (pGet tyMsg (pGet tyRow fl k).1 i).2.1 ((k : Int) / cn) = true := by simpa [pNe, pEq] using h
      refine ⟨by unfold pNz; omega, bif_ok (fun h => ?_) fun h => ?_⟩
      · exact bad (by rw [hat, g1, g2, show pEq (pGet tyMsg (pGet tyRow fl k).1 i).2.2.1 ((k : Int) % cn) = false by simpa [pNe, pEq] using h]; rfl)
      have g3 : pEq (pGet tyMsg (pGet tyRow fl k).1 i).2.2.1 ((k : Int) % cn) = true := by simpa [pNe, pEq] using h
      exact hiT (by rw [hat, g1, g2, g3]; rfl)
    · rw [bif_false (by simp [pLt_coe, pLen])]
      exact hT hiT
  · rw [bif_false (by simp [pLt_coe])]
    refine leafE ?_
    rw [flyF_eq hc, hT]
    simp only [hn]
    rfl

theorem FlyingFault_ok : Meets Tryd.prog tabsM 13 cFlyingFault := FlyingFault_meets cFault_ok.any MessageFault_ok.any fun cn cl cp fl hp => by
  have hl : cl.length < 4611686018427387904 := hp _ List.mem_cons_self
  have hf : fl.length < 4611686018427387904 := hp (pLen fl < 4611686018427387904) (by simp)
  have hq : ∀ q ∈ fl, pLen q.1 < 4611686018427387904 := hp (∀ q ∈ fl, pLen q.1 < 4611686018427387904) (by simp)
  clear hp
  unfold FlyingFault_VC
  refine ⟨hl, bif_ok (fun h => ?_) fun hc => ?_⟩
  · rw [flyF_cfg h]
  have h4 := inF_iff.1 (cfgF_sites4 hc)
  simp only at h4
  have hm : pMul .i64 cn cn = cn * cn := by
    unfold pMul
    refine Go.IntWalk.i64_in _ ?_
    have : cn = 1 ∨ cn = 2 ∨ cn = 3 ∨ cn = 4 := by omega
    rcases this with rfl | rfl | rfl | rfl <;> decide
  rw [hm, pLen]
  refine bif_ok (fun h => ?_) fun hn => ?_
  · refine fly_nine hc ?_
    rw [show pEq (pInt fl.length) (cn * cn) = false by simpa [pNe, pEq] using h]; rfl
  have hn : pEq (pInt fl.length) (cn * cn) = true := by simpa [pNe, pEq] using hn
  refine ⟨UpInv.start, fun y hy => ?_⟩
  rcases UpInv.round hf hy with ⟨k, rfl, hk, hb, _, hF, hT⟩ | ⟨rfl, hT⟩
  · simp only [pNat_coe]
    rw [bif_true (by simp [pLt_coe, hk])]
    refine ⟨pIn_coe.2 hk, bif_ok (fun h => ?_) fun h => ?_⟩
    · refine fly_nine hc ?_
      have h : 30 < (pGet tyRow fl k).1.length := gt30 h
      rw [hF (rowAt_long h), Bool.and_false]
    have h30 : (pGet tyRow fl k).1.length ≤ 30 := le30 h
    rw [rowAt_ok h30] at hF hT
    refine ⟨UpInv.start, fun z hz => ?_⟩
    have hz : UpInv (flyAt (cn, cl, cp, ()) fl k) (pGet tyRow fl k).1.length z := hz
    refine ⟨pIn_coe.2 hk, ?_⟩
    rcases nrow_round hq hk hz with ⟨i, rfl, hi, hib, hiF, hiT⟩ | ⟨rfl, hiT⟩
    · simp only [pNat_coe]
      rw [bif_true (by simp [pLt_coe, pLen, hi])]
      refine ⟨pIn_coe.2 hk, pIn_coe.2 hi, hl, ?_⟩
      have hat : flyAt (cn, cl, cp, ()) fl k i = (pEq (msgF (cn, cl, cp, ()) (pGet tyMsg (pGet tyRow fl k).1 i)) 0 && pEq (pGet tyMsg (pGet tyRow fl k).1 i).2.1 ((k : Int) / cn) && pEq (pGet tyMsg (pGet tyRow fl k).1 i).2.2.1 ((k : Int) % cn)) := rfl
      have bad : flyAt (cn, cl, cp, ()) fl k i = false → ((9 : Int), ()) = (flyF (cn, cl, cp, ()) fl, ()) := fun hbad => fly_nine hc (by rw [hF (hiF hbad), Bool.and_false])
      refine bif_ok (fun h => ?_) fun h => ?_
      · exact bad (by rw [hat, show pEq _ 0 = false by simpa [pNe, pEq] using h]; rfl)
      have g1 : pEq (msgF (cn, cl, cp, ()) (pGet tyMsg (pGet tyRow fl k).1 i)) 0 = true := by simpa [pNe, pEq] using h
      obtain ⟨b1, b2, b3, b4⟩ := msgF_ok g1
      rw [g1, Bool.true_and, way_eq h4.1 h4.2 b1 b2 b3 b4] at hat
      simp only at b2 b4
      have hx : pAdd .i64 (pMul .i64 (pGet tyMsg (pGet tyRow fl k).1 i).2.1 cn) (pGet tyMsg (pGet tyRow fl k).1 i).2.2.1 = (pGet tyMsg (pGet tyRow fl k).1 i).2.1 * cn + (pGet tyMsg (pGet tyRow fl k).1 i).2.2.1 := by
        generalize (pGet tyMsg (pGet tyRow fl k).1 i).2.1 = f at *
        generalize (pGet tyMsg (pGet tyRow fl k).1 i).2.2.1 = t at *
        have : cn = 1 ∨ cn = 2 ∨ cn = 3 ∨ cn = 4 := by omega
        unfold pMul
        rcases this with rfl | rfl | rfl | rfl <;> rw [Go.IntWalk.i64_in _ (by omega), pAdd_in (by omega)]
      rw [hx]
      refine bif_ok (fun h => ?_) fun h => ?_
      · exact bad (by rw [hat]; simpa [pNe, pEq] using h)
      · exact hiT (by rw [hat]; simpa [pNe, pEq] using h)
    · rw [bif_false (by simp [pLt_coe, pLen])]
      exact hT hiT
  · rw [bif_false (by simp [pLt_coe])]
    refine leafE ?_
    rw [flyF_eq hc, hT]
    simp only [hn]
    rfl

end Go.Proofs.YtkimjjndbcbiaaaDoor
