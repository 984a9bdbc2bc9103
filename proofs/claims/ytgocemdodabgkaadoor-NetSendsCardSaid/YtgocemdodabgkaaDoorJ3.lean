/- The law NetSends: for every input it returns true and turns nothing. No condition. -/
import Derived.Test.YtgocemdodabgkaaDoorJ2
import Derived.Test.YtgocemdodabgkaaDoorJ1
import Derived.Deep.LoopGhost
import Derived.Shelf.RegionOpenPlain
import Derived.Shelf.Spec.SlicesInsertGrow
import Derived.Test.YtgocemdodabgkaaDoorFacts

/- What is on its way: the checks meet their contracts. No condition. -/
namespace Go.Proofs.YtgocemdodabgkaaDoor
open Go.RowKit

theorem flyF_cfg {c : CfgD} {fl : List RowD} (h : pNe (cfgF c) 0 = true) : flyF c fl = cfgF c := by
  unfold flyF; rw [show pEq (cfgF c) 0 = false by simpa [pNe, pEq] using h]; rfl
theorem flyF_eq {c : CfgD} {fl : List RowD} (h : pNe (cfgF c) 0 = false) : flyF c fl = cond (pEq (pInt fl.length) (c.1 * c.1) && allUpto (rowAt c fl) fl.length) 0 9 := by
  unfold flyF; rw [show pEq (cfgF c) 0 = true by simpa [pNe, pEq] using h]; rfl

theorem msgF_ok {c : CfgD} {m : MsgD} (h : pEq (msgF c m) 0 = true) : 0 ≤ m.2.1 ∧ m.2.1 < c.1 ∧ 0 ≤ m.2.2.1 ∧ m.2.2.1 < c.1 := by
  have hr : msgRange c m = true := by
    unfold msgF at h
    revert h
    cases hc : pEq (cfgF c) 0
    case false => intro h; rw [cond_false, hc] at h; cases h
    cases inF m.1 1 9
    case false => intro h; cases h
    cases msgRange c m
    case false => intro h; cases h
    intro _; rfl
  unfold msgRange at hr
  simp only [Bool.and_eq_true, pLe, pLt, decide_eq_true_eq] at hr
  omega

theorem gt30 {α : Type} {l : List α} (h : pGt (pInt (pLen l)) 30 = true) : 30 < l.length := by
  simp [pGt, pInt, pLen] at h; omega
theorem le30 {α : Type} {l : List α} (h : pGt (pInt (pLen l)) 30 = false) : l.length ≤ 30 := by
  simp [pGt, pInt, pLen] at h; omega

theorem way_eq {cn f t : Int} {i : Nat} (h1 : 1 ≤ cn) (h4 : cn ≤ 4) (hf : 0 ≤ f) (hf2 : f < cn) (ht : 0 ≤ t) (ht2 : t < cn) : (pEq f ((i : Int) / cn) && pEq t ((i : Int) % cn)) = pEq (f * cn + t) (i : Int) := by
  have : cn = 1 ∨ cn = 2 ∨ cn = 3 ∨ cn = 4 := by omega
  rw [Bool.eq_iff_iff]
  simp only [pEq, Bool.and_eq_true, beq_iff_eq]
  rcases this with rfl | rfl | rfl | rfl <;> omega

theorem rowAt_long {c : CfgD} {fl : List RowD} {i : Nat} (h : 30 < (pGet tyRow fl i).1.length) : rowAt c fl i = false := by
  unfold rowAt
  rw [show decide ((pGet tyRow fl i).1.length ≤ 30) = false by simpa using h]; rfl
theorem rowAt_ok {c : CfgD} {fl : List RowD} {i : Nat} (h : (pGet tyRow fl i).1.length ≤ 30) : rowAt c fl i = allUpto (flyAt c fl i) (pGet tyRow fl i).1.length := by
  unfold rowAt
  rw [show decide ((pGet tyRow fl i).1.length ≤ 30) = true by simpa using h]; rfl

theorem quo_ok {cn : Int} {k : Nat} (h1 : 1 ≤ cn) (h4 : cn ≤ 4) (hk : k < 4611686018427387904) : pQuo .i64 (k : Int) cn = (k : Int) / cn ∧ pRem (k : Int) cn = (k : Int) % cn := by
  unfold pQuo pRem
  have : cn = 1 ∨ cn = 2 ∨ cn = 3 ∨ cn = 4 := by omega
  rcases this with rfl | rfl | rfl | rfl <;> refine ⟨?_, ?_⟩ <;> first
    | (rw [Int.tmod_eq_emod_of_nonneg (by omega)])
    | (rw [Int.tdiv_eq_ediv_of_nonneg (by omega)]; exact Go.IntWalk.i64_in _ (by omega))

theorem nrow_round {c : CfgD} {fl : List RowD} {k : Nat} {z : Int × Unit} (hq : ∀ q ∈ fl, pLen q.1 < 4611686018427387904) (hk : k < fl.length) (h : UpInv (flyAt c fl k) (pGet tyRow fl k).1.length z) :
    (∃ i : Nat, z = ((i : Int), ()) ∧ i < (pGet tyRow fl k).1.length ∧ i < 4611686018427387904 ∧ (flyAt c fl k i = false → allUpto (flyAt c fl k) (pGet tyRow fl k).1.length = false) ∧
      (flyAt c fl k i = true → UpInv (flyAt c fl k) (pGet tyRow fl k).1.length (pAdd .i64 (i : Int) 1, ()) ∧ Nat.le (Nat.succ (UpMu (pGet tyRow fl k).1.length (pAdd .i64 (i : Int) 1, ()))) (UpMu (pGet tyRow fl k).1.length ((i : Int), ())))) ∨
    (z = (((pGet tyRow fl k).1.length : Int), ()) ∧ allUpto (flyAt c fl k) (pGet tyRow fl k).1.length = true) := by
  have hb : (pGet tyRow fl k).1.length < 4611686018427387904 := by
    have : pGet tyRow fl k = fl[k] := pGet_lt (t := tyRow) hk
    rw [this]; exact hq _ (List.getElem_mem hk)
  rcases UpInv.round hb h with ⟨i, hz, hi, hib, _, hF, hT⟩ | h
  · exact .inl ⟨i, hz, hi, hib, hF, hT⟩
  · exact .inr h

theorem fly_nine {c : CfgD} {fl : List RowD} (hc : pNe (cfgF c) 0 = false) (h : (pEq (pInt fl.length) (c.1 * c.1) && allUpto (rowAt c fl) fl.length) = false) : ((9 : Int), ()) = (flyF c fl, ()) := by
  rw [flyF_eq hc, h]; rfl

theorem nCheck_ok : Meets Tryd.prog tabsM 36 cnCheck := nCheck_meets lCheck_ok.any CheckMessage_ok fun cn cl cp fl hp => by
  have hl : cl.length < 4611686018427387904 := hp _ List.mem_cons_self
  have hf : fl.length < 4611686018427387904 := hp (pLen fl < 4611686018427387904) (by simp)
  have hq : ∀ q ∈ fl, pLen q.1 < 4611686018427387904 := hp (∀ q ∈ fl, pLen q.1 < 4611686018427387904) (by simp)
  clear hp
  unfold nCheck_VC
  refine ⟨hl, bif_ok (fun h => ?_) fun hc => ?_⟩
  · rw [flyF_cfg h]
  have h4 := inF_iff.1 (cfgF_sites4 hc)
  simp only at h4
  have hm : pMul .i64 cn cn = cn * cn := by
    unfold pMul
    refine Go.IntWalk.i64_in _ ?_
    have : cn = 1 ∨ cn = 2 ∨ cn = 3 ∨ cn = 4 := by omega
    rcases this with rfl | rfl | rfl | rfl <;> decide
  rw [hm, pLen]
  refine bif_ok (fun h => ?_) fun hn => ?_
  · refine fly_nine hc ?_
    rw [show pEq (pInt fl.length) (cn * cn) = false by simpa [pNe, pEq] using h]; rfl
  have hn : pEq (pInt fl.length) (cn * cn) = true := by simpa [pNe, pEq] using hn
  refine ⟨UpInv.start, fun y hy => ?_⟩
  rcases UpInv.round hf hy with ⟨k, rfl, hk, hb, _, hF, hT⟩ | ⟨rfl, hT⟩
  · simp only [pNat_coe]
    rw [bif_true (by simp [pLt_coe, hk])]
    refine ⟨pIn_coe.2 hk, bif_ok (fun h => ?_) fun h => ?_⟩
    · refine fly_nine hc ?_
      have h : 30 < (pGet tyRow fl k).1.length := gt30 h
      rw [hF (rowAt_long h), Bool.and_false]
    have h30 : (pGet tyRow fl k).1.length ≤ 30 := le30 h
    rw [rowAt_ok h30] at hF hT
    refine ⟨UpInv.start, fun z hz => ?_⟩
    have hz : UpInv (flyAt (cn, cl, cp, ()) fl k) (pGet tyRow fl k).1.length z := hz
    rcases nrow_round hq hk hz with ⟨i, rfl, hi, hib, hiF, hiT⟩ | ⟨rfl, hiT⟩
    · simp only [pNat_coe]
      rw [bif_true (by simp [pLt_coe, pLen, hi])]
      refine ⟨pIn_coe.2 hi, hl, ?_⟩
      have hat : flyAt (cn, cl, cp, ()) fl k i = (pEq (msgF (cn, cl, cp, ()) (pGet tyMsg (pGet tyRow fl k).1 i)) 0 && pEq (pGet tyMsg (pGet tyRow fl k).1 i).2.1 ((k : Int) / cn) && pEq (pGet tyMsg (pGet tyRow fl k).1 i).2.2.1 ((k : Int) % cn)) := rfl
      obtain ⟨hq1, hq2⟩ := quo_ok (k := k) h4.1 h4.2 hb
      rw [hq1, hq2]
      have bad : flyAt (cn, cl, cp, ()) fl k i = false → ((9 : Int), ()) = (flyF (cn, cl, cp, ()) fl, ()) := fun hbad => fly_nine hc (by rw [hF (hiF hbad), Bool.and_false])
      refine bif_ok (fun h => ?_) fun h => ?_
      · exact bad (by rw [hat, show pEq _ 0 = false by simpa [pNe, pEq] using h]; rfl)
      have g1 : pEq (msgF (cn, cl, cp, ()) (pGet tyMsg (pGet tyRow fl k).1 i)) 0 = true := by simpa [pNe, pEq] using h
      refine ⟨by unfold pNz; omega, bif_ok (fun h => ?_) fun h => ?_⟩
      · exact bad (by rw [hat, g1, show pEq (pGet tyMsg (pGet tyRow fl k).1 i).2.1 ((k : Int) / cn) = false by simpa [pNe, pEq] using h]; rfl)
      have g2 : pEq (pGet tyMsg (pGet tyRow fl k).1 i).2.1 ((k : Int) / cn) = true := by simpa [pNe, pEq] using h
      refine ⟨by unfold pNz; omega, bif_ok (fun h => ?_) fun h => ?_⟩
      · exact bad (by rw [hat, g1, g2, show pEq (pGet tyMsg (pGet tyRow fl k).1 i).2.2.1 ((k : Int) % cn) = false by simpa [pNe, pEq] using h]; rfl)
      have g3 : pEq (pGet tyMsg (pGet tyRow fl k).1 i).2.2.1 ((k : Int) % cn) = true := by simpa [pNe, pEq] using h
      exact hiT (by rw [hat, g1, g2, g3]; rfl)
    · rw [bif_false (by simp [pLt_coe, pLen])]
      exact hT hiT
  · rw [bif_false (by simp [pLt_coe])]
    refine leafE ?_
    rw [flyF_eq hc, hT]
    simp only [hn]
    rfl

theorem FlyingFault_ok : Meets Tryd.prog tabsM 39 cFlyingFault := FlyingFault_meets cFault_ok.any MessageFault_ok.any fun cn cl cp fl hp => by
  have hl : cl.length < 4611686018427387904 := hp _ List.mem_cons_self
  have hf : fl.length < 4611686018427387904 := hp (pLen fl < 4611686018427387904) (by simp)
  have hq : ∀ q ∈ fl, pLen q.1 < 4611686018427387904 := hp (∀ q ∈ fl, pLen q.1 < 4611686018427387904) (by simp)
  clear hp
  unfold FlyingFault_VC
  refine ⟨hl, bif_ok (fun h => ?_) fun hc => ?_⟩
  · rw [flyF_cfg h]
  have h4 := inF_iff.1 (cfgF_sites4 hc)
  simp only at h4
  have hm : pMul .i64 cn cn = cn * cn := by
    unfold pMul
    refine Go.IntWalk.i64_in _ ?_
    have : cn = 1 ∨ cn = 2 ∨ cn = 3 ∨ cn = 4 := by omega
    rcases this with rfl | rfl | rfl | rfl <;> decide
  rw [hm, pLen]
  refine bif_ok (fun h => ?_) fun hn => ?_
  · refine fly_nine hc ?_
    rw [show pEq (pInt fl.length) (cn * cn) = false by simpa [pNe, pEq] using h]; rfl
  have hn : pEq (pInt fl.length) (cn * cn) = true := by simpa [pNe, pEq] using hn
  refine ⟨UpInv.start, fun y hy => ?_⟩
  rcases UpInv.round hf hy with ⟨k, rfl, hk, hb, _, hF, hT⟩ | ⟨rfl, hT⟩
  · simp only [pNat_coe]
    rw [bif_true (by simp [pLt_coe, hk])]
    refine ⟨pIn_coe.2 hk, bif_ok (fun h => ?_) fun h => ?_⟩
    · refine fly_nine hc ?_
      have h : 30 < (pGet tyRow fl k).1.length := gt30 h
      rw [hF (rowAt_long h), Bool.and_false]
    have h30 : (pGet tyRow fl k).1.length ≤ 30 := le30 h
    rw [rowAt_ok h30] at hF hT
    refine ⟨UpInv.start, fun z hz => ?_⟩
    have hz : UpInv (flyAt (cn, cl, cp, ()) fl k) (pGet tyRow fl k).1.length z := hz
    refine ⟨pIn_coe.2 hk, ?_⟩
    rcases nrow_round hq hk hz with ⟨i, rfl, hi, hib, hiF, hiT⟩ | ⟨rfl, hiT⟩
    · simp only [pNat_coe]
      rw [bif_true (by simp [pLt_coe, pLen, hi])]
      refine ⟨pIn_coe.2 hk, pIn_coe.2 hi, hl, ?_⟩
      have hat : flyAt (cn, cl, cp, ()) fl k i = (pEq (msgF (cn, cl, cp, ()) (pGet tyMsg (pGet tyRow fl k).1 i)) 0 && pEq (pGet tyMsg (pGet tyRow fl k).1 i).2.1 ((k : Int) / cn) && pEq (pGet tyMsg (pGet tyRow fl k).1 i).2.2.1 ((k : Int) % cn)) := rfl
      have bad : flyAt (cn, cl, cp, ()) fl k i = false → ((9 : Int), ()) = (flyF (cn, cl, cp, ()) fl, ()) := fun hbad => fly_nine hc (by rw [hF (hiF hbad), Bool.and_false])
      refine bif_ok (fun h => ?_) fun h => ?_
      · exact bad (by rw [hat, show pEq _ 0 = false by simpa [pNe, pEq] using h]; rfl)
      have g1 : pEq (msgF (cn, cl, cp, ()) (pGet tyMsg (pGet tyRow fl k).1 i)) 0 = true := by simpa [pNe, pEq] using h
      obtain ⟨b1, b2, b3, b4⟩ := msgF_ok g1
      rw [g1, Bool.true_and, way_eq h4.1 h4.2 b1 b2 b3 b4] at hat
      simp only at b2 b4
      have hx : pAdd .i64 (pMul .i64 (pGet tyMsg (pGet tyRow fl k).1 i).2.1 cn) (pGet tyMsg (pGet tyRow fl k).1 i).2.2.1 = (pGet tyMsg (pGet tyRow fl k).1 i).2.1 * cn + (pGet tyMsg (pGet tyRow fl k).1 i).2.2.1 := by
        generalize (pGet tyMsg (pGet tyRow fl k).1 i).2.1 = f at *
        generalize (pGet tyMsg (pGet tyRow fl k).1 i).2.2.1 = t at *
        have : cn = 1 ∨ cn = 2 ∨ cn = 3 ∨ cn = 4 := by omega
        unfold pMul
        rcases this with rfl | rfl | rfl | rfl <;> rw [Go.IntWalk.i64_in _ (by omega), pAdd_in (by omega)]
      rw [hx]
      refine bif_ok (fun h => ?_) fun h => ?_
      · exact bad (by rw [hat]; simpa [pNe, pEq] using h)
      · exact hiT (by rw [hat]; simpa [pNe, pEq] using h)
    · rw [bif_false (by simp [pLt_coe, pLen])]
      exact hT hiT
  · rw [bif_false (by simp [pLt_coe])]
    refine leafE ?_
    rw [flyF_eq hc, hT]
    simp only [hn]
    rfl


end Go.Proofs.YtgocemdodabgkaaDoor

/- slices.Delete at []api.Message: its walk. No condition. -/
namespace Go.Proofs.YtgocemdodabgkaaDoor
open Go.RowKit Go.Lib

end Go.Proofs.YtgocemdodabgkaaDoor

/- Messages sent and taken: the functions meet their contracts. No condition. -/
namespace Go.Proofs.YtgocemdodabgkaaDoor
open Go.RowKit

theorem eq_of {a b : Int} (h : pEq a b = true) : a = b := by simpa [pEq] using h
/-- what is on its way, where it may be -/
def FlyS (n : Nat) (fl : List RowD) : Prop := fl.length = n ∧ ∀ q ∈ fl, q.1.length ≤ 30
theorem row_le {n : Nat} {fl : List RowD} (h : FlyS n fl) (j : Nat) : (pGet tyRow fl j).1.length ≤ 30 := by
  by_cases hj : j < fl.length
  · exact h.2 _ (by rw [pGet_lt (t := tyRow) hj]; exact List.getElem_mem hj)
  · unfold pGet; rw [List.getD_eq_getElem?_getD, List.getElem?_eq_none (by omega)]; exact Nat.zero_le _
theorem fly_ok {c : CfgD} {fl : List RowD} (h : pEq (flyF c fl) 0 = true) : (1 ≤ c.1 ∧ c.1 ≤ 4) ∧ (fl.length : Int) = c.1 * c.1 ∧ FlyS fl.length fl := by
  cases hc : pNe (cfgF c) 0 with
  | true => rw [flyF_cfg hc] at h; simp only [pNe, pEq, bne_iff_ne, beq_iff_eq] at hc h; exact absurd h hc
  | false =>
    rw [flyF_eq hc] at h
    cases hq : (pEq (pInt fl.length) (c.1 * c.1) && allUpto (rowAt c fl) fl.length) with
    | false => rw [hq] at h; cases h
    | true =>
      rw [Bool.and_eq_true] at hq
      refine ⟨inF_iff.1 (cfgF_sites4 hc), eq_of hq.1, rfl, fun q hm => ?_⟩
      obtain ⟨j, hj, rfl⟩ := List.getElem_of_mem hm
      have := allUpto_iff.1 hq.2 j hj
      unfold rowAt at this
      simp only [Bool.and_eq_true, decide_eq_true_eq] at this
      rw [pGet_lt (t := tyRow) hj] at this
      exact this.1
theorem fly_len {c : CfgD} {fl : List RowD} (h : pEq (flyF c fl) 0 = true) : fl.length ≤ 16 := by
  obtain ⟨⟨h1, h4⟩, hl, _⟩ := fly_ok h
  have : c.1 = 1 ∨ c.1 = 2 ∨ c.1 = 3 ∨ c.1 = 4 := by omega
  rcases this with e | e | e | e <;> rw [e] at hl <;> omega
theorem rows_ok {c : CfgD} {fl : List RowD} (h : pEq (flyF c fl) 0 = true) : RowsOk fl := by
  have h1 := fly_len h
  refine ⟨?_, fun q hq => ?_⟩
  · show fl.length * 24 ≤ 140737488351232; omega
  · have := (fly_ok h).2.2.2 q hq
    show q.1.length * 96 ≤ 140737488351232; omega
theorem way_in {c : CfgD} {fl : List RowD} (h : pEq (flyF c fl) 0 = true) {f t : Int} (hf : 0 ≤ f) (hf2 : f < c.1) (ht : 0 ≤ t) (ht2 : t < c.1) {n : Nat} (hn : n = fl.length) : pIn (wayI c f t) n := by
  obtain ⟨⟨h1, h4⟩, hl, _⟩ := fly_ok h
  subst hn
  have e : wayI c f t = f * c.1 + t := by
    unfold wayI pMul
    have : c.1 = 1 ∨ c.1 = 2 ∨ c.1 = 3 ∨ c.1 = 4 := by omega
    rcases this with e | e | e | e <;> rw [e] at hf2 ht2 ⊢ <;> rw [Go.IntWalk.i64_in _ (by omega), pAdd_in (by omega)]
  rw [e]
  unfold pIn
  have : c.1 = 1 ∨ c.1 = 2 ∨ c.1 = 3 ∨ c.1 = 4 := by omega
  rcases this with e | e | e | e <;> rw [e] at hf2 ht2 hl ⊢ <;> omega

theorem pSet_self {t : Ty} {xs : List t.den} {i : Nat} (h : i < xs.length) : pSet xs i (pGet t xs i) = xs := by
  unfold pSet
  rw [pGet_lt h, List.set_getElem_self]
theorem pNat_lt {x : Int} {n : Nat} (h : pIn x n) : pNat x < n := by unfold pIn at h; unfold pNat; omega
theorem sendStep_s {c : CfgD} {fl : List RowD} {m : MsgD} {n : Nat} (h : FlyS n fl) : FlyS n (sendStep c fl m) := by
  unfold sendStep
  cases hb : pLt (pInt (pLen (pGet tyRow fl (pNat (wayI c m.2.1 m.2.2.1))).1)) 30 with
  | false => exact h
  | true =>
    refine ⟨?_, fun q hq => ?_⟩
    · show (List.set fl _ _).length = n
      rw [List.length_set]; exact h.1
    · rcases List.mem_or_eq_of_mem_set hq with hq | rfl
      · exact h.2 q hq
      · show ((pGet tyRow fl (pNat (wayI c m.2.1 m.2.2.1))).1 ++ [m]).length ≤ 30
        rw [List.length_append]
        have : pInt (pLen (pGet tyRow fl (pNat (wayI c m.2.1 m.2.2.1))).1) < 30 := by simpa [pLt] using hb
        have : ((pGet tyRow fl (pNat (wayI c m.2.1 m.2.2.1))).1.length : Int) < 30 := this
        show (pGet tyRow fl (pNat (wayI c m.2.1 m.2.2.1))).1.length + 1 ≤ 30
        omega
theorem sendK_succ {c : CfgD} {fl : List RowD} {l : List MsgD} {k : Nat} (h : k < l.length) : sendK c fl l (k + 1) = sendStep c (sendK c fl l k) (pGet tyMsg l k) := by
  unfold sendK
  rw [List.take_succ_eq_append_getElem h, List.foldl_append, pGet_lt (t := tyMsg) h]
  rfl
theorem sendK_s {c : CfgD} {fl : List RowD} {l : List MsgD} {n : Nat} (h : FlyS n fl) : ∀ k, k ≤ l.length → FlyS n (sendK c fl l k)
  | 0, _ => h
  | k + 1, hk => by rw [sendK_succ (by omega)]; exact sendStep_s (sendK_s h k (by omega))
theorem sendF_no {c : CfgD} {fl : List RowD} {l : List MsgD} {e : Int} (h : sendE c fl l = e) (h0 : pEq e 0 = false) : sendF c fl l = [] := by unfold sendF; rw [h, h0]; rfl
theorem sendF_yes {c : CfgD} {fl : List RowD} {l : List MsgD} (h : sendE c fl l = 0) : sendF c fl l = sendK c fl l l.length := by unfold sendF; rw [h]; rfl

/-- one round of sending -/
theorem send_round {cn : Int} {cl : List LabD} {cp : Int} {fl : List RowD} {l : List MsgD} {k : Nat} (hf : pEq (flyF (cn, cl, cp, ()) fl) 0 = true) (hm : pEq (msgAt (cn, cl, cp, ()) l k) 0 = true) (hk : k < l.length) (hb : k < 4611686018427387904) :
    pIn (wayI (cn, cl, cp, ()) (pGet tyMsg l k).2.1 (pGet tyMsg l k).2.2.1) (pLen (sendK (cn, cl, cp, ()) fl l k)) ∧
    pRoom (pPlus (pLen (pGet tyRow (sendK (cn, cl, cp, ()) fl l k) (pNat (wayI (cn, cl, cp, ()) (pGet tyMsg l k).2.1 (pGet tyMsg l k).2.2.1))).1) 1) 96 ∧
    (pLt (pInt (pLen (pGet tyRow (sendK (cn, cl, cp, ()) fl l k) (pNat (wayI (cn, cl, cp, ()) (pGet tyMsg l k).2.1 (pGet tyMsg l k).2.2.1))).1)) 30 = true →
      nsendBInv cn cl cp fl l (pAdd .i64 (k : Int) 1, pSet (sendK (cn, cl, cp, ()) fl l k) (pNat (wayI (cn, cl, cp, ()) (pGet tyMsg l k).2.1 (pGet tyMsg l k).2.2.1)) (pApp (pGet tyRow (sendK (cn, cl, cp, ()) fl l k) (pNat (wayI (cn, cl, cp, ()) (pGet tyMsg l k).2.1 (pGet tyMsg l k).2.2.1))).1 [pGet tyMsg l k], ()), ()) ∧
      Nat.le (Nat.succ (nsendBMu cn cl cp fl l (pAdd .i64 (k : Int) 1, pSet (sendK (cn, cl, cp, ()) fl l k) (pNat (wayI (cn, cl, cp, ()) (pGet tyMsg l k).2.1 (pGet tyMsg l k).2.2.1)) (pApp (pGet tyRow (sendK (cn, cl, cp, ()) fl l k) (pNat (wayI (cn, cl, cp, ()) (pGet tyMsg l k).2.1 (pGet tyMsg l k).2.2.1))).1 [pGet tyMsg l k], ()), ()))) (nsendBMu cn cl cp fl l ((k : Int), sendK (cn, cl, cp, ()) fl l k, ()))) ∧
    (pLt (pInt (pLen (pGet tyRow (sendK (cn, cl, cp, ()) fl l k) (pNat (wayI (cn, cl, cp, ()) (pGet tyMsg l k).2.1 (pGet tyMsg l k).2.2.1))).1)) 30 = false →
      nsendBInv cn cl cp fl l (pAdd .i64 (k : Int) 1, pSet (sendK (cn, cl, cp, ()) fl l k) (pNat (wayI (cn, cl, cp, ()) (pGet tyMsg l k).2.1 (pGet tyMsg l k).2.2.1)) (pGet tyRow (sendK (cn, cl, cp, ()) fl l k) (pNat (wayI (cn, cl, cp, ()) (pGet tyMsg l k).2.1 (pGet tyMsg l k).2.2.1))), ()) ∧
      Nat.le (Nat.succ (nsendBMu cn cl cp fl l (pAdd .i64 (k : Int) 1, pSet (sendK (cn, cl, cp, ()) fl l k) (pNat (wayI (cn, cl, cp, ()) (pGet tyMsg l k).2.1 (pGet tyMsg l k).2.2.1)) (pGet tyRow (sendK (cn, cl, cp, ()) fl l k) (pNat (wayI (cn, cl, cp, ()) (pGet tyMsg l k).2.1 (pGet tyMsg l k).2.2.1))), ()))) (nsendBMu cn cl cp fl l ((k : Int), sendK (cn, cl, cp, ()) fl l k, ()))) := by
  have hs := sendK_s (c := (cn, cl, cp, ())) (l := l) (fly_ok hf).2.2 k (Nat.le_of_lt hk)
  obtain ⟨a1, a2, a3, a4⟩ := msgF_ok hm
  have hin := way_in hf a1 a2 a3 a4 (n := pLen (sendK (cn, cl, cp, ()) fl l k)) hs.1
  have hr := row_le hs (pNat (wayI (cn, cl, cp, ()) (pGet tyMsg l k).2.1 (pGet tyMsg l k).2.2.1))
  refine ⟨hin, ?_, fun h => ⟨⟨k + 1, ?_, hk⟩, mu_step hk hb⟩, fun h => ⟨⟨k + 1, ?_, hk⟩, mu_step hk hb⟩⟩
  · show ((pGet tyRow (sendK (cn, cl, cp, ()) fl l k) (pNat (wayI (cn, cl, cp, ()) (pGet tyMsg l k).2.1 (pGet tyMsg l k).2.2.1))).1.length + 1) * 96 ≤ 140737488351232
    omega
  · rw [pAdd1 hb, sendK_succ hk]
    unfold sendStep
    rw [h]; rfl
  · rw [pAdd1 hb, sendK_succ hk]
    unfold sendStep
    rw [h, cond_false, pSet_self (t := tyRow) (pNat_lt hin)]

theorem Send_ok : Meets Tryd.prog tabsM 13 cSend := Send_meets nCheck_ok CheckMessage_ok nown_ok.any fun cn cl cp fl l hp => by
  have hc : cl.length < 4611686018427387904 := hp (pLen cl < 4611686018427387904) (by simp)
  have hfl : fl.length < 4611686018427387904 := hp (pLen fl < 4611686018427387904) (by simp)
  have hq : ∀ q ∈ fl, pLen q.1 < 4611686018427387904 := hp (∀ q ∈ fl, pLen q.1 < 4611686018427387904) (by simp)
  have hl : l.length < 4611686018427387904 := hp (pLen l < 4611686018427387904) (by simp)
  clear hp
  have ne : ∀ {e : Int}, pNe e 0 = true → pEq e 0 = false := fun h => by simpa [pNe, pEq] using h
  have ne2 : ∀ {e : Int}, pNe e 0 = false → pEq e 0 = true := fun h => by simpa [pNe, pEq] using h
  have err : ∀ {e : Int}, sendE (cn, cl, cp, ()) fl l = e → pEq e 0 = false → (([] : List RowD), e, ()) = (sendF (cn, cl, cp, ()) fl l, sendE (cn, cl, cp, ()) fl l, ()) := fun h h0 => by rw [sendF_no h h0, h]
  unfold Send_VC
  refine ⟨hc, hfl, hq, bif_ok (fun h => err ?_ (ne h)) fun h => ?_⟩
  · unfold sendE; rw [ne h]; rfl
  have hf := ne2 h
  have hE : sendE (cn, cl, cp, ()) fl l = firstE (msgAt (cn, cl, cp, ()) l) l.length := by unfold sendE; rw [hf]; rfl
  refine ⟨UpInv.start, fun y hy => ?_⟩
  rcases FirstInv.round hl hy with ⟨k, rfl, hk, hb, hF, hT⟩ | ⟨rfl, hT⟩
  · rw [bif_true (by simp [pLt_coe, pLen, hk]), pNat_coe]
    refine ⟨pIn_coe.2 hk, hc, bif_ok (fun h => err ?_ (ne h)) fun h => hT (ne2 h)⟩
    rw [hE]; exact hF (ne h)
  · rw [bif_false (by simp [pLt_coe, pLen])]
    have hz : sendE (cn, cl, cp, ()) fl l = 0 := by rw [hE]; exact hT
    have hall : ∀ j, j < l.length → pEq (msgAt (cn, cl, cp, ()) l j) 0 = true := fun j hj => by
      obtain ⟨k, hk, hk2, ha⟩ := hy
      have : (l.length : Int) = (k : Int) := hk
      exact ha j (by omega)
    refine ⟨rows_ok hf, ⟨0, rfl, Nat.zero_le _⟩, fun y hy => ?_⟩
    obtain ⟨k, rfl, hk⟩ := hy
    have hb : k < 4611686018427387904 := by omega
    dsimp only
    by_cases hkn : k < l.length
    · obtain ⟨g1, g2, g3, g4⟩ := send_round hf (hall k hkn) hkn hb
      rw [bif_true (by simp [pLt_coe, pLen, hkn]), pNat_coe]
      exact ⟨pIn_coe.2 hkn, g1, bif_ok (fun h => ⟨g1, rfl, g2, g1, rfl, g3 h⟩) fun h => g4 h⟩
    · obtain rfl : k = l.length := by omega
      rw [bif_false (by simp [pLt_coe, pLen]), hz, sendF_yes hz]

theorem SentOf_ok : Meets Tryd.prog tabsM 14 cSentOf := SentOf_meets FlyingFault_ok MessageFault_ok.any FlyingCopy_ok.any fun cn cl cp fl l hp => by
  have hc : cl.length < 4611686018427387904 := hp (pLen cl < 4611686018427387904) (by simp)
  have hfl : fl.length < 4611686018427387904 := hp (pLen fl < 4611686018427387904) (by simp)
  have hq : ∀ q ∈ fl, pLen q.1 < 4611686018427387904 := hp (∀ q ∈ fl, pLen q.1 < 4611686018427387904) (by simp)
  have hl : l.length < 4611686018427387904 := hp (pLen l < 4611686018427387904) (by simp)
  clear hp
  have ne : ∀ {e : Int}, pNe e 0 = true → pEq e 0 = false := fun h => by simpa [pNe, pEq] using h
  have ne2 : ∀ {e : Int}, pNe e 0 = false → pEq e 0 = true := fun h => by simpa [pNe, pEq] using h
  have t0 : ∀ (k : Nat) (e : Int), k ≤ l.length → ((k = 0 ∧ e = flyF (cn, cl, cp, ()) fl) ∨ (pEq (flyF (cn, cl, cp, ()) fl) 0 = true ∧ 0 < k ∧ e = msgAt (cn, cl, cp, ()) l (k - 1) ∧ ∀ j, j < k - 1 → pEq (msgAt (cn, cl, cp, ()) l j) 0 = true)) →
      (k = l.length ∨ pEq e 0 = false) → SentOf_t0 cn cl cp fl l ((k : Int), e, ()) := by
    intro k e hk h hq2
    have key : sendE (cn, cl, cp, ()) fl l = e ∧ (pEq e 0 = true → pEq (flyF (cn, cl, cp, ()) fl) 0 = true ∧ ∀ j, j < l.length → pEq (msgAt (cn, cl, cp, ()) l j) 0 = true) := by
      unfold sendE
      rcases h with ⟨h1, h2⟩ | ⟨h1, h2, h3, h4⟩
      · rw [← h2]
        cases he : pEq e 0 with
        | false => exact ⟨rfl, fun h => absurd h (by simp)⟩
        | true =>
          have hl0 : l.length = 0 := by rcases hq2 with hq2 | hq2; omega; rw [he] at hq2; cases hq2
          exact ⟨by rw [cond_true, hl0, eq_of he]; rfl, fun _ => ⟨rfl, fun j hj => absurd hj (by omega)⟩⟩
      · rw [h1, cond_true]
        cases he : pEq e 0 with
        | false => exact ⟨by rw [h3]; exact firstE_hit (by omega) h4 (by rw [← h3]; exact he), fun h => absurd h (by simp)⟩
        | true =>
          have hl0 : k = l.length := by rcases hq2 with hq2 | hq2; exact hq2; rw [he] at hq2; cases hq2
          have hall : ∀ j, j < l.length → pEq (msgAt (cn, cl, cp, ()) l j) 0 = true := fun j hj => by
            by_cases hj2 : j = k - 1
            · rw [hj2, ← h3]; exact he
            · exact h4 j (by omega)
          exact ⟨by rw [firstE_none hall, eq_of he], fun _ => ⟨rfl, hall⟩⟩
    obtain ⟨e1, e2⟩ := key
    unfold SentOf_t0
    refine bif_ok (fun a => ?_) fun a => ?_
    · show (([] : List RowD), e, ()) = _
      rw [sendF_no e1 (ne a), e1]
    have a' : pEq e 0 = true := ne2 a
    obtain ⟨hf, hall⟩ := e2 a'
    rw [eq_of a'] at e1
    refine ⟨rows_ok hf, ⟨0, rfl, Nat.zero_le _⟩, fun y hy => ?_⟩
    obtain ⟨k, rfl, hk⟩ := hy
    have hb : k < 4611686018427387904 := by omega
    dsimp only
    by_cases hkn : k < l.length
    · obtain ⟨g1, g2, g3, g4⟩ := send_round hf (hall k hkn) hkn hb
      rw [bif_true (by simp [pLt_coe, pLen, hkn]), pNat_coe]
      exact ⟨pIn_coe.2 hkn, pIn_coe.2 hkn, g1, bif_ok (fun h => ⟨g1, rfl, pIn_coe.2 hkn, g2, g1, rfl, g3 h⟩) fun h => g4 h⟩
    · obtain rfl : k = l.length := by omega
      rw [bif_false (by simp [pLt_coe, pLen]), e1, sendF_yes e1]
  unfold SentOf_VC SentOf_t0
  refine ⟨hc, hfl, hq, ⟨0, _, rfl, Nat.zero_le _, .inl ⟨rfl, rfl⟩⟩, fun y hy => ?_⟩
  obtain ⟨k, e, rfl, hk, h⟩ := hy
  have hb : k < 4611686018427387904 := by omega
  refine bif_ok (fun a => bif_ok (fun b => ?_) fun b => t0 k e hk h (.inr b)) fun a => t0 k e hk h (.inl ?_)
  · have hkn : k < l.length := by dsimp only at a; rw [pLt_coe] at a; exact of_decide_eq_true a
    have b' : pEq e 0 = true := b
    dsimp only
    rw [pNat_coe]
    refine ⟨pIn_coe.2 hkn, hc, ⟨k + 1, msgAt (cn, cl, cp, ()) l k, by rw [pAdd1 hb]; rfl, hkn, .inr ⟨?_, by omega, rfl, fun j hj => ?_⟩⟩, mu_step hkn hb⟩
    · rcases h with ⟨_, h⟩ | ⟨h, _⟩
      · rw [← h]; exact b'
      · exact h
    · rcases h with ⟨h, _⟩ | ⟨_, h2, h3, h4⟩
      · omega
      · by_cases hj2 : j = k - 1
        · rw [hj2, ← h3]; exact b'
        · exact h4 j (by omega)
  · dsimp only at a; rw [pLt_coe] at a
    have : ¬ k < l.length := of_decide_eq_false a
    omega


end Go.Proofs.YtgocemdodabgkaaDoor

/- What the law of sending says. No condition. -/
namespace Go.Proofs.YtgocemdodabgkaaDoor
open Go.RowKit

theorem fly_short {n : Nat} {fl : List RowD} (h : FlyS n fl) (hn : n < 4611686018427387904) : pLen fl < 4611686018427387904 ∧ ∀ q ∈ fl, pLen q.1 < 4611686018427387904 :=
  ⟨by rw [show pLen fl = fl.length from rfl, h.1]; exact hn, fun q hq => Nat.lt_of_le_of_lt (h.2 q hq) (by decide)⟩
theorem sendF_short {c : CfgD} {fl : List RowD} {l : List MsgD} (hl : fl.length < 4611686018427387904) : pLen (sendF c fl l) < 4611686018427387904 ∧ ∀ q ∈ sendF c fl l, pLen q.1 < 4611686018427387904 := by
  cases h : pEq (sendE c fl l) 0 with
  | false => rw [sendF_no rfl h]; exact ⟨by decide, fun q hq => by cases hq⟩
  | true =>
    rw [sendF_yes (eq_of h)]
    have hf : pEq (flyF c fl) 0 = true := by
      cases hf : pEq (flyF c fl) 0 with
      | true => rfl
      | false => unfold sendE at h; rw [hf, cond_false, hf] at h; cases h
    exact fly_short (sendK_s (fly_ok hf).2.2 l.length (Nat.le_refl _)) hl
theorem sends_vc (cn : Int) (cl : List LabD) (cp : Int) (fl : List RowD) (l : List MsgD) (h1 : cl.length < 4611686018427387904) (h2 : RowsOk fl) (h3 : l.length * 96 ≤ 140737488351232) : NetSends_VC cn cl cp fl l := by
  have hfl : fl.length < 4611686018427387904 := room62 (by decide) h2.1
  have hq : ∀ q ∈ fl, pLen q.1 < 4611686018427387904 := fun q hq => room62 (by decide) (h2.2 q hq)
  have hl : l.length < 4611686018427387904 := by omega
  have hs := sendF_short (c := (cn, cl, cp, ())) (l := l) hfl
  unfold NetSends_VC NetSends_v0
  rw [show pApp [] l = l from rfl, show pEq (sendE (cn, cl, cp, ()) fl l) (sendE (cn, cl, cp, ()) fl l) = true by simp [pEq], cond_true, sameFly_refl, cond_true, sameFly_refl]
  refine ⟨h2, ?_, h1, hfl, hq, hl, h1, hfl, hq, hl, hs.1, hs.2, hfl, hq, rfl⟩
  show (0 + l.length) * 96 ≤ 140737488351232
  rw [Nat.zero_add]; exact h3


end Go.Proofs.YtgocemdodabgkaaDoor

/- The law NetSends: for every input it returns true and turns nothing. No condition. -/
namespace Go.Proofs.YtgocemdodabgkaaDoor
open Go.RowKit Go.ChangeShapes Go.WideShapes Go.ChangeAt Go.Deep

def bools0 : List (List Bool) := [[false, false, false, false, false, false, false, false], [true, true, false, false, true, false, false, false], [false, true, true, false, true, false, false, false], [true, true, false, true, false, false, false, false], [false, false, false, false, false, true, false, false], [true, true, true, true, true, false, true, false], [false, true, false, false, true, false, true, false], [true, true, false, true, false, true, false, false], [false, false, false, false, false, false, false, false], [false, false, false, false, false, false, false, false]]
theorem table0 {W : World} (hc : ∀ i j r b, i < 10 → j < 8 → bools0[i]? = some r → r[j]? = some b → W.cell? ⟨1, i * 8 + j, none⟩ = some (.bool b)) : GlobR W (fun b => b < W.heap.size) 1 (.rows tyParts messagesT) := by
  have h0 := hc 0 0 _ _ (by decide) (by decide) rfl rfl
  refine glob_rows (cell_lt h0) (bools0.map fun r => r.map .bool) (fun i hi => ?_) fun i us j u hi hj => ?_
  · have hi : i < 10 := hi
    match i, hi with
    | 0, _ => exact ⟨_, rfl, ⟨[_], _, rfl, rfl, ⟨[_], _, rfl, rfl, ⟨[_], _, rfl, rfl, ⟨[_], _, rfl, rfl, ⟨[_], _, rfl, rfl, ⟨[_], _, rfl, rfl, ⟨[_], _, rfl, rfl, ⟨[_], _, rfl, rfl, rfl⟩⟩⟩⟩⟩⟩⟩⟩⟩
    | 1, _ => exact ⟨_, rfl, ⟨[_], _, rfl, rfl, ⟨[_], _, rfl, rfl, ⟨[_], _, rfl, rfl, ⟨[_], _, rfl, rfl, ⟨[_], _, rfl, rfl, ⟨[_], _, rfl, rfl, ⟨[_], _, rfl, rfl, ⟨[_], _, rfl, rfl, rfl⟩⟩⟩⟩⟩⟩⟩⟩⟩
    | 2, _ => exact ⟨_, rfl, ⟨[_], _, rfl, rfl, ⟨[_], _, rfl, rfl, ⟨[_], _, rfl, rfl, ⟨[_], _, rfl, rfl, ⟨[_], _, rfl, rfl, ⟨[_], _, rfl, rfl, ⟨[_], _, rfl, rfl, ⟨[_], _, rfl, rfl, rfl⟩⟩⟩⟩⟩⟩⟩⟩⟩
    | 3, _ => exact ⟨_, rfl, ⟨[_], _, rfl, rfl, ⟨[_], _, rfl, rfl, ⟨[_], _, rfl, rfl, ⟨[_], _, rfl, rfl, ⟨[_], _, rfl, rfl, ⟨[_], _, rfl, rfl, ⟨[_], _, rfl, rfl, ⟨[_], _, rfl, rfl, rfl⟩⟩⟩⟩⟩⟩⟩⟩⟩
    | 4, _ => exact ⟨_, rfl, ⟨[_], _, rfl, rfl, ⟨[_], _, rfl, rfl, ⟨[_], _, rfl, rfl, ⟨[_], _, rfl, rfl, ⟨[_], _, rfl, rfl, ⟨[_], _, rfl, rfl, ⟨[_], _, rfl, rfl, ⟨[_], _, rfl, rfl, rfl⟩⟩⟩⟩⟩⟩⟩⟩⟩
    | 5, _ => exact ⟨_, rfl, ⟨[_], _, rfl, rfl, ⟨[_], _, rfl, rfl, ⟨[_], _, rfl, rfl, ⟨[_], _, rfl, rfl, ⟨[_], _, rfl, rfl, ⟨[_], _, rfl, rfl, ⟨[_], _, rfl, rfl, ⟨[_], _, rfl, rfl, rfl⟩⟩⟩⟩⟩⟩⟩⟩⟩
    | 6, _ => exact ⟨_, rfl, ⟨[_], _, rfl, rfl, ⟨[_], _, rfl, rfl, ⟨[_], _, rfl, rfl, ⟨[_], _, rfl, rfl, ⟨[_], _, rfl, rfl, ⟨[_], _, rfl, rfl, ⟨[_], _, rfl, rfl, ⟨[_], _, rfl, rfl, rfl⟩⟩⟩⟩⟩⟩⟩⟩⟩
    | 7, _ => exact ⟨_, rfl, ⟨[_], _, rfl, rfl, ⟨[_], _, rfl, rfl, ⟨[_], _, rfl, rfl, ⟨[_], _, rfl, rfl, ⟨[_], _, rfl, rfl, ⟨[_], _, rfl, rfl, ⟨[_], _, rfl, rfl, ⟨[_], _, rfl, rfl, rfl⟩⟩⟩⟩⟩⟩⟩⟩⟩
    | 8, _ => exact ⟨_, rfl, ⟨[_], _, rfl, rfl, ⟨[_], _, rfl, rfl, ⟨[_], _, rfl, rfl, ⟨[_], _, rfl, rfl, ⟨[_], _, rfl, rfl, ⟨[_], _, rfl, rfl, ⟨[_], _, rfl, rfl, ⟨[_], _, rfl, rfl, rfl⟩⟩⟩⟩⟩⟩⟩⟩⟩
    | 9, _ => exact ⟨_, rfl, ⟨[_], _, rfl, rfl, ⟨[_], _, rfl, rfl, ⟨[_], _, rfl, rfl, ⟨[_], _, rfl, rfl, ⟨[_], _, rfl, rfl, ⟨[_], _, rfl, rfl, ⟨[_], _, rfl, rfl, ⟨[_], _, rfl, rfl, rfl⟩⟩⟩⟩⟩⟩⟩⟩⟩
  · rw [List.getElem?_map] at hi
    cases hr : bools0[i]? with
    | none => rw [hr] at hi; cases hi
    | some r =>
      rw [hr] at hi
      simp only [Option.map_some, Option.some.injEq] at hi
      subst hi
      rw [List.getElem?_map] at hj
      cases hb : r[j]? with
      | none => rw [hb] at hj; cases hj
      | some b =>
        rw [hb] at hj
        simp only [Option.map_some, Option.some.injEq] at hj
        subst hj
        have hi : i < 10 := (List.getElem?_eq_some_iff.1 hr).1
        have h8 : ∀ r ∈ bools0, r.length = 8 := by decide
        have hj : j < 8 := by
          have := (List.getElem?_eq_some_iff.1 hb).1
          rw [h8 r (List.mem_of_getElem? hr)] at this; exact this
        exact hc i j r b hi hj hr hb
theorem laid0 {W : World} {cs : Array Value} {p : List MemPlace} {base fuel : Nat} {sp : Nat → Bool} {held : Bool} (hvar : W.var? Tryd.prog "reredos/wire.messages" = some cs)
    (hd : DataW.trod (fun _ => ()) Tryd.prog W base sp held fuel 137 cs.toList = some (.agg (bools0.map fun r => .agg (r.map fun b => .lit (.bool b))), p)) : GlobR W (fun b => b < W.heap.size) 1 (.rows tyParts messagesT) := by
  have hc := cells_of_rows (m := 8) (eb := 4) (rows := bools0) Tryd.underlying137 Tryd.underlying120 (by kernel_rfl) Tryd.underlying4 (by kernel_rfl) (by decide) hd
  refine table0 fun i j r b hi hj hr hb => ?_
  have := hc i j r b hi hj hr hb
  have h2 := World.var?_cell (show Tryd.prog.globalNamed "reredos/wire.messages" = some 1 by kernel_rfl) hvar (i * 8 + j)
  rw [h2]
  simpa using this

set_option maxRecDepth 100000 in
theorem laidTabs {W : World} (h : laidMetH Tryd.prog Rows.netSendsRow.laid W) : TabsM W := by
  obtain ⟨ps, ⟨g0, t0, cs0, fu0, p0, q0, hg0, ht0, hvar0, hd0, _, _⟩, _⟩ := h
  obtain rfl := Option.some.inj ((show Tryd.prog.globalNamed "reredos/wire.messages" = some 1 by kernel_rfl).symm.trans hg0)
  obtain rfl := Option.some.inj ((show (Tryd.prog.globals[1]?).map (·.type) = some 137 by kernel_rfl).symm.trans ht0)
  have G0 := laid0 hvar0 hd0
  intro g gl hgl
  unfold tabsM at hgl
  rw [look_cons] at hgl
  split at hgl
  · rename_i h; subst h; cases hgl; exact G0
  cases hgl

noncomputable def laidWorld_ (os : Os) : World :=
  { World.holding Tryd.prog os ⟨#[], #[], []⟩ with heap := ((World.holding Tryd.prog os ⟨#[], #[], []⟩).heap.modify 1 fun
      | .cells _ t frozen => .cells #[.bool false, .bool false, .bool false, .bool false, .bool false, .bool false, .bool false, .bool false, .bool true, .bool true, .bool false, .bool false, .bool true, .bool false, .bool false, .bool false, .bool false, .bool true, .bool true, .bool false, .bool true, .bool false, .bool false, .bool false, .bool true, .bool true, .bool false, .bool true, .bool false, .bool false, .bool false, .bool false, .bool false, .bool false, .bool false, .bool false, .bool false, .bool true, .bool false, .bool false, .bool true, .bool true, .bool true, .bool true, .bool true, .bool false, .bool true, .bool false, .bool false, .bool true, .bool false, .bool false, .bool true, .bool false, .bool true, .bool false, .bool true, .bool true, .bool false, .bool true, .bool false, .bool true, .bool false, .bool false, .bool false, .bool false, .bool false, .bool false, .bool false, .bool false, .bool false, .bool false, .bool false, .bool false, .bool false, .bool false, .bool false, .bool false, .bool false, .bool false] t frozen
      | o => o) }
def wit : Array Value := #[.agg #[.int .i64 0, .slice none 0 0, .int .i64 0], .slice none 0 0, .slice none 0 0]
theorem laid_met_ (os : Os) : laidMet Tryd.prog Rows.netSendsRow.laid ((laidWorld_ os).forCall (fun _ _ => 0) ⟨#[], wit, []⟩).memory :=
  laidMet_of_run' 8 (by kernel_rfl) (by kernel_rfl)
theorem reads_ (os : Os) {H : Type} (enc : TypeId × Value → H) : ∃ places, DataW.whole enc Tryd.prog ((laidWorld_ os).forCall (fun _ _ => 0) ⟨#[], wit, []⟩).memory Tryd.f4.params.toList Rows.netSendsSpec.vars false wit.toList 8 = some ([.agg [.lit (.int .i64 0), .nil, .lit (.int .i64 0)], .nil, .nil], [], places) :=
  ⟨[], by kernel_rfl⟩

set_option maxRecDepth 100000 in
theorem netSends_lifted (os : Os) (started : os.Started) (H : Type) (enc : TypeId × Value → H) (F : Stop.Interp) :
    ReturnsInHanded {} Tryd.checked os 4 .any ((OpenSpec.ofChange Rows.netSendsSpec).preRow enc Tryd.prog Tryd.f4 Rows.netSendsRow.domain false Rows.netSendsRow.laid) (((OpenSpec.ofChange Rows.netSendsSpec).at F).post enc Tryd.prog Tryd.f4 false true false false) := by
  obtain ⟨places, hx⟩ := reads_ os enc
  refine lift_card started _ _ Rows.netSendsSpec Rows.netSendsRow.laid Tryd.func4 (by kernel_rfl) rfl rfl (by kernel_rfl) ?_
    (witness_row_at (enc := enc) (C := Tryd.checked) false (laidWorld_ os) wit rfl (by kernel_rfl) (by kernel_rfl) (by kernel_rfl)
      (OpenSpec.preRow_of_cond 8 hx (by kernel_rfl) (fun k hk => by cases hk) (by kernel_rfl) (laid_met_ os))) ?_
  · intro ds hds
    match ds, hds with
    | [_, _, _], _ => rfl
  · intro W base args ds p hA hval hlt hsz hL
    refine NetSends_walk FlyingCopy_ok.any Send_ok SentOf_ok sameFly_ok.any (fun x h => ?_) W base args ds p hA hval hlt hsz (laidTabs hL)
    have c1 : x.1.2.1.length * 16 ≤ 140737488351232 := h.1.2.1.1
    have hf : RowsOk x.2.1.1 := ⟨h.2.1.1, fun q hq => (h.2.1.2 q hq).1⟩
    have c3 : x.2.2.1.1.length * 96 ≤ 140737488351232 := h.2.2.1.1
    exact sends_vc _ _ _ _ _ (lt62 c1 (by decide)) hf c3

set_option maxRecDepth 100000 in
set_option maxHeartbeats 4000000 in
theorem netSends_closed : joinedFacts Tryd.prog 4 Tryd.f4 (OpenSpec.ofChange Rows.netSendsSpec).bare Rows.netSendsRow = true := by
  unfold joinedFacts
  exact and_b (and_b (and_b (and_b (and_b (and_b (and_b (and_b (and_b (and_b (and_b (and_b (and_b (and_b (and_b (and_b (and_b (and_b (and_b (and_b (and_b (and_b (and_b (and_b (and_b (and_b (and_b (and_b (and_b (and_b (and_b ((by kernel_rfl)) Tryd.laidOut) pg_mapsRowed) (by kernel_rfl)) (by kernel_rfl)) (by kernel_rfl)) pg_stops) (by kernel_rfl)) pg_stopKnobs) (by kernel_rfl)) (by kernel_rfl)) (by kernel_rfl)) (by kernel_rfl)) (by kernel_rfl)) (by kernel_rfl)) (by kernel_rfl)) (by kernel_rfl)) (by kernel_rfl)) (by kernel_rfl)) (by kernel_rfl)) (by kernel_rfl)) (by kernel_rfl)) pg_plainKeys) (by kernel_rfl)) pg_stopsHeard) pg_mayEnter) pg_lifted) pg_make) (by kernel_rfl)) (by kernel_rfl)) (by kernel_rfl)) (by kernel_rfl)

theorem netSends_said : Rows.NetSendsSaid :=
  OpenClaim.holds_of_cond 4 Tryd.f4 rfl rfl rfl rfl rfl rfl rfl ⟨rfl, rfl, rfl, rfl, rfl⟩ rfl rfl rfl rfl rfl (by kernel_rfl) Tryd.func4 netSends_closed
    (of_decide_eq_true (by kernel_rfl)) (by unfold Func.isWrapper; rw [if_neg (of_decide_eq_false (by kernel_rfl))]; exact ⟨rfl, rfl⟩)
    (fun os started H enc _ F => by rw [OpenClaim.pre_eq_preRow]; exact netSends_lifted os started H enc F)

theorem netSends_stand : Tryd.f4.params.all (fun t => !Tryd.pinned.checked.prog.wantsStandIn t) = true := by kernel_rfl
theorem netSends_plain (f : FuncId) (fn : Func) (hf : Tryd.pinned.checked.prog.funcNamed "reredos/reredoslaw.NetSends" = some f) (hfn : Tryd.pinned.checked.prog.funcs[f]? = some fn) :
    false = Tryd.pinned.checked.prog.looks [] ∧ ∀ (j : Nat) t, fn.params[j]? = some t → Tryd.pinned.checked.prog.wantsStandIn t = false := by
  obtain rfl : f = 4 := Option.some.inj ((show Tryd.prog.funcNamed "reredos/reredoslaw.NetSends" = some 4 by kernel_rfl).symm.trans hf) |>.symm
  obtain rfl : fn = Tryd.f4 := (Option.some.inj (Tryd.func4.symm.trans hfn)).symm
  refine ⟨pg_looks, fun j t ht => ?_⟩
  have h := Array.all_eq_true_iff_forall_mem.1 netSends_stand t (Array.mem_of_getElem? ht)
  simpa using h
theorem netSends_wf : Rows.netSendsRow.wfByText (OpenSpec.ofChange Rows.netSendsSpec) = true := by kernel_rfl
theorem netSends_goes : false = Rows.netSendsRow.goesBy Tryd.pinned.checked.prog := by kernel_rfl

/-- NetSends: the statement. -/
theorem netSends_holds : Rows.NetSendsCardSaid :=
  Claim7.holds_tied_plain_at .later [] _ _ _ _ netSends_said (fun _ h => by cases h) netSends_wf (fun _ h => by cases h) netSends_row_tie rfl ⟨rfl, rfl⟩ pg_main rfl netSends_plain netSends_goes


end Go.Proofs.YtgocemdodabgkaaDoor
