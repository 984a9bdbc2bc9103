/- Tasks that are marked as sure, one after another. No condition. -/
import Derived.Test.YtnkcmkegjckncaaDoorJ5
import Derived.Test.YtnkcmkegjckncaaDoorJ7

/- What a message to a coordinator comes to, in plain words. No condition. -/
namespace Go.Proofs.YtnkcmkegjckncaaDoor
open Go.RowKit

theorem beg_zero {c : CfgD} {l m : Int} {d : DeskD} (h : begE c l m d = 0) : deskF c d = 0 ∧ placeF c l = true ∧ 0 ≤ m ∧ m < c.1 := by
  unfold begE at h
  cases h1 : pEq (deskF c d) 0 with
  | false => rw [h1, cond_false] at h; rw [h] at h1; cases h1
  | true =>
    rw [h1, cond_true] at h
    cases h2 : placeF c l with
    | false => rw [h2, cond_false] at h; cases h
    | true =>
      rw [h2, cond_true] at h
      cases h3 : (pLe 0 m && pLt m c.1) with
      | false => rw [h3, cond_false] at h; cases h
      | true =>
        rw [Bool.and_eq_true] at h3
        exact ⟨by simpa [pEq] using h1, rfl, of_decide_eq_true h3.1, of_decide_eq_true h3.2⟩
theorem heaE_zero {c : CfgD} {l m : Int} {d : DeskD} {k : Int} {z : MsgR} (h1 : begE c l m d = 0) (h2 : msgF c (k, z) = 0) (h3 : pEq z.2.1 m = true) (h4 : pEq z.2.2.1 m = true) (hk : pLt k 5 = false) : heaE c l m d (k, z) = 0 := by
  unfold heaE
  dsimp only
  rw [h1, h2, h3, h4, hk]; rfl
theorem heaT_none {c : CfgD} {l m : Int} {d : DeskD} {k : Int} {z : MsgR} (h : heaE c l m d (k, z) = 0) (hi : pLt (idxKeyJ d.2.1 z.2.2.2.1) 0 = true) :
    heaT c l m d (k, z) = cond (pEq k 9) (d.1, d.2.1, [decM m false z.2.2.2.1 z.1], [], [], 0, 0, ()) (quietT d) := by
  unfold heaT
  dsimp only
  rw [h, hi]; rfl
theorem heaT_some {c : CfgD} {l m : Int} {d : DeskD} {k : Int} {z : MsgR} {i : Nat} (h : heaE c l m d (k, z) = 0) (hi : idxKeyJ d.2.1 z.2.2.2.1 = (i : Int)) :
    heaT c l m d (k, z) = cond (pEq k 5 || pEq k 6) (answT c.1 l m d i (pGet tyJob d.2.1 i) (k, z))
        (cond (pEq k 7) (sureT c.1 l m d i (pGet tyJob d.2.1 i) (k, z))
          (cond (pEq k 8) (ackT m d i (pGet tyJob d.2.1 i) (k, z)) (askedT m d (pGet tyJob d.2.1 i) (k, z)))) := by
  unfold heaT
  dsimp only
  rw [h, hi, pNat_coe]; rfl
theorem heaT_no {c : CfgD} {l m : Int} {d : DeskD} {z : MsgD} (h : heaE c l m d z ≠ 0) : heaT c l m d z = noTurn := by
  unfold heaT
  have : pEq (heaE c l m d z) 0 = false := by simpa [pEq] using h
  rw [this]; rfl
theorem heaE_beg {c : CfgD} {l m : Int} {d : DeskD} {z : MsgD} (h : begE c l m d ≠ 0) : heaE c l m d z = begE c l m d := by
  unfold heaE
  have : pEq (begE c l m d) 0 = false := by simpa [pEq] using h
  rw [this]; rfl
theorem heaE_msg {c : CfgD} {l m : Int} {d : DeskD} {z : MsgD} (h : begE c l m d = 0) (h2 : msgF c z ≠ 0) : heaE c l m d z = msgF c z := by
  unfold heaE
  have : pEq (msgF c z) 0 = false := by simpa [pEq] using h2
  rw [h, this]; rfl
theorem heaE_rest {c : CfgD} {l m : Int} {d : DeskD} {z : MsgD} (h : begE c l m d = 0) (h2 : msgF c z = 0) : heaE c l m d z = cond (pEq z.2.2.1 m && pEq z.2.2.2.1 m) (cond (pLt z.1 5) 3 0) 2 := by
  unfold heaE
  rw [h, h2]; rfl
theorem fits5 {cn : Int} {k : TaskD} {z : MsgR} : fitsT cn k (5, z) = !(k.2.2.2.2.2.2.1 || pNe k.2.2.2.2.2.1 z.2.2.2.2.2.2.2.2.1 || pNot (pBeq k.1 false) || pNe k.2.2.1 z.2.2.2.2.2.1 || pNe k.2.1 z.2.2.2.2.1 || pNe z.1 (pRem k.2.2.1 cn)) := rfl
theorem fits6 {cn : Int} {k : TaskD} {z : MsgR} : fitsT cn k (6, z) = !(k.2.2.2.2.2.2.1 || pNe k.2.2.2.2.2.1 z.2.2.2.2.2.2.2.2.1 || pNot (pBeq k.1 true) || pNe k.2.2.1 z.2.2.2.2.2.1 || false || pNe z.1 (pRem k.2.2.1 cn)) := rfl
theorem hear_pre {c : CfgD} {l m : Int} {d : DeskD} {z : MsgR} (hb : begE c l m d = 0) (h1 : pLen c.2.1 < 4611686018427387904) (h2 : pLen d.2.1 < 4611686018427387904) (h3 : ∀ q ∈ d.2.1, pLen q.2.2.1 < 4611686018427387904 ∧ pLen q.2.2.2.1 < 4611686018427387904)
    (h4 : pEq z.2.1 m = true) (h5 : pEq z.2.2.1 m = true) {A1 A2 A3 A4 A5 A6 A7 M : Prop} (hM : M) (R : Prop) (hR : deskF c d = 0 → placeF c l = true → R) :
    pLen c.2.1 < 4611686018427387904 ∧ pLen d.2.1 < 4611686018427387904 ∧ (∀ q ∈ d.2.1, pLen q.2.2.1 < 4611686018427387904 ∧ pLen q.2.2.2.1 < 4611686018427387904) ∧
      bif pNe (deskF c d) 0 then A1 else bif pLt l 0 then A2 else bif pGe l (pInt (pLen c.2.1)) then A3 else bif pLt m 0 then A4 else bif pGe m c.1 then A5 else
        pRoom (pLen d.2.1) 80 ∧ (∀ q ∈ d.2.1, pRoom (pLen q.2.2.1) 56 ∧ pRoom (pLen q.2.2.2.1) 8) ∧ pLen d.2.1 < 4611686018427387904 ∧ pLen c.2.1 < 4611686018427387904 ∧ M ∧ bif pNe z.2.1 m then A6 else bif pNe z.2.2.1 m then A7 else R := by
  obtain ⟨hz, hpl, a, b⟩ := beg_zero hb
  have hrm := rooms_ok hz
  have hP : placeF c l = (pLe 0 l && pLt l (pInt c.2.1.length)) := rfl
  rw [hpl] at hP
  have hP := (Bool.and_eq_true _ _ ▸ hP.symm : pLe 0 l = true ∧ pLt l (pInt c.2.1.length) = true)
  have p1 : 0 ≤ l := of_decide_eq_true hP.1
  have p2 : l < pInt c.2.1.length := of_decide_eq_true hP.2
  have e4 : z.2.1 = m := by simpa [pEq] using h4
  have e5 : z.2.2.1 = m := by simpa [pEq] using h5
  refine ⟨h1, h2, h3, ?_⟩
  rw [bif_false (show pNe (deskF c d) 0 = false by rw [hz]; rfl), bif_false (show pLt l 0 = false from decide_eq_false (by omega)), bif_false (show pGe l (pInt (pLen c.2.1)) = false from decide_eq_false (by unfold pLen; omega)),
    bif_false (show pLt m 0 = false from decide_eq_false (by omega)), bif_false (show pGe m c.1 = false from decide_eq_false (by omega))]
  refine ⟨hrm.1, hrm.2, h2, h1, hM, ?_⟩
  rw [bif_false (show pNe z.2.1 m = false by rw [e4]; simp [pNe]), bif_false (show pNe z.2.2.1 m = false by rw [e5]; simp [pNe])]
  exact hR hz hpl
theorem sub0 {α : Type} {xs : List α} {k : Nat} : pSub xs 0 k = xs.take k := by unfold pSub; rw [List.drop_zero]


end Go.Proofs.YtnkcmkegjckncaaDoor

/- coord.Hear meets its contract, kind by kind. No condition. -/
namespace Go.Proofs.YtnkcmkegjckncaaDoor
open Go.RowKit

theorem pDel_set {α : Type} {xs : List α} {i : Nat} {a : α} : pDel (pSet xs i a) i = pDel xs i := by
  unfold pDel pSet; rw [List.take_set_of_le (Nat.le_refl i), List.drop_set_of_lt (Nat.lt_succ_self i)]
set_option maxHeartbeats 4000000 in
theorem HearE_ok : Meets Tryd.prog tabsM 5 cHearE := HearE_meets CheckMessage_ok (kkbeginN_ok cCheck_ok.any cownN_ok.any) fun c l m d z hp => by
  have h1 : pLen c.2.1 < 4611686018427387904 := hp (pLen c.2.1 < 4611686018427387904) (by simp)
  have h2 : pLen d.2.1 < 4611686018427387904 := hp (pLen d.2.1 < 4611686018427387904) (by simp)
  have h3 : ∀ q ∈ d.2.1, pLen q.2.2.1 < 4611686018427387904 ∧ pLen q.2.2.2.1 < 4611686018427387904 := hp (∀ q ∈ d.2.1, pLen q.2.2.1 < 4611686018427387904 ∧ pLen q.2.2.2.1 < 4611686018427387904) (by simp)
  have hE : pNe (heaE c l m d z) 0 = true := hp (pNe (heaE c l m d z) 0 = true) (by simp)
  clear hp
  have hE : heaE c l m d z ≠ 0 := by simpa [pNe] using hE
  have no : ∀ e : Int, heaE c l m d z = e → (HearE_v0, e, ()) = HearE_v1 c l m d z := fun e h => by
    show (noTurn, e, ()) = (heaT c l m d z, heaE c l m d z, ())
    rw [heaT_no hE, h]
  delta HearE_VC
  have hbg : ∀ e : Int, begE c l m d = e → e ≠ 0 → (HearE_v0, e, ()) = HearE_v1 c l m d z := fun e h he => no e (by rw [heaE_beg (by rw [h]; exact he), h])
  refine ⟨h1, h2, h3, bif_ok (fun he => bif_ok (fun _ => hbg _ (begE_desk he) (by simpa [pNe] using he)) fun h => by rw [he] at h; cases h) fun he => ?_⟩
  have hz := desk_zero he
  have hr := begE_rest (l := l) (m := m) hz
  refine bif_ok (fun h => hbg 6 ?_ (by decide)) fun hl1 => bif_ok (fun h => hbg 6 ?_ (by decide)) fun hl2 => bif_ok (fun h => hbg 2 ?_ (by decide)) fun hm1 => bif_ok (fun h => hbg 2 ?_ (by decide)) fun hm2 => ?_
  · rw [hr]
    have : placeF c l = false := by unfold placeF; grind [pLt, pLe, pGt, pGe, pEq, pNe, pNot, pAndB, pBeq, pInt, pLen, inF, pIn, pTo, pNat]
    rw [this]; rfl
  · rw [hr]
    have : placeF c l = false := by unfold placeF; grind [pLt, pLe, pGt, pGe, pEq, pNe, pNot, pAndB, pBeq, pInt, pLen, inF, pIn, pTo, pNat]
    rw [this]; rfl
  · rw [hr]
    have h4 : placeF c l = true := by unfold placeF; grind [pLt, pLe, pGt, pGe, pEq, pNe, pNot, pAndB, pBeq, pInt, pLen, inF, pIn, pTo, pNat]
    have h5 : (pLe 0 m && pLt m c.1) = false := by grind [pLt, pLe, pGt, pGe, pEq, pNe, pNot, pAndB, pBeq, pInt, pLen, inF, pIn, pTo, pNat]
    rw [h4, h5]; rfl
  · rw [hr]
    have h4 : placeF c l = true := by unfold placeF; grind [pLt, pLe, pGt, pGe, pEq, pNe, pNot, pAndB, pBeq, pInt, pLen, inF, pIn, pTo, pNat]
    have h5 : (pLe 0 m && pLt m c.1) = false := by grind [pLt, pLe, pGt, pGe, pEq, pNe, pNot, pAndB, pBeq, pInt, pLen, inF, pIn, pTo, pNat]
    rw [h4, h5]; rfl
  have hpl : placeF c l = true := by unfold placeF; grind [pLt, pLe, pGt, pGe, pEq, pNe, pNot, pAndB, pBeq, pInt, pLen, inF, pIn, pTo, pNat]
  have hb : begE c l m d = 0 := by
    have h5 : (pLe 0 m && pLt m c.1) = true := by grind [pLt, pLe, pGt, pGe, pEq, pNe, pNot, pAndB, pBeq, pInt, pLen, inF, pIn, pTo, pNat]
    rw [hr, hpl]
    show cond (pLe 0 m && pLt m c.1) (0 : Int) 2 = 0
    rw [h5]; rfl
  have hrm := rooms_ok hz
  refine ⟨hrm.1, hrm.2, h2, h1, bif_ok (fun a => no _ (heaE_msg hb (by simpa [pNe] using a))) fun a => ?_⟩
  have hm : msgF c z = 0 := by simpa [pNe] using a
  have hre := heaE_rest hb hm
  refine bif_ok (fun a => no 2 ?_) fun a => bif_ok (fun b => no 2 ?_) fun b => bif_ok (fun c3 => no 3 ?_) fun c3 => ?_
  · rw [hre, show pEq z.2.2.1 m = false by simpa [pEq, pNe] using a]; rfl
  · rw [hre, show pEq z.2.2.2.1 m = false by simpa [pEq, pNe] using b, Bool.and_false]; rfl
  · rw [hre, show pEq z.2.2.1 m = true by simpa [pEq, pNe] using a, show pEq z.2.2.2.1 m = true by simpa [pEq, pNe] using b, c3]; rfl
  · exact hE (by rw [hre, show pEq z.2.2.1 m = true by simpa [pEq, pNe] using a, show pEq z.2.2.2.1 m = true by simpa [pEq, pNe] using b, c3]; rfl)
set_option maxHeartbeats 4000000 in
theorem Hear5_ok : Meets Tryd.prog tabsM 5 cHear5 := Hear5_meets CheckMessage0_ok (kkbeginN_ok cCheck_ok.any cownN_ok.any) (kkplace_ok indexJ_ok.any) (kkanswered_ok kkreply_ok (kkendN_ok kksend_ok (kksites_ok hasN_ok.any sort_ok.any) (kkdrop_ok delJ_ok.any))) fun c l m d z hp => by
  have h1 : pLen c.2.1 < 4611686018427387904 := hp (pLen c.2.1 < 4611686018427387904) (by simp)
  have h2 : pLen d.2.1 < 4611686018427387904 := hp (pLen d.2.1 < 4611686018427387904) (by simp)
  have h3 : ∀ q ∈ d.2.1, pLen q.2.2.1 < 4611686018427387904 ∧ pLen q.2.2.2.1 < 4611686018427387904 := hp (∀ q ∈ d.2.1, pLen q.2.2.1 < 4611686018427387904 ∧ pLen q.2.2.2.1 < 4611686018427387904) (by simp)
  have hb : begE c l m d = 0 := hp (begE c l m d = 0) (by simp)
  have hm : msgF c ((5 : Int), z) = 0 := hp (msgF c ((5 : Int), z) = 0) (by simp)
  have hv : pEq z.2.1 m = true := hp (pEq z.2.1 m = true) (by simp)
  have hs : pEq z.2.2.1 m = true := hp (pEq z.2.2.1 m = true) (by simp)
  clear hp
  have hE := heaE_zero hb hm hv hs (by rfl)
  delta Hear5_VC
  refine hear_pre hb h1 h2 h3 hv hs hm _ fun hz hpl => ?_
  refine ⟨h2, bif_ok (fun n => ?_) fun n => ?_⟩
  · show ((d.1, d.2.1, ([] : List MsgD), ([] : List RecD), ([] : List RepD), (0 : Int), (0 : Int), ()), (0 : Int), ()) = (heaT c l m d ((5 : Int), z), heaE c l m d ((5 : Int), z), ())
    rw [heaT_none hE n, hE]; rfl
  obtain ⟨i, hI, hi, hn⟩ := find_at n
  have hT := heaT_some hE hI
  have hmem : pGet tyJob d.2.1 i ∈ d.2.1 := by rw [pGet_lt (t := tyJob) hi]; exact List.getElem_mem hi
  have hj := jobs_ok hz _ hmem
  have hcs := (deskF_zero hz).1
  have hn6 : d.2.1.length ≤ 6 := (deskF_zero hz).2.1
  obtain ⟨j, hjj⟩ : ∃ j : JobD, j = pGet tyJob d.2.1 i := ⟨_, rfl⟩
  have hset : pSet d.2.1 i j = d.2.1 := by rw [hjj]; exact pSet_get (t := tyJob)
  rw [← hjj] at hj hT hn
  have fin : ∀ T : TurnD, T = answT c.1 l m d i j ((5 : Int), z) → (T, (0 : Int), ()) = Hear5_v1 c l m d z := fun T h => by
    show (T, (0 : Int), ()) = (heaT c l m d ((5 : Int), z), heaE c l m d ((5 : Int), z), ())
    rw [hT, hE, h]; rfl
  have quiet : answT c.1 l m d i j ((5 : Int), z) = quietT d → ((d.1, pSet d.2.1 i j, ([] : List MsgD), ([] : List RecD), ([] : List RepD), (0 : Int), (0 : Int), ()), (0 : Int), ()) = Hear5_v1 c l m d z := fun h => fin _ (by rw [h, hset]; rfl)
  have e3 : Hear5_v3 d z = i := by show pNat (idxKeyJ d.2.1 z.2.2.2.1) = i; rw [hI, pNat_coe]
  have e4 : Hear5_v4 d z = j := by show pGet tyJob d.2.1 (pNat (idxKeyJ d.2.1 z.2.2.2.1)) = j; rw [hI, pNat_coe, ← hjj]
  have e5 : Hear5_v5 d z = pSubI .i64 (pInt j.2.2.1.length) 1 := by delta Hear5_v5; rw [e4]; rfl
  refine ⟨by show pIn (idxKeyJ d.2.1 z.2.2.2.1) _; rw [hI]; exact pIn_coe.2 hi, ?_⟩
  have t6 : answT c.1 l m d i j ((5 : Int), z) = quietT d → Hear5_t6 c l m d z := fun h => ⟨rfl, by rw [e3, e4]; exact quiet h⟩
  rw [e5]
  refine bif_ok (fun n0 => t6 (by unfold answT; dsimp only; rw [n0]; rfl)) fun n0 => ⟨rfl, ?_⟩
  have hpos : 0 < j.2.2.1.length := by
    have hlen := hj.2.1
    have : ¬ (pSubI .i64 (pInt j.2.2.1.length) 1 < 0) := of_decide_eq_false n0
    unfold pInt at this
    rw [pSubI_in (a := (j.2.2.1.length : Int)) (b := 1) (by omega)] at this
    omega
  have hl : pSubI .i64 (pInt j.2.2.1.length) 1 = ((j.2.2.1.length - 1 : Nat) : Int) := by
    have hlen := hj.2.1
    unfold pInt
    rw [pSubI_in (a := (j.2.2.1.length : Int)) (b := 1) (by omega)]; omega
  have hW : answT c.1 l m d i j ((5 : Int), z) = cond (fitsT c.1 (pGet tyTask j.2.2.1 (j.2.2.1.length - 1)) ((5 : Int), z)) (cond (pNe z.2.2.2.2.2.2.2.2.2.2.1 0 && pEq (5 : Int) 6) (d.1, pDel d.2.1 i, saysM m false j.1 (handsF c.1 l j.2.2.1), [], [(m, 3, j.1, z.2.2.2.2.2.1, z.2.2.2.2.2.2.1, z.2.2.2.2.2.2.2.2.2.2.1, ())], 0, 0, ())
        (d.1, pSet d.2.1 i (j.1, j.2.1, cond (pNe z.2.2.2.2.2.2.2.2.2.2.1 0) (j.2.2.1.take (j.2.2.1.length - 1)) (pSet j.2.2.1 (j.2.2.1.length - 1) (doneK (pGet tyTask j.2.2.1 (j.2.2.1.length - 1)) ((5 : Int), z))), j.2.2.2.1, j.2.2.2.2.1, 0, ()),
          [], [], [(m, cond (pEq (5 : Int) 6) 3 2, j.1, z.2.2.2.2.2.1, z.2.2.2.2.2.2.1, z.2.2.2.2.2.2.2.2.2.2.1, ())], 0, 0, ()))
      (quietT d) := by unfold answT; dsimp only; rw [n0]; rfl
  have e5 : Hear5_v5 d z = ((j.2.2.1.length - 1 : Nat) : Int) := e5.trans hl
  have e7 : Hear5_v7 d z = pGet tyTask j.2.2.1 (j.2.2.1.length - 1) := by delta Hear5_v7; rw [e4, e5, pNat_coe]
  obtain ⟨k, hk⟩ : ∃ k : TaskD, k = pGet tyTask j.2.2.1 (j.2.2.1.length - 1) := ⟨_, rfl⟩
  rw [hl, e7, e4]
  rw [← hk] at e7 hW ⊢
  refine ⟨pIn_coe.2 (show j.2.2.1.length - 1 < j.2.2.1.length by omega), ?_⟩
  have no : ∀ x : Prop, fitsT c.1 k ((5 : Int), z) = false → Hear5_t6 c l m d z := fun _ h => t6 (by rw [hW, h]; rfl)
  refine bif_ok (fun a1 => no True (by rw [fits5, a1]; rfl)) fun a1 => bif_ok (fun a2 => no True (by rw [fits5, a1, a2]; rfl)) fun a2 => bif_ok (fun a3 => no True (by rw [fits5, a1, a2, a3]; rfl)) fun a3 => bif_ok (fun a4 => no True (by rw [fits5, a1, a2, a3, a4]; rfl)) fun a4 =>
    bif_ok (fun a5 => no True (by rw [fits5, a1, a2, a3, a4, a5]; rfl)) fun a5 => ⟨nz_of hcs.1, bif_ok (fun a6 => no True (by rw [fits5, a1, a2, a3, a4, a5, a6]; rfl)) fun a6 => ⟨app_room (xs := ([] : List RepD)) (by decide), ?_⟩⟩
  have hf : fitsT c.1 k ((5 : Int), z) = true := by rw [fits5, a1, a2, a3, a4, a5, a6]; rfl
  rw [hf, cond_true] at hW
  have e10 : Hear5_v10 c l m d z = pSet d.2.1 i (j.1, j.2.1, j.2.2.1, j.2.2.2.1, j.2.2.2.2.1, 0, ()) := by delta Hear5_v10; rw [e3, e4]
  have e11 : Hear5_v11 c l m d z = (j.1, j.2.1, j.2.2.1, j.2.2.2.1, j.2.2.2.2.1, 0, ()) := by delta Hear5_v11; rw [e10, e3, pGet_set_eq (t := tyJob) hi]
  have hl10 : pLen (Hear5_v10 c l m d z) = pLen d.2.1 := by show (Hear5_v10 c l m d z).length = d.2.1.length; rw [e10, pSet_len]
  have hr : pApp ([] : List RepD) (Hear5_v8 m d z) = [(m, 2, j.1, z.2.2.2.2.2.1, z.2.2.2.2.2.2.1, z.2.2.2.2.2.2.2.2.2.2.1, ())] := by delta Hear5_v8; rw [e4]; rfl
  have A : Hear5_v9 z = true → Hear5_v3 d z = Hear5_v3 d z ∧ pTo (Hear5_v5 d z) (pLen j.2.2.1) ∧ Hear5_v3 d z = Hear5_v3 d z ∧ pLen (Hear5_v10 c l m d z) = pLen d.2.1 ∧ ((d.1, pSet (Hear5_v10 c l m d z) (Hear5_v3 d z) (Hear5_v12 c l m d z), Hear5_v13 m d z), (0 : Int), ()) = Hear5_v1 c l m d z := fun c9 => by
    have c9 : pNe z.2.2.2.2.2.2.2.2.2.2.1 0 = true := c9
    rw [c9] at hW
    refine ⟨rfl, by rw [e5]; exact pTo_coe.2 (Nat.sub_le _ _), rfl, hl10, fin _ (turn_to hW (by rfl) ?_ (by rfl) (by rfl) hr (by rfl) (by rfl))⟩
    show pSet (Hear5_v10 c l m d z) (Hear5_v3 d z) (Hear5_v12 c l m d z) = _
    delta Hear5_v12
    rw [e10, e3, e4, e11, e5, pNat_coe, pSet_pSet, sub0]
    rfl
  have B : Hear5_v9 z = false → Hear5_t18 c l m d z := fun c9 => by
    have c9 : pNe z.2.2.2.2.2.2.2.2.2.2.1 0 = false := c9
    rw [c9] at hW
    have hlt : j.2.2.1.length - 1 < j.2.2.1.length := by omega
    have e14 : Hear5_v14 d z = pSet j.2.2.1 (j.2.2.1.length - 1) (k.1, k.2.1, k.2.2.1, k.2.2.2.1, k.2.2.2.2.1, k.2.2.2.2.2.1, true, k.2.2.2.2.2.2.2) := by delta Hear5_v14; rw [e4, e5, e7, pNat_coe]
    have e15 : Hear5_v15 d z = (k.1, k.2.1, k.2.2.1, k.2.2.2.1, k.2.2.2.2.1, k.2.2.2.2.2.1, true, k.2.2.2.2.2.2.2) := by delta Hear5_v15; rw [e14, e5, pNat_coe, pGet_set_eq (t := tyTask) hlt]
    have e16 : Hear5_v16 d z = pSet j.2.2.1 (j.2.2.1.length - 1) (k.1, k.2.1, k.2.2.1, z.2.2.2.2.2.2.1, k.2.2.2.2.1, k.2.2.2.2.2.1, true, k.2.2.2.2.2.2.2) := by delta Hear5_v16; rw [e14, e15, e5, pNat_coe, pSet_pSet]
    have e17 : Hear5_v17 d z = (k.1, k.2.1, k.2.2.1, z.2.2.2.2.2.2.1, k.2.2.2.2.1, k.2.2.2.2.2.1, true, k.2.2.2.2.2.2.2) := by delta Hear5_v17; rw [e16, e5, pNat_coe, pGet_set_eq (t := tyTask) hlt]
    refine ⟨hl10, fin _ (turn_to hW (by rfl) ?_ (by rfl) (by rfl) hr (by rfl) (by rfl))⟩
    show pSet (Hear5_v10 c l m d z) (Hear5_v3 d z) ((Hear5_v11 c l m d z).1, (Hear5_v11 c l m d z).2.1, pSet (Hear5_v16 d z) (pNat (Hear5_v5 d z)) ((Hear5_v17 d z).1, (Hear5_v17 d z).2.1, (Hear5_v17 d z).2.2.1, (Hear5_v17 d z).2.2.2.1, z.2.2.2.2.2.2.2.1, (Hear5_v17 d z).2.2.2.2.2), (Hear5_v4 d z).2.2.2.1, (Hear5_v11 c l m d z).2.2.2.2) = _
    rw [e10, e3, e4, e11, e16, e17, e5, pNat_coe, pSet_pSet, pSet_pSet]
    rfl
  exact bif_ok (fun a => bif_ok (fun _ => by have := A a; rw [e5] at this; exact this) fun b => by rw [a] at b; cases b) fun a => bif_ok (fun b => by rw [a] at b; cases b) fun _ => B a
set_option maxHeartbeats 4000000 in
theorem Hear6_ok : Meets Tryd.prog tabsM 5 cHear6 := Hear6_meets CheckMessage0_ok (kkbeginN_ok cCheck_ok.any cownN_ok.any) (kkplace_ok indexJ_ok.any) (kkanswered_ok kkreply_ok (kkendN_ok kksend_ok (kksites_ok hasN_ok.any sort_ok.any) (kkdrop_ok delJ_ok.any))) fun c l m d z hp => by
  have h1 : pLen c.2.1 < 4611686018427387904 := hp (pLen c.2.1 < 4611686018427387904) (by simp)
  have h2 : pLen d.2.1 < 4611686018427387904 := hp (pLen d.2.1 < 4611686018427387904) (by simp)
  have h3 : ∀ q ∈ d.2.1, pLen q.2.2.1 < 4611686018427387904 ∧ pLen q.2.2.2.1 < 4611686018427387904 := hp (∀ q ∈ d.2.1, pLen q.2.2.1 < 4611686018427387904 ∧ pLen q.2.2.2.1 < 4611686018427387904) (by simp)
  have hb : begE c l m d = 0 := hp (begE c l m d = 0) (by simp)
  have hm : msgF c ((6 : Int), z) = 0 := hp (msgF c ((6 : Int), z) = 0) (by simp)
  have hv : pEq z.2.1 m = true := hp (pEq z.2.1 m = true) (by simp)
  have hs : pEq z.2.2.1 m = true := hp (pEq z.2.2.1 m = true) (by simp)
  clear hp
  have hE := heaE_zero hb hm hv hs (by rfl)
  delta Hear6_VC
  refine hear_pre hb h1 h2 h3 hv hs hm _ fun hz hpl => ?_
  refine ⟨h2, bif_ok (fun n => ?_) fun n => ?_⟩
  · show ((d.1, d.2.1, ([] : List MsgD), ([] : List RecD), ([] : List RepD), (0 : Int), (0 : Int), ()), (0 : Int), ()) = (heaT c l m d ((6 : Int), z), heaE c l m d ((6 : Int), z), ())
    rw [heaT_none hE n, hE]; rfl
  obtain ⟨i, hI, hi, hn⟩ := find_at n
  have hT := heaT_some hE hI
  have hmem : pGet tyJob d.2.1 i ∈ d.2.1 := by rw [pGet_lt (t := tyJob) hi]; exact List.getElem_mem hi
  have hj := jobs_ok hz _ hmem
  have hcs := (deskF_zero hz).1
  have hn6 : d.2.1.length ≤ 6 := (deskF_zero hz).2.1
  obtain ⟨j, hjj⟩ : ∃ j : JobD, j = pGet tyJob d.2.1 i := ⟨_, rfl⟩
  have hset : pSet d.2.1 i j = d.2.1 := by rw [hjj]; exact pSet_get (t := tyJob)
  rw [← hjj] at hj hT hn
  have fin : ∀ T : TurnD, T = answT c.1 l m d i j ((6 : Int), z) → (T, (0 : Int), ()) = Hear6_v1 c l m d z := fun T h => by
    show (T, (0 : Int), ()) = (heaT c l m d ((6 : Int), z), heaE c l m d ((6 : Int), z), ())
    rw [hT, hE, h]; rfl
  have quiet : answT c.1 l m d i j ((6 : Int), z) = quietT d → ((d.1, pSet d.2.1 i j, ([] : List MsgD), ([] : List RecD), ([] : List RepD), (0 : Int), (0 : Int), ()), (0 : Int), ()) = Hear6_v1 c l m d z := fun h => fin _ (by rw [h, hset]; rfl)
  have e3 : pNat (Hear6_v3 d z) = i := by show pNat (idxKeyJ d.2.1 z.2.2.2.1) = i; rw [hI, pNat_coe]
  have e4 : Hear6_v4 d z = j := by show pGet tyJob d.2.1 (pNat (idxKeyJ d.2.1 z.2.2.2.1)) = j; rw [hI, pNat_coe, ← hjj]
  have e5 : Hear6_v5 d z = pSubI .i64 (pInt j.2.2.1.length) 1 := by delta Hear6_v5; rw [e4]; rfl
  refine ⟨by show pIn (idxKeyJ d.2.1 z.2.2.2.1) _; rw [hI]; exact pIn_coe.2 hi, ?_⟩
  have t6 : answT c.1 l m d i j ((6 : Int), z) = quietT d → Hear6_t6 c l m d z := fun h => ⟨rfl, by rw [e3, e4]; exact quiet h⟩
  rw [e5]
  refine bif_ok (fun n0 => t6 (by unfold answT; dsimp only; rw [n0]; rfl)) fun n0 => ⟨rfl, ?_⟩
  have hpos : 0 < j.2.2.1.length := by
    have hlen := hj.2.1
    have : ¬ (pSubI .i64 (pInt j.2.2.1.length) 1 < 0) := of_decide_eq_false n0
    unfold pInt at this
    rw [pSubI_in (a := (j.2.2.1.length : Int)) (b := 1) (by omega)] at this
    omega
  have hl : pSubI .i64 (pInt j.2.2.1.length) 1 = ((j.2.2.1.length - 1 : Nat) : Int) := by
    have hlen := hj.2.1
    unfold pInt
    rw [pSubI_in (a := (j.2.2.1.length : Int)) (b := 1) (by omega)]; omega
  have hW : answT c.1 l m d i j ((6 : Int), z) = cond (fitsT c.1 (pGet tyTask j.2.2.1 (j.2.2.1.length - 1)) ((6 : Int), z)) (cond (pNe z.2.2.2.2.2.2.2.2.2.2.1 0 && pEq (6 : Int) 6) (d.1, pDel d.2.1 i, saysM m false j.1 (handsF c.1 l j.2.2.1), [], [(m, 3, j.1, z.2.2.2.2.2.1, z.2.2.2.2.2.2.1, z.2.2.2.2.2.2.2.2.2.2.1, ())], 0, 0, ())
        (d.1, pSet d.2.1 i (j.1, j.2.1, cond (pNe z.2.2.2.2.2.2.2.2.2.2.1 0) (j.2.2.1.take (j.2.2.1.length - 1)) (pSet j.2.2.1 (j.2.2.1.length - 1) (doneK (pGet tyTask j.2.2.1 (j.2.2.1.length - 1)) ((6 : Int), z))), j.2.2.2.1, j.2.2.2.2.1, 0, ()),
          [], [], [(m, cond (pEq (6 : Int) 6) 3 2, j.1, z.2.2.2.2.2.1, z.2.2.2.2.2.2.1, z.2.2.2.2.2.2.2.2.2.2.1, ())], 0, 0, ()))
      (quietT d) := by unfold answT; dsimp only; rw [n0]; rfl
  have e5 : Hear6_v5 d z = ((j.2.2.1.length - 1 : Nat) : Int) := e5.trans hl
  have e7 : Hear6_v7 d z = pGet tyTask j.2.2.1 (j.2.2.1.length - 1) := by delta Hear6_v7; rw [e4, e5, pNat_coe]
  obtain ⟨k, hk⟩ : ∃ k : TaskD, k = pGet tyTask j.2.2.1 (j.2.2.1.length - 1) := ⟨_, rfl⟩
  rw [hl, e7, e4]
  rw [← hk] at e7 hW ⊢
  refine ⟨pIn_coe.2 (show j.2.2.1.length - 1 < j.2.2.1.length by omega), ?_⟩
  have no : ∀ x : Prop, fitsT c.1 k ((6 : Int), z) = false → Hear6_t6 c l m d z := fun _ h => t6 (by rw [hW, h]; rfl)
  refine bif_ok (fun a1 => no True (by rw [fits6, a1]; rfl)) fun a1 => bif_ok (fun a2 => no True (by rw [fits6, a1, a2]; rfl)) fun a2 => bif_ok (fun a3 => no True (by rw [fits6, a1, a2, a3]; rfl)) fun a3 => bif_ok (fun a4 => no True (by rw [fits6, a1, a2, a3, a4]; rfl)) fun a4 =>
    ⟨nz_of hcs.1, bif_ok (fun a6 => no True (by rw [fits6, a1, a2, a3, a4, a6]; rfl)) fun a6 => ⟨app_room (xs := ([] : List RepD)) (by decide), ?_⟩⟩
  have hf : fitsT c.1 k ((6 : Int), z) = true := by rw [fits6, a1, a2, a3, a4, a6]; rfl
  rw [hf, cond_true] at hW
  have e9 : Hear6_v9 c l m d z = pSet d.2.1 i (j.1, j.2.1, j.2.2.1, j.2.2.2.1, j.2.2.2.2.1, 0, ()) := by delta Hear6_v9; rw [e3, e4]
  have e14 : Hear6_v14 c l m d z = (j.1, j.2.1, j.2.2.1, j.2.2.2.1, j.2.2.2.2.1, 0, ()) := by delta Hear6_v14; rw [e9, e3, pGet_set_eq (t := tyJob) hi]
  have hl9 : pLen (Hear6_v9 c l m d z) = pLen d.2.1 := by show (Hear6_v9 c l m d z).length = d.2.1.length; rw [e9, pSet_len]
  have hr : pApp ([] : List RepD) (Hear6_v8 m d z) = [(m, 3, j.1, z.2.2.2.2.2.1, z.2.2.2.2.2.2.1, z.2.2.2.2.2.2.2.2.2.2.1, ())] := by delta Hear6_v8; rw [e4]; rfl
  have e19 : Hear6_v19 c l m d z = (j.2.2.2.1, j.2.2.2.2.1, (0 : Int), ()) := by delta Hear6_v19; rw [e4, e14]
  refine bif_ok (fun c9 => ?_) fun c9 => bif_ok (fun b => by rw [c9] at b; cases b) fun _ => ?_
  · have c9 : pNe z.2.2.2.2.2.2.2.2.2.2.1 0 = true := c9
    rw [c9] at hW
    have e20 : Hear6_v20 c l m d z = pSet d.2.1 i (j.1, j.2.1, j.2.2.1, j.2.2.2.1, j.2.2.2.2.1, 0, ()) := by delta Hear6_v20; rw [e9, e14, e19, e4, e3, pSet_pSet]
    have hin : pIn (Hear6_v3 d z) (pLen d.2.1) := by show pIn (idxKeyJ d.2.1 z.2.2.2.1) _; rw [hI]; exact pIn_coe.2 hi
    have hl20 : pLen (Hear6_v20 c l m d z) = pLen d.2.1 := by show (Hear6_v20 c l m d z).length = d.2.1.length; rw [e20, pSet_len]
    have hhl := handsF_len (cn := c.1) (l := l) (ts := j.2.2.1) hcs
    have hsh : sortN (sitesK c.1 l (Hear6_v4 d z).2.2.1 (Hear6_v4 d z).2.2.1.length) = handsF c.1 l j.2.2.1 := by rw [e4]; exact sites_hands hcs hj.2.2.2.1
    have ha : (sortN (sitesK c.1 l (Hear6_v4 d z).2.2.1 (Hear6_v4 d z).2.2.1.length)).length ≤ 1000 := by rw [hsh]; omega
    have hts : (Hear6_v4 d z).2.2.1.length ≤ 10 := by rw [e4]; exact hj.2.1
    have h14 : (Hear6_v14 c l m d z).1 = j.1 := by rw [e14]
    rw [← e4]
    refine ⟨by rw [hl9]; exact hin, rfl, end_vc (c.1, c.2.1, c.2.2.1, l, m, noTurn) (Hear6_v4 d z).2.2.1 0 _ hcs hts ?_⟩
    refine endsX_vc 1 (c.1, c.2.1, c.2.2.1, l, m, d.1, [], [], pApp ([] : List RepD) (Hear6_v8 m d z), 0, 0, ()) _ _ _ ha (Nat.zero_le _) ⟨by rw [hl20]; exact hin, rfl, by rw [hl20]; exact h2, fin _ (turn_to hW (by rfl) ?_ ?_ (by rfl) hr (by rfl) (by rfl))⟩
    · show pDel (Hear6_v20 c l m d z) (pNat (Hear6_v3 d z)) = pDel d.2.1 i
      rw [e20, e3, pDel_set]
    · show [] ++ saysM m false (Hear6_v14 c l m d z).1 (sortN (sitesK c.1 l (Hear6_v4 d z).2.2.1 (Hear6_v4 d z).2.2.1.length)) = _
      rw [h14, hsh] <;> rfl
  · have c9 : pNe z.2.2.2.2.2.2.2.2.2.2.1 0 = false := c9
    rw [c9] at hW
    have hlt : j.2.2.1.length - 1 < j.2.2.1.length := by omega
    refine ⟨hl9, fin _ (turn_to hW (by rfl) ?_ (by rfl) (by rfl) hr (by rfl) (by rfl))⟩
    show pSet (Hear6_v9 c l m d z) (pNat (Hear6_v3 d z)) ((Hear6_v14 c l m d z).1, (Hear6_v14 c l m d z).2.1, pSet j.2.2.1 (pNat ((j.2.2.1.length - 1 : Nat) : Int)) (k.1, k.2.1, k.2.2.1, k.2.2.2.1, k.2.2.2.2.1, k.2.2.2.2.2.1, true, k.2.2.2.2.2.2.2), Hear6_v19 c l m d z) = _
    rw [e9, e3, e14, e19, pNat_coe, pSet_pSet]
    rfl
set_option maxHeartbeats 4000000 in
theorem Hear8_ok : Meets Tryd.prog tabsM 5 cHear8 := Hear8_meets CheckMessage0_ok (kkbeginN_ok cCheck_ok.any cownN_ok.any) (kkplace_ok indexJ_ok.any) (kkacked_ok delN_ok.any kkrecord_ok (kkdrop_ok delJ_ok.any)) fun c l m d z hp => by
  have h1 : pLen c.2.1 < 4611686018427387904 := hp (pLen c.2.1 < 4611686018427387904) (by simp)
  have h2 : pLen d.2.1 < 4611686018427387904 := hp (pLen d.2.1 < 4611686018427387904) (by simp)
  have h3 : ∀ q ∈ d.2.1, pLen q.2.2.1 < 4611686018427387904 ∧ pLen q.2.2.2.1 < 4611686018427387904 := hp (∀ q ∈ d.2.1, pLen q.2.2.1 < 4611686018427387904 ∧ pLen q.2.2.2.1 < 4611686018427387904) (by simp)
  have hb : begE c l m d = 0 := hp (begE c l m d = 0) (by simp)
  have hm : msgF c ((8 : Int), z) = 0 := hp (msgF c ((8 : Int), z) = 0) (by simp)
  have hv : pEq z.2.1 m = true := hp (pEq z.2.1 m = true) (by simp)
  have hs : pEq z.2.2.1 m = true := hp (pEq z.2.2.1 m = true) (by simp)
  clear hp
  have hE := heaE_zero hb hm hv hs (by rfl)
  delta Hear8_VC
  refine hear_pre hb h1 h2 h3 hv hs hm _ fun hz hpl => ?_
  refine ⟨h2, bif_ok (fun n => ?_) fun n => ?_⟩
  · show ((d.1, d.2.1, ([] : List MsgD), ([] : List RecD), ([] : List RepD), (0 : Int), (0 : Int), ()), (0 : Int), ()) = (heaT c l m d ((8 : Int), z), heaE c l m d ((8 : Int), z), ())
    rw [heaT_none hE n, hE]; rfl
  obtain ⟨i, hI, hi, hn⟩ := find_at n
  have hT := heaT_some hE hI
  have hmem : pGet tyJob d.2.1 i ∈ d.2.1 := by rw [pGet_lt (t := tyJob) hi]; exact List.getElem_mem hi
  have hj := jobs_ok hz _ hmem
  have hcs := (deskF_zero hz).1
  have hn6 : d.2.1.length ≤ 6 := (deskF_zero hz).2.1
  obtain ⟨j, hjj⟩ : ∃ j : JobD, j = pGet tyJob d.2.1 i := ⟨_, rfl⟩
  have hset : pSet d.2.1 i j = d.2.1 := by rw [hjj]; exact pSet_get (t := tyJob)
  rw [← hjj] at hj hT hn
  have fin : ∀ T : TurnD, T = ackT m d i j ((8 : Int), z) → (T, (0 : Int), ()) = Hear8_v1 c l m d z := fun T h => by
    show (T, (0 : Int), ()) = (heaT c l m d ((8 : Int), z), heaE c l m d ((8 : Int), z), ())
    rw [hT, hE, h]; rfl
  have quiet : ackT m d i j ((8 : Int), z) = quietT d → ((d.1, pSet d.2.1 i j, ([] : List MsgD), ([] : List RecD), ([] : List RepD), (0 : Int), (0 : Int), ()), (0 : Int), ()) = Hear8_v1 c l m d z := fun h => fin _ (by rw [h, hset]; rfl)
  have e3 : Hear8_v3 d z = (i : Int) := hI
  have e4 : Hear8_v4 d z = j := by show pGet tyJob d.2.1 (pNat (idxKeyJ d.2.1 z.2.2.2.1)) = j; rw [hI, pNat_coe, ← hjj]
  have e6 : Hear8_v6 d z = (j.1, j.2.1, j.2.2.1, dropN j.2.2.2.1 z.1, j.2.2.2.2) := by delta Hear8_v6; rw [e4]
  rw [e4, e3, pNat_coe, e6]
  refine ⟨pIn_coe.2 hi, bif_ok (fun a => ?_) fun a => ?_⟩
  · have hq : ackT m d i j ((8 : Int), z) = quietT d := by unfold ackT; dsimp only; rw [a]; rfl
    exact fin _ (by rw [hq]; rfl)
  have hq : ackT m d i j ((8 : Int), z) = cond (pEq (pInt (dropN j.2.2.2.1 z.1).length) 0) (d.1, pDel d.2.1 i, [], [(4, m, j.1, 0, 0, 0, false, [], ())], [], 0, 0, ())
      (d.1, pSet d.2.1 i (j.1, j.2.1, j.2.2.1, dropN j.2.2.2.1 z.1, j.2.2.2.2), [], [], [], 0, 0, ()) := by unfold ackT; dsimp only; rw [a]; rfl
  refine ⟨by have := hj.2.2.1; show j.2.2.2.1.length < _; omega, rfl, rfl, bif_ok (fun b => ?_) fun b => ?_⟩
  · have b : pEq (pInt (dropN j.2.2.2.1 z.1).length) 0 = true := b
    rw [b, cond_true] at hq
    have hls : pLen (pSet d.2.1 i (j.1, j.2.1, j.2.2.1, dropN j.2.2.2.1 z.1, j.2.2.2.2)) = pLen d.2.1 := pSet_len
    refine ⟨app_room (xs := ([] : List RecD)) (by decide), by rw [hls]; exact pIn_coe.2 hi, rfl, by rw [hls]; exact h2, fin _ (turn_to hq (by rfl) pDel_set (by rfl) ?_ (by rfl) (by rfl) (by rfl))⟩
    show pApp ([] : List RecD) (Hear8_v5 m d z) = _
    delta Hear8_v5
    rw [e4] <;> rfl
  · have b : pEq (pInt (dropN j.2.2.2.1 z.1).length) 0 = false := b
    rw [b, cond_false] at hq
    exact ⟨rfl, fin _ hq.symm⟩
set_option maxHeartbeats 4000000 in
theorem Hear9_ok : Meets Tryd.prog tabsM 5 cHear9 := Hear9_meets CheckMessage0_ok (kkbeginN_ok cCheck_ok.any cownN_ok.any) (kkplace_ok indexJ_ok.any) (kkasked_ok hasN_ok.any kksend_ok) fun c l m d z hp => by
  have h1 : pLen c.2.1 < 4611686018427387904 := hp (pLen c.2.1 < 4611686018427387904) (by simp)
  have h2 : pLen d.2.1 < 4611686018427387904 := hp (pLen d.2.1 < 4611686018427387904) (by simp)
  have h3 : ∀ q ∈ d.2.1, pLen q.2.2.1 < 4611686018427387904 ∧ pLen q.2.2.2.1 < 4611686018427387904 := hp (∀ q ∈ d.2.1, pLen q.2.2.1 < 4611686018427387904 ∧ pLen q.2.2.2.1 < 4611686018427387904) (by simp)
  have hb : begE c l m d = 0 := hp (begE c l m d = 0) (by simp)
  have hm : msgF c ((9 : Int), z) = 0 := hp (msgF c ((9 : Int), z) = 0) (by simp)
  have hv : pEq z.2.1 m = true := hp (pEq z.2.1 m = true) (by simp)
  have hs : pEq z.2.2.1 m = true := hp (pEq z.2.2.1 m = true) (by simp)
  clear hp
  have hE := heaE_zero hb hm hv hs (by rfl)
  delta Hear9_VC
  refine hear_pre hb h1 h2 h3 hv hs hm _ fun hz hpl => ?_
  refine ⟨h2, bif_ok (fun n => ?_) fun n => ?_⟩
  · refine ⟨app_room (xs := ([] : List MsgD)) (by decide), ?_, ?_⟩
    · have e : pSubI .i64 (pInt (pLen (pApp ([] : List MsgD) (Hear9_v3 m z)))) 1 = ((0 : Nat) : Int) := last_pos (xs := ([] : List MsgD)) (by decide)
      exact (congrArg (pIn · 1) e).mpr (pIn_coe.2 Nat.zero_lt_one)
    · show _ = (heaT c l m d ((9 : Int), z), heaE c l m d ((9 : Int), z), ())
      rw [heaT_none hE n, hE]; rfl
  obtain ⟨i, hI, hi, hn⟩ := find_at n
  have hT := heaT_some hE hI
  have hmem : pGet tyJob d.2.1 i ∈ d.2.1 := by rw [pGet_lt (t := tyJob) hi]; exact List.getElem_mem hi
  have hj := jobs_ok hz _ hmem
  have hcs := (deskF_zero hz).1
  have hn6 : d.2.1.length ≤ 6 := (deskF_zero hz).2.1
  obtain ⟨j, hjj⟩ : ∃ j : JobD, j = pGet tyJob d.2.1 i := ⟨_, rfl⟩
  have hset : pSet d.2.1 i j = d.2.1 := by rw [hjj]; exact pSet_get (t := tyJob)
  rw [← hjj] at hj hT hn
  have fin : ∀ T : TurnD, T = askedT m d j ((9 : Int), z) → (T, (0 : Int), ()) = Hear9_v1 c l m d z := fun T h => by
    show (T, (0 : Int), ()) = (heaT c l m d ((9 : Int), z), heaE c l m d ((9 : Int), z), ())
    rw [hT, hE, h]; rfl
  have quiet : askedT m d j ((9 : Int), z) = quietT d → ((d.1, pSet d.2.1 i j, ([] : List MsgD), ([] : List RecD), ([] : List RepD), (0 : Int), (0 : Int), ()), (0 : Int), ()) = Hear9_v1 c l m d z := fun h => fin _ (by rw [h, hset]; rfl)
  have e4 : Hear9_v4 d z = i := by show pNat (idxKeyJ d.2.1 z.2.2.2.1) = i; rw [hI, pNat_coe]
  have e5 : Hear9_v5 d z = j := by show pGet tyJob d.2.1 (pNat (idxKeyJ d.2.1 z.2.2.2.1)) = j; rw [hI, pNat_coe, ← hjj]
  have t8 : askedT m d j ((9 : Int), z) = quietT d → Hear9_t8 c l m d z := fun h => ⟨rfl, by rw [e4, e5]; exact quiet h⟩
  have hlast : pSubI .i64 (pInt (pLen (pApp ([] : List MsgD) (Hear9_v6 m d z)))) 1 = ((0 : Nat) : Int) := last_pos (xs := ([] : List MsgD)) (by decide)
  have e7 : Hear9_v7 m d z = (4, m, z.1, m, j.1, 0, 0, 0, 0, 0, false, 0, ()) := by
    delta Hear9_v7
    rw [hlast, pNat_coe]
    show (4, m, z.1, m, (Hear9_v5 d z).1, 0, 0, 0, 0, 0, false, 0, ()) = _
    rw [e5]
  rw [hI, e5, e4, hlast, e7, pNat_coe]
  refine ⟨pIn_coe.2 hi, bif_ok (fun a => ⟨by have := hj.2.2.1; show j.2.2.2.1.length < _; omega, bif_ok (fun b => ?_) fun b => t8 ?_⟩) fun a => t8 ?_⟩
  · have hq : askedT m d j ((9 : Int), z) = (d.1, d.2.1, [decM m true j.1 z.1], [], [], 0, 0, ()) := by unfold askedT; dsimp only; rw [a, b]; rfl
    exact ⟨app_room (xs := ([] : List MsgD)) (by decide), pIn_coe.2 Nat.zero_lt_one, rfl, fin _ (turn_to hq (by rfl) hset (by rfl) (by rfl) (by rfl) (by rfl) (by rfl))⟩
  · unfold askedT; dsimp only; rw [a, b]; rfl
  · unfold askedT; dsimp only; rw [a]; rfl


end Go.Proofs.YtnkcmkegjckncaaDoor

/- Tasks that are marked as sure, one after another. No condition. -/
namespace Go.Proofs.YtnkcmkegjckncaaDoor
open Go.RowKit

theorem markK_len {z : MsgD} {ts : List TaskD} {k : Nat} : (markK z ts k).length = ts.length := by
  unfold markK; rw [List.length_append, List.length_map, ← List.length_append, List.take_append_drop]
theorem markK_get {z : MsgD} {ts : List TaskD} {k : Nat} (h : k < ts.length) : pGet tyTask (markK z ts k) k = pGet tyTask ts k := by
  have hl : (ts.take k).length = k := by rw [List.length_take]; omega
  unfold markK pGet
  rw [List.getD_eq_getElem?_getD, List.getD_eq_getElem?_getD, List.getElem?_append_right (by rw [List.length_map]; omega), List.length_map, hl, Nat.sub_self, List.getElem?_drop, Nat.add_zero]
theorem markK_set {z : MsgD} {ts : List TaskD} {k : Nat} (h : k < ts.length) : pSet (markK z ts k) k (markT z (pGet tyTask ts k)) = markK z ts (k + 1) := by
  have hl : (ts.take k).length = k := by rw [List.length_take]; omega
  unfold markK pSet
  rw [List.set_append_right _ _ (by rw [List.length_map]; omega), List.length_map, hl, Nat.sub_self, List.take_succ_eq_append_getElem h, List.map_append, List.append_assoc, List.drop_eq_getElem_cons h, List.set_cons_zero, pGet_lt (t := tyTask) h]
  rfl
theorem markK_all {z : MsgD} {ts : List TaskD} : markK z ts ts.length = ts.map (markT z) := by
  unfold markK; rw [List.take_length, List.drop_length, List.append_nil]
theorem any_next {p : TaskD → Bool} {ts : List TaskD} {k : Nat} (h : k < ts.length) : (ts.take (k + 1)).any p = ((ts.take k).any p || p (pGet tyTask ts k)) := by
  rw [List.take_succ_eq_append_getElem h, List.any_append, pGet_lt (t := tyTask) h]; simp
theorem left_next {z : MsgD} {ts : List TaskD} {k : Nat} (h : k < ts.length) : ((ts.take (k + 1)).map (markT z)).any leftT = (((ts.take k).map (markT z)).any leftT || leftT (markT z (pGet tyTask ts k))) := by
  rw [List.take_succ_eq_append_getElem h, List.map_append, List.any_append, pGet_lt (t := tyTask) h]; simp
theorem mark_none {z : MsgD} {ts : List TaskD} (h : ts.any (mineT z) = false) : ts.map (markT z) = ts := by
  rw [List.any_eq_false] at h
  refine (List.map_congr_left fun t ht => ?_).trans (List.map_id ts)
  have : mineT z t = false := by simpa using h t ht
  unfold markT; rw [this]; rfl
theorem mark_no {z : MsgD} {ts : List TaskD} (h : z.2.2.2.2.2.2.2.2.2.2.1 = false) : ts.map (markT z) = ts := by
  refine (List.map_congr_left fun t ht => ?_).trans (List.map_id ts)
  unfold markT; rw [h, Bool.and_false]; rfl
theorem mark_key (z : MsgD) (t : TaskD) : (markT z t).2.2.1 = t.2.2.1 := by
  unfold markT; cases mineT z t && z.2.2.2.2.2.2.2.2.2.2.1 <;> rfl
theorem mark_keys {z : MsgD} {ts : List TaskD} (h : ∀ t ∈ ts, 0 ≤ t.2.2.1) : ∀ t ∈ ts.map (markT z), 0 ≤ t.2.2.1 := by
  intro t ht
  obtain ⟨u, hu, rfl⟩ := List.mem_map.1 ht
  rw [mark_key]; exact h u hu
theorem not_mine {k : Int} {z : MsgR} {t : TaskD} (h : (!t.1 && pEq t.2.1 z.2.2.2.2.1 && pEq t.2.2.1 z.2.2.2.2.2.1 && pEq t.2.2.2.2.1 z.2.2.2.2.2.2.2.1) = false) : mineT (k, z) t = false := h
theorem mark_of {z : MsgD} {t : TaskD} (h : mineT z t = false) : markT z t = t := by unfold markT; rw [h]; rfl
theorem task_eq {t : TaskD} {w s : Bool} (h1 : t.1 = w) (h2 : t.2.2.2.2.2.2.2.1 = s) : (w, t.2.1, t.2.2.1, t.2.2.2.1, t.2.2.2.2.1, t.2.2.2.2.2.1, t.2.2.2.2.2.2.1, s, ()) = t := by subst h1 h2; rfl
theorem hea_inv {c : CfgD} {l m : Int} {d : DeskD} {z : MsgD} (h : heaE c l m d z = 0) : begE c l m d = 0 ∧ msgF c z = 0 ∧ pEq z.2.2.1 m = true ∧ pEq z.2.2.2.1 m = true ∧ (z.1 = 5 ∨ z.1 = 6 ∨ z.1 = 7 ∨ z.1 = 8 ∨ z.1 = 9) := by
  by_cases hb : begE c l m d = 0
  · by_cases hm : msgF c z = 0
    · rw [heaE_rest hb hm] at h
      cases h1 : (pEq z.2.2.1 m && pEq z.2.2.2.1 m) with
      | false => rw [h1, cond_false] at h; cases h
      | true =>
        rw [h1, cond_true] at h
        rw [Bool.and_eq_true] at h1
        cases h2 : pLt z.1 5 with
        | true => rw [h2, cond_true] at h; cases h
        | false =>
          refine ⟨hb, hm, h1.1, h1.2, ?_⟩
          have h3 : ¬ z.1 < 5 := of_decide_eq_false h2
          have h4 : inF z.1 1 9 = true := by
            unfold msgF at hm
            cases q : pEq (cfgF c) 0 with
            | false => rw [q, cond_false] at hm; rw [hm] at q; cases q
            | true =>
              rw [q, cond_true] at hm
              cases r : inF z.1 1 9 with
              | true => rfl
              | false => rw [r, cond_false] at hm; cases hm
          have := inF_iff.1 h4
          omega
    · rw [heaE_msg hb hm] at h; exact absurd h hm
  · rw [heaE_beg hb] at h; exact absurd h hb


end Go.Proofs.YtnkcmkegjckncaaDoor
