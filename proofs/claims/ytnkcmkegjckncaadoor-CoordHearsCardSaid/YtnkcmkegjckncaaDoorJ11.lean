/- The document's answer to a message that tells of reads; joined. No condition. -/
import Derived.Test.YtnkcmkegjckncaaDoorJ10

/- The document's answer to a message meets its contract, kind by kind. No condition. -/
namespace Go.Proofs.YtnkcmkegjckncaaDoor
open Go.RowKit

theorem heard_pre {c : CfgD} {l m : Int} {d : DeskD} {z : MsgR} (hb : begE c l m d = 0) (h1 : pLen c.2.1 < 4611686018427387904) (h2 : pLen d.2.1 < 4611686018427387904) (h3 : ∀ q ∈ d.2.1, pLen q.2.2.1 < 4611686018427387904 ∧ pLen q.2.2.2.1 < 4611686018427387904)
    (h4 : pEq z.2.1 m = true) (h5 : pEq z.2.2.1 m = true) {A6 A7 M : Prop} (hM : M) (R : Prop) (hR : deskF c d = 0 → placeF c l = true → R) :
    pLen c.2.1 < 4611686018427387904 ∧ pLen d.2.1 < 4611686018427387904 ∧ (∀ q ∈ d.2.1, pLen q.2.2.1 < 4611686018427387904 ∧ pLen q.2.2.2.1 < 4611686018427387904) ∧ begE c l m d = 0 ∧ pLen c.2.1 < 4611686018427387904 ∧ M ∧
      bif pNe z.2.1 m then A6 else bif pNe z.2.2.1 m then A7 else pRoom (pLen d.2.1) 80 ∧ (∀ q ∈ d.2.1, pRoom (pLen q.2.2.1) 56 ∧ pRoom (pLen q.2.2.2.1) 8) ∧ pLen d.2.1 < 4611686018427387904 ∧ R := by
  obtain ⟨hz, hpl, a, b⟩ := beg_zero hb
  have hrm := rooms_ok hz
  have e4 : z.2.1 = m := by simpa [pEq] using h4
  have e5 : z.2.2.1 = m := by simpa [pEq] using h5
  refine ⟨h1, h2, h3, hb, h1, hM, ?_⟩
  rw [bif_false (show pNe z.2.1 m = false by rw [e4]; simp [pNe]), bif_false (show pNe z.2.2.1 m = false by rw [e5]; simp [pNe])]
  exact ⟨hrm.1, hrm.2, h2, hR hz hpl⟩
set_option maxHeartbeats 4000000 in
theorem HeardE_ok : Meets Tryd.prog tabsM 6 cHeardE := HeardE_meets deskFault_ok.any MessageFault_ok.any fun c l m d z hp => by
  have h1 : pLen c.2.1 < 4611686018427387904 := hp (pLen c.2.1 < 4611686018427387904) (by simp)
  have h2 : pLen d.2.1 < 4611686018427387904 := hp (pLen d.2.1 < 4611686018427387904) (by simp)
  have h3 : ∀ q ∈ d.2.1, pLen q.2.2.1 < 4611686018427387904 ∧ pLen q.2.2.2.1 < 4611686018427387904 := hp (∀ q ∈ d.2.1, pLen q.2.2.1 < 4611686018427387904 ∧ pLen q.2.2.2.1 < 4611686018427387904) (by simp)
  have hE : pNe (heaE c l m d z) 0 = true := hp (pNe (heaE c l m d z) 0 = true) (by simp)
  clear hp
  have hE : heaE c l m d z ≠ 0 := by simpa [pNe] using hE
  have no : ∀ e : Int, heaE c l m d z = e → (HeardE_v0, e, ()) = HeardE_v1 c l m d z := fun e h => by
    show (noTurn, e, ()) = (heaT c l m d z, heaE c l m d z, ())
    rw [heaT_no hE, h]
  delta HeardE_VC
  refine ⟨h1, h2, h3, bif_ok (fun a => ?_) fun a => ?_⟩
  · have hb : begE c l m d = 0 := by simpa [pEq] using a
    refine ⟨h1, bif_ok (fun b => ?_) fun b => ?_⟩
    · have hm : msgF c z = 0 := by simpa [pEq] using b
      have hre := heaE_rest hb hm
      refine bif_ok (fun a1 => no 2 ?_) fun a1 => bif_ok (fun a2 => no 2 ?_) fun a2 => ?_
      · rw [hre, show pEq z.2.2.1 m = false by simpa [pEq, pNe] using a1]; rfl
      · rw [hre, show pEq z.2.2.2.1 m = false by simpa [pEq, pNe] using a2, Bool.and_false]; rfl
      have b1 : pEq z.2.2.1 m = true := by simpa [pEq, pNe] using a1
      have b2 : pEq z.2.2.2.1 m = true := by simpa [pEq, pNe] using a2
      rw [b1, b2] at hre
      delta HeardE_v3
      rw [b, bif_true rfl]
      refine bif_ok (fun a3 => no 3 ?_) fun a3 => ?_
      · rw [hre, a3]; rfl
      · exact absurd (by rw [hre, a3]; rfl) hE
    · have hm : msgF c z ≠ 0 := by simpa [pEq] using b
      delta HeardE_v3
      rw [b, bif_false rfl]
      exact bif_ok (fun _ => no _ (heaE_msg hb hm)) fun x => absurd (by simpa [pNe] using x) hm
  · have hb : begE c l m d ≠ 0 := by simpa [pEq] using a
    refine bif_ok (fun x => by rw [x] at a; cases a) fun _ => ?_
    delta HeardE_v5 HeardE_v4
    rw [a, bif_false rfl]
    exact bif_ok (fun _ => no _ (heaE_beg hb)) fun x => absurd (by simpa [pNe] using x) hb
set_option maxHeartbeats 4000000 in
theorem Heard5_ok : Meets Tryd.prog tabsM 6 cHeard5 := Heard5_meets deskFault0_ok.any MessageFault0_ok.any DeskCopyN_ok.any jobAt_ok.any (kkanswT_ok TasksCopy_ok.any (kkendedN_ok about_ok.any hands_ok.any without_ok.any)) fun c l m d z hp => by
  have h1 : pLen c.2.1 < 4611686018427387904 := hp (pLen c.2.1 < 4611686018427387904) (by simp)
  have h2 : pLen d.2.1 < 4611686018427387904 := hp (pLen d.2.1 < 4611686018427387904) (by simp)
  have h3 : ∀ q ∈ d.2.1, pLen q.2.2.1 < 4611686018427387904 ∧ pLen q.2.2.2.1 < 4611686018427387904 := hp (∀ q ∈ d.2.1, pLen q.2.2.1 < 4611686018427387904 ∧ pLen q.2.2.2.1 < 4611686018427387904) (by simp)
  have hb : begE c l m d = 0 := hp (begE c l m d = 0) (by simp)
  have hm : msgF c ((5 : Int), z) = 0 := hp (msgF c ((5 : Int), z) = 0) (by simp)
  have hv : pEq z.2.1 m = true := hp (pEq z.2.1 m = true) (by simp)
  have hs : pEq z.2.2.1 m = true := hp (pEq z.2.2.1 m = true) (by simp)
  clear hp
  have hE := heaE_zero hb hm hv hs (by rfl)
  delta Heard5_VC
  refine heard_pre hb h1 h2 h3 hv hs hm _ fun hz hpl => ?_
  refine ⟨h2, bif_ok (fun n => ?_) fun n => ?_⟩
  · show ((d.1, d.2.1, ([] : List MsgD), ([] : List RecD), ([] : List RepD), (0 : Int), (0 : Int), ()), (0 : Int), ()) = (heaT c l m d ((5 : Int), z), heaE c l m d ((5 : Int), z), ())
    rw [heaT_none hE n, hE]; rfl
  obtain ⟨i, hI, hi, hn⟩ := find_at n
  have hT := heaT_some hE hI
  have hmem : pGet tyJob d.2.1 i ∈ d.2.1 := by rw [pGet_lt (t := tyJob) hi]; exact List.getElem_mem hi
  have hj := jobs_ok hz _ hmem
  have hcs := (deskF_zero hz).1
  have hn6 : d.2.1.length ≤ 6 := (deskF_zero hz).2.1
  obtain ⟨j, hjj⟩ : ∃ j : JobD, j = pGet tyJob d.2.1 i := ⟨_, rfl⟩
  have hset : pSet d.2.1 i j = d.2.1 := by rw [hjj]; exact pSet_get (t := tyJob)
  rw [← hjj] at hj hT hn
  have fin : ∀ T : TurnD, T = answT c.1 l m d i j ((5 : Int), z) → (T, (0 : Int), ()) = Heard5_v1 c l m d z := fun T h => by
    show (T, (0 : Int), ()) = (heaT c l m d ((5 : Int), z), heaE c l m d ((5 : Int), z), ())
    rw [hT, hE, h]; rfl
  have quiet : answT c.1 l m d i j ((5 : Int), z) = quietT d → ((d.1, pSet d.2.1 i j, ([] : List MsgD), ([] : List RecD), ([] : List RepD), (0 : Int), (0 : Int), ()), (0 : Int), ()) = Heard5_v1 c l m d z := fun h => fin _ (by rw [h, hset]; rfl)
  have hin : pIn (Heard5_v2 d z) (pLen d.2.1) := by show pIn (idxKeyJ d.2.1 z.2.2.2.1) _; rw [hI]; exact pIn_coe.2 hi
  have e2 : Heard5_v2 d z = (i : Int) := hI
  have e3 : Heard5_v3 d z = j := by show pGet tyJob d.2.1 (pNat (idxKeyJ d.2.1 z.2.2.2.1)) = j; rw [hI, pNat_coe, ← hjj]
  have hpi : pNat (Heard5_v2 d z) = i := by rw [e2, pNat_coe]
  have e4 : Heard5_v4 d z = pSubI .i64 (pInt j.2.2.1.length) 1 := by delta Heard5_v4; rw [e3]; rfl
  refine ⟨hin, hin, rfl, ?_⟩
  have t5 : answT c.1 l m d i j ((5 : Int), z) = quietT d → Heard5_t5 c l m d z := fun h => by
    delta Heard5_t5
    rw [hpi, e3]; exact quiet h
  rw [e4]
  refine bif_ok (fun n0 => t5 (by unfold answT; dsimp only; rw [n0]; rfl)) fun n0 => ?_
  have hpos : 0 < j.2.2.1.length := by
    have hlen := hj.2.1
    have : ¬ (pSubI .i64 (pInt j.2.2.1.length) 1 < 0) := of_decide_eq_false n0
    unfold pInt at this
    rw [pSubI_in (a := (j.2.2.1.length : Int)) (b := 1) (by omega)] at this
    omega
  have hl : pSubI .i64 (pInt j.2.2.1.length) 1 = ((j.2.2.1.length - 1 : Nat) : Int) := by
    have hlen := hj.2.1
    unfold pInt
    rw [pSubI_in (a := (j.2.2.1.length : Int)) (b := 1) (by omega)]; omega
  have hW : answT c.1 l m d i j ((5 : Int), z) = cond (fitsT c.1 (pGet tyTask j.2.2.1 (j.2.2.1.length - 1)) ((5 : Int), z)) (cond (pNe z.2.2.2.2.2.2.2.2.2.2.1 0 && pEq (5 : Int) 6) (d.1, pDel d.2.1 i, saysM m false j.1 (handsF c.1 l j.2.2.1), [], [(m, 3, j.1, z.2.2.2.2.2.1, z.2.2.2.2.2.2.1, z.2.2.2.2.2.2.2.2.2.2.1, ())], 0, 0, ())
        (d.1, pSet d.2.1 i (j.1, j.2.1, cond (pNe z.2.2.2.2.2.2.2.2.2.2.1 0) (j.2.2.1.take (j.2.2.1.length - 1)) (pSet j.2.2.1 (j.2.2.1.length - 1) (doneK (pGet tyTask j.2.2.1 (j.2.2.1.length - 1)) ((5 : Int), z))), j.2.2.2.1, j.2.2.2.2.1, 0, ()),
          [], [], [(m, cond (pEq (5 : Int) 6) 3 2, j.1, z.2.2.2.2.2.1, z.2.2.2.2.2.2.1, z.2.2.2.2.2.2.2.2.2.2.1, ())], 0, 0, ()))
      (quietT d) := by unfold answT; dsimp only; rw [n0]; rfl
  have e4 : Heard5_v4 d z = ((j.2.2.1.length - 1 : Nat) : Int) := e4.trans hl
  have e6 : Heard5_v6 d z = pGet tyTask j.2.2.1 (j.2.2.1.length - 1) := by delta Heard5_v6; rw [e3, e4, pNat_coe]
  obtain ⟨k, hk⟩ : ∃ k : TaskD, k = pGet tyTask j.2.2.1 (j.2.2.1.length - 1) := ⟨_, rfl⟩
  have hlt : j.2.2.1.length - 1 < j.2.2.1.length := by omega
  have hin4 : pIn ((j.2.2.1.length - 1 : Nat) : Int) (pLen j.2.2.1) := pIn_coe.2 hlt
  have hto : pTo ((j.2.2.1.length - 1 : Nat) : Int) (pLen j.2.2.1) := pTo_coe.2 (Nat.sub_le _ _)
  have hrm : pRoom (pLen (pSub j.2.2.1 0 (pNat ((j.2.2.1.length - 1 : Nat) : Int)))) 56 := by
    rw [pNat_coe, sub0]
    have : (j.2.2.1.take (j.2.2.1.length - 1)).length ≤ 10 := Nat.le_trans (List.length_take_le' _ _) hj.2.1
    show (j.2.2.1.take (j.2.2.1.length - 1)).length * 56 ≤ _
    omega
  rw [hl, e6, e3]
  rw [← hk] at e6 hW ⊢
  refine ⟨hin4, ?_⟩
  have no : ∀ x : Prop, fitsT c.1 k ((5 : Int), z) = false → Heard5_t5 c l m d z := fun _ h => t5 (by rw [hW, h]; rfl)
  refine bif_ok (fun a1 => no True (by rw [fits5, a1]; rfl)) fun a1 => bif_ok (fun a2 => no True (by rw [fits5, a1, a2]; rfl)) fun a2 => bif_ok (fun a3 => no True (by rw [fits5, a1, a2, show pNot (pBeq k.1 false) = true from a3]; rfl)) fun a3 => bif_ok (fun a4 => no True (by rw [fits5, a1, a2, show pNot (pBeq k.1 false) = false from a3, a4]; rfl)) fun a4 =>
    bif_ok (fun a5 => no True (by rw [fits5, a1, a2, show pNot (pBeq k.1 false) = false from a3, a4, a5]; rfl)) fun a5 => ⟨nz_of hcs.1, bif_ok (fun a6 => no True (by rw [fits5, a1, a2, show pNot (pBeq k.1 false) = false from a3, a4, a5, a6]; rfl)) fun a6 => ⟨app_room (xs := ([] : List RepD)) (by decide), ?_⟩⟩
  have hf : fitsT c.1 k ((5 : Int), z) = true := by rw [fits5, a1, a2, show pNot (pBeq k.1 false) = false from a3, a4, a5, a6]; rfl
  rw [hf, cond_true] at hW
  have e9 : Heard5_v9 c l m d z = pSet d.2.1 i (j.1, j.2.1, j.2.2.1, j.2.2.2.1, j.2.2.2.2.1, 0, ()) := by delta Heard5_v9; rw [hpi, e3]
  have e10 : Heard5_v10 c l m d z = (j.1, j.2.1, j.2.2.1, j.2.2.2.1, j.2.2.2.2.1, 0, ()) := by delta Heard5_v10; rw [e9, hpi, pGet_set_eq (t := tyJob) hi]
  have hl9 : pLen (Heard5_v9 c l m d z) = pLen d.2.1 := by show (Heard5_v9 c l m d z).length = d.2.1.length; rw [e9, pSet_len]
  have hr : pApp ([] : List RepD) (Heard5_v7 m d z) = [(m, 2, j.1, z.2.2.2.2.2.1, z.2.2.2.2.2.2.1, z.2.2.2.2.2.2.2.2.2.2.1, ())] := by delta Heard5_v7; rw [e3]; rfl
  have A : Heard5_v8 z = true → ((d.1, pSet (Heard5_v9 c l m d z) (pNat (Heard5_v2 d z)) (Heard5_v11 c l m d z), Heard5_v12 m d z), (0 : Int), ()) = Heard5_v1 c l m d z := fun c9 => by
    have c9 : pNe z.2.2.2.2.2.2.2.2.2.2.1 0 = true := c9
    rw [c9] at hW
    refine fin _ (turn_to hW (by rfl) ?_ (by rfl) (by rfl) hr (by rfl) (by rfl))
    show pSet (Heard5_v9 c l m d z) (pNat (Heard5_v2 d z)) (Heard5_v11 c l m d z) = _
    delta Heard5_v11
    rw [e9, hpi, e3, e10, e4, pNat_coe, pSet_pSet, sub0]
    rfl
  have B : Heard5_v8 z = false → Heard5_t14 c l m d z := fun c9 => by
    have c9 : pNe z.2.2.2.2.2.2.2.2.2.2.1 0 = false := c9
    rw [c9] at hW
    have e13 : Heard5_v13 d z = pSet j.2.2.1 (j.2.2.1.length - 1) (k.1, k.2.1, k.2.2.1, z.2.2.2.2.2.2.1, z.2.2.2.2.2.2.2.1, k.2.2.2.2.2.1, true, k.2.2.2.2.2.2.2) := by delta Heard5_v13; rw [e3, e4, e6, pNat_coe]
    delta Heard5_t14
    rw [e4, e3, e13, e9, e10, hpi]
    refine ⟨hin4, hin, rfl, pSet_len, pSet_len, fin _ (turn_to hW (by rfl) ?_ (by rfl) (by rfl) hr (by rfl) (by rfl))⟩
    show pSet (pSet d.2.1 i _) i _ = _
    rw [pSet_pSet]
    rfl
  have e4' := e4
  exact bif_ok (fun a => bif_ok (fun _ => ⟨hto, hrm, hin, rfl, hl9, A a⟩) fun b => by rw [a] at b; cases b) fun a => bif_ok (fun b => by rw [a] at b; cases b) fun _ => B a
set_option maxHeartbeats 4000000 in
theorem Heard6_ok : Meets Tryd.prog tabsM 6 cHeard6 := Heard6_meets deskFault0_ok.any MessageFault0_ok.any DeskCopyN_ok.any jobAt_ok.any (kkanswT_ok TasksCopy_ok.any (kkendedN_ok about_ok.any hands_ok.any without_ok.any)) fun c l m d z hp => by
  have h1 : pLen c.2.1 < 4611686018427387904 := hp (pLen c.2.1 < 4611686018427387904) (by simp)
  have h2 : pLen d.2.1 < 4611686018427387904 := hp (pLen d.2.1 < 4611686018427387904) (by simp)
  have h3 : ∀ q ∈ d.2.1, pLen q.2.2.1 < 4611686018427387904 ∧ pLen q.2.2.2.1 < 4611686018427387904 := hp (∀ q ∈ d.2.1, pLen q.2.2.1 < 4611686018427387904 ∧ pLen q.2.2.2.1 < 4611686018427387904) (by simp)
  have hb : begE c l m d = 0 := hp (begE c l m d = 0) (by simp)
  have hm : msgF c ((6 : Int), z) = 0 := hp (msgF c ((6 : Int), z) = 0) (by simp)
  have hv : pEq z.2.1 m = true := hp (pEq z.2.1 m = true) (by simp)
  have hs : pEq z.2.2.1 m = true := hp (pEq z.2.2.1 m = true) (by simp)
  clear hp
  have hE := heaE_zero hb hm hv hs (by rfl)
  delta Heard6_VC
  refine heard_pre hb h1 h2 h3 hv hs hm _ fun hz hpl => ?_
  refine ⟨h2, bif_ok (fun n => ?_) fun n => ?_⟩
  · show ((d.1, d.2.1, ([] : List MsgD), ([] : List RecD), ([] : List RepD), (0 : Int), (0 : Int), ()), (0 : Int), ()) = (heaT c l m d ((6 : Int), z), heaE c l m d ((6 : Int), z), ())
    rw [heaT_none hE n, hE]; rfl
  obtain ⟨i, hI, hi, hn⟩ := find_at n
  have hT := heaT_some hE hI
  have hmem : pGet tyJob d.2.1 i ∈ d.2.1 := by rw [pGet_lt (t := tyJob) hi]; exact List.getElem_mem hi
  have hj := jobs_ok hz _ hmem
  have hcs := (deskF_zero hz).1
  have hn6 : d.2.1.length ≤ 6 := (deskF_zero hz).2.1
  obtain ⟨j, hjj⟩ : ∃ j : JobD, j = pGet tyJob d.2.1 i := ⟨_, rfl⟩
  have hset : pSet d.2.1 i j = d.2.1 := by rw [hjj]; exact pSet_get (t := tyJob)
  rw [← hjj] at hj hT hn
  have fin : ∀ T : TurnD, T = answT c.1 l m d i j ((6 : Int), z) → (T, (0 : Int), ()) = Heard6_v1 c l m d z := fun T h => by
    show (T, (0 : Int), ()) = (heaT c l m d ((6 : Int), z), heaE c l m d ((6 : Int), z), ())
    rw [hT, hE, h]; rfl
  have quiet : answT c.1 l m d i j ((6 : Int), z) = quietT d → ((d.1, pSet d.2.1 i j, ([] : List MsgD), ([] : List RecD), ([] : List RepD), (0 : Int), (0 : Int), ()), (0 : Int), ()) = Heard6_v1 c l m d z := fun h => fin _ (by rw [h, hset]; rfl)
  have hin : pIn (Heard6_v2 d z) (pLen d.2.1) := by show pIn (idxKeyJ d.2.1 z.2.2.2.1) _; rw [hI]; exact pIn_coe.2 hi
  have e2 : Heard6_v2 d z = (i : Int) := hI
  have e3 : Heard6_v3 d z = j := by show pGet tyJob d.2.1 (pNat (idxKeyJ d.2.1 z.2.2.2.1)) = j; rw [hI, pNat_coe, ← hjj]
  have hpi : pNat (Heard6_v2 d z) = i := by rw [e2, pNat_coe]
  have e4 : Heard6_v4 d z = pSubI .i64 (pInt j.2.2.1.length) 1 := by delta Heard6_v4; rw [e3]; rfl
  refine ⟨hin, hin, rfl, ?_⟩
  have t5 : answT c.1 l m d i j ((6 : Int), z) = quietT d → Heard6_t5 c l m d z := fun h => by
    delta Heard6_t5
    rw [hpi, e3]; exact quiet h
  rw [e4]
  refine bif_ok (fun n0 => t5 (by unfold answT; dsimp only; rw [n0]; rfl)) fun n0 => ?_
  have hpos : 0 < j.2.2.1.length := by
    have hlen := hj.2.1
    have : ¬ (pSubI .i64 (pInt j.2.2.1.length) 1 < 0) := of_decide_eq_false n0
    unfold pInt at this
    rw [pSubI_in (a := (j.2.2.1.length : Int)) (b := 1) (by omega)] at this
    omega
  have hl : pSubI .i64 (pInt j.2.2.1.length) 1 = ((j.2.2.1.length - 1 : Nat) : Int) := by
    have hlen := hj.2.1
    unfold pInt
    rw [pSubI_in (a := (j.2.2.1.length : Int)) (b := 1) (by omega)]; omega
  have hW : answT c.1 l m d i j ((6 : Int), z) = cond (fitsT c.1 (pGet tyTask j.2.2.1 (j.2.2.1.length - 1)) ((6 : Int), z)) (cond (pNe z.2.2.2.2.2.2.2.2.2.2.1 0 && pEq (6 : Int) 6) (d.1, pDel d.2.1 i, saysM m false j.1 (handsF c.1 l j.2.2.1), [], [(m, 3, j.1, z.2.2.2.2.2.1, z.2.2.2.2.2.2.1, z.2.2.2.2.2.2.2.2.2.2.1, ())], 0, 0, ())
        (d.1, pSet d.2.1 i (j.1, j.2.1, cond (pNe z.2.2.2.2.2.2.2.2.2.2.1 0) (j.2.2.1.take (j.2.2.1.length - 1)) (pSet j.2.2.1 (j.2.2.1.length - 1) (doneK (pGet tyTask j.2.2.1 (j.2.2.1.length - 1)) ((6 : Int), z))), j.2.2.2.1, j.2.2.2.2.1, 0, ()),
          [], [], [(m, cond (pEq (6 : Int) 6) 3 2, j.1, z.2.2.2.2.2.1, z.2.2.2.2.2.2.1, z.2.2.2.2.2.2.2.2.2.2.1, ())], 0, 0, ()))
      (quietT d) := by unfold answT; dsimp only; rw [n0]; rfl
  have e4 : Heard6_v4 d z = ((j.2.2.1.length - 1 : Nat) : Int) := e4.trans hl
  have e6 : Heard6_v6 d z = pGet tyTask j.2.2.1 (j.2.2.1.length - 1) := by delta Heard6_v6; rw [e3, e4, pNat_coe]
  obtain ⟨k, hk⟩ : ∃ k : TaskD, k = pGet tyTask j.2.2.1 (j.2.2.1.length - 1) := ⟨_, rfl⟩
  have hlt : j.2.2.1.length - 1 < j.2.2.1.length := by omega
  have hin4 : pIn ((j.2.2.1.length - 1 : Nat) : Int) (pLen j.2.2.1) := pIn_coe.2 hlt
  have hto : pTo ((j.2.2.1.length - 1 : Nat) : Int) (pLen j.2.2.1) := pTo_coe.2 (Nat.sub_le _ _)
  have hrm : pRoom (pLen (pSub j.2.2.1 0 (pNat ((j.2.2.1.length - 1 : Nat) : Int)))) 56 := by
    rw [pNat_coe, sub0]
    have : (j.2.2.1.take (j.2.2.1.length - 1)).length ≤ 10 := Nat.le_trans (List.length_take_le' _ _) hj.2.1
    show (j.2.2.1.take (j.2.2.1.length - 1)).length * 56 ≤ _
    omega
  rw [hl, e6, e3]
  rw [← hk] at e6 hW ⊢
  refine ⟨hin4, ?_⟩
  have no : ∀ x : Prop, fitsT c.1 k ((6 : Int), z) = false → Heard6_t5 c l m d z := fun _ h => t5 (by rw [hW, h]; rfl)
  refine bif_ok (fun a1 => no True (by rw [fits6, a1]; rfl)) fun a1 => bif_ok (fun a2 => no True (by rw [fits6, a1, a2]; rfl)) fun a2 => bif_ok (fun a3 => no True (by rw [fits6, a1, a2, show pNot (pBeq k.1 true) = true from a3]; rfl)) fun a3 => bif_ok (fun a4 => no True (by rw [fits6, a1, a2, show pNot (pBeq k.1 true) = false from a3, a4]; rfl)) fun a4 =>
    ⟨nz_of hcs.1, bif_ok (fun a6 => no True (by rw [fits6, a1, a2, show pNot (pBeq k.1 true) = false from a3, a4, a6]; rfl)) fun a6 => ⟨app_room (xs := ([] : List RepD)) (by decide), ?_⟩⟩
  have hf : fitsT c.1 k ((6 : Int), z) = true := by rw [fits6, a1, a2, show pNot (pBeq k.1 true) = false from a3, a4, a6]; rfl
  rw [hf, cond_true] at hW
  have e9 : Heard6_v12 c l m d z = pSet d.2.1 i (j.1, j.2.1, j.2.2.1, j.2.2.2.1, j.2.2.2.2.1, 0, ()) := by delta Heard6_v12; rw [hpi, e3]
  have e10 : Heard6_v13 c l m d z = (j.1, j.2.1, j.2.2.1, j.2.2.2.1, j.2.2.2.2.1, 0, ()) := by delta Heard6_v13; rw [e9, hpi, pGet_set_eq (t := tyJob) hi]
  have hl9 : pLen (Heard6_v12 c l m d z) = pLen d.2.1 := by show (Heard6_v12 c l m d z).length = d.2.1.length; rw [e9, pSet_len]
  have hr : pApp ([] : List RepD) (Heard6_v7 m d z) = [(m, 3, j.1, z.2.2.2.2.2.1, z.2.2.2.2.2.2.1, z.2.2.2.2.2.2.2.2.2.2.1, ())] := by delta Heard6_v7; rw [e3]; rfl
  have e14 : Heard6_v14 d z = pSet j.2.2.1 (j.2.2.1.length - 1) (k.1, k.2.1, k.2.2.1, k.2.2.2.1, k.2.2.2.2.1, k.2.2.2.2.2.1, true, k.2.2.2.2.2.2.2) := by delta Heard6_v14; rw [e3, e4, e6, pNat_coe]
  refine bif_ok (fun c9 => ?_) fun c9 => bif_ok (fun b => by rw [c9] at b; cases b) fun _ => ?_
  · rw [c9] at hW
    have hhl := handsF_len (cn := c.1) (l := l) (ts := j.2.2.1) hcs
    have e9h : Heard6_v9 c l d z = handsF c.1 l j.2.2.1 := by delta Heard6_v9; rw [e3]
    delta Heard6_v11
    rw [e3, e9h, hpi, hset]
    refine ⟨hin, rfl, inF_iff.2 hcs, Nat.lt_of_le_of_lt hj.2.1 (by decide), endedX_vc 1 (Heard6_v8 m d z) _ _ _ _ (Nat.le_trans hhl (by decide)) (Nat.zero_le _) ⟨Nat.lt_of_le_of_lt hn6 (by decide), fin _ (turn_to hW (by rfl) ?_ (by rfl) (by rfl) hr (by rfl) (by rfl))⟩⟩
    show withoutF d.2.1 (idxKeyJ d.2.1 z.2.2.2.1) = _
    rw [hI, withoutF_del hi]; rfl
  · rw [c9] at hW
    rw [e14, e9, e10, hpi]
    refine ⟨hin4, hin, rfl, pSet_len, pSet_len, fin _ (turn_to hW (by rfl) ?_ (by rfl) (by rfl) hr (by rfl) (by rfl))⟩
    show pSet (pSet d.2.1 i _) i _ = _
    rw [pSet_pSet]
    rfl
set_option maxHeartbeats 4000000 in
theorem Heard8_ok : Meets Tryd.prog tabsM 6 cHeard8 := Heard8_meets deskFault0_ok.any MessageFault0_ok.any DeskCopyN_ok.any jobAt_ok.any without_ok.any fun c l m d z hp => by
  have h1 : pLen c.2.1 < 4611686018427387904 := hp (pLen c.2.1 < 4611686018427387904) (by simp)
  have h2 : pLen d.2.1 < 4611686018427387904 := hp (pLen d.2.1 < 4611686018427387904) (by simp)
  have h3 : ∀ q ∈ d.2.1, pLen q.2.2.1 < 4611686018427387904 ∧ pLen q.2.2.2.1 < 4611686018427387904 := hp (∀ q ∈ d.2.1, pLen q.2.2.1 < 4611686018427387904 ∧ pLen q.2.2.2.1 < 4611686018427387904) (by simp)
  have hb : begE c l m d = 0 := hp (begE c l m d = 0) (by simp)
  have hm : msgF c ((8 : Int), z) = 0 := hp (msgF c ((8 : Int), z) = 0) (by simp)
  have hv : pEq z.2.1 m = true := hp (pEq z.2.1 m = true) (by simp)
  have hs : pEq z.2.2.1 m = true := hp (pEq z.2.2.1 m = true) (by simp)
  clear hp
  have hE := heaE_zero hb hm hv hs (by rfl)
  delta Heard8_VC
  refine heard_pre hb h1 h2 h3 hv hs hm _ fun hz hpl => ?_
  refine ⟨h2, bif_ok (fun n => ?_) fun n => ?_⟩
  · show ((d.1, d.2.1, ([] : List MsgD), ([] : List RecD), ([] : List RepD), (0 : Int), (0 : Int), ()), (0 : Int), ()) = (heaT c l m d ((8 : Int), z), heaE c l m d ((8 : Int), z), ())
    rw [heaT_none hE n, hE]; rfl
  obtain ⟨i, hI, hi, hn⟩ := find_at n
  have hT := heaT_some hE hI
  have hmem : pGet tyJob d.2.1 i ∈ d.2.1 := by rw [pGet_lt (t := tyJob) hi]; exact List.getElem_mem hi
  have hj := jobs_ok hz _ hmem
  have hcs := (deskF_zero hz).1
  have hn6 : d.2.1.length ≤ 6 := (deskF_zero hz).2.1
  obtain ⟨j, hjj⟩ : ∃ j : JobD, j = pGet tyJob d.2.1 i := ⟨_, rfl⟩
  have hset : pSet d.2.1 i j = d.2.1 := by rw [hjj]; exact pSet_get (t := tyJob)
  rw [← hjj] at hj hT hn
  have fin : ∀ T : TurnD, T = ackT m d i j ((8 : Int), z) → (T, (0 : Int), ()) = Heard8_v1 c l m d z := fun T h => by
    show (T, (0 : Int), ()) = (heaT c l m d ((8 : Int), z), heaE c l m d ((8 : Int), z), ())
    rw [hT, hE, h]; rfl
  have quiet : ackT m d i j ((8 : Int), z) = quietT d → ((d.1, pSet d.2.1 i j, ([] : List MsgD), ([] : List RecD), ([] : List RepD), (0 : Int), (0 : Int), ()), (0 : Int), ()) = Heard8_v1 c l m d z := fun h => fin _ (by rw [h, hset]; rfl)
  have hin : pIn (Heard8_v2 d z) (pLen d.2.1) := by show pIn (idxKeyJ d.2.1 z.2.2.2.1) _; rw [hI]; exact pIn_coe.2 hi
  have e2 : Heard8_v2 d z = (i : Int) := hI
  have e3 : Heard8_v3 d z = j := by show pGet tyJob d.2.1 (pNat (idxKeyJ d.2.1 z.2.2.2.1)) = j; rw [hI, pNat_coe, ← hjj]
  have hpi : pNat (Heard8_v2 d z) = i := by rw [e2, pNat_coe]
  refine ⟨hin, ?_⟩
  have hJ : hJob d.2.1 z.2.2.2.1 = j := e3
  have hA : ∀ y, heardAInv m d z y = StepInv (fun k => (dropN (j.2.2.2.1.take k) z.1, ())) j.2.2.2.1.length y := fun y => by delta heardAInv; rw [hJ]
  have hMu : ∀ y, heardAMu m d z y = StepMu j.2.2.2.1.length y := fun y => by delta heardAMu; rw [hJ]
  rw [e3]
  refine ⟨by rw [hA]; exact StepInv.start rfl, fun y hy => ?_⟩
  rw [hA] at hy
  have hl4 := hj.2.2.1
  rcases StepInv.round (show j.2.2.2.1.length < 4611686018427387904 by omega) hy with ⟨k, rfl, hk, hkb, hT⟩ | rfl
  · rw [bif_true (by rw [pLt_coe]; exact decide_eq_true hk)]
    have hT' : ∀ u, u = dropN (j.2.2.2.1.take (k + 1)) z.1 → heardAInv m d z (pAdd .i64 (k : Int) 1, u, ()) ∧ Nat.le (Nat.succ (heardAMu m d z (pAdd .i64 (k : Int) 1, u, ()))) (heardAMu m d z ((k : Int), dropN (j.2.2.2.1.take k) z.1, ())) := fun u h => by
      rw [hA, hMu, hMu]; exact hT (u, ()) (by rw [h])
    refine ⟨pIn_coe.2 hk, bif_ok (fun a => ⟨pIn_coe.2 hk, ?_, ?_⟩) fun a => hT' (dropN (j.2.2.2.1.take k) z.1) ?_⟩
    · have := dropN_len (l := j.2.2.2.1) (u := z.1) (k := k)
      exact app_room (xs := dropN (j.2.2.2.1.take k) z.1) (by omega)
    · delta Heard8_v4
      rw [e3]
      have a : pNe (pGet tyN j.2.2.2.1 (pNat (k : Int))).1 z.1 = true := a
      rw [pNat_coe] at a
      have a' : isN z.1 (pGet tyN j.2.2.2.1 k) = false := by simpa [isN, pNe, pEq] using a
      exact hT' (pApp (dropN (j.2.2.2.1.take k) z.1) [pGet tyN j.2.2.2.1 (pNat (k : Int))]) (by rw [pNat_coe, dropN_next hk, a']; rfl)
    · have a : pNe (pGet tyN j.2.2.2.1 (pNat (k : Int))).1 z.1 = false := a
      rw [pNat_coe] at a
      have a' : isN z.1 (pGet tyN j.2.2.2.1 k) = true := by simpa [isN, pNe, pEq] using a
      rw [dropN_next hk, a']; rfl
  rw [bif_false (by rw [pLt_coe]; exact decide_eq_false (Nat.lt_irrefl _))]
  have hdr : dropN (j.2.2.2.1.take j.2.2.2.1.length) z.1 = dropN j.2.2.2.1 z.1 := by rw [List.take_length]
  have e6 : Heard8_v6 c l m d z = j := by delta Heard8_v6; rw [hpi, e3, pGet_set_eq (t := tyJob) hi]
  have e7 : ∀ n : Int, Heard8_v7 c l m d z (n, dropN j.2.2.2.1 z.1, ()) = pSet d.2.1 i (j.1, j.2.1, j.2.2.1, dropN j.2.2.2.1 z.1, j.2.2.2.2) := fun n => by delta Heard8_v7; rw [e6, hpi, e3, pSet_pSet]
  rw [hdr, hpi, hset]
  refine bif_ok (fun a => ⟨hin, rfl, bif_ok (fun b => ?_) fun b => ?_⟩) fun a => ?_
  · have a' : pNe j.2.1 3 = false := by simpa [pNe, pEq] using a
    have b : pEq (pInt (dropN j.2.2.2.1 z.1).length) 0 = true := b
    have hq : ackT m d i j ((8 : Int), z) = (d.1, pDel d.2.1 i, [], [(4, m, j.1, 0, 0, 0, false, [], ())], [], 0, 0, ()) := by unfold ackT; dsimp only; rw [a', b]; rfl
    have hs' : z.2.2.1 = m := by simpa [pEq] using hs
    rw [e7]
    have hls : pLen (pSet d.2.1 i (j.1, j.2.1, j.2.2.1, dropN j.2.2.2.1 z.1, j.2.2.2.2)) = pLen d.2.1 := pSet_len
    refine ⟨app_room (xs := ([] : List RecD)) (by decide), by rw [hls]; exact Nat.lt_of_le_of_lt hn6 (by decide), fin _ (turn_to hq (by rfl) ?_ (by rfl) ?_ (by rfl) (by rfl) (by rfl))⟩
    · show withoutF (pSet d.2.1 i (j.1, j.2.1, j.2.2.1, dropN j.2.2.2.1 z.1, j.2.2.2.2)) (idxKeyJ d.2.1 z.2.2.2.1) = _
      rw [hI, withoutF_del (by rw [pSet_len]; exact hi), pDel_set]
    · show pApp ([] : List RecD) (Heard8_v5 z) = _
      delta Heard8_v5
      rw [hs', ← hn] <;> rfl
  · have a' : pNe j.2.1 3 = false := by simpa [pNe, pEq] using a
    have b : pEq (pInt (dropN j.2.2.2.1 z.1).length) 0 = false := b
    have hq : ackT m d i j ((8 : Int), z) = (d.1, pSet d.2.1 i (j.1, j.2.1, j.2.2.1, dropN j.2.2.2.1 z.1, j.2.2.2.2), [], [], [], 0, 0, ()) := by unfold ackT; dsimp only; rw [a', b]; rfl
    rw [e7]
    exact fin _ hq.symm
  · have a' : pNe j.2.1 3 = true := by simpa [pNe, pEq] using a
    have hq : ackT m d i j ((8 : Int), z) = quietT d := by unfold ackT; dsimp only; rw [a']; rfl
    exact fin _ (by rw [hq]; rfl)
set_option maxHeartbeats 4000000 in
theorem Heard9_ok : Meets Tryd.prog tabsM 6 cHeard9 := Heard9_meets deskFault0_ok.any MessageFault0_ok.any DeskCopyN_ok.any jobAt_ok.any about_ok.any fun c l m d z hp => by
  have h1 : pLen c.2.1 < 4611686018427387904 := hp (pLen c.2.1 < 4611686018427387904) (by simp)
  have h2 : pLen d.2.1 < 4611686018427387904 := hp (pLen d.2.1 < 4611686018427387904) (by simp)
  have h3 : ∀ q ∈ d.2.1, pLen q.2.2.1 < 4611686018427387904 ∧ pLen q.2.2.2.1 < 4611686018427387904 := hp (∀ q ∈ d.2.1, pLen q.2.2.1 < 4611686018427387904 ∧ pLen q.2.2.2.1 < 4611686018427387904) (by simp)
  have hb : begE c l m d = 0 := hp (begE c l m d = 0) (by simp)
  have hm : msgF c ((9 : Int), z) = 0 := hp (msgF c ((9 : Int), z) = 0) (by simp)
  have hv : pEq z.2.1 m = true := hp (pEq z.2.1 m = true) (by simp)
  have hs : pEq z.2.2.1 m = true := hp (pEq z.2.2.1 m = true) (by simp)
  clear hp
  have hE := heaE_zero hb hm hv hs (by rfl)
  delta Heard9_VC
  refine heard_pre hb h1 h2 h3 hv hs hm _ fun hz hpl => ?_
  refine ⟨h2, bif_ok (fun n => ?_) fun n => ?_⟩
  · refine ⟨app_room (xs := ([] : List MsgD)) (by decide), ?_⟩
    show _ = (heaT c l m d ((9 : Int), z), heaE c l m d ((9 : Int), z), ())
    rw [heaT_none hE n, hE]; rfl
  obtain ⟨i, hI, hi, hn⟩ := find_at n
  have hT := heaT_some hE hI
  have hmem : pGet tyJob d.2.1 i ∈ d.2.1 := by rw [pGet_lt (t := tyJob) hi]; exact List.getElem_mem hi
  have hj := jobs_ok hz _ hmem
  have hcs := (deskF_zero hz).1
  have hn6 : d.2.1.length ≤ 6 := (deskF_zero hz).2.1
  obtain ⟨j, hjj⟩ : ∃ j : JobD, j = pGet tyJob d.2.1 i := ⟨_, rfl⟩
  have hset : pSet d.2.1 i j = d.2.1 := by rw [hjj]; exact pSet_get (t := tyJob)
  rw [← hjj] at hj hT hn
  have fin : ∀ T : TurnD, T = askedT m d j ((9 : Int), z) → (T, (0 : Int), ()) = Heard9_v0 c l m d z := fun T h => by
    show (T, (0 : Int), ()) = (heaT c l m d ((9 : Int), z), heaE c l m d ((9 : Int), z), ())
    rw [hT, hE, h]; rfl
  have quiet : askedT m d j ((9 : Int), z) = quietT d → ((d.1, pSet d.2.1 i j, ([] : List MsgD), ([] : List RecD), ([] : List RepD), (0 : Int), (0 : Int), ()), (0 : Int), ()) = Heard9_v0 c l m d z := fun h => fin _ (by rw [h, hset]; rfl)
  have e2 : Heard9_v2 d z = j := by show pGet tyJob d.2.1 (pNat (idxKeyJ d.2.1 z.2.2.2.1)) = j; rw [hI, pNat_coe, ← hjj]
  have hJ : hJob d.2.1 z.2.2.2.1 = j := e2
  have hup := jobs_climb hz _ hmem
  rw [← hjj] at hup
  have hl4 := hj.2.2.1
  have hA : ∀ y, heardBInv m d z y = StepInv (fun k => (keepTn (d.1, [], [], [], 0, 0, ()) (yesK m j z.1 k), ())) j.2.2.2.1.length y := fun y => by delta heardBInv; rw [hJ]
  have hMu : ∀ y, heardBMu m d z y = StepMu j.2.2.2.1.length y := fun y => by delta heardBMu; rw [hJ]
  rw [hI, e2, pNat_coe, hset]
  refine ⟨pIn_coe.2 hi, by rw [hA]; exact StepInv.start (by unfold yesK; cases pEq j.2.1 3 <;> rfl), fun y hy => ?_⟩
  rw [hA] at hy
  rcases StepInv.round (show j.2.2.2.1.length < 4611686018427387904 by omega) hy with ⟨k, rfl, hk, hkb, hT⟩ | rfl
  · rw [bif_true (by rw [pLt_coe]; exact decide_eq_true hk)]
    let Y : Int × TurnK × Unit := ((k : Int), keepTn (d.1, [], [], [], 0, 0, ()) (yesK m j z.1 k), ())
    have hT' : ∀ u, u = yesK m j z.1 (k + 1) → heardBInv m d z (pAdd .i64 (k : Int) 1, (d.1, (), u, [], [], (0 : Int), (0 : Int), ()), ()) ∧ Nat.le (Nat.succ (heardBMu m d z (pAdd .i64 (k : Int) 1, (d.1, (), u, [], [], (0 : Int), (0 : Int), ()), ()))) (heardBMu m d z Y) := fun u h => by
      rw [hA, hMu, hMu]; exact hT ((d.1, (), u, [], [], (0 : Int), (0 : Int), ()), ()) (by rw [h]; rfl)
    have e3 : Heard9_v3 m d z = [decM m true j.1 z.1] := by delta Heard9_v3; rw [e2]; rfl
    have t6 : yesK m j z.1 k = yesK m j z.1 (k + 1) → Heard9_t6 c l m d z Y := fun h => hT' (yesK m j z.1 k) h
    have hyl := yesK_len (m := m) (j := j) (u := z.1) (k := k)
    refine bif_ok (fun a => ⟨pIn_coe.2 hk, bif_ok (fun b => ?_) fun b => t6 ?_⟩) fun a => t6 ?_
    · have b : pEq (pGet tyN j.2.2.2.1 (pNat (k : Int))).1 z.1 = true := b
      rw [pNat_coe] at b
      delta Heard9_v4
      rw [e3]
      refine ⟨app_room (xs := yesK m j z.1 k) (by omega), hT' (pApp (yesK m j z.1 k) [decM m true j.1 z.1]) ?_⟩
      rw [yesK_next hk, a, show isN z.1 (pGet tyN j.2.2.2.1 k) = true from b]; rfl
    · have b : pEq (pGet tyN j.2.2.2.1 (pNat (k : Int))).1 z.1 = false := b
      rw [pNat_coe] at b
      rw [yesK_next hk, show isN z.1 (pGet tyN j.2.2.2.1 k) = false from b, Bool.and_false]; rfl
    · rw [yesK_next hk, a]; rfl
  rw [bif_false (by rw [pLt_coe]; exact decide_eq_false (Nat.lt_irrefl _))]
  refine fin _ ?_
  show (d.1, d.2.1, yesK m j z.1 j.2.2.2.1.length, [], [], (0 : Int), (0 : Int), ()) = _
  rw [yesK_all hup]
  unfold askedT
  dsimp only
  cases pEq j.2.1 3 && pGe (hasF j.2.2.2.1 z.1) 0 <;> rfl


end Go.Proofs.YtnkcmkegjckncaaDoor

/- The document's answer to a message that tells of reads; joined. No condition. -/
namespace Go.Proofs.YtnkcmkegjckncaaDoor
open Go.RowKit

theorem writes_vc (ts : List TaskD) (Fin : Int × Bool × Unit → Prop) (hts : ts.length ≤ 10) (hF : Fin ((ts.length : Int), anyUpto (writeAt ts) ts.length, ())) :
    writesCInv ts ((0 : Int), false, ()) ∧ ∀ (y : kden false tI × kden false .bool × PUnit), writesCInv ts y → bif pLt y.1 (pInt (pLen ts)) then (bif y.2.1 then writesCInv ts (pAdd .i64 y.1 1, true, ()) ∧ Nat.le (Nat.succ (writesCMu ts (pAdd .i64 y.1 1, true, ()))) (writesCMu ts y)
      else pIn y.1 (pLen ts) ∧ writesCInv ts (pAdd .i64 y.1 1, (pGet tyTask ts (pNat y.1)).1, ()) ∧ Nat.le (Nat.succ (writesCMu ts (pAdd .i64 y.1 1, (pGet tyTask ts (pNat y.1)).1, ()))) (writesCMu ts y)) else Fin y := by
  refine ⟨StepInv.start rfl, fun y hy => ?_⟩
  rcases StepInv.round (show ts.length < 4611686018427387904 by omega) hy with ⟨k, rfl, hk, hb, hT⟩ | rfl
  · rw [bif_true (by rw [pLt_coe]; exact decide_eq_true hk)]
    dsimp only
    rw [pNat_coe]
    refine bif_ok (fun c => hT _ ?_) fun c => ⟨pIn_coe.2 hk, hT _ ?_⟩
    · rw [anyUpto_succ, c, Bool.true_or]
    · rw [anyUpto_succ, c, Bool.false_or]; rfl
  · rw [bif_false (by rw [pLt_coe]; exact decide_eq_false (Nat.lt_irrefl _))]
    exact hF
set_option maxHeartbeats 4000000 in
theorem Heard7_ok : Meets Tryd.prog tabsM 6 cHeard7 := Heard7_meets deskFault0_ok.any MessageFault0_ok.any DeskCopyN_ok.any jobAt_ok.any (kkmadeSure_ok (kkendedN_ok about_ok.any hands_ok.any without_ok.any) (kkcommitted_ok hands_ok.any without_ok.any intsCopy_ok.any (kktoldN_ok about_ok.any))) fun c l m d z hp => by
  have h1 : pLen c.2.1 < 4611686018427387904 := hp (pLen c.2.1 < 4611686018427387904) (by simp)
  have h2 : pLen d.2.1 < 4611686018427387904 := hp (pLen d.2.1 < 4611686018427387904) (by simp)
  have h3 : ∀ q ∈ d.2.1, pLen q.2.2.1 < 4611686018427387904 ∧ pLen q.2.2.2.1 < 4611686018427387904 := hp (∀ q ∈ d.2.1, pLen q.2.2.1 < 4611686018427387904 ∧ pLen q.2.2.2.1 < 4611686018427387904) (by simp)
  have hb : begE c l m d = 0 := hp (begE c l m d = 0) (by simp)
  have hm : msgF c ((7 : Int), z) = 0 := hp (msgF c ((7 : Int), z) = 0) (by simp)
  have hv : pEq z.2.1 m = true := hp (pEq z.2.1 m = true) (by simp)
  have hs : pEq z.2.2.1 m = true := hp (pEq z.2.2.1 m = true) (by simp)
  clear hp
  have hE := heaE_zero hb hm hv hs (by rfl)
  delta Heard7_VC
  refine heard_pre hb h1 h2 h3 hv hs hm _ fun hz hpl => ?_
  refine ⟨h2, bif_ok (fun n => ?_) fun n => ?_⟩
  · show ((d.1, d.2.1, ([] : List MsgD), ([] : List RecD), ([] : List RepD), (0 : Int), (0 : Int), ()), (0 : Int), ()) = (heaT c l m d ((7 : Int), z), heaE c l m d ((7 : Int), z), ())
    rw [heaT_none hE n, hE]; rfl
  obtain ⟨i, hI, hi, hn⟩ := find_at n
  have hT := heaT_some hE hI
  have hmem : pGet tyJob d.2.1 i ∈ d.2.1 := by rw [pGet_lt (t := tyJob) hi]; exact List.getElem_mem hi
  have hj := jobs_ok hz _ hmem
  have hcs := (deskF_zero hz).1
  have hn6 : d.2.1.length ≤ 6 := (deskF_zero hz).2.1
  obtain ⟨j, hjj⟩ : ∃ j : JobD, j = pGet tyJob d.2.1 i := ⟨_, rfl⟩
  have hset : pSet d.2.1 i j = d.2.1 := by rw [hjj]; exact pSet_get (t := tyJob)
  rw [← hjj] at hj hT hn
  have fin : ∀ T : TurnD, T = sureT c.1 l m d i j ((7 : Int), z) → (T, (0 : Int), ()) = Heard7_v1 c l m d z := fun T h => by
    show (T, (0 : Int), ()) = (heaT c l m d ((7 : Int), z), heaE c l m d ((7 : Int), z), ())
    rw [hT, hE, h]; rfl
  have quiet : sureT c.1 l m d i j ((7 : Int), z) = quietT d → ((d.1, pSet d.2.1 i j, ([] : List MsgD), ([] : List RecD), ([] : List RepD), (0 : Int), (0 : Int), ()), (0 : Int), ()) = Heard7_v1 c l m d z := fun h => fin _ (by rw [h, hset]; rfl)
  have hin : pIn (Heard7_v2 d z) (pLen d.2.1) := by show pIn (idxKeyJ d.2.1 z.2.2.2.1) _; rw [hI]; exact pIn_coe.2 hi
  have e2 : Heard7_v2 d z = (i : Int) := hI
  have hpi : pNat (Heard7_v2 d z) = i := by rw [e2, pNat_coe]
  have e3 : Heard7_v3 d z = j := by show pGet tyJob d.2.1 (pNat (idxKeyJ d.2.1 z.2.2.2.1)) = j; rw [hI, pNat_coe, ← hjj]
  subst e3
  have t4 : sureT c.1 l m d i (Heard7_v3 d z) ((7 : Int), z) = quietT d → Heard7_t4 c l m d z := fun h => by delta Heard7_t4; rw [hpi]; exact quiet h
  refine ⟨hin, hin, rfl, bif_ok (fun a => t4 (by unfold sureT; dsimp only; rw [a]; rfl)) fun a => ⟨nz_of hcs.1, bif_ok (fun b => t4 (by unfold sureT; dsimp only; rw [b, Bool.or_true]; rfl)) fun b => ?_⟩⟩
  have hW : sureT c.1 l m d i (Heard7_v3 d z) ((7 : Int), z) = cond ((Heard7_v3 d z).2.2.1.any (mineT ((7 : Int), z)))
      (cond z.2.2.2.2.2.2.2.2.2.1
        (cond (((Heard7_v3 d z).2.2.1.map (markT ((7 : Int), z))).any leftT) (d.1, pSet d.2.1 i ((Heard7_v3 d z).1, (Heard7_v3 d z).2.1, (Heard7_v3 d z).2.2.1.map (markT ((7 : Int), z)), (Heard7_v3 d z).2.2.2), [], [], [], 0, 0, ())
          (commitW c.1 l m d.1 d.2.1 i ((Heard7_v3 d z).1, (Heard7_v3 d z).2.1, (Heard7_v3 d z).2.2.1.map (markT ((7 : Int), z)), (Heard7_v3 d z).2.2.2) 0))
        (d.1, pDel d.2.1 i, saysM m false (Heard7_v3 d z).1 (handsF c.1 l (Heard7_v3 d z).2.2.1), [], [(m, 4, (Heard7_v3 d z).1, 0, 0, 11, ())], 0, 0, ()))
      (quietT d) := by unfold sureT; dsimp only; rw [a, b]; rfl
  have hl10 : (Heard7_v3 d z).2.2.1.length ≤ 10 := hj.2.1
  refine ⟨StepInv.start rfl, fun y hy => ?_⟩
  rcases StepInv.round (show (Heard7_v3 d z).2.2.1.length < 4611686018427387904 by omega) hy with ⟨k, rfl, hk, hkb, hT⟩ | rfl
  · let Y : Int × Int × List TaskD × Unit := ((k : Int), (mineN ((7 : Int), z) (Heard7_v3 d z).2.2.1 k : Int), markK ((7 : Int), z) (Heard7_v3 d z).2.2.1 k, ())
    have hkl : k < (markK ((7 : Int), z) (Heard7_v3 d z).2.2.1 k).length := by rw [markK_len]; exact hk
    rw [bif_true (show pLt Y.1 (pInt (pLen Y.2.2.1)) = true by show pLt (k : Int) (pInt (markK ((7 : Int), z) (Heard7_v3 d z).2.2.1 k).length) = true; exact decide_eq_true (Int.ofNat_lt.2 hkl))]
    obtain ⟨t, ht⟩ : ∃ t : TaskD, t = pGet tyTask (Heard7_v3 d z).2.2.1 k := ⟨_, rfl⟩
    have hrow : pSet (markK ((7 : Int), z) (Heard7_v3 d z).2.2.1 k) k t = markK ((7 : Int), z) (Heard7_v3 d z).2.2.1 k := by rw [ht, ← markK_get (z := ((7 : Int), z)) hk]; exact pSet_get (t := tyTask)
    have hT' : ∀ (n : Int) (u : TaskD) (us : List TaskD), n = (mineN ((7 : Int), z) (Heard7_v3 d z).2.2.1 (k + 1) : Int) → u = markT ((7 : Int), z) t → us = pSet (markK ((7 : Int), z) (Heard7_v3 d z).2.2.1 k) k u →
        madeAInv ((7 : Int), z) (Heard7_v3 d z).2.2.1 (pAdd .i64 (k : Int) 1, n, us, ()) ∧ Nat.le (Nat.succ (madeAMu ((7 : Int), z) (Heard7_v3 d z).2.2.1 (pAdd .i64 (k : Int) 1, n, us, ()))) (madeAMu ((7 : Int), z) (Heard7_v3 d z).2.2.1 Y) := fun n u us h1 h2 h3 =>
      hT (n, us, ()) (by rw [h1, h3, h2, ht, markK_set hk])
    clear hT
    have hnx := mine_next (z := ((7 : Int), z)) hk
    rw [← ht] at hnx
    have hmk := mine_le (z := ((7 : Int), z)) (ts := (Heard7_v3 d z).2.2.1) (k := k)
    have hpa : pAdd .i64 (mineN ((7 : Int), z) (Heard7_v3 d z).2.2.1 k : Int) 1 = ((mineN ((7 : Int), z) (Heard7_v3 d z).2.2.1 k + 1 : Nat) : Int) := pAdd1 (by omega)
    have e5 : Heard7_v5 Y = t := by show pGet tyTask (markK ((7 : Int), z) (Heard7_v3 d z).2.2.1 k) (pNat (k : Int)) = t; rw [pNat_coe, markK_get hk, ht]
    have t8 : mineT ((7 : Int), z) t = false → Heard7_t8 c l m d z Y := fun hm =>
      hT' (mineN ((7 : Int), z) (Heard7_v3 d z).2.2.1 k : Int) t (markK ((7 : Int), z) (Heard7_v3 d z).2.2.1 k) (by rw [hnx, hm]; rfl) (mark_of hm).symm hrow.symm
    have hin7 : pIn Y.1 (pLen Y.2.2.1) := pIn_coe.2 (show k < (markK ((7 : Int), z) (Heard7_v3 d z).2.2.1 k).length from hkl)
    rw [e5]
    refine ⟨hin7, bif_ok (fun a1 => ⟨hin7, bif_ok (fun a2 => ⟨hin7, bif_ok (fun a3 => ⟨hin7, bif_ok (fun a4 => ?_) fun a4 => t8 (not_mine ?_)⟩) fun a3 => t8 (not_mine ?_)⟩) fun a2 => t8 (not_mine ?_)⟩) fun a1 => t8 (not_mine ?_)⟩
    rotate_left
    · rw [a4, Bool.and_false]
    · rw [a3, Bool.and_false, Bool.false_and]
    · rw [a2, Bool.and_false, Bool.false_and, Bool.false_and]
    · rw [show (!t.1) = false from a1]; rfl
    have hm : mineT ((7 : Int), z) t = true := by show (!t.1 && pEq t.2.1 z.2.2.2.2.1 && pEq t.2.2.1 z.2.2.2.2.2.1 && pEq t.2.2.2.2.1 z.2.2.2.2.2.2.2.1) = true; rw [show (!t.1) = true from a1, a2, a3, a4]; rfl
    have hn1 : pAdd .i64 (mineN ((7 : Int), z) (Heard7_v3 d z).2.2.1 k : Int) 1 = (mineN ((7 : Int), z) (Heard7_v3 d z).2.2.1 (k + 1) : Int) := by rw [hpa, hnx, hm]; rfl
    refine bif_ok (fun y => ⟨hin7, ?_⟩) fun y => ?_
    · delta Heard7_v6 Heard7_v7
      rw [e5]
      refine hT' (pAdd .i64 (mineN ((7 : Int), z) (Heard7_v3 d z).2.2.1 k : Int) 1) (t.1, t.2.1, t.2.2.1, t.2.2.2.1, t.2.2.2.2.1, t.2.2.2.2.2.1, t.2.2.2.2.2.2.1, true, ()) (pSet (markK ((7 : Int), z) (Heard7_v3 d z).2.2.1 k) (pNat (k : Int)) (t.1, t.2.1, t.2.2.1, t.2.2.2.1, t.2.2.2.2.1, t.2.2.2.2.2.1, t.2.2.2.2.2.2.1, true, ())) hn1 ?_ (by rw [pNat_coe])
      unfold markT; rw [hm, show (((7 : Int), z) : MsgD).2.2.2.2.2.2.2.2.2.2.1 = true from y]; rfl
    · delta Heard7_v7
      refine hT' (pAdd .i64 (mineN ((7 : Int), z) (Heard7_v3 d z).2.2.1 k : Int) 1) t (markK ((7 : Int), z) (Heard7_v3 d z).2.2.1 k) hn1 ?_ hrow.symm
      unfold markT; rw [show (((7 : Int), z) : MsgD).2.2.2.2.2.2.2.2.2.2.1 = false from y, Bool.and_false]; rfl
  rw [markK_all]
  have hml : ((Heard7_v3 d z).2.2.1.map (markT ((7 : Int), z))).length = (Heard7_v3 d z).2.2.1.length := List.length_map ..
  have hno : z.2.2.2.2.2.2.2.2.2.1 = false → (Heard7_v3 d z).2.2.1.map (markT ((7 : Int), z)) = (Heard7_v3 d z).2.2.1 := fun h => mark_no h
  have hne : (Heard7_v3 d z).2.2.1.any (mineT ((7 : Int), z)) = false → (Heard7_v3 d z).2.2.1.map (markT ((7 : Int), z)) = (Heard7_v3 d z).2.2.1 := mark_none
  have hma := mine_any (z := ((7 : Int), z)) (ts := (Heard7_v3 d z).2.2.1)
  have hla := left_any (ts := (Heard7_v3 d z).2.2.1.map (markT ((7 : Int), z)))
  generalize hM : (Heard7_v3 d z).2.2.1.any (mineT ((7 : Int), z)) = M at *
  generalize hN : (mineN ((7 : Int), z) (Heard7_v3 d z).2.2.1 (Heard7_v3 d z).2.2.1.length : Int) = N at *
  generalize hts : (Heard7_v3 d z).2.2.1.map (markT ((7 : Int), z)) = ts at *
  let Y : Int × Int × List TaskD × Unit := (((Heard7_v3 d z).2.2.1.length : Int), N, ts, ())
  rw [bif_false (show pLt Y.1 (pInt (pLen Y.2.2.1)) = false by show pLt ((Heard7_v3 d z).2.2.1.length : Int) (pInt ts.length) = false; rw [hml]; exact decide_eq_false (Int.lt_irrefl _))]
  have t9 : Heard7_t9 d z Y := hml
  have e10 : Heard7_v10 d z Y = ((Heard7_v3 d z).1, (Heard7_v3 d z).2.1, ts, (Heard7_v3 d z).2.2.2) := rfl
  have t11 : sureT c.1 l m d i (Heard7_v3 d z) ((7 : Int), z) = (d.1, pSet d.2.1 i ((Heard7_v3 d z).1, (Heard7_v3 d z).2.1, ts, (Heard7_v3 d z).2.2.2), [], [], [], 0, 0, ()) → Heard7_t11 c l m d z Y := fun h => ⟨t9, fin _ (by rw [h, hpi])⟩
  have hhl := handsF_len (cn := c.1) (l := l) (ts := ts) hcs
  have hl10' : ts.length ≤ 10 := by rw [hml]; exact hl10
  have hls : ∀ x, pLen (pSet d.2.1 (pNat (Heard7_v2 d z)) x) = pLen d.2.1 := fun _ => pSet_len
  have hn1000 : pLen d.2.1 < 1000 := Nat.lt_of_le_of_lt hn6 (by decide)
  have hwo : ∀ x, withoutF (pSet d.2.1 (pNat (Heard7_v2 d z)) x) (Heard7_v2 d z) = pDel d.2.1 i := fun x => by
    rw [hpi]
    show withoutF (pSet d.2.1 i x) (idxKeyJ d.2.1 z.2.2.2.1) = _
    rw [hI, withoutF_del (by rw [pSet_len]; exact hi), pDel_set]
  refine bif_ok (fun a => t11 ?_) fun a => ?_
  · have a : pEq N 0 = true := a
    rw [a] at hma
    rw [hW, hma, hne hma]
    show quietT d = (d.1, pSet d.2.1 i (Heard7_v3 d z), [], [], [], 0, 0, ())
    rw [hset]; rfl
  have a : pEq N 0 = false := a
  rw [a] at hma
  rw [hma, Bool.not_false, cond_true] at hW
  refine bif_ok (fun b => ?_) fun b => ?_
  · have b : z.2.2.2.2.2.2.2.2.2.1 = false := by simpa [pNot] using b
    have hts' : ts = (Heard7_v3 d z).2.2.1 := hno b
    rw [b, cond_false, ← hts'] at hW
    refine ⟨app_room (xs := ([] : List RepD)) (by decide), hin, rfl, inF_iff.2 hcs, Nat.lt_of_le_of_lt hl10' (by decide), endedX_vc 1 (Heard7_v12 m d z) _ _ _ _ (Nat.le_trans hhl (by decide)) (Nat.zero_le _) ⟨by rw [hls]; exact hn1000, fin _ (turn_to hW (by rfl) (hwo _) (by rfl) (by rfl) (by rfl) (by rfl) (by rfl))⟩⟩
  have b : z.2.2.2.2.2.2.2.2.2.1 = true := by simpa [pNot] using b
  rw [b, cond_true] at hW
  refine ⟨UpInv.start, fun y3 hy3 => ?_⟩
  rcases UpInv.round (show ts.length < 4611686018427387904 by omega) hy3 with ⟨k, rfl, hk, hkb, -, hF, hT⟩ | ⟨rfl, hT⟩
  · rw [bif_true (by rw [pLt_coe]; exact decide_eq_true hk)]
    have hink : pIn (k : Int) (pLen ts) := pIn_coe.2 hk
    have e16 : Heard7_v16 Y ((k : Int), ()) = pGet tyTask ts k := by show pGet tyTask ts (pNat (k : Int)) = _; rw [pNat_coe]
    refine ⟨hink, bif_ok (fun w => ⟨hink, bif_ok (fun s => t11 ?_) fun s => ?_⟩) fun w => ?_⟩
    · rw [e16] at w s
      have : leftT (pGet tyTask ts k) = true := by unfold leftT; rw [show (!(pGet tyTask ts k).1) = true from w, show (!(pGet tyTask ts k).2.2.2.2.2.2.2.1) = true from s]; rfl
      have := hF (by rw [this]; rfl)
      rw [this, Bool.not_false] at hla
      rw [hW, hla]; rfl
    · rw [e16] at w s
      exact hT (by unfold leftT; rw [show (!(pGet tyTask ts k).2.2.2.2.2.2.2.1) = false from s, Bool.and_false]; rfl)
    · rw [e16] at w
      exact hT (by unfold leftT; rw [show (!(pGet tyTask ts k).1) = false from w]; rfl)
  rw [hT, Bool.not_true] at hla
  rw [hla, cond_false] at hW
  rw [bif_false (by rw [pLt_coe]; exact decide_eq_false (Nat.lt_irrefl _))]
  have e26 : Heard7_v26 c l m d z = pSet d.2.1 i ((Heard7_v3 d z).1, 3, (Heard7_v3 d z).2.2.1, (Heard7_v3 d z).2.2.2.1, (Heard7_v3 d z).2.2.2.2.1, 0, ()) := by delta Heard7_v26; rw [hpi]
  have e27 : Heard7_v27 c l m d z = ((Heard7_v3 d z).1, 3, (Heard7_v3 d z).2.2.1, (Heard7_v3 d z).2.2.2.1, (Heard7_v3 d z).2.2.2.2.1, 0, ()) := by delta Heard7_v27; rw [e26, hpi, pGet_set_eq (t := tyJob) hi]
  have hl26 : pLen (Heard7_v26 c l m d z) = pLen d.2.1 := by show (Heard7_v26 c l m d z).length = d.2.1.length; rw [e26, pSet_len]
  have e28 : ∀ y3, Heard7_v28 c l m d z Y y3 = pSet d.2.1 i ((Heard7_v3 d z).1, 3, ts, handsF c.1 l ts, (Heard7_v3 d z).2.2.2.2.1, 0, ()) := fun y3 => by delta Heard7_v28; rw [e26, e27, hpi, pSet_pSet]
  refine ⟨hin, rfl, inF_iff.2 hcs, Nat.lt_of_le_of_lt hl10' (by decide), app_room (xs := ([] : List RepD)) (by decide), bif_ok (fun e => ⟨by rw [hls]; exact hn1000, ?_⟩) fun e => ?_⟩
  · have e : pEq (pInt (handsF c.1 l ts).length) 0 = true := e
    have hd : sureT c.1 l m d i (Heard7_v3 d z) ((7 : Int), z) = (d.1, pDel d.2.1 i, [], [], [(m, 4, (Heard7_v3 d z).1, 0, 0, 0, ())], 0, (Heard7_v3 d z).1, ()) := by rw [hW]; unfold commitW; dsimp only; rw [e]; rfl
    refine fin _ (turn_to hd (by rfl) (hwo _) (by rfl) (by rfl) (by rfl) (by rfl) (by rfl))
  have e : pEq (pInt (handsF c.1 l ts).length) 0 = false := e
  refine writes_vc ts _ hl10' ?_
  refine bif_ok (fun wr => ?_) fun wr => ?_
  · have wr : anyUpto (writeAt ts) ts.length = true := wr
    have hd : sureT c.1 l m d i (Heard7_v3 d z) ((7 : Int), z) = (d.1, pSet d.2.1 i ((Heard7_v3 d z).1, 3, ts, handsF c.1 l ts, (Heard7_v3 d z).2.2.2.2.1, 0, ()), saysM m true (Heard7_v3 d z).1 (handsF c.1 l ts), [(3, m, (Heard7_v3 d z).1, 0, 0, 0, false, handsF c.1 l ts, ())], [(m, 4, (Heard7_v3 d z).1, 0, 0, 0, ())], 0, (Heard7_v3 d z).1, ()) := by rw [hW]; unfold commitW; dsimp only; rw [e, wr]; rfl
    refine ⟨?_, app_room (xs := ([] : List RecD)) (by decide), hin, rfl, toldX_vc 3 (Heard7_v22 c l m d z Y) _ _ _ _ (Nat.le_trans hhl (by decide)) (Nat.zero_le _) ⟨hl26, hl26, t9, fin _ (turn_to hd (by rfl) (e28 ((ts.length : Int), ())) (by rfl) (by rfl) (by rfl) (by rfl) (by rfl))⟩⟩
    show (handsF c.1 l ts).length * 8 ≤ _
    omega
  · have wr : anyUpto (writeAt ts) ts.length = false := wr
    have hd : sureT c.1 l m d i (Heard7_v3 d z) ((7 : Int), z) = (d.1, pSet d.2.1 i ((Heard7_v3 d z).1, 3, ts, handsF c.1 l ts, (Heard7_v3 d z).2.2.2.2.1, 0, ()), saysM m true (Heard7_v3 d z).1 (handsF c.1 l ts), [], [(m, 4, (Heard7_v3 d z).1, 0, 0, 0, ())], 0, (Heard7_v3 d z).1, ()) := by rw [hW]; unfold commitW; dsimp only; rw [e, wr]; rfl
    exact ⟨hin, rfl, toldX_vc 3 (Heard7_v29 m d z) _ _ _ _ (Nat.le_trans hhl (by decide)) (Nat.zero_le _) ⟨hl26, hl26, t9, fin _ (turn_to hd (by rfl) (e28 ((ts.length : Int), ())) (by rfl) (by rfl) (by rfl) (by rfl) (by rfl))⟩⟩
def heardPr : Nat → Shape.den Hear_S → List Prop
  | 0 => HeardE_p
  | 1 => Heard5_p
  | 2 => Heard6_p
  | 3 => Heard7_p
  | 4 => Heard8_p
  | _ => Heard9_p
theorem heard_all : ∀ i, Meets Tryd.prog tabsM 6 (shCtr Hear_S (heardPr i) [] [.agg 0 kTurn, .slot 1 false tI] Hear_f)
  | 0 => HeardE_ok
  | 1 => Heard5_ok
  | 2 => Heard6_ok
  | 3 => Heard7_ok
  | 4 => Heard8_ok
  | _ + 5 => Heard9_ok
theorem Heard_ok : Meets Tryd.prog tabsM 6 cHeard := by
  refine meets_split heardPr 0 heard_all fun x hp => ?_
  have b1 : pLen x.1.1.2.1 < 4611686018427387904 := hp (pLen x.1.1.2.1 < 4611686018427387904) (by simp)
  have b2 : pLen x.1.2.2.2.1.2.1 < 4611686018427387904 := hp (pLen x.1.2.2.2.1.2.1 < 4611686018427387904) (by simp)
  have b3 : ∀ q ∈ x.1.2.2.2.1.2.1, pLen q.2.2.1 < 4611686018427387904 ∧ pLen q.2.2.2.1 < 4611686018427387904 := hp (∀ q ∈ x.1.2.2.2.1.2.1, pLen q.2.2.1 < 4611686018427387904 ∧ pLen q.2.2.2.1 < 4611686018427387904) (by simp)
  clear hp
  by_cases hE : heaE x.1.1 x.1.2.1 x.1.2.2.1 x.1.2.2.2.1 x.1.2.2.2.2.1 = 0
  rotate_left
  · have hE : pNe (heaE x.1.1 x.1.2.1 x.1.2.2.1 x.1.2.2.2.1 x.1.2.2.2.2.1) 0 = true := by simpa [pNe] using hE
    exact ⟨0, fun p hq => by
      simp only [heardPr, List.mem_cons, List.not_mem_nil, or_false] at hq; rcases hq with rfl | rfl | rfl | rfl <;> assumption⟩
  obtain ⟨a1, a2, a3, a4, hk⟩ := hea_inv hE
  rcases hk with hk | hk | hk | hk | hk
  · exact ⟨1, fun p hq => by
      simp only [heardPr, List.mem_cons, List.not_mem_nil, or_false] at hq; rcases hq with rfl | rfl | rfl | rfl | rfl | rfl | rfl | rfl <;> assumption⟩
  · exact ⟨2, fun p hq => by
      simp only [heardPr, List.mem_cons, List.not_mem_nil, or_false] at hq; rcases hq with rfl | rfl | rfl | rfl | rfl | rfl | rfl | rfl <;> assumption⟩
  · exact ⟨3, fun p hq => by
      simp only [heardPr, List.mem_cons, List.not_mem_nil, or_false] at hq; rcases hq with rfl | rfl | rfl | rfl | rfl | rfl | rfl | rfl <;> assumption⟩
  · exact ⟨4, fun p hq => by
      simp only [heardPr, List.mem_cons, List.not_mem_nil, or_false] at hq; rcases hq with rfl | rfl | rfl | rfl | rfl | rfl | rfl | rfl <;> assumption⟩
  · exact ⟨5, fun p hq => by
      simp only [heardPr, List.mem_cons, List.not_mem_nil, or_false] at hq; rcases hq with rfl | rfl | rfl | rfl | rfl | rfl | rfl | rfl <;> assumption⟩


end Go.Proofs.YtnkcmkegjckncaaDoor
