/- What the document does with a message: its loops; who is asked climbs. No condition. -/
import Derived.Test.YtnkcmkegjckncaaDoorJ8

/- coord.Hear at a message that tells of reads; joined. No condition. -/
namespace Go.Proofs.YtnkcmkegjckncaaDoor
open Go.RowKit

set_option maxHeartbeats 4000000 in
theorem Hear7_ok : Meets Tryd.prog tabsM 5 cHear7 := Hear7_meets CheckMessage0_ok (kkbeginN_ok cCheck_ok.any cownN_ok.any) (kkplace_ok indexJ_ok.any) (kksure_ok kkreply_ok (kkendN_ok kksend_ok (kksites_ok hasN_ok.any sort_ok.any) (kkdrop_ok delJ_ok.any)) (kkcommit_ok anyW_ok.any cloneN_ok.any (kksites_ok hasN_ok.any sort_ok.any) kkreply_ok (kkdrop_ok delJ_ok.any) kkrecord_ok (kktellN_ok kksend_ok))) fun c l m d z hp => by
  have h1 : pLen c.2.1 < 4611686018427387904 := hp (pLen c.2.1 < 4611686018427387904) (by simp)
  have h2 : pLen d.2.1 < 4611686018427387904 := hp (pLen d.2.1 < 4611686018427387904) (by simp)
  have h3 : ∀ q ∈ d.2.1, pLen q.2.2.1 < 4611686018427387904 ∧ pLen q.2.2.2.1 < 4611686018427387904 := hp (∀ q ∈ d.2.1, pLen q.2.2.1 < 4611686018427387904 ∧ pLen q.2.2.2.1 < 4611686018427387904) (by simp)
  have hb : begE c l m d = 0 := hp (begE c l m d = 0) (by simp)
  have hm : msgF c ((7 : Int), z) = 0 := hp (msgF c ((7 : Int), z) = 0) (by simp)
  have hv : pEq z.2.1 m = true := hp (pEq z.2.1 m = true) (by simp)
  have hs : pEq z.2.2.1 m = true := hp (pEq z.2.2.1 m = true) (by simp)
  clear hp
  have hE := heaE_zero hb hm hv hs (by rfl)
  delta Hear7_VC
  refine hear_pre hb h1 h2 h3 hv hs hm _ fun hz hpl => ?_
  refine ⟨h2, bif_ok (fun n => ?_) fun n => ?_⟩
  · show ((d.1, d.2.1, ([] : List MsgD), ([] : List RecD), ([] : List RepD), (0 : Int), (0 : Int), ()), (0 : Int), ()) = (heaT c l m d ((7 : Int), z), heaE c l m d ((7 : Int), z), ())
    rw [heaT_none hE n, hE]; rfl
  obtain ⟨i, hI, hi, hn⟩ := find_at n
  have hT := heaT_some hE hI
  have hmem : pGet tyJob d.2.1 i ∈ d.2.1 := by rw [pGet_lt (t := tyJob) hi]; exact List.getElem_mem hi
  have hj := jobs_ok hz _ hmem
  have hcs := (deskF_zero hz).1
  have hn6 : d.2.1.length ≤ 6 := (deskF_zero hz).2.1
  obtain ⟨j, hjj⟩ : ∃ j : JobD, j = pGet tyJob d.2.1 i := ⟨_, rfl⟩
  have hset : pSet d.2.1 i j = d.2.1 := by rw [hjj]; exact pSet_get (t := tyJob)
  rw [← hjj] at hj hT hn
  have fin : ∀ T : TurnD, T = sureT c.1 l m d i j ((7 : Int), z) → (T, (0 : Int), ()) = Hear7_v1 c l m d z := fun T h => by
    show (T, (0 : Int), ()) = (heaT c l m d ((7 : Int), z), heaE c l m d ((7 : Int), z), ())
    rw [hT, hE, h]; rfl
  have quiet : sureT c.1 l m d i j ((7 : Int), z) = quietT d → ((d.1, pSet d.2.1 i j, ([] : List MsgD), ([] : List RecD), ([] : List RepD), (0 : Int), (0 : Int), ()), (0 : Int), ()) = Hear7_v1 c l m d z := fun h => fin _ (by rw [h, hset]; rfl)
  have e3 : Hear7_v3 d z = (i : Int) := hI
  have e5 : Hear7_v5 d z = j := by show pGet tyJob d.2.1 (pNat (idxKeyJ d.2.1 z.2.2.2.1)) = j; rw [hI, pNat_coe, ← hjj]
  have hpi : pNat (Hear7_v3 d z) = i := by rw [e3, pNat_coe]
  have t4 : sureT c.1 l m d i j ((7 : Int), z) = quietT d → Hear7_t4 c l m d z := fun h => fin _ (by rw [h]; rfl)
  rw [e5, e3]
  refine ⟨pIn_coe.2 hi, bif_ok (fun a => t4 (by unfold sureT; dsimp only; rw [a]; rfl)) fun a => ⟨nz_of hcs.1, bif_ok (fun b => t4 (by unfold sureT; dsimp only; rw [b, Bool.or_true]; rfl)) fun b => ?_⟩⟩
  have hW : sureT c.1 l m d i j ((7 : Int), z) = cond (j.2.2.1.any (mineT ((7 : Int), z)))
      (cond z.2.2.2.2.2.2.2.2.2.1
        (cond ((j.2.2.1.map (markT ((7 : Int), z))).any leftT) (d.1, pSet d.2.1 i (j.1, j.2.1, j.2.2.1.map (markT ((7 : Int), z)), j.2.2.2), [], [], [], 0, 0, ())
          (commitW c.1 l m d.1 d.2.1 i (j.1, j.2.1, j.2.2.1.map (markT ((7 : Int), z)), j.2.2.2) 0))
        (d.1, pDel d.2.1 i, saysM m false j.1 (handsF c.1 l j.2.2.1), [], [(m, 4, j.1, 0, 0, 11, ())], 0, 0, ()))
      (quietT d) := by unfold sureT; dsimp only; rw [a, b]; rfl
  refine ⟨StepInv.start (by unfold markK; rfl), fun y hy => ?_⟩
  rcases StepInv.round (show j.2.2.1.length < 4611686018427387904 by have := hj.2.1; omega) hy with ⟨k, rfl, hk, hkb, hT⟩ | rfl
  · rw [bif_true (by rw [pLt_coe]; exact decide_eq_true hk)]
    obtain ⟨t, ht⟩ : ∃ t : TaskD, t = pGet tyTask j.2.2.1 k := ⟨_, rfl⟩
    have hT' : ∀ (b1 b2 : Bool) (u : TaskD), b1 = ((j.2.2.1.take k).any (mineT ((7 : Int), z)) || mineT ((7 : Int), z) t) → b2 = (((j.2.2.1.take k).map (markT ((7 : Int), z))).any leftT || leftT (markT ((7 : Int), z) t)) → u = markT ((7 : Int), z) t →
        sureInv ((7 : Int), z) j.2.2.1 (pAdd .i64 (k : Int) 1, b1, b2, pSet (markK ((7 : Int), z) j.2.2.1 k) k u, ()) ∧ Nat.le (Nat.succ (sureMu ((7 : Int), z) j.2.2.1 (pAdd .i64 (k : Int) 1, b1, b2, pSet (markK ((7 : Int), z) j.2.2.1 k) k u, ()))) (sureMu ((7 : Int), z) j.2.2.1 ((k : Int), (j.2.2.1.take k).any (mineT ((7 : Int), z)), ((j.2.2.1.take k).map (markT ((7 : Int), z))).any leftT, markK ((7 : Int), z) j.2.2.1 k, ())) := fun b1 b2 u h1 h2 h3 =>
      hT _ (by rw [h1, h2, h3, any_next hk, left_next hk, ← ht, ht, markK_set hk])
    clear hT
    have hrow : pSet (markK ((7 : Int), z) j.2.2.1 k) k t = markK ((7 : Int), z) j.2.2.1 k := by rw [ht, ← markK_get (z := ((7 : Int), z)) hk]; exact pSet_get (t := tyTask)
    generalize hM : (j.2.2.1.take k).any (mineT ((7 : Int), z)) = M at *
    generalize hL : ((j.2.2.1.take k).map (markT ((7 : Int), z))).any leftT = L at *
    let Y : Int × Bool × Bool × List TaskD × Unit := ((k : Int), M, L, markK ((7 : Int), z) j.2.2.1 k, ())
    have e6 : Hear7_v6 Y = t := by show pGet tyTask (markK ((7 : Int), z) j.2.2.1 k) (pNat (k : Int)) = t; rw [pNat_coe, markK_get hk, ht]
    have hkl : k < (markK ((7 : Int), z) j.2.2.1 k).length := by rw [markK_len]; exact hk
    have e7 : Hear7_v7 Y = pSet (markK ((7 : Int), z) j.2.2.1 k) k (t.1, t.2.1, t.2.2.1, t.2.2.2.1, t.2.2.2.2.1, t.2.2.2.2.2.1, t.2.2.2.2.2.2.1, true, ()) := by
      show pSet (markK ((7 : Int), z) j.2.2.1 k) (pNat (k : Int)) ((Hear7_v6 Y).1, (Hear7_v6 Y).2.1, (Hear7_v6 Y).2.2.1, (Hear7_v6 Y).2.2.2.1, (Hear7_v6 Y).2.2.2.2.1, (Hear7_v6 Y).2.2.2.2.2.1, (Hear7_v6 Y).2.2.2.2.2.2.1, true, ()) = _
      rw [e6, pNat_coe]
    have e11 : Hear7_v11 z Y = pSet (markK ((7 : Int), z) j.2.2.1 k) k (t.1, t.2.1, t.2.2.1, t.2.2.2.1, t.2.2.2.2.1, t.2.2.2.2.2.1, t.2.2.2.2.2.2.1, z.2.2.2.2.2.2.2.2.2.1, ()) := by
      show pSet (markK ((7 : Int), z) j.2.2.1 k) (pNat (k : Int)) ((Hear7_v6 Y).1, (Hear7_v6 Y).2.1, (Hear7_v6 Y).2.2.1, (Hear7_v6 Y).2.2.2.1, (Hear7_v6 Y).2.2.2.2.1, (Hear7_v6 Y).2.2.2.2.2.1, (Hear7_v6 Y).2.2.2.2.2.2.1, z.2.2.2.2.2.2.2.2.2.1, ()) = _
      rw [e6, pNat_coe]
    have e9 : Hear7_v9 Y = (t.1, t.2.1, t.2.2.1, t.2.2.2.1, t.2.2.2.2.1, t.2.2.2.2.2.1, t.2.2.2.2.2.2.1, true, ()) := by
      show pGet tyTask (Hear7_v7 Y) (pNat (k : Int)) = _
      rw [e7, pNat_coe, pGet_set_eq (t := tyTask) hkl]
    have e12 : Hear7_v12 z Y = (t.1, t.2.1, t.2.2.1, t.2.2.2.1, t.2.2.2.2.1, t.2.2.2.2.2.1, t.2.2.2.2.2.2.1, z.2.2.2.2.2.2.2.2.2.1, ()) := by
      show pGet tyTask (Hear7_v11 z Y) (pNat (k : Int)) = _
      rw [e11, pNat_coe, pGet_set_eq (t := tyTask) hkl]
    have e15 : mineT ((7 : Int), z) t = false → Hear7_v15 c l m d z Y := fun hm => by
      have hmk : t = markT ((7 : Int), z) t := (mark_of hm).symm
      delta Hear7_v15 Hear7_v14 Hear7_v8
      rw [e5, e6]
      refine bif_ok (fun a => ?_) fun a => bif_ok (fun b => ?_) fun b => ?_
      · have a : L = true := a
        have := hT' M true t (by rw [hm, Bool.or_false]) (by rw [a]; rfl) hmk
        rw [hrow] at this; exact this
      · have a : L = false := a
        have := hT' M (pNot t.2.2.2.2.2.2.2.1) t (by rw [hm, Bool.or_false]) (by rw [a, ← hmk]; unfold leftT; rw [show (!t.1) = true from b]; rfl) hmk
        rw [hrow] at this; exact this
      · have a : L = false := a
        have := hT' M false t (by rw [hm, Bool.or_false]) (by rw [a, ← hmk]; unfold leftT; rw [show (!t.1) = false from b]; rfl) hmk
        rw [hrow] at this; exact this
    refine ⟨rfl, pIn_coe.2 (show k < (markK ((7 : Int), z) j.2.2.1 k).length from hkl), ?_⟩
    show bif pNot (Hear7_v6 Y).1 then (bif pEq (Hear7_v6 Y).2.1 z.2.2.2.2.1 then (bif pEq (Hear7_v6 Y).2.2.1 z.2.2.2.2.2.1 then (bif pEq (Hear7_v6 Y).2.2.2.2.1 z.2.2.2.2.2.2.2.1 then _ else Hear7_v15 c l m d z Y) else Hear7_v15 c l m d z Y) else Hear7_v15 c l m d z Y) else Hear7_v15 c l m d z Y
    rw [e6]
    refine bif_ok (fun a1 => bif_ok (fun a2 => bif_ok (fun a3 => bif_ok (fun a4 => ?_) fun a4 => e15 (not_mine ?_)) fun a3 => e15 (not_mine ?_)) fun a2 => e15 (not_mine ?_)) fun a1 => e15 (not_mine ?_)
    rotate_left
    · rw [a4, Bool.and_false]
    · rw [a3, Bool.and_false, Bool.false_and]
    · rw [a2, Bool.and_false, Bool.false_and, Bool.false_and]
    · rw [show (!t.1) = false from a1]; rfl
    have hm : mineT ((7 : Int), z) t = true := by show (!t.1 && pEq t.2.1 z.2.2.2.2.1 && pEq t.2.2.1 z.2.2.2.2.2.1 && pEq t.2.2.2.2.1 z.2.2.2.2.2.2.2.1) = true; rw [show (!t.1) = true from a1, a2, a3, a4]; rfl
    have hw : t.1 = false := by have : (!t.1) = true := a1; simpa using this
    show bif t.2.2.2.2.2.2.2.1 then (bif L then sureInv ((7 : Int), z) j.2.2.1 (pAdd .i64 (k : Int) 1, true, true, Hear7_v7 Y, ()) ∧ Nat.le (Nat.succ (sureMu ((7 : Int), z) j.2.2.1 (pAdd .i64 (k : Int) 1, true, true, Hear7_v7 Y, ()))) (Hear7_v8 d z Y)
      else bif pNot (Hear7_v9 Y).1 then sureInv ((7 : Int), z) j.2.2.1 (pAdd .i64 (k : Int) 1, true, pNot (Hear7_v9 Y).2.2.2.2.2.2.2.1, Hear7_v7 Y, ()) ∧ Nat.le (Nat.succ (sureMu ((7 : Int), z) j.2.2.1 (pAdd .i64 (k : Int) 1, true, pNot (Hear7_v9 Y).2.2.2.2.2.2.2.1, Hear7_v7 Y, ()))) (Hear7_v8 d z Y)
      else sureInv ((7 : Int), z) j.2.2.1 (pAdd .i64 (k : Int) 1, true, false, Hear7_v7 Y, ()) ∧ Nat.le (Nat.succ (sureMu ((7 : Int), z) j.2.2.1 (pAdd .i64 (k : Int) 1, true, false, Hear7_v7 Y, ()))) (Hear7_v8 d z Y))
      else bif L then sureInv ((7 : Int), z) j.2.2.1 (pAdd .i64 (k : Int) 1, true, true, Hear7_v11 z Y, ()) ∧ Nat.le (Nat.succ (sureMu ((7 : Int), z) j.2.2.1 (pAdd .i64 (k : Int) 1, true, true, Hear7_v11 z Y, ()))) (Hear7_v8 d z Y)
      else bif pNot (Hear7_v12 z Y).1 then sureInv ((7 : Int), z) j.2.2.1 (pAdd .i64 (k : Int) 1, true, pNot (Hear7_v12 z Y).2.2.2.2.2.2.2.1, Hear7_v11 z Y, ()) ∧ Nat.le (Nat.succ (sureMu ((7 : Int), z) j.2.2.1 (pAdd .i64 (k : Int) 1, true, pNot (Hear7_v12 z Y).2.2.2.2.2.2.2.1, Hear7_v11 z Y, ()))) (Hear7_v8 d z Y)
      else sureInv ((7 : Int), z) j.2.2.1 (pAdd .i64 (k : Int) 1, true, false, Hear7_v11 z Y, ()) ∧ Nat.le (Nat.succ (sureMu ((7 : Int), z) j.2.2.1 (pAdd .i64 (k : Int) 1, true, false, Hear7_v11 z Y, ()))) (Hear7_v8 d z Y)
    delta Hear7_v8
    rw [e5, e7, e9, e11, e12, hw]
    have hb1 : true = (M || mineT ((7 : Int), z) t) := by rw [hm, Bool.or_true]
    have hmk : markT ((7 : Int), z) t = cond z.2.2.2.2.2.2.2.2.2.1 (t.1, t.2.1, t.2.2.1, t.2.2.2.1, t.2.2.2.2.1, t.2.2.2.2.2.1, t.2.2.2.2.2.2.1, true, ()) t := by unfold markT; rw [hm, Bool.true_and]
    rw [hw] at hmk
    refine bif_ok (fun s => ?_) fun s => ?_
    · have hu : (false, t.2.1, t.2.2.1, t.2.2.2.1, t.2.2.2.2.1, t.2.2.2.2.2.1, t.2.2.2.2.2.2.1, true, ()) = markT ((7 : Int), z) t := by
        rw [hmk]
        cases z.2.2.2.2.2.2.2.2.2.1 with
        | true => rfl
        | false => exact task_eq hw s
      have hl : leftT (markT ((7 : Int), z) t) = false := by rw [← hu]; rfl
      refine bif_ok (fun a => ?_) fun a => bif_ok (fun _ => ?_) fun b => by cases b
      · exact hT' true true _ hb1 (by rw [show L = true from a]; rfl) hu
      · exact hT' true (pNot true) _ hb1 (by rw [show L = false from a, hl]; rfl) hu
    · have hu : (false, t.2.1, t.2.2.1, t.2.2.2.1, t.2.2.2.2.1, t.2.2.2.2.2.1, t.2.2.2.2.2.2.1, z.2.2.2.2.2.2.2.2.2.1, ()) = markT ((7 : Int), z) t := by
        rw [hmk]
        cases z.2.2.2.2.2.2.2.2.2.1 with
        | true => rfl
        | false => exact task_eq hw s
      have hl : leftT (markT ((7 : Int), z) t) = !z.2.2.2.2.2.2.2.2.2.1 := by rw [← hu]; rfl
      refine bif_ok (fun a => ?_) fun a => bif_ok (fun _ => ?_) fun b => by cases b
      · exact hT' true true _ hb1 (by rw [show L = true from a]; rfl) hu
      · exact hT' true (pNot z.2.2.2.2.2.2.2.2.2.1) _ hb1 (by rw [show L = false from a, hl]; rfl) hu
  rw [bif_false (by rw [pLt_coe]; exact decide_eq_false (Nat.lt_irrefl _))]
  rw [List.take_length, markK_all]
  have hms : ∀ t ∈ j.2.2.1.map (markT ((7 : Int), z)), 0 ≤ t.2.2.1 := mark_keys hj.2.2.2.1
  have hml : (j.2.2.1.map (markT ((7 : Int), z))).length ≤ 10 := by rw [List.length_map]; exact hj.2.1
  have hno : z.2.2.2.2.2.2.2.2.2.1 = false → j.2.2.1.map (markT ((7 : Int), z)) = j.2.2.1 := fun h => mark_no h
  have hne : j.2.2.1.any (mineT ((7 : Int), z)) = false → j.2.2.1.map (markT ((7 : Int), z)) = j.2.2.1 := mark_none
  generalize hM : j.2.2.1.any (mineT ((7 : Int), z)) = M at *
  generalize hL : (j.2.2.1.map (markT ((7 : Int), z))).any leftT = L at *
  generalize hts : j.2.2.1.map (markT ((7 : Int), z)) = ts at *
  let Y : Int × Bool × Bool × List TaskD × Unit := ((j.2.2.1.length : Int), M, L, ts, ())
  have e16 : Hear7_v16 d z Y = (j.1, j.2.1, ts, j.2.2.2) := by delta Hear7_v16; rw [e5]
  have t17 : sureT c.1 l m d i j ((7 : Int), z) = (d.1, pSet d.2.1 i (j.1, j.2.1, ts, j.2.2.2), [], [], [], 0, 0, ()) → Hear7_t17 c l m d z Y := fun h => ⟨rfl, fin _ (by rw [h, e16, hpi])⟩
  have hhl := handsF_len (cn := c.1) (l := l) (ts := ts) hcs
  have hsh : sortN (sitesK c.1 l ts ts.length) = handsF c.1 l ts := sites_hands hcs hms
  have ha : (sortN (sitesK c.1 l ts ts.length)).length ≤ 1000 := by rw [hsh]; omega
  refine bif_ok (fun a => t17 ?_) fun a => ?_
  · have a : M = false := by simpa [pNot] using a
    rw [hW, a, hne a]
    show quietT d = _
    rw [show (j.1, j.2.1, j.2.2.1, j.2.2.2) = j from rfl, hset]; rfl
  have a : M = true := by simpa [pNot] using a
  rw [a, cond_true] at hW
  have e21 : Hear7_v21 c l m d z = (c.1, c.2.1, c.2.2.1, l, m, d.1, [], [], pApp ([] : List RepD) [(m, 4, j.1, 0, 0, 11, ())], 0, 0, ()) := by delta Hear7_v21; rw [e5]
  rw [e21]
  refine bif_ok (fun b => ?_) fun b => ?_
  · have b : z.2.2.2.2.2.2.2.2.2.1 = false := by simpa [pNot] using b
    have ht : ts = j.2.2.1 := hno b
    rw [b, cond_false, ← ht] at hW
    have hls : ∀ k x, pLen (pSet d.2.1 k x) = pLen d.2.1 := fun _ _ => pSet_len
    delta Hear7_v24 Hear7_v23
    rw [e5]
    refine ⟨app_room (xs := ([] : List RepD)) (by decide), pIn_coe.2 hi, rfl, end_vc (c.1, c.2.1, c.2.2.1, l, m, noTurn) ts 0 _ hcs hml ?_⟩
    refine endsX_vc 1 (c.1, c.2.1, c.2.2.1, l, m, d.1, [], [], pApp ([] : List RepD) [(m, 4, j.1, 0, 0, 11, ())], 0, 0, ()) _ _ _ ha (Nat.zero_le _) ⟨by rw [hls]; exact pIn_coe.2 hi, rfl, by rw [hls]; exact h2, fin _ (turn_to hW (by rfl) ?_ ?_ (by rfl) (by rfl) (by rfl) (by rfl))⟩
    · show pDel (pSet d.2.1 (pNat (i : Int)) (Hear7_v16 d z Y)) (pNat (i : Int)) = pDel d.2.1 i
      rw [pNat_coe, pDel_set]
    · show [] ++ saysM m false j.1 (sortN (sitesK c.1 l ts ts.length)) = _
      rw [hsh] <;> rfl
  have b : z.2.2.2.2.2.2.2.2.2.1 = true := by simpa [pNot] using b
  rw [b, cond_true] at hW
  refine bif_ok (fun e => ?_) fun e => ?_
  rotate_left
  · have e : L = true := by simpa [pNot] using e
    exact t17 (by rw [hW, e]; rfl)
  have e : L = false := by simpa [pNot] using e
  rw [e, cond_false] at hW
  have hls : ∀ k x, pLen (pSet d.2.1 k x) = pLen d.2.1 := fun _ _ => pSet_len
  have hii : pNat (Hear7_v3 d z) = pNat (Hear7_v3 d z) := rfl
  have e32 : Hear7_v32 c l m d z = pSet d.2.1 i (j.1, 3, j.2.2) := by delta Hear7_v32; rw [hpi, e5]
  have e33 : Hear7_v33 c l m d z = (j.1, 3, j.2.2) := by delta Hear7_v33; rw [e32, hpi, pGet_set_eq (t := tyJob) hi]
  have e34 : Hear7_v34 c l m d z = (j.1, 3, j.2.2.1, j.2.2.2.1, j.2.2.2.2.1, (0 : Int), ()) := by delta Hear7_v34; rw [e33]
  have e35 : Hear7_v35 c l m d z Y = (j.1, 3, j.2.2.1, j.2.2.2.1, j.2.2.2.2.1, (0 : Int), ()) := by delta Hear7_v35; rw [e32, e34, hpi, pSet_pSet, pGet_set_eq (t := tyJob) hi]
  have hl32 : pLen (pSet (Hear7_v32 c l m d z) (pNat (Hear7_v3 d z)) (Hear7_v34 c l m d z)) = pLen d.2.1 := by show (pSet (Hear7_v32 c l m d z) (pNat (Hear7_v3 d z)) (Hear7_v34 c l m d z)).length = d.2.1.length; rw [pSet_len, e32, pSet_len]
  have e28 : Hear7_v28 m d z = ([(m, 4, j.1, 0, 0, 0, ())], 0, j.1, ()) := by delta Hear7_v28; rw [e5] <;> rfl
  have e30 : Hear7_v30 m d z = ([(m, 4, j.1, 0, 0, 0, ())], 0, j.1, ()) := by delta Hear7_v30; rw [e5] <;> rfl
  have e41 : ∀ y3, Hear7_v41 c l m d z Y y3 = pSet d.2.1 i (j.1, 3, ts, sortN y3.2.1, j.2.2.2.2.1, (0 : Int), ()) := fun y3 => by
    delta Hear7_v41; rw [e35, e32, e34, hpi, pSet_pSet, pSet_pSet]
  have hwr : pGe (anyWrite ts) 0 = anyUpto (writeAt ts) ts.length := idxOf_ge
  refine ⟨pIn_coe.2 hi, rfl, end_vc (c.1, c.2.1, c.2.2.1, l, m, noTurn) ts 0 _ hcs hml ?_⟩
  refine ⟨app_room (xs := ([] : List RepD)) (by decide), bif_ok (fun e => ?_) fun e => ⟨rfl, by show ts.length < _; omega, bif_ok (fun wr => ?_) fun wr => ?_⟩⟩
  · have e : pEq (pInt (sortN (sitesK c.1 l ts ts.length)).length) 0 = true := e
    rw [hsh] at e
    have hd : sureT c.1 l m d i j ((7 : Int), z) = (d.1, pDel d.2.1 i, [], [], [(m, 4, j.1, 0, 0, 0, ())], 0, j.1, ()) := by rw [hW]; unfold commitW; dsimp only; rw [e]; rfl
    refine ⟨by rw [hls]; exact pIn_coe.2 hi, rfl, by rw [hls]; exact h2, fin _ ?_⟩
    rw [hd]
    show (d.1, pDel (pSet d.2.1 (pNat (i : Int)) (Hear7_v16 d z Y)) (pNat (i : Int)), [], [], Hear7_v28 m d z) = _
    rw [pNat_coe, pDel_set, e28]
  · have e : pEq (pInt (sortN (sitesK c.1 l ts ts.length)).length) 0 = false := e
    rw [hsh] at e
    have wr : pGe (anyWrite ts) 0 = true := wr
    rw [hwr] at wr
    have hd : sureT c.1 l m d i j ((7 : Int), z) = (d.1, pSet d.2.1 i (j.1, 3, ts, handsF c.1 l ts, j.2.2.2.2.1, 0, ()), saysM m true j.1 (handsF c.1 l ts), [(3, m, j.1, 0, 0, 0, false, handsF c.1 l ts, ())], [(m, 4, j.1, 0, 0, 0, ())], 0, j.1, ()) := by rw [hW]; unfold commitW; dsimp only; rw [e, wr]; rfl
    have h35 : (Hear7_v35 c l m d z Y).1 = j.1 := by rw [e35]
    have h29 : ∀ y3, Hear7_v29 m d z y3 = [((3 : Int), m, j.1, (0 : Int), (0 : Int), (0 : Int), false, sortN y3.2.1, ())] := fun y3 => by delta Hear7_v29; rw [e5] <;> rfl
    refine ⟨?_, app_room (xs := ([] : List RecD)) (by decide), rfl, rfl, tellX_vc 3 (Hear7_v31 c l m d z ((ts.length : Int), sitesK c.1 l ts ts.length, ())) _ _ _ ha (Nat.zero_le _) ⟨?_, ?_, fin _ ?_⟩⟩
    · show (sortN (sitesK c.1 l ts ts.length)).length * 8 ≤ _
      omega
    · rw [← hpi]; exact hl32
    · rw [← hpi]; exact hl32
    rw [hd]
    show (d.1, Hear7_v41 c l m d z Y ((ts.length : Int), sitesK c.1 l ts ts.length, ()), [] ++ saysM m true (Hear7_v35 c l m d z Y).1 (sortN (sitesK c.1 l ts ts.length)), pApp [] (Hear7_v29 m d z ((ts.length : Int), sitesK c.1 l ts ts.length, ())), Hear7_v30 m d z) = _
    rw [e41, h35, h29, e30, hsh] <;> rfl
  · have e : pEq (pInt (sortN (sitesK c.1 l ts ts.length)).length) 0 = false := e
    rw [hsh] at e
    have wr : pGe (anyWrite ts) 0 = false := wr
    rw [hwr] at wr
    have hd : sureT c.1 l m d i j ((7 : Int), z) = (d.1, pSet d.2.1 i (j.1, 3, ts, handsF c.1 l ts, j.2.2.2.2.1, 0, ()), saysM m true j.1 (handsF c.1 l ts), [], [(m, 4, j.1, 0, 0, 0, ())], 0, j.1, ()) := by rw [hW]; unfold commitW; dsimp only; rw [e, wr]; rfl
    have h35 : (Hear7_v35 c l m d z Y).1 = j.1 := by rw [e35]
    refine ⟨rfl, rfl, tellX_vc 3 (Hear7_v42 c l m d z) _ _ _ ha (Nat.zero_le _) ⟨?_, ?_, fin _ ?_⟩⟩
    · rw [← hpi]; exact hl32
    · rw [← hpi]; exact hl32
    rw [hd]
    show (d.1, Hear7_v41 c l m d z Y ((ts.length : Int), sitesK c.1 l ts ts.length, ()), [] ++ saysM m true (Hear7_v35 c l m d z Y).1 (sortN (sitesK c.1 l ts ts.length)), [], Hear7_v30 m d z) = _
    rw [e41, h35, e30, hsh] <;> rfl
def hearPr : Nat → Shape.den Hear_S → List Prop
  | 0 => HearE_p
  | 1 => Hear5_p
  | 2 => Hear6_p
  | 3 => Hear7_p
  | 4 => Hear8_p
  | _ => Hear9_p
theorem hear_all : ∀ i, Meets Tryd.prog tabsM 5 (shCtr Hear_S (hearPr i) [] [.agg 0 kTurn, .slot 1 false tI] Hear_f)
  | 0 => HearE_ok
  | 1 => Hear5_ok
  | 2 => Hear6_ok
  | 3 => Hear7_ok
  | 4 => Hear8_ok
  | _ + 5 => Hear9_ok
theorem Hear_ok : Meets Tryd.prog tabsM 5 cHear := by
  refine meets_split hearPr 0 hear_all fun x hp => ?_
  have b1 : pLen x.1.1.2.1 < 4611686018427387904 := hp (pLen x.1.1.2.1 < 4611686018427387904) (by simp)
  have b2 : pLen x.1.2.2.2.1.2.1 < 4611686018427387904 := hp (pLen x.1.2.2.2.1.2.1 < 4611686018427387904) (by simp)
  have b3 : ∀ q ∈ x.1.2.2.2.1.2.1, pLen q.2.2.1 < 4611686018427387904 ∧ pLen q.2.2.2.1 < 4611686018427387904 := hp (∀ q ∈ x.1.2.2.2.1.2.1, pLen q.2.2.1 < 4611686018427387904 ∧ pLen q.2.2.2.1 < 4611686018427387904) (by simp)
  clear hp
  by_cases hE : heaE x.1.1 x.1.2.1 x.1.2.2.1 x.1.2.2.2.1 x.1.2.2.2.2.1 = 0
  rotate_left
  · have hE : pNe (heaE x.1.1 x.1.2.1 x.1.2.2.1 x.1.2.2.2.1 x.1.2.2.2.2.1) 0 = true := by simpa [pNe] using hE
    exact ⟨0, fun p hq => by
      simp only [hearPr, List.mem_cons, List.not_mem_nil, or_false] at hq; rcases hq with rfl | rfl | rfl | rfl <;> assumption⟩
  obtain ⟨a1, a2, a3, a4, hk⟩ := hea_inv hE
  rcases hk with hk | hk | hk | hk | hk
  · exact ⟨1, fun p hq => by
      simp only [hearPr, List.mem_cons, List.not_mem_nil, or_false] at hq; rcases hq with rfl | rfl | rfl | rfl | rfl | rfl | rfl | rfl <;> assumption⟩
  · exact ⟨2, fun p hq => by
      simp only [hearPr, List.mem_cons, List.not_mem_nil, or_false] at hq; rcases hq with rfl | rfl | rfl | rfl | rfl | rfl | rfl | rfl <;> assumption⟩
  · exact ⟨3, fun p hq => by
      simp only [hearPr, List.mem_cons, List.not_mem_nil, or_false] at hq; rcases hq with rfl | rfl | rfl | rfl | rfl | rfl | rfl | rfl <;> assumption⟩
  · exact ⟨4, fun p hq => by
      simp only [hearPr, List.mem_cons, List.not_mem_nil, or_false] at hq; rcases hq with rfl | rfl | rfl | rfl | rfl | rfl | rfl | rfl <;> assumption⟩
  · exact ⟨5, fun p hq => by
      simp only [hearPr, List.mem_cons, List.not_mem_nil, or_false] at hq; rcases hq with rfl | rfl | rfl | rfl | rfl | rfl | rfl | rfl <;> assumption⟩


end Go.Proofs.YtnkcmkegjckncaaDoor

/- What the document does with a message: its loops; who is asked climbs. No condition. -/
namespace Go.Proofs.YtnkcmkegjckncaaDoor
open Go.RowKit

def heardAInv (_ : Int) (d : DeskD) (z : MsgR) : Int × List ND × Unit → Prop := StepInv (fun k => (dropN ((hJob d.2.1 z.2.2.2.1).2.2.2.1.take k) z.1, ())) (hJob d.2.1 z.2.2.2.1).2.2.2.1.length
def heardAMu (_ : Int) (d : DeskD) (z : MsgR) : Int × List ND × Unit → Nat := StepMu (hJob d.2.1 z.2.2.2.1).2.2.2.1.length
def yesK (m : Int) (j : JobD) (u : Int) (k : Nat) : List MsgD := cond (pEq j.2.1 3) (((j.2.2.2.1.take k).filter (isN u)).map fun _ => decM m true j.1 u) []
def heardBInv (m : Int) (d : DeskD) (z : MsgR) : Int × TurnK × Unit → Prop := StepInv (fun k => (keepTn (d.1, [], [], [], 0, 0, ()) (yesK m (hJob d.2.1 z.2.2.2.1) z.1 k), ())) (hJob d.2.1 z.2.2.2.1).2.2.2.1.length
def heardBMu (_ : Int) (d : DeskD) (z : MsgR) : Int × TurnK × Unit → Nat := StepMu (hJob d.2.1 z.2.2.2.1).2.2.2.1.length

theorem up_lt {l : List ND} {m : Int} (h : allUpto (upAt l m) l.length = true) : ∀ (k i : Nat), i + k + 1 < l.length → (pGet tyN l i).1 < (pGet tyN l (i + k + 1)).1 := by
  have adj : ∀ i, i + 1 < l.length → (pGet tyN l i).1 < (pGet tyN l (i + 1)).1 := fun i hi => by
    have := allUpto_iff.1 h (i + 1) hi
    unfold upAt at this
    simp only [Bool.and_eq_true, Bool.or_eq_true, pLt, decide_eq_true_eq] at this
    have h2 := this.2.resolve_left (by omega)
    simpa using h2
  intro k
  induction k with
  | zero => intro i hi; exact adj i hi
  | succ k ih =>
    intro i hi
    have a := ih i (by omega)
    have b := adj (i + k + 1) (by omega)
    exact Int.lt_trans a b
theorem up_pair {l : List ND} {m : Int} (h : allUpto (upAt l m) l.length = true) : l.Pairwise fun a b => a.1 < b.1 := by
  rw [List.pairwise_iff_getElem]
  intro i j hi hj hij
  obtain ⟨k, rfl⟩ : ∃ k, j = i + k + 1 := ⟨j - i - 1, by omega⟩
  have := up_lt h k i hj
  rwa [pGet_lt (t := tyN) hi, pGet_lt (t := tyN) hj] at this
theorem one_is {A : Type} {u : Int} {x : A} : ∀ {l : List ND}, l.Pairwise (fun a b => a.1 < b.1) → (l.filter (isN u)).map (fun _ => x) = cond (l.any (isN u)) [x] []
  | [], _ => rfl
  | a :: t, h => by
    obtain ⟨h1, h2⟩ := List.pairwise_cons.1 h
    cases ha : isN u a with
    | true =>
      have hu : a.1 = u := by simpa [isN, pEq] using ha
      have hn : t.filter (isN u) = [] := by
        rw [List.filter_eq_nil_iff]
        intro b hb
        have := h1 b hb
        simp only [isN, pEq, beq_iff_eq]
        omega
      rw [List.filter_cons_of_pos ha, hn, List.any_cons, ha]; rfl
    | false =>
      rw [List.filter_cons_of_neg (by simp [ha]), List.any_cons, ha, Bool.false_or]
      exact one_is h2
theorem any_at {p : ND → Bool} {l : List ND} : anyUpto (fun j => p (pGet tyN l j)) l.length = l.any p := by
  rw [Bool.eq_iff_iff, anyUpto_iff, List.any_eq_true]
  constructor
  · rintro ⟨j, hj, h⟩
    rw [pGet_lt (t := tyN) hj] at h
    exact ⟨_, List.getElem_mem hj, h⟩
  · rintro ⟨x, hx, h⟩
    obtain ⟨j, hj, rfl⟩ := List.getElem_of_mem hx
    exact ⟨j, hj, by rw [pGet_lt (t := tyN) hj]; exact h⟩
theorem has_any {l : List ND} {u : Int} : pGe (hasF l u) 0 = l.any (isN u) := by
  unfold hasF
  rw [idxOf_ge]
  exact any_at (p := isN u)
theorem jobs_climb {c : CfgD} {d : DeskD} (h : deskF c d = 0) : ∀ j ∈ d.2.1, j.2.2.2.1.Pairwise fun a b => a.1 < b.1 := by
  obtain ⟨hc, _, hj⟩ := deskF_zero h
  intro j hm
  obtain ⟨i, hi, rfl⟩ := List.getElem_of_mem hm
  have h1 := hj i hi
  unfold Go.Proofs.YtnkcmkegjckncaaDoor.jobAt at h1
  rw [Bool.and_eq_true, pGet_lt (t := tyJob) hi] at h1
  generalize d.2.1[i] = j at h1
  obtain ⟨jn, js, jt, ja, jq, jg, u⟩ := j
  cases u
  obtain ⟨cn, cl, cp, u⟩ := c; cases u
  have h2 := h1.1
  rw [jobF_eq] at h2
  simp only [Bool.and_eq_true] at h2
  exact up_pair h2.1.2
theorem yesK_all {m : Int} {j : JobD} {u : Int} (h : j.2.2.2.1.Pairwise fun a b => a.1 < b.1) : yesK m j u j.2.2.2.1.length = cond (pEq j.2.1 3 && pGe (hasF j.2.2.2.1 u) 0) [decM m true j.1 u] [] := by
  unfold yesK
  rw [List.take_length, one_is h, has_any]
  cases pEq j.2.1 3 <;> cases j.2.2.2.1.any (isN u) <;> rfl
theorem yesK_next {m : Int} {j : JobD} {u : Int} {k : Nat} (h : k < j.2.2.2.1.length) : yesK m j u (k + 1) = cond (pEq j.2.1 3 && isN u (pGet tyN j.2.2.2.1 k)) (yesK m j u k ++ [decM m true j.1 u]) (yesK m j u k) := by
  unfold yesK
  rw [List.take_succ_eq_append_getElem h, List.filter_append, pGet_lt (t := tyN) h]
  cases pEq j.2.1 3 with
  | false => rfl
  | true =>
    cases hq : isN u (j.2.2.2.1[k]'h) with
    | true => rw [List.filter_cons_of_pos hq, List.map_append]; rfl
    | false => rw [List.filter_cons_of_neg (by simp [hq])]; simp
theorem yesK_len {m : Int} {j : JobD} {u : Int} {k : Nat} : (yesK m j u k).length ≤ j.2.2.2.1.length := by
  unfold yesK
  cases pEq j.2.1 3 with
  | false => exact Nat.zero_le _
  | true =>
    rw [cond_true, List.length_map]
    exact Nat.le_trans (List.length_filter_le _ _) (List.length_take_le' _ _)
theorem dropN_next {l : List ND} {u : Int} {k : Nat} (h : k < l.length) : dropN (l.take (k + 1)) u = cond (isN u (pGet tyN l k)) (dropN (l.take k) u) (pApp (dropN (l.take k) u) [pGet tyN l k]) := by
  unfold dropN
  rw [List.take_succ_eq_append_getElem h, List.filter_append, pGet_lt (t := tyN) h]
  cases hq : isN u (l[k]'h) with
  | true => rw [List.filter_cons_of_neg (by simp [hq])]; simp
  | false => rw [List.filter_cons_of_pos (by simp [hq])]; rfl
theorem dropN_len {l : List ND} {u : Int} {k : Nat} : (dropN (l.take k) u).length ≤ l.length := Nat.le_trans (List.length_filter_le _ _) (List.length_take_le' _ _)
theorem mine_next {z : MsgD} {ts : List TaskD} {k : Nat} (h : k < ts.length) : mineN z ts (k + 1) = mineN z ts k + cond (mineT z (pGet tyTask ts k)) 1 0 := by
  unfold mineN
  rw [List.take_succ_eq_append_getElem h, List.filter_append, pGet_lt (t := tyTask) h, List.length_append]
  cases hq : mineT z (ts[k]'h) with
  | true => rw [List.filter_cons_of_pos hq]; rfl
  | false => rw [List.filter_cons_of_neg (by simp [hq])]; rfl
theorem mine_le {z : MsgD} {ts : List TaskD} {k : Nat} : mineN z ts k ≤ k := Nat.le_trans (List.length_filter_le _ _) (List.length_take_le _ _)
theorem mine_any {z : MsgD} {ts : List TaskD} : ts.any (mineT z) = !pEq (mineN z ts ts.length : Int) 0 := by
  unfold mineN
  rw [List.take_length]
  cases h : ts.any (mineT z) with
  | false =>
    have : ts.filter (mineT z) = [] := by
      rw [List.filter_eq_nil_iff]; rw [List.any_eq_false] at h
      exact h
    rw [this]; rfl
  | true =>
    obtain ⟨x, hx, hm⟩ := List.any_eq_true.1 h
    have : 0 < (ts.filter (mineT z)).length := List.length_pos_of_mem (List.mem_filter.2 ⟨hx, hm⟩)
    have : pEq ((ts.filter (mineT z)).length : Int) 0 = false := by
      unfold pEq
      rw [beq_eq_false_iff_ne]; omega
    rw [this]; rfl
theorem left_any {ts : List TaskD} : ts.any leftT = !allUpto (fun j => !leftT (pGet tyTask ts j)) ts.length := by
  cases h : allUpto (fun j => !leftT (pGet tyTask ts j)) ts.length with
  | true =>
    rw [allUpto_iff] at h
    rw [Bool.not_true, List.any_eq_false]
    intro x hx
    obtain ⟨j, hj, rfl⟩ := List.getElem_of_mem hx
    have := h j hj
    rw [pGet_lt (t := tyTask) hj] at this
    simpa using this
  | false =>
    rw [Bool.not_false]
    cases q : ts.any leftT with
    | true => rfl
    | false =>
      rw [List.any_eq_false] at q
      have : allUpto (fun j => !leftT (pGet tyTask ts j)) ts.length = true := allUpto_true fun j hj => by
        rw [pGet_lt (t := tyTask) hj]
        have := q _ (List.getElem_mem hj)
        simpa using this
      rw [this] at h; cases h


end Go.Proofs.YtnkcmkegjckncaaDoor
