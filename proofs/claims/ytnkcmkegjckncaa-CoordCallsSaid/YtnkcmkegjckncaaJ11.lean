/- The law CoordCalls: for every input it returns true and turns nothing. No condition. -/
import Derived.Test.YtnkcmkegjckncaaJ7
import Derived.Test.YtnkcmkegjckncaaJ6
import Derived.Test.YtnkcmkegjckncaaJ5
import Derived.Test.YtnkcmkegjckncaaJ10
import Derived.Test.YtnkcmkegjckncaaFrame

/- What a client's call does to a job, kind by kind. No condition. -/
namespace Go.Proofs.Ytnkcmkegjckncaa
open Go.RowKit

set_option maxHeartbeats 4000000 in
theorem call_get {cn : Int} {cl : List LabD} {cp l m dn : Int} {dj : List JobD} {r xn xl xy xv : Int} {i : Nat} (hz : deskF (cn, cl, cp, ()) (dn, dj, ()) = 0) (hE : calE (cn, cl, cp, ()) l m (dn, dj, ()) ((2 : Int), xn, xl, xy, xv, ()) = 0) (hI : idxKeyJ dj xn = (i : Int)) (hi : i < dj.length) (hpl : placeF (cn, cl, cp, ()) l = true) (e0 : faultC (cn, cl, cp, ()) l (dn, dj, ()) ((2 : Int), xn, xl, xy, xv, ()) = cond (pNot (inF xy 0 7) || pNot (inF xv 0 1073741824)) 2 (cond (pNot (placeF (cn, cl, cp, ()) xl) || pNot (aboveF (pGet tyLab cl (pNat l)) (pGet tyLab cl (pNat xl)))) 10 (cond (pGe (pInt (pGet tyJob dj i).2.2.1.length) 10 || pGe (pGet tyJob dj i).2.2.2.2.1 1048576) 8 0))) : (Call2_v22 cn cl cp l m dn dj r xn xl xy xv) := by
  have fe : ∀ e : Int, e ≠ 0 → faultC (cn, cl, cp, ()) l (dn, dj, ()) ((2 : Int), xn, xl, xy, xv, ()) = e → (((dn, dj, [], [], [(m, (2 : Int), xn, xy, 0, e, ())], 0, 0, ()) : TurnD), (0 : Int), ()) = (Call2_v1 cn cl cp l m dn dj r xn xl xy xv) := fun e h hf => by
    show _ = (calT (cn, cl, cp, ()) l m (dn, dj, ()) r ((2 : Int), xn, xl, xy, xv, ()), calE (cn, cl, cp, ()) l m (dn, dj, ()) ((2 : Int), xn, xl, xy, xv, ()), ())
    rw [calT_err hE (by rfl) h hf, hE]
  have hro : ∀ e : Int, pRoom (pPlus (pLen ([] : List RepD)) (pLen [(m, (2 : Int), xn, xy, (0 : Int), e, ())])) 48 := fun e => app_room (xs := ([] : List RepD)) (by decide)
  have qd : pSet dj (pNat (idxKeyJ dj xn)) (Call2_v2 dj xn) = dj := pSet_get (t := tyJob)
  have hmem : pGet tyJob dj i ∈ dj := by rw [pGet_lt (t := tyJob) hi]; exact List.getElem_mem hi
  have hq := jobs_asks hz _ hmem
  have hj0 := jobs_ok hz _ hmem
  have q2' : (Call2_v2 dj xn) = pGet tyJob dj i := by show pGet tyJob dj (pNat (idxKeyJ dj xn)) = _; rw [hI, pNat_coe]
  have t2 : (pNot (inF xy 0 7) || pNot (inF xv 0 1073741824)) = true → (Call2_t3 cn cl cp l m dn dj r xn xl xy xv) := fun h => by
    delta Call2_t3; rw [qd]
    exact ⟨rfl, hro 2, fe 2 (by decide) (by rw [e0, h]; rfl)⟩
  delta Call2_v22
  refine bif_ok (fun a => t2 (by rw [in_lo a]; rfl)) fun a => bif_ok (fun b => t2 (by rw [in_hi b (by decide)]; rfl)) fun b => bif_ok (fun c => t2 (by rw [in_lo c]; simp [pNot])) fun c => bif_ok (fun d => t2 (by rw [in_gt d]; simp [pNot])) fun d => ?_
  rw [in_yes' a b (by decide), in_yes c d] at e0
  have e0 : faultC (cn, cl, cp, ()) l (dn, dj, ()) ((2 : Int), xn, xl, xy, xv, ()) = (cond (pNot (placeF (cn, cl, cp, ()) xl) || pNot (aboveF (pGet tyLab cl (pNat l)) (pGet tyLab cl (pNat xl)))) 10 (cond (pGe (pInt (pGet tyJob dj i).2.2.1.length) 10 || pGe (pGet tyJob dj i).2.2.2.2.1 1048576) 8 0)) := e0
  have t10 : (pNot (placeF (cn, cl, cp, ()) xl) || pNot (aboveF (pGet tyLab cl (pNat l)) (pGet tyLab cl (pNat xl)))) = true → (Call2_t4 cn cl cp l m dn dj r xn xl xy xv) := fun h => by
    delta Call2_t4; rw [qd]
    exact ⟨rfl, hro 10, fe 10 (by decide) (by rw [e0, h]; rfl)⟩
  refine bif_ok (fun x1 => t10 ?_) fun x1 => bif_ok (fun x2 => t10 ?_) fun x2 => ?_
  · have : placeF (cn, cl, cp, ()) xl = false := by unfold placeF; grind [pLt, pLe, pGt, pGe, pEq, pNe, pNot, pAndB, pBeq, pInt, pLen, inF, pIn, pTo, pNat]
    rw [this]; rfl
  · have : placeF (cn, cl, cp, ()) xl = false := by unfold placeF; grind [pLt, pLe, pGt, pGe, pEq, pNe, pNot, pAndB, pBeq, pInt, pLen, inF, pIn, pTo, pNat]
    rw [this]; rfl
  have hx : placeF (cn, cl, cp, ()) xl = true := by unfold placeF; grind [pLt, pLe, pGt, pGe, pEq, pNe, pNot, pAndB, pBeq, pInt, pLen, inF, pIn, pTo, pNat]
  refine ⟨place_in (c := (cn, cl, cp, ())) hpl, place_in (c := (cn, cl, cp, ())) hx, bif_ok (fun x3 => t10 (by rw [hx, x3]; rfl)) fun x3 => ?_⟩
  rw [hx, x3] at e0
  have e0 : faultC (cn, cl, cp, ()) l (dn, dj, ()) ((2 : Int), xn, xl, xy, xv, ()) = (cond (pGe (pInt (pGet tyJob dj i).2.2.1.length) 10 || pGe (pGet tyJob dj i).2.2.2.2.1 1048576) 8 0) := e0
  rw [ge_top (by have := hj0.2.1; unfold pInt; omega), ge_top hq.2] at e0
  have t8 : (pEq (pInt (pGet tyJob dj i).2.2.1.length) 10 || pEq (pGet tyJob dj i).2.2.2.2.1 1048576) = true → (Call2_t5 cn cl cp l m dn dj r xn xl xy xv) := fun h => by
    delta Call2_t5; rw [qd]
    exact ⟨rfl, hro 8, fe 8 (by decide) (by rw [e0, h]; rfl)⟩
  refine bif_ok (fun a => t8 (by rw [q2'] at a; rw [show pEq (pInt (pGet tyJob dj i).2.2.1.length) 10 = true from a]; rfl)) fun a => bif_ok (fun b => t8 (by rw [q2'] at b; rw [b]; simp)) fun b => ?_
  rw [q2'] at a b
  have hF : faultC (cn, cl, cp, ()) l (dn, dj, ()) ((2 : Int), xn, xl, xy, xv, ()) = 0 := by rw [e0, show pEq (pInt (pGet tyJob dj i).2.2.1.length) 10 = false from a, b]; rfl
  clear t10 e0 t8 t2 fe a b q2' hj0 hq qd hmem
  have hj := jobs_ok hz (pGet tyJob dj i) (by rw [pGet_lt (t := tyJob) hi]; exact List.getElem_mem hi)
  have hcs := (deskF_zero hz).1
  have hn6 : dj.length ≤ 6 := (deskF_zero hz).2.1
  have hcal := calT_done (r := r) hE (by rfl) hF hI
  have fin : ∀ T : TurnD, T = doneT (cn, cl, cp, ()) l m (dn, dj, ()) ((2 : Int), xn, xl, xy, xv, ()) i (pGet tyJob dj i) → (T, (0 : Int), ()) = (Call2_v1 cn cl cp l m dn dj r xn xl xy xv) := fun T h => by
    show (T, (0 : Int), ()) = (calT (cn, cl, cp, ()) l m (dn, dj, ()) r ((2 : Int), xn, xl, xy, xv, ()), calE (cn, cl, cp, ()) l m (dn, dj, ()) ((2 : Int), xn, xl, xy, xv, ()), ())
    rw [hcal, hE, h]
  have q2 : (Call2_v2 dj xn) = pGet tyJob dj i := by show pGet tyJob dj (pNat (idxKeyJ dj xn)) = _; rw [hI, pNat_coe]
  have qd : pSet dj (pNat (idxKeyJ dj xn)) (Call2_v2 dj xn) = dj := pSet_get (t := tyJob)
  clear hcal
  obtain ⟨j, hjj⟩ : ∃ j : JobD, j = pGet tyJob dj i := ⟨_, rfl⟩
  rw [← hjj] at hj fin q2
  have hlen : pLen dj < 4611686018427387904 := by show dj.length < _; omega
  have hts : ((Call2_v2 dj xn)).2.2.1.length ≤ 10 := by rw [q2]; exact hj.2.1
  have q6 : (Call2_v6 cn cl cp l m dn dj r xn xl xy xv) = i := by show pNat (idxKeyJ (pSet dj (pNat (idxKeyJ dj xn)) (Call2_v2 dj xn)) xn) = i; rw [qd, hI, pNat_coe]
  have q7 : (Call2_v7 cn cl cp l m dn dj r xn xl xy xv) = j := by show pGet tyJob dj (Call2_v6 cn cl cp l m dn dj r xn xl xy xv) = j; rw [q6]; exact hjj.symm
  have q8 : (Call2_v8 cn cl cp l m dn dj r xn xl xy xv) = pSet dj i (j.1, j.2.1, j.2.2.1, j.2.2.2.1, pAdd .i64 j.2.2.2.2.1 1, j.2.2.2.2.2) := by delta Call2_v8; rw [q6, q7]
  have q9 : (Call2_v9 cn cl cp l m dn dj r xn xl xy xv) = (j.1, j.2.1, j.2.2.1, j.2.2.2.1, pAdd .i64 j.2.2.2.2.1 1, j.2.2.2.2.2) := by delta Call2_v9; rw [q8, q6, pGet_set_eq (t := tyJob) hi]
  have q10 : (Call2_v10 cn cl cp l m dn dj r xn xl xy xv) = [(false, xl, xy, (0 : Int), (0 : Int), pAdd .i64 j.2.2.2.2.1 1, false, false, ())] := by delta Call2_v10; rw [q9] <;> rfl
  have q11 : (Call2_v11 cn cl cp l m dn dj r xn xl xy xv) = pSet dj i (j.1, j.2.1, j.2.2.1, j.2.2.2.1, pAdd .i64 j.2.2.2.2.1 1, (0 : Int), ()) := by delta Call2_v11; rw [q9, q8, q6, pSet_pSet]
  have q12 : (Call2_v12 cn cl cp l m dn dj r xn xl xy xv) = [((1 : Int), m, pRem xy cn, m, j.1, (0 : Int), (0 : Int), (0 : Int), (0 : Int), (0 : Int), false, (0 : Int), ())] := by delta Call2_v12; rw [q11, q6, pGet_set_eq (t := tyJob) hi]
  have q13 : (Call2_v13 cn cl cp l m dn dj r xn xl xy xv) = (j.1, j.2.1, j.2.2.1, j.2.2.2.1, pAdd .i64 j.2.2.2.2.1 1, (0 : Int), ()) := by delta Call2_v13; rw [q11, hI, pNat_coe, pGet_set_eq (t := tyJob) hi]
  have q14 : (Call2_v14 cn cl cp l m dn dj r xn xl xy xv) = 0 := by delta Call2_v14; rw [q12]; exact (congrArg pNat (last_pos (xs := ([] : List MsgD)) (by decide))).trans (pNat_coe 0)
  have q15 : (Call2_v15 cn cl cp l m dn dj r xn xl xy xv) = ((1 : Int), m, pRem xy cn, m, j.1, (0 : Int), (0 : Int), (0 : Int), (0 : Int), (0 : Int), false, (0 : Int), ()) := by delta Call2_v15; rw [q12, q14] <;> rfl
  have q16 : (Call2_v16 cn cl cp l m dn dj r xn xl xy xv) = [((1 : Int), m, pRem xy cn, m, j.1, (0 : Int), xy, (0 : Int), (0 : Int), (0 : Int), false, (0 : Int), ())] := by delta Call2_v16; rw [q12, q14, q15] <;> rfl
  have q17 : (Call2_v17 cn cl cp l m dn dj r xn xl xy xv) = ((1 : Int), m, pRem xy cn, m, j.1, (0 : Int), xy, (0 : Int), (0 : Int), (0 : Int), false, (0 : Int), ()) := by delta Call2_v17; rw [q16, q14] <;> rfl
  have q18 : (Call2_v18 cn cl cp l m dn dj r xn xl xy xv) = [((1 : Int), m, pRem xy cn, m, j.1, (0 : Int), xy, (0 : Int), (0 : Int), (0 : Int), false, (0 : Int), ())] := by delta Call2_v18; rw [q16, q14, q17] <;> rfl
  have q19 : (Call2_v19 cn cl cp l m dn dj r xn xl xy xv) = ((1 : Int), m, pRem xy cn, m, j.1, (0 : Int), xy, (0 : Int), (0 : Int), (0 : Int), false, (0 : Int), ()) := by delta Call2_v19; rw [q18, q14] <;> rfl
  have q20 : (Call2_v20 cn cl cp l m dn dj r xn xl xy xv) = [((1 : Int), m, pRem xy cn, m, j.1, (0 : Int), xy, (0 : Int), (0 : Int), pAdd .i64 j.2.2.2.2.1 1, false, (0 : Int), ())] := by delta Call2_v20; rw [q18, q14, q19, q9] <;> rfl
  have q21 : (Call2_v21 cn cl cp l m dn dj r xn xl xy xv) = ((1 : Int), m, pRem xy cn, m, j.1, (0 : Int), xy, (0 : Int), (0 : Int), pAdd .i64 j.2.2.2.2.1 1, false, (0 : Int), ()) := by delta Call2_v21; rw [q20, q14] <;> rfl
  have hd : doneT (cn, cl, cp, ()) l m (dn, dj, ()) ((2 : Int), xn, xl, xy, xv, ()) i j = askT (dn, dj, ()) i j (false, xl, xy, (0 : Int), (0 : Int), pAdd .i64 j.2.2.2.2.1 1, false, false, ()) ((1 : Int), m, pRem xy cn, m, j.1, xl, xy, (0 : Int), (0 : Int), pAdd .i64 j.2.2.2.2.1 1, false, (0 : Int), ()) := rfl
  have hl : pLen (Call2_v11 cn cl cp l m dn dj r xn xl xy xv) = pLen dj := by show ((Call2_v11 cn cl cp l m dn dj r xn xl xy xv)).length = dj.length; rw [q11, pSet_len]
  have hii : (Call2_v6 cn cl cp l m dn dj r xn xl xy xv) = pNat (idxKeyJ dj xn) := by rw [q6, hI, pNat_coe]
  refine ⟨rfl, by rw [qd]; exact hlen, by rw [qd, hI]; exact pIn_coe.2 hi, hii, app_room (by omega), hii, nz_of hcs.1, app_room (xs := ([] : List MsgD)) (by decide), ?_, hl, fin _ (turn_to hd (by rfl) ?_ ?_ (by rfl) (by rfl) (by rfl) (by rfl))⟩
  · rw [q12, last_pos (xs := ([] : List MsgD)) (by decide)]; exact pIn_coe.2 Nat.zero_lt_one
  · show pSet (Call2_v11 cn cl cp l m dn dj r xn xl xy xv) (pNat (idxKeyJ dj xn)) (((Call2_v13 cn cl cp l m dn dj r xn xl xy xv)).1, ((Call2_v13 cn cl cp l m dn dj r xn xl xy xv)).2.1, pApp ((Call2_v2 dj xn)).2.2.1 (Call2_v10 cn cl cp l m dn dj r xn xl xy xv), ((Call2_v2 dj xn)).2.2.2.1, ((Call2_v13 cn cl cp l m dn dj r xn xl xy xv)).2.2.2.2) = _
    rw [q11, q13, q2, q10, hI, pNat_coe, pSet_pSet]
    try rfl
  · show pSet (Call2_v20 cn cl cp l m dn dj r xn xl xy xv) (Call2_v14 cn cl cp l m dn dj r xn xl xy xv) (((Call2_v21 cn cl cp l m dn dj r xn xl xy xv)).1, ((Call2_v21 cn cl cp l m dn dj r xn xl xy xv)).2.1, ((Call2_v21 cn cl cp l m dn dj r xn xl xy xv)).2.2.1, ((Call2_v21 cn cl cp l m dn dj r xn xl xy xv)).2.2.2.1, ((Call2_v21 cn cl cp l m dn dj r xn xl xy xv)).2.2.2.2.1, xl, ((Call2_v21 cn cl cp l m dn dj r xn xl xy xv)).2.2.2.2.2.2) = _
    rw [q20, q14, q21]
    try rfl

set_option maxHeartbeats 4000000 in
theorem call_put {cn : Int} {cl : List LabD} {cp l m dn : Int} {dj : List JobD} {r xn xl xy xv : Int} {i : Nat} (hz : deskF (cn, cl, cp, ()) (dn, dj, ()) = 0) (hE : calE (cn, cl, cp, ()) l m (dn, dj, ()) ((3 : Int), xn, xl, xy, xv, ()) = 0) (hI : idxKeyJ dj xn = (i : Int)) (hi : i < dj.length) (hpl : placeF (cn, cl, cp, ()) l = true) (e0 : faultC (cn, cl, cp, ()) l (dn, dj, ()) ((3 : Int), xn, xl, xy, xv, ()) = cond (pNot (inF xy 0 7) || pNot (inF xv 0 1073741824)) 2 (cond (pGe (pInt (pGet tyJob dj i).2.2.1.length) 10 || pGe (pGet tyJob dj i).2.2.2.2.1 1048576) 8 0)) : (Call3_v19 cn cl cp l m dn dj r xn xl xy xv) := by
  have fe : ∀ e : Int, e ≠ 0 → faultC (cn, cl, cp, ()) l (dn, dj, ()) ((3 : Int), xn, xl, xy, xv, ()) = e → (((dn, dj, [], [], [(m, (3 : Int), xn, xy, 0, e, ())], 0, 0, ()) : TurnD), (0 : Int), ()) = (Call3_v1 cn cl cp l m dn dj r xn xl xy xv) := fun e h hf => by
    show _ = (calT (cn, cl, cp, ()) l m (dn, dj, ()) r ((3 : Int), xn, xl, xy, xv, ()), calE (cn, cl, cp, ()) l m (dn, dj, ()) ((3 : Int), xn, xl, xy, xv, ()), ())
    rw [calT_err hE (by rfl) h hf, hE]
  have hro : ∀ e : Int, pRoom (pPlus (pLen ([] : List RepD)) (pLen [(m, (3 : Int), xn, xy, (0 : Int), e, ())])) 48 := fun e => app_room (xs := ([] : List RepD)) (by decide)
  have qd : pSet dj (pNat (idxKeyJ dj xn)) (Call3_v2 dj xn) = dj := pSet_get (t := tyJob)
  have hmem : pGet tyJob dj i ∈ dj := by rw [pGet_lt (t := tyJob) hi]; exact List.getElem_mem hi
  have hq := jobs_asks hz _ hmem
  have hj0 := jobs_ok hz _ hmem
  have q2' : (Call3_v2 dj xn) = pGet tyJob dj i := by show pGet tyJob dj (pNat (idxKeyJ dj xn)) = _; rw [hI, pNat_coe]
  have t2 : (pNot (inF xy 0 7) || pNot (inF xv 0 1073741824)) = true → (Call3_t3 cn cl cp l m dn dj r xn xl xy xv) := fun h => by
    delta Call3_t3; rw [qd]
    exact ⟨rfl, hro 2, fe 2 (by decide) (by rw [e0, h]; rfl)⟩
  delta Call3_v19
  refine bif_ok (fun a => t2 (by rw [in_lo a]; rfl)) fun a => bif_ok (fun b => t2 (by rw [in_hi b (by decide)]; rfl)) fun b => bif_ok (fun c => t2 (by rw [in_lo c]; simp [pNot])) fun c => bif_ok (fun d => t2 (by rw [in_gt d]; simp [pNot])) fun d => ?_
  rw [in_yes' a b (by decide), in_yes c d] at e0
  have e0 : faultC (cn, cl, cp, ()) l (dn, dj, ()) ((3 : Int), xn, xl, xy, xv, ()) = (cond (pGe (pInt (pGet tyJob dj i).2.2.1.length) 10 || pGe (pGet tyJob dj i).2.2.2.2.1 1048576) 8 0) := e0
  rw [ge_top (by have := hj0.2.1; unfold pInt; omega), ge_top hq.2] at e0
  have t8 : (pEq (pInt (pGet tyJob dj i).2.2.1.length) 10 || pEq (pGet tyJob dj i).2.2.2.2.1 1048576) = true → (Call3_t4 cn cl cp l m dn dj r xn xl xy xv) := fun h => by
    delta Call3_t4; rw [qd]
    exact ⟨rfl, hro 8, fe 8 (by decide) (by rw [e0, h]; rfl)⟩
  refine bif_ok (fun a => t8 (by rw [q2'] at a; rw [show pEq (pInt (pGet tyJob dj i).2.2.1.length) 10 = true from a]; rfl)) fun a => bif_ok (fun b => t8 (by rw [q2'] at b; rw [b]; simp)) fun b => ?_
  rw [q2'] at a b
  have hF : faultC (cn, cl, cp, ()) l (dn, dj, ()) ((3 : Int), xn, xl, xy, xv, ()) = 0 := by rw [e0, show pEq (pInt (pGet tyJob dj i).2.2.1.length) 10 = false from a, b]; rfl
  clear e0 t8 t2 fe a b q2' hj0 hq qd hmem
  have hj := jobs_ok hz (pGet tyJob dj i) (by rw [pGet_lt (t := tyJob) hi]; exact List.getElem_mem hi)
  have hcs := (deskF_zero hz).1
  have hn6 : dj.length ≤ 6 := (deskF_zero hz).2.1
  have hcal := calT_done (r := r) hE (by rfl) hF hI
  have fin : ∀ T : TurnD, T = doneT (cn, cl, cp, ()) l m (dn, dj, ()) ((3 : Int), xn, xl, xy, xv, ()) i (pGet tyJob dj i) → (T, (0 : Int), ()) = (Call3_v1 cn cl cp l m dn dj r xn xl xy xv) := fun T h => by
    show (T, (0 : Int), ()) = (calT (cn, cl, cp, ()) l m (dn, dj, ()) r ((3 : Int), xn, xl, xy, xv, ()), calE (cn, cl, cp, ()) l m (dn, dj, ()) ((3 : Int), xn, xl, xy, xv, ()), ())
    rw [hcal, hE, h]
  have q2 : (Call3_v2 dj xn) = pGet tyJob dj i := by show pGet tyJob dj (pNat (idxKeyJ dj xn)) = _; rw [hI, pNat_coe]
  have qd : pSet dj (pNat (idxKeyJ dj xn)) (Call3_v2 dj xn) = dj := pSet_get (t := tyJob)
  clear hcal
  obtain ⟨j, hjj⟩ : ∃ j : JobD, j = pGet tyJob dj i := ⟨_, rfl⟩
  rw [← hjj] at hj fin q2
  have hlen : pLen dj < 4611686018427387904 := by show dj.length < _; omega
  have hts : ((Call3_v2 dj xn)).2.2.1.length ≤ 10 := by rw [q2]; exact hj.2.1
  have q5 : (Call3_v5 cn cl cp l m dn dj r xn xl xy xv) = i := by show pNat (idxKeyJ (pSet dj (pNat (idxKeyJ dj xn)) (Call3_v2 dj xn)) xn) = i; rw [qd, hI, pNat_coe]
  have q6 : (Call3_v6 cn cl cp l m dn dj r xn xl xy xv) = j := by show pGet tyJob dj (Call3_v5 cn cl cp l m dn dj r xn xl xy xv) = j; rw [q5]; exact hjj.symm
  have q7 : (Call3_v7 cn cl cp l m dn dj r xn xl xy xv) = pSet dj i (j.1, j.2.1, j.2.2.1, j.2.2.2.1, pAdd .i64 j.2.2.2.2.1 1, j.2.2.2.2.2) := by delta Call3_v7; rw [q5, q6]
  have q8 : (Call3_v8 cn cl cp l m dn dj r xn xl xy xv) = (j.1, j.2.1, j.2.2.1, j.2.2.2.1, pAdd .i64 j.2.2.2.2.1 1, j.2.2.2.2.2) := by delta Call3_v8; rw [q7, q5, pGet_set_eq (t := tyJob) hi]
  have q9 : (Call3_v9 cn cl cp l m dn dj r xn xl xy xv) = [(true, l, xy, xv, (0 : Int), pAdd .i64 j.2.2.2.2.1 1, false, false, ())] := by delta Call3_v9; rw [q8] <;> rfl
  have q10 : (Call3_v10 cn cl cp l m dn dj r xn xl xy xv) = pSet dj i (j.1, j.2.1, j.2.2.1, j.2.2.2.1, pAdd .i64 j.2.2.2.2.1 1, (0 : Int), ()) := by delta Call3_v10; rw [q8, q7, q5, pSet_pSet]
  have q11 : (Call3_v11 cn cl cp l m dn dj r xn xl xy xv) = [((2 : Int), m, pRem xy cn, m, j.1, (0 : Int), (0 : Int), (0 : Int), (0 : Int), (0 : Int), false, (0 : Int), ())] := by delta Call3_v11; rw [q10, q5, pGet_set_eq (t := tyJob) hi]
  have q12 : (Call3_v12 cn cl cp l m dn dj r xn xl xy xv) = (j.1, j.2.1, j.2.2.1, j.2.2.2.1, pAdd .i64 j.2.2.2.2.1 1, (0 : Int), ()) := by delta Call3_v12; rw [q10, hI, pNat_coe, pGet_set_eq (t := tyJob) hi]
  have q13 : (Call3_v13 cn cl cp l m dn dj r xn xl xy xv) = 0 := by delta Call3_v13; rw [q11]; exact (congrArg pNat (last_pos (xs := ([] : List MsgD)) (by decide))).trans (pNat_coe 0)
  have q14 : (Call3_v14 cn cl cp l m dn dj r xn xl xy xv) = ((2 : Int), m, pRem xy cn, m, j.1, (0 : Int), (0 : Int), (0 : Int), (0 : Int), (0 : Int), false, (0 : Int), ()) := by delta Call3_v14; rw [q11, q13] <;> rfl
  have q15 : (Call3_v15 cn cl cp l m dn dj r xn xl xy xv) = [((2 : Int), m, pRem xy cn, m, j.1, (0 : Int), xy, (0 : Int), (0 : Int), (0 : Int), false, (0 : Int), ())] := by delta Call3_v15; rw [q11, q13, q14] <;> rfl
  have q16 : (Call3_v16 cn cl cp l m dn dj r xn xl xy xv) = ((2 : Int), m, pRem xy cn, m, j.1, (0 : Int), xy, (0 : Int), (0 : Int), (0 : Int), false, (0 : Int), ()) := by delta Call3_v16; rw [q15, q13] <;> rfl
  have q17 : (Call3_v17 cn cl cp l m dn dj r xn xl xy xv) = [((2 : Int), m, pRem xy cn, m, j.1, (0 : Int), xy, xv, (0 : Int), (0 : Int), false, (0 : Int), ())] := by delta Call3_v17; rw [q15, q13, q16] <;> rfl
  have q18 : (Call3_v18 cn cl cp l m dn dj r xn xl xy xv) = ((2 : Int), m, pRem xy cn, m, j.1, (0 : Int), xy, xv, (0 : Int), (0 : Int), false, (0 : Int), ()) := by delta Call3_v18; rw [q17, q13] <;> rfl
  have hd : doneT (cn, cl, cp, ()) l m (dn, dj, ()) ((3 : Int), xn, xl, xy, xv, ()) i j = askT (dn, dj, ()) i j (true, l, xy, xv, (0 : Int), pAdd .i64 j.2.2.2.2.1 1, false, false, ()) ((2 : Int), m, pRem xy cn, m, j.1, (0 : Int), xy, xv, (0 : Int), pAdd .i64 j.2.2.2.2.1 1, false, (0 : Int), ()) := rfl
  have hl : pLen (Call3_v10 cn cl cp l m dn dj r xn xl xy xv) = pLen dj := by show ((Call3_v10 cn cl cp l m dn dj r xn xl xy xv)).length = dj.length; rw [q10, pSet_len]
  have hii : (Call3_v5 cn cl cp l m dn dj r xn xl xy xv) = pNat (idxKeyJ dj xn) := by rw [q5, hI, pNat_coe]
  refine ⟨rfl, by rw [qd]; exact hlen, by rw [qd, hI]; exact pIn_coe.2 hi, hii, app_room (by omega), hii, nz_of hcs.1, app_room (xs := ([] : List MsgD)) (by decide), ?_, hl, fin _ (turn_to hd (by rfl) ?_ ?_ (by rfl) (by rfl) (by rfl) (by rfl))⟩
  · rw [q11, last_pos (xs := ([] : List MsgD)) (by decide)]; exact pIn_coe.2 Nat.zero_lt_one
  · show pSet (Call3_v10 cn cl cp l m dn dj r xn xl xy xv) (pNat (idxKeyJ dj xn)) (((Call3_v12 cn cl cp l m dn dj r xn xl xy xv)).1, ((Call3_v12 cn cl cp l m dn dj r xn xl xy xv)).2.1, pApp ((Call3_v2 dj xn)).2.2.1 (Call3_v9 cn cl cp l m dn dj r xn xl xy xv), ((Call3_v2 dj xn)).2.2.2.1, ((Call3_v12 cn cl cp l m dn dj r xn xl xy xv)).2.2.2.2) = _
    rw [q10, q12, q2, q9, hI, pNat_coe, pSet_pSet]
    try rfl
  · show pSet (Call3_v17 cn cl cp l m dn dj r xn xl xy xv) (Call3_v13 cn cl cp l m dn dj r xn xl xy xv) (((Call3_v18 cn cl cp l m dn dj r xn xl xy xv)).1, ((Call3_v18 cn cl cp l m dn dj r xn xl xy xv)).2.1, ((Call3_v18 cn cl cp l m dn dj r xn xl xy xv)).2.2.1, ((Call3_v18 cn cl cp l m dn dj r xn xl xy xv)).2.2.2.1, ((Call3_v18 cn cl cp l m dn dj r xn xl xy xv)).2.2.2.2.1, ((Call3_v18 cn cl cp l m dn dj r xn xl xy xv)).2.2.2.2.2.1, ((Call3_v18 cn cl cp l m dn dj r xn xl xy xv)).2.2.2.2.2.2.1, ((Call3_v18 cn cl cp l m dn dj r xn xl xy xv)).2.2.2.2.2.2.2.1, ((Call3_v18 cn cl cp l m dn dj r xn xl xy xv)).2.2.2.2.2.2.2.2.1, ((Call3_v8 cn cl cp l m dn dj r xn xl xy xv)).2.2.2.2.1, ((Call3_v18 cn cl cp l m dn dj r xn xl xy xv)).2.2.2.2.2.2.2.2.2.2) = _
    rw [q17, q13, q18, q8]
    try rfl

set_option maxHeartbeats 4000000 in
theorem call_commit {cn : Int} {cl : List LabD} {cp l m dn : Int} {dj : List JobD} {r xn xl xy xv : Int} {i : Nat} (hz : deskF (cn, cl, cp, ()) (dn, dj, ()) = 0) (hE : calE (cn, cl, cp, ()) l m (dn, dj, ()) ((4 : Int), xn, xl, xy, xv, ()) = 0) (hI : idxKeyJ dj xn = (i : Int)) (hi : i < dj.length) (hF : faultC (cn, cl, cp, ()) l (dn, dj, ()) ((4 : Int), xn, xl, xy, xv, ()) = 0) : (Call4_t47 cn cl cp l m dn dj r xn xl xy xv) := by
  have hj := jobs_ok hz (pGet tyJob dj i) (by rw [pGet_lt (t := tyJob) hi]; exact List.getElem_mem hi)
  have hcs := (deskF_zero hz).1
  have hn6 : dj.length ≤ 6 := (deskF_zero hz).2.1
  have hcal := calT_done (r := r) hE (by rfl) hF hI
  have fin : ∀ T : TurnD, T = doneT (cn, cl, cp, ()) l m (dn, dj, ()) ((4 : Int), xn, xl, xy, xv, ()) i (pGet tyJob dj i) → (T, (0 : Int), ()) = (Call4_v1 cn cl cp l m dn dj r xn xl xy xv) := fun T h => by
    show (T, (0 : Int), ()) = (calT (cn, cl, cp, ()) l m (dn, dj, ()) r ((4 : Int), xn, xl, xy, xv, ()), calE (cn, cl, cp, ()) l m (dn, dj, ()) ((4 : Int), xn, xl, xy, xv, ()), ())
    rw [hcal, hE, h]
  have q2 : (Call4_v2 dj xn) = pGet tyJob dj i := by show pGet tyJob dj (pNat (idxKeyJ dj xn)) = _; rw [hI, pNat_coe]
  have qd : pSet dj (pNat (idxKeyJ dj xn)) (Call4_v2 dj xn) = dj := pSet_get (t := tyJob)
  clear hcal
  obtain ⟨j, hjj⟩ : ∃ j : JobD, j = pGet tyJob dj i := ⟨_, rfl⟩
  rw [← hjj] at hj fin q2
  have hlen : pLen dj < 4611686018427387904 := by show dj.length < _; omega
  have hts : ((Call4_v2 dj xn)).2.2.1.length ≤ 10 := by rw [q2]; exact hj.2.1
  have q3 : (Call4_v3 cn cl cp l m dn dj r xn xl xy xv) = (i : Int) := by show idxKeyJ (pSet dj (pNat (idxKeyJ dj xn)) (Call4_v2 dj xn)) xn = _; rw [qd, hI]
  have hin : pIn (Call4_v3 cn cl cp l m dn dj r xn xl xy xv) (pLen dj) := by rw [q3]; exact pIn_coe.2 hi
  have hii : pNat (Call4_v3 cn cl cp l m dn dj r xn xl xy xv) = pNat (idxKeyJ dj xn) := by rw [q3, hI]
  have hhl := handsF_len (cn := cn) (l := l) (ts := j.2.2.1) hcs
  have hsh : sortN (sitesK cn l ((Call4_v2 dj xn)).2.2.1 ((Call4_v2 dj xn)).2.2.1.length) = handsF cn l j.2.2.1 := by rw [q2]; exact sites_hands hcs hj.2.2.2.1
  have ha : (sortN (sitesK cn l ((Call4_v2 dj xn)).2.2.1 ((Call4_v2 dj xn)).2.2.1.length)).length ≤ 1000 := by rw [hsh]; omega
  have q4 : (Call4_v4 cn cl cp l m dn dj r xn xl xy xv) = j := by show pGet tyJob dj (pNat (Call4_v3 cn cl cp l m dn dj r xn xl xy xv)) = j; rw [q3, pNat_coe]; exact hjj.symm
  delta Call4_t47 Call4_t11
  rw [qd]
  have hd : doneT (cn, cl, cp, ()) l m (dn, dj, ()) ((4 : Int), xn, xl, xy, xv, ()) i j = cond (anyUpto (askAt j.2.2.1) j.2.2.1.length) (dn, pSet dj i (j.1, 2, j.2.2.1, j.2.2.2.1, j.2.2.2.2.1, 0, ()), checksM cn m j.1 j.2.2.1 j.2.2.1.length, [], [], j.1, 0, ()) (commitW cn l m dn dj i j j.1) := by
    try rfl
  have hms : ([] : List MsgD) ++ checksM cn m (pGet tyJob dj (pNat (Call4_v3 cn cl cp l m dn dj r xn xl xy xv))).1 ((Call4_v2 dj xn)).2.2.1 ((Call4_v2 dj xn)).2.2.1.length = checksM cn m j.1 j.2.2.1 j.2.2.1.length := by rw [List.nil_append, q2, q3, pNat_coe, ← hjj]
  refine ⟨rfl, hlen, hin, hin, hii, again_vc 1 (Call4_v5 cn cl cp l m dn dj r xn xl xy xv) dj (Call4_v3 cn cl cp l m dn dj r xn xl xy xv) ((Call4_v2 dj xn)).2.2.1 _ hcs hts (Nat.zero_le _) ?_⟩
  refine bif_ok (fun c => ?_) fun c => ?_
  · have c : anyUpto (askAt ((Call4_v2 dj xn)).2.2.1) ((Call4_v2 dj xn)).2.2.1.length = true := c
    rw [q2] at c
    rw [c, cond_true] at hd
    have q20 : (Call4_v20 cn cl cp l m dn dj r xn xl xy xv) = (j.1, 2, j.2.2) := by delta Call4_v20; rw [q3, q4, pNat_coe, pGet_set_eq (t := tyJob) hi]
    have q21 : (Call4_v21 cn cl cp l m dn dj r xn xl xy xv) = pSet dj i (j.1, 2, j.2.2.1, j.2.2.2.1, j.2.2.2.2.1, 0, ()) := by delta Call4_v21; rw [q20, q3, q4, pNat_coe, pSet_pSet]
    have q22 : (Call4_v22 cn cl cp l m dn dj r xn xl xy xv) = (j.1, 2, j.2.2.1, j.2.2.2.1, j.2.2.2.2.1, 0, ()) := by delta Call4_v22; rw [q21, hI, pNat_coe, pGet_set_eq (t := tyJob) hi]
    refine ⟨by show ((Call4_v21 cn cl cp l m dn dj r xn xl xy xv)).length = dj.length; rw [q21, pSet_len], fin _ (turn_to hd (by rfl) ?_ hms (by rfl) (by rfl) ?_ (by rfl))⟩
    · show pSet (Call4_v21 cn cl cp l m dn dj r xn xl xy xv) (pNat (idxKeyJ dj xn)) (((Call4_v22 cn cl cp l m dn dj r xn xl xy xv)).1, ((Call4_v22 cn cl cp l m dn dj r xn xl xy xv)).2.1, ((Call4_v2 dj xn)).2.2.1, ((Call4_v2 dj xn)).2.2.2.1, ((Call4_v22 cn cl cp l m dn dj r xn xl xy xv)).2.2.2.2) = _
      rw [q21, q22, q2, hI, pNat_coe, pSet_pSet]
    · show ((Call4_v4 cn cl cp l m dn dj r xn xl xy xv)).1 = j.1
      rw [q4]
  have c : anyUpto (askAt ((Call4_v2 dj xn)).2.2.1) ((Call4_v2 dj xn)).2.2.1.length = false := c
  rw [q2] at c
  rw [c, cond_false] at hd
  rw [checksM_none c] at hms
  refine ⟨hin, hii, end_vc (cn, cl, cp, l, m, noTurn) ((Call4_v2 dj xn)).2.2.1 0 _ hcs hts ?_⟩
  have q31 : (Call4_v31 cn cl cp l m dn dj r xn xl xy xv) = pSet dj i (j.1, 3, j.2.2) := by delta Call4_v31; rw [q3, q4, pNat_coe]
  have q32 : (Call4_v32 cn cl cp l m dn dj r xn xl xy xv) = (j.1, 3, j.2.2) := by delta Call4_v32; rw [q31, q3, pNat_coe, pGet_set_eq (t := tyJob) hi]
  have q33 : (Call4_v33 cn cl cp l m dn dj r xn xl xy xv) = (j.1, 3, j.2.2.1, j.2.2.2.1, j.2.2.2.2.1, (0 : Int), ()) := by delta Call4_v33; rw [q32]
  have q34 : (pGet tyJob (pSet (Call4_v31 cn cl cp l m dn dj r xn xl xy xv) (pNat (Call4_v3 cn cl cp l m dn dj r xn xl xy xv)) (Call4_v33 cn cl cp l m dn dj r xn xl xy xv)) (pNat (Call4_v3 cn cl cp l m dn dj r xn xl xy xv))).1 = j.1 := by rw [q31, q33, q3, pNat_coe, pSet_pSet, pGet_set_eq (t := tyJob) hi]
  have q40 : pGet tyJob (pSet (Call4_v31 cn cl cp l m dn dj r xn xl xy xv) (pNat (Call4_v3 cn cl cp l m dn dj r xn xl xy xv)) (Call4_v33 cn cl cp l m dn dj r xn xl xy xv)) (pNat (idxKeyJ dj xn)) = (j.1, 3, j.2.2.1, j.2.2.2.1, j.2.2.2.2.1, (0 : Int), ()) := by rw [q31, q33, q3, hI, pNat_coe, pSet_pSet, pGet_set_eq (t := tyJob) hi]
  have hl57 : pLen (pSet (Call4_v31 cn cl cp l m dn dj r xn xl xy xv) (pNat (Call4_v3 cn cl cp l m dn dj r xn xl xy xv)) (Call4_v33 cn cl cp l m dn dj r xn xl xy xv)) = pLen dj := by show (pSet (Call4_v31 cn cl cp l m dn dj r xn xl xy xv) (pNat (Call4_v3 cn cl cp l m dn dj r xn xl xy xv)) (Call4_v33 cn cl cp l m dn dj r xn xl xy xv)).length = dj.length; rw [pSet_len, q31, pSet_len]
  have q41 : pSet (pSet (Call4_v31 cn cl cp l m dn dj r xn xl xy xv) (pNat (Call4_v3 cn cl cp l m dn dj r xn xl xy xv)) (Call4_v33 cn cl cp l m dn dj r xn xl xy xv)) (pNat (idxKeyJ dj xn)) ((pGet tyJob (pSet (Call4_v31 cn cl cp l m dn dj r xn xl xy xv) (pNat (Call4_v3 cn cl cp l m dn dj r xn xl xy xv)) (Call4_v33 cn cl cp l m dn dj r xn xl xy xv)) (pNat (idxKeyJ dj xn))).1, (pGet tyJob (pSet (Call4_v31 cn cl cp l m dn dj r xn xl xy xv) (pNat (Call4_v3 cn cl cp l m dn dj r xn xl xy xv)) (Call4_v33 cn cl cp l m dn dj r xn xl xy xv)) (pNat (idxKeyJ dj xn))).2.1, ((Call4_v2 dj xn)).2.2.1, sortN (sitesK cn l ((Call4_v2 dj xn)).2.2.1 ((Call4_v2 dj xn)).2.2.1.length), (pGet tyJob (pSet (Call4_v31 cn cl cp l m dn dj r xn xl xy xv) (pNat (Call4_v3 cn cl cp l m dn dj r xn xl xy xv)) (Call4_v33 cn cl cp l m dn dj r xn xl xy xv)) (pNat (idxKeyJ dj xn))).2.2.2.2) =
      pSet dj i (j.1, 3, j.2.2.1, handsF cn l j.2.2.1, j.2.2.2.2.1, 0, ()) := by
    rw [q40, hsh, q31, q33, q2, q3, hI, pNat_coe, pSet_pSet, pSet_pSet]
  have hrep : pApp ([] : List RepD) [(m, (4 : Int), ((Call4_v4 cn cl cp l m dn dj r xn xl xy xv)).1, (0 : Int), (0 : Int), (0 : Int), ())] = [(m, 4, j.1, 0, 0, 0, ())] := by rw [q4] <;> rfl
  have hwr : pGe (anyWrite ((Call4_v2 dj xn)).2.2.1) 0 = anyUpto (writeAt j.2.2.1) j.2.2.1.length := by rw [q2]; exact idxOf_ge
  refine ⟨app_room (xs := ([] : List RepD)) (by decide), bif_ok (fun e => ?_) fun e => ⟨hii, Nat.lt_of_le_of_lt hts (by decide), bif_ok (fun wr => ?_) fun wr => ?_⟩⟩
  · have e : pEq (pInt (sortN (sitesK cn l ((Call4_v2 dj xn)).2.2.1 ((Call4_v2 dj xn)).2.2.1.length)).length) 0 = true := e
    rw [hsh] at e
    have hd : doneT (cn, cl, cp, ()) l m (dn, dj, ()) ((4 : Int), xn, xl, xy, xv, ()) i j = (dn, pDel dj i, [], [], [(m, 4, j.1, 0, 0, 0, ())], j.1, j.1, ()) := by rw [hd]; unfold commitW; rw [e]; rfl
    refine ⟨hin, rfl, hlen, fin _ (turn_to hd (by rfl) ?_ hms (by rfl) hrep ?_ ?_)⟩
    · show pDel dj (pNat (Call4_v3 cn cl cp l m dn dj r xn xl xy xv)) = pDel dj i
      rw [q3, pNat_coe]
    · show ((Call4_v4 cn cl cp l m dn dj r xn xl xy xv)).1 = j.1
      rw [q4]
    · show ((Call4_v4 cn cl cp l m dn dj r xn xl xy xv)).1 = j.1
      rw [q4]
  · have e : pEq (pInt (sortN (sitesK cn l ((Call4_v2 dj xn)).2.2.1 ((Call4_v2 dj xn)).2.2.1.length)).length) 0 = false := e
    rw [hsh] at e
    rw [hwr] at wr
    have hd : doneT (cn, cl, cp, ()) l m (dn, dj, ()) ((4 : Int), xn, xl, xy, xv, ()) i j = (dn, pSet dj i (j.1, 3, j.2.2.1, handsF cn l j.2.2.1, j.2.2.2.2.1, 0, ()), saysM m true j.1 (handsF cn l j.2.2.1), [(3, m, j.1, 0, 0, 0, false, handsF cn l j.2.2.1, ())], [(m, 4, j.1, 0, 0, 0, ())], j.1, j.1, ()) := by rw [hd]; unfold commitW; rw [e, wr]; rfl
    refine ⟨?_, app_room (xs := ([] : List RecD)) (by decide), hii, hii, tellX_vc 3 _ _ _ _ ha (Nat.le_trans (Nat.le_of_eq (congrArg List.length hms)) (by decide)) ⟨hl57, hl57, fin _ (turn_to hd (by rfl) q41 ?_ ?_ hrep ?_ ?_)⟩⟩
    · show (sortN (sitesK cn l ((Call4_v2 dj xn)).2.2.1 ((Call4_v2 dj xn)).2.2.1.length)).length * 8 ≤ _
      omega
    · show ([] ++ checksM cn m (pGet tyJob dj (pNat (Call4_v3 cn cl cp l m dn dj r xn xl xy xv))).1 ((Call4_v2 dj xn)).2.2.1 ((Call4_v2 dj xn)).2.2.1.length) ++ saysM m true (pGet tyJob (pSet (Call4_v31 cn cl cp l m dn dj r xn xl xy xv) (pNat (Call4_v3 cn cl cp l m dn dj r xn xl xy xv)) (Call4_v33 cn cl cp l m dn dj r xn xl xy xv)) (pNat (Call4_v3 cn cl cp l m dn dj r xn xl xy xv))).1 (sortN (sitesK cn l ((Call4_v2 dj xn)).2.2.1 ((Call4_v2 dj xn)).2.2.1.length)) = _
      rw [hms, q34, hsh] <;> rfl
    · show pApp ([] : List RecD) [((3 : Int), m, ((Call4_v4 cn cl cp l m dn dj r xn xl xy xv)).1, (0 : Int), (0 : Int), (0 : Int), false, sortN (sitesK cn l ((Call4_v2 dj xn)).2.2.1 ((Call4_v2 dj xn)).2.2.1.length), ())] = _
      rw [q4, hsh] <;> rfl
    · show ((Call4_v4 cn cl cp l m dn dj r xn xl xy xv)).1 = j.1
      rw [q4]
    · show ((Call4_v4 cn cl cp l m dn dj r xn xl xy xv)).1 = j.1
      rw [q4]
  · have e : pEq (pInt (sortN (sitesK cn l ((Call4_v2 dj xn)).2.2.1 ((Call4_v2 dj xn)).2.2.1.length)).length) 0 = false := e
    rw [hsh] at e
    rw [hwr] at wr
    have hd : doneT (cn, cl, cp, ()) l m (dn, dj, ()) ((4 : Int), xn, xl, xy, xv, ()) i j = (dn, pSet dj i (j.1, 3, j.2.2.1, handsF cn l j.2.2.1, j.2.2.2.2.1, 0, ()), saysM m true j.1 (handsF cn l j.2.2.1), [], [(m, 4, j.1, 0, 0, 0, ())], j.1, j.1, ()) := by rw [hd]; unfold commitW; rw [e, wr]; rfl
    refine ⟨hii, hii, tellX_vc 3 _ _ _ _ ha (Nat.le_trans (Nat.le_of_eq (congrArg List.length hms)) (by decide)) ⟨hl57, hl57, fin _ (turn_to hd (by rfl) q41 ?_ (by rfl) hrep ?_ ?_)⟩⟩
    · show ([] ++ checksM cn m (pGet tyJob dj (pNat (Call4_v3 cn cl cp l m dn dj r xn xl xy xv))).1 ((Call4_v2 dj xn)).2.2.1 ((Call4_v2 dj xn)).2.2.1.length) ++ saysM m true (pGet tyJob (pSet (Call4_v31 cn cl cp l m dn dj r xn xl xy xv) (pNat (Call4_v3 cn cl cp l m dn dj r xn xl xy xv)) (Call4_v33 cn cl cp l m dn dj r xn xl xy xv)) (pNat (Call4_v3 cn cl cp l m dn dj r xn xl xy xv))).1 (sortN (sitesK cn l ((Call4_v2 dj xn)).2.2.1 ((Call4_v2 dj xn)).2.2.1.length)) = _
      rw [hms, q34, hsh] <;> rfl
    · show ((Call4_v4 cn cl cp l m dn dj r xn xl xy xv)).1 = j.1
      rw [q4]
    · show ((Call4_v4 cn cl cp l m dn dj r xn xl xy xv)).1 = j.1
      rw [q4]

set_option maxHeartbeats 4000000 in
theorem call_roll {cn : Int} {cl : List LabD} {cp l m dn : Int} {dj : List JobD} {r xn xl xy xv : Int} {i : Nat} (hz : deskF (cn, cl, cp, ()) (dn, dj, ()) = 0) (hE : calE (cn, cl, cp, ()) l m (dn, dj, ()) ((5 : Int), xn, xl, xy, xv, ()) = 0) (hI : idxKeyJ dj xn = (i : Int)) (hi : i < dj.length) (hF : faultC (cn, cl, cp, ()) l (dn, dj, ()) ((5 : Int), xn, xl, xy, xv, ()) = 0) : (Call5_t14 cn cl cp l m dn dj r xn xl xy xv) := by
  have hj := jobs_ok hz (pGet tyJob dj i) (by rw [pGet_lt (t := tyJob) hi]; exact List.getElem_mem hi)
  have hcs := (deskF_zero hz).1
  have hn6 : dj.length ≤ 6 := (deskF_zero hz).2.1
  have hcal := calT_done (r := r) hE (by rfl) hF hI
  have fin : ∀ T : TurnD, T = doneT (cn, cl, cp, ()) l m (dn, dj, ()) ((5 : Int), xn, xl, xy, xv, ()) i (pGet tyJob dj i) → (T, (0 : Int), ()) = (Call5_v1 cn cl cp l m dn dj r xn xl xy xv) := fun T h => by
    show (T, (0 : Int), ()) = (calT (cn, cl, cp, ()) l m (dn, dj, ()) r ((5 : Int), xn, xl, xy, xv, ()), calE (cn, cl, cp, ()) l m (dn, dj, ()) ((5 : Int), xn, xl, xy, xv, ()), ())
    rw [hcal, hE, h]
  have q2 : (Call5_v2 dj xn) = pGet tyJob dj i := by show pGet tyJob dj (pNat (idxKeyJ dj xn)) = _; rw [hI, pNat_coe]
  have qd : pSet dj (pNat (idxKeyJ dj xn)) (Call5_v2 dj xn) = dj := pSet_get (t := tyJob)
  clear hcal
  obtain ⟨j, hjj⟩ : ∃ j : JobD, j = pGet tyJob dj i := ⟨_, rfl⟩
  rw [← hjj] at hj fin q2
  have hlen : pLen dj < 4611686018427387904 := by show dj.length < _; omega
  have hts : ((Call5_v2 dj xn)).2.2.1.length ≤ 10 := by rw [q2]; exact hj.2.1
  have q3 : (Call5_v3 cn cl cp l m dn dj r xn xl xy xv) = (i : Int) := by show idxKeyJ (pSet dj (pNat (idxKeyJ dj xn)) (Call5_v2 dj xn)) xn = _; rw [qd, hI]
  have hin : pIn (Call5_v3 cn cl cp l m dn dj r xn xl xy xv) (pLen dj) := by rw [q3]; exact pIn_coe.2 hi
  have hii : pNat (Call5_v3 cn cl cp l m dn dj r xn xl xy xv) = pNat (idxKeyJ dj xn) := by rw [q3, hI]
  have hhl := handsF_len (cn := cn) (l := l) (ts := j.2.2.1) hcs
  have hsh : sortN (sitesK cn l ((Call5_v2 dj xn)).2.2.1 ((Call5_v2 dj xn)).2.2.1.length) = handsF cn l j.2.2.1 := by rw [q2]; exact sites_hands hcs hj.2.2.2.1
  have ha : (sortN (sitesK cn l ((Call5_v2 dj xn)).2.2.1 ((Call5_v2 dj xn)).2.2.1.length)).length ≤ 1000 := by rw [hsh]; omega
  have q8 : (Call5_v8 cn cl cp l m dn dj r xn xl xy xv) = j.1 := by show (pGet tyJob dj (pNat (Call5_v3 cn cl cp l m dn dj r xn xl xy xv))).1 = j.1; rw [q3, pNat_coe, ← hjj]
  delta Call5_t14
  rw [qd]
  have hd : doneT (cn, cl, cp, ()) l m (dn, dj, ()) ((5 : Int), xn, xl, xy, xv, ()) i j = (dn, pDel dj i, saysM m false j.1 (handsF cn l j.2.2.1), [], [(m, 5, xn, 0, 0, 0, ())], 0, 0, ()) := by
    try rfl
  refine ⟨rfl, hlen, hin, hii, end_vc (cn, cl, cp, l, m, noTurn) ((Call5_v2 dj xn)).2.2.1 0 _ hcs hts ?_⟩
  refine endsX_vc 1 _ _ _ _ ha (Nat.zero_le _) ⟨hin, rfl, hlen, app_room (xs := ([] : List RepD)) (by decide), fin _ (turn_to hd (by rfl) ?_ ?_ (by rfl) (by rfl) (by rfl) (by rfl))⟩
  · show pDel dj (pNat (Call5_v3 cn cl cp l m dn dj r xn xl xy xv)) = pDel dj i
    rw [q3, pNat_coe]
  · show [] ++ saysM m false (Call5_v8 cn cl cp l m dn dj r xn xl xy xv) (sortN (sitesK cn l ((Call5_v2 dj xn)).2.2.1 ((Call5_v2 dj xn)).2.2.1.length)) = _
    rw [q8, hsh] <;> rfl

end Go.Proofs.Ytnkcmkegjckncaa

/- coord.Call meets its contract. No condition. -/
namespace Go.Proofs.Ytnkcmkegjckncaa
open Go.RowKit

theorem call_pre {cn : Int} {cl : List LabD} {cp l m dn : Int} {dj : List JobD} {r xk xn xl xy xv : Int} (h1 : pLen cl < 4611686018427387904) (h2 : pLen dj < 4611686018427387904) (h3 : ∀ q ∈ dj, pLen q.2.2.1 < 4611686018427387904 ∧ pLen q.2.2.2.1 < 4611686018427387904) (F R : Prop)
    (hR : deskF (cn, cl, cp, ()) (dn, dj, ()) = 0 → placeF (cn, cl, cp, ()) l = true → begE (cn, cl, cp, ()) l m (dn, dj, ()) = 0 → R) :
    pLen cl < 4611686018427387904 ∧ pLen dj < 4611686018427387904 ∧ (∀ q ∈ dj, pLen q.2.2.1 < 4611686018427387904 ∧ pLen q.2.2.2.1 < 4611686018427387904) ∧ bif pNe (deskF (cn, cl, cp, ()) (dn, dj, ())) 0 then (bif pNe (deskF (cn, cl, cp, ()) (dn, dj, ())) 0 then (noTurn, deskF (cn, cl, cp, ()) (dn, dj, ()), ()) = (calT (cn, cl, cp, ()) l m (dn, dj, ()) r (xk, xn, xl, xy, xv, ()), calE (cn, cl, cp, ()) l m (dn, dj, ()) (xk, xn, xl, xy, xv, ()), ()) else F)
      else bif pLt l 0 then (noTurn, (6 : Int), ()) = (calT (cn, cl, cp, ()) l m (dn, dj, ()) r (xk, xn, xl, xy, xv, ()), calE (cn, cl, cp, ()) l m (dn, dj, ()) (xk, xn, xl, xy, xv, ()), ()) else bif pGe l (pInt (pLen cl)) then (noTurn, (6 : Int), ()) = (calT (cn, cl, cp, ()) l m (dn, dj, ()) r (xk, xn, xl, xy, xv, ()), calE (cn, cl, cp, ()) l m (dn, dj, ()) (xk, xn, xl, xy, xv, ()), ()) else bif pLt m 0 then (noTurn, (2 : Int), ()) = (calT (cn, cl, cp, ()) l m (dn, dj, ()) r (xk, xn, xl, xy, xv, ()), calE (cn, cl, cp, ()) l m (dn, dj, ()) (xk, xn, xl, xy, xv, ()), ()) else bif pGe m cn then (noTurn, (2 : Int), ()) = (calT (cn, cl, cp, ()) l m (dn, dj, ()) r (xk, xn, xl, xy, xv, ()), calE (cn, cl, cp, ()) l m (dn, dj, ()) (xk, xn, xl, xy, xv, ()), ())
      else pRoom (pLen dj) 80 ∧ (∀ q ∈ dj, pRoom (pLen q.2.2.1) 56 ∧ pRoom (pLen q.2.2.2.1) 8) ∧ pLen dj < 4611686018427387904 ∧ R := by
  have no : ∀ e : Int, e ≠ 0 → begE (cn, cl, cp, ()) l m (dn, dj, ()) = e → (noTurn, e, ()) = (calT (cn, cl, cp, ()) l m (dn, dj, ()) r (xk, xn, xl, xy, xv, ()), calE (cn, cl, cp, ()) l m (dn, dj, ()) (xk, xn, xl, xy, xv, ()), ()) := fun e he hb => by
    have h := (calE_beg (x := (xk, xn, xl, xy, xv, ())) (by rw [hb]; exact he)).trans hb
    rw [calT_no (by rw [h]; exact he), h]
  refine ⟨h1, h2, h3, bif_ok (fun he => bif_ok (fun _ => no _ (by simpa [pNe] using he) (begE_desk he)) fun h => by rw [he] at h; cases h) fun he => ?_⟩
  have hz := desk_zero he
  have hr := begE_rest (l := l) (m := m) hz
  refine bif_ok (fun h => no 6 (by decide) ?_) fun hl1 => bif_ok (fun h => no 6 (by decide) ?_) fun hl2 => bif_ok (fun h => no 2 (by decide) ?_) fun hm1 => bif_ok (fun h => no 2 (by decide) ?_) fun hm2 => ?_
  · rw [hr]
    have : placeF (cn, cl, cp, ()) l = false := by unfold placeF; grind [pLt, pLe, pGt, pGe, pEq, pNe, pNot, pAndB, pBeq, pInt, pLen, inF, pIn, pTo, pNat]
    rw [this]; rfl
  · rw [hr]
    have : placeF (cn, cl, cp, ()) l = false := by unfold placeF; grind [pLt, pLe, pGt, pGe, pEq, pNe, pNot, pAndB, pBeq, pInt, pLen, inF, pIn, pTo, pNat]
    rw [this]; rfl
  · rw [hr]
    have h4 : placeF (cn, cl, cp, ()) l = true := by unfold placeF; grind [pLt, pLe, pGt, pGe, pEq, pNe, pNot, pAndB, pBeq, pInt, pLen, inF, pIn, pTo, pNat]
    have h5 : (pLe 0 m && pLt m cn) = false := by grind [pLt, pLe, pGt, pGe, pEq, pNe, pNot, pAndB, pBeq, pInt, pLen, inF, pIn, pTo, pNat]
    rw [h4, h5]; rfl
  · rw [hr]
    have h4 : placeF (cn, cl, cp, ()) l = true := by unfold placeF; grind [pLt, pLe, pGt, pGe, pEq, pNe, pNot, pAndB, pBeq, pInt, pLen, inF, pIn, pTo, pNat]
    have h5 : (pLe 0 m && pLt m cn) = false := by grind [pLt, pLe, pGt, pGe, pEq, pNe, pNot, pAndB, pBeq, pInt, pLen, inF, pIn, pTo, pNat]
    rw [h4, h5]; rfl
  have hpl : placeF (cn, cl, cp, ()) l = true := by unfold placeF; grind [pLt, pLe, pGt, pGe, pEq, pNe, pNot, pAndB, pBeq, pInt, pLen, inF, pIn, pTo, pNat]
  have hb : begE (cn, cl, cp, ()) l m (dn, dj, ()) = 0 := by
    have h5 : (pLe 0 m && pLt m cn) = true := by grind [pLt, pLe, pGt, pGe, pEq, pNe, pNot, pAndB, pBeq, pInt, pLen, inF, pIn, pTo, pNat]
    rw [hr, hpl]
    show cond (pLe 0 m && pLt m cn) (0 : Int) 2 = 0
    rw [h5]; rfl
  have hrm := rooms_ok hz
  exact ⟨hrm.1, hrm.2, h2, hR hz hpl hb⟩
theorem call_ref {cn : Int} {cl : List LabD} {cp l m dn : Int} {dj : List JobD} {r xk xn xl xy xv : Int} (h2 : pLen dj < 4611686018427387904) (hz : deskF (cn, cl, cp, ()) (dn, dj, ()) = 0) (hE : calE (cn, cl, cp, ()) l m (dn, dj, ()) (xk, xn, xl, xy, xv, ()) = 0) (k1 : pEq xk 1 = false) (T : Prop)
    (hT : ∀ i : Nat, idxKeyJ dj xn = (i : Int) → i < dj.length → faultC (cn, cl, cp, ()) l (dn, dj, ()) (xk, xn, xl, xy, xv, ()) = cond (pEq xk 4 || pEq xk 5) 0 (cond (pNot (inF xy 0 7) || pNot (inF xv 0 1073741824)) 2 (cond (pEq xk 2 && (pNot (placeF (cn, cl, cp, ()) xl) || pNot (aboveF (pGet tyLab cl (pNat l)) (pGet tyLab cl (pNat xl))))) 10 (cond (pGe (pInt (pGet tyJob dj i).2.2.1.length) 10 || pGe (pGet tyJob dj i).2.2.2.2.1 1048576) 8 0))) → T) :
    pLen dj < 4611686018427387904 ∧ bif pLt (idxKeyJ dj xn) 0 then pRoom (pPlus (pLen ([] : List RepD)) (pLen [(m, xk, xn, xy, (0 : Int), (6 : Int), ())])) 48 ∧ ((dn, dj, ([] : List MsgD), ([] : List RecD), pApp ([] : List RepD) [(m, xk, xn, xy, (0 : Int), (6 : Int), ())], (0 : Int), (0 : Int), ()), (0 : Int), ()) = (calT (cn, cl, cp, ()) l m (dn, dj, ()) r (xk, xn, xl, xy, xv, ()), calE (cn, cl, cp, ()) l m (dn, dj, ()) (xk, xn, xl, xy, xv, ()), ()) else pIn (idxKeyJ dj xn) (pLen dj) ∧ bif pNe (pGet tyJob dj (pNat (idxKeyJ dj xn))).2.1 1 then pLen dj = pLen dj ∧ pRoom (pPlus (pLen ([] : List RepD)) (pLen [(m, xk, xn, xy, (0 : Int), (13 : Int), ())])) 48 ∧ ((dn, (pSet dj (pNat (idxKeyJ dj xn)) (pGet tyJob dj (pNat (idxKeyJ dj xn)))), ([] : List MsgD), ([] : List RecD), pApp ([] : List RepD) [(m, xk, xn, xy, (0 : Int), (13 : Int), ())], (0 : Int), (0 : Int), ()), (0 : Int), ()) = (calT (cn, cl, cp, ()) l m (dn, dj, ()) r (xk, xn, xl, xy, xv, ()), calE (cn, cl, cp, ()) l m (dn, dj, ()) (xk, xn, xl, xy, xv, ()), ())
      else bif pGt (pInt (pLen (pGet tyJob dj (pNat (idxKeyJ dj xn))).2.2.1)) 0 then pIn (pSubI .i64 (pInt (pLen (pGet tyJob dj (pNat (idxKeyJ dj xn))).2.2.1)) 1) (pLen (pGet tyJob dj (pNat (idxKeyJ dj xn))).2.2.1) ∧ bif pNot (pGet tyTask (pGet tyJob dj (pNat (idxKeyJ dj xn))).2.2.1 (pNat (pSubI .i64 (pInt (pLen (pGet tyJob dj (pNat (idxKeyJ dj xn))).2.2.1)) 1))).2.2.2.2.2.2.1 then pLen dj = pLen dj ∧ pRoom (pPlus (pLen ([] : List RepD)) (pLen [(m, xk, xn, xy, (0 : Int), (14 : Int), ())])) 48 ∧ ((dn, (pSet dj (pNat (idxKeyJ dj xn)) (pGet tyJob dj (pNat (idxKeyJ dj xn)))), ([] : List MsgD), ([] : List RecD), pApp ([] : List RepD) [(m, xk, xn, xy, (0 : Int), (14 : Int), ())], (0 : Int), (0 : Int), ()), (0 : Int), ()) = (calT (cn, cl, cp, ()) l m (dn, dj, ()) r (xk, xn, xl, xy, xv, ()), calE (cn, cl, cp, ()) l m (dn, dj, ()) (xk, xn, xl, xy, xv, ()), ()) else T else T := by
  have fe : ∀ e : Int, e ≠ 0 → faultC (cn, cl, cp, ()) l (dn, dj, ()) (xk, xn, xl, xy, xv, ()) = e → (((dn, dj, [], [], [(m, xk, xn, xy, 0, e, ())], 0, 0, ()) : TurnD), (0 : Int), ()) = (calT (cn, cl, cp, ()) l m (dn, dj, ()) r (xk, xn, xl, xy, xv, ()), calE (cn, cl, cp, ()) l m (dn, dj, ()) (xk, xn, xl, xy, xv, ()), ()) := fun e h hf => by
    rw [calT_err hE k1 h hf, hE]
  have hro : ∀ e : Int, pRoom (pPlus (pLen ([] : List RepD)) (pLen [(m, xk, xn, xy, (0 : Int), e, ())])) 48 := fun e => app_room (xs := ([] : List RepD)) (by decide)
  refine ⟨h2, bif_ok (fun c1 => ⟨hro 6, fe 6 (by decide) (fault_six c1)⟩) fun c1 => ?_⟩
  obtain ⟨i, hI, hi, hn⟩ := find_at c1
  have e0 := fault_eq (cn := cn) (cl := cl) (cp := cp) (l := l) (dn := dn) (xk := xk) (xl := xl) (xy := xy) (xv := xv) c1 hI
  rw [pSet_get (t := tyJob), hI, pNat_coe]
  have hmem : pGet tyJob dj i ∈ dj := by rw [pGet_lt (t := tyJob) hi]; exact List.getElem_mem hi
  have hj := jobs_ok hz _ hmem
  refine ⟨pIn_coe.2 hi, ?_⟩
  have tail : openT (pGet tyJob dj i).2.2.1 = false → pNe (pGet tyJob dj i).2.1 1 = false → T := fun ho hs => hT i hI hi (by rw [e0, hs, ho]; rfl)
  refine bif_ok (fun c2 => ⟨rfl, hro 13, fe 13 (by decide) (by rw [e0, c2]; rfl)⟩) fun c2 => bif_ok (fun c3 => ?_) fun c3 => tail (open_no c3) c2
  obtain ⟨o1, o2, o3⟩ := open_pos c3 (by have := hj.2.1; omega)
  rw [o1]
  refine ⟨pIn_coe.2 o2, bif_ok (fun c4 => ?_) fun c4 => tail (by rw [o3]; rw [pNat_coe] at c4; exact c4) c2⟩
  rw [pNat_coe] at c4
  exact ⟨rfl, hro 14, fe 14 (by decide) (by rw [e0, c2, o3, show (!(pGet tyTask (pGet tyJob dj i).2.2.1 ((pGet tyJob dj i).2.2.1.length - 1)).2.2.2.2.2.2.1) = true from c4]; rfl)⟩

theorem CallX_ok : Meets Try.prog (fun _ => none) 10 cCallX := CallX_meets (kkbeginN_ok cCheck_ok cownN_ok) fun cn cl cp l m dn dj r xk xn xl xy xv hp => by
  have h1 : pLen cl < 4611686018427387904 := hp (pLen cl < 4611686018427387904) (by simp)
  have h2 : pLen dj < 4611686018427387904 := hp (pLen dj < 4611686018427387904) (by simp)
  have h3 : ∀ q ∈ dj, pLen q.2.2.1 < 4611686018427387904 ∧ pLen q.2.2.2.1 < 4611686018427387904 := hp (∀ q ∈ dj, pLen q.2.2.1 < 4611686018427387904 ∧ pLen q.2.2.2.1 < 4611686018427387904) (by simp)
  have hx : inF xk 1 5 = false := hp (inF xk 1 5 = false) (by simp)
  clear hp
  delta CallX_VC
  refine call_pre (cn := cn) (cl := cl) (cp := cp) (l := l) (m := m) (dn := dn) (dj := dj) (r := r) (xk := xk) (xn := xn) (xl := xl) (xy := xy) (xv := xv) h1 h2 h3 _ _ fun hz hpl hb => ?_
  have hE : calE (cn, cl, cp, ()) l m (dn, dj, ()) (xk, xn, xl, xy, xv, ()) = 3 := by rw [calE_kind hb]; show cond (inF xk 1 5) (0 : Int) 3 = 3; rw [hx]; rfl
  have no : (noTurn, (3 : Int), ()) = (calT (cn, cl, cp, ()) l m (dn, dj, ()) r (xk, xn, xl, xy, xv, ()), calE (cn, cl, cp, ()) l m (dn, dj, ()) (xk, xn, xl, xy, xv, ()), ()) := by rw [calT_no (by rw [hE]; decide), hE]
  refine bif_ok (fun _ => no) fun ka => bif_ok (fun _ => no) fun kb => ?_
  rw [in_yes ka kb] at hx
  cases hx
theorem Call1_ok : Meets Try.prog (fun _ => none) 10 cCall1 := Call1_meets (kkbeginN_ok cCheck_ok cownN_ok) (kkbegun_ok kkreply_ok kkrecord_ok) fun cn cl cp l m dn dj r xn xl xy xv hp => by
  have h1 : pLen cl < 4611686018427387904 := hp (pLen cl < 4611686018427387904) (by simp)
  have h2 : pLen dj < 4611686018427387904 := hp (pLen dj < 4611686018427387904) (by simp)
  have h3 : ∀ q ∈ dj, pLen q.2.2.1 < 4611686018427387904 ∧ pLen q.2.2.2.1 < 4611686018427387904 := hp (∀ q ∈ dj, pLen q.2.2.1 < 4611686018427387904 ∧ pLen q.2.2.2.1 < 4611686018427387904) (by simp)
  clear hp
  delta Call1_VC
  refine call_pre (cn := cn) (cl := cl) (cp := cp) (l := l) (m := m) (dn := dn) (dj := dj) (r := r) (xk := 1) (xn := xn) (xl := xl) (xy := xy) (xv := xv) h1 h2 h3 _ _ fun hz hpl hb => ?_
  have hE : calE (cn, cl, cp, ()) l m (dn, dj, ()) ((1 : Int), xn, xl, xy, xv, ()) = 0 := by rw [calE_kind hb]; rfl
  have hn6 : dj.length ≤ 6 := (deskF_zero hz).2.1
  have fb : ∀ T : TurnD, T = beginT m (dn, dj, ()) r → (T, (0 : Int), ()) = (calT (cn, cl, cp, ()) l m (dn, dj, ()) r ((1 : Int), xn, xl, xy, xv, ()), calE (cn, cl, cp, ()) l m (dn, dj, ()) ((1 : Int), xn, xl, xy, xv, ()), ()) := fun T h => by
    rw [calT_yes hE, hE, h]; rfl
  have tt : (pEq (pInt dj.length) 6 || (pGt dn 1048576 || pLt r 600)) = true → (Call1_t2 cn cl cp l m dn dj r xn xl xy xv) := fun h => ⟨app_room (xs := ([] : List RepD)) (by decide), fb _ (by unfold beginT; dsimp only; rw [h]; rfl)⟩
  refine bif_ok (fun a => tt (by rw [show pEq (pInt dj.length) 6 = true from a]; rfl)) fun a => bif_ok (fun b => tt (by rw [b]; simp)) fun b => bif_ok (fun c => tt (by rw [c]; simp)) fun c =>
    ⟨app_room (by omega), app_room (xs := ([] : List RecD)) (by decide), app_room (xs := ([] : List RepD)) (by decide), fb _ ?_⟩
  have hc : (pEq (pInt dj.length) 6 || (pGt dn 1048576 || pLt r 600)) = false := by rw [show pEq (pInt dj.length) 6 = false from a, b, c]; rfl
  unfold beginT; dsimp only; rw [hc]; rfl
theorem Call2_ok : Meets Try.prog (fun _ => none) 10 cCall2 := Call2_meets (kkbeginN_ok cCheck_ok cownN_ok) (kkrefuse_ok above_ok (kkplace_ok indexJ_ok)) kkreply_ok (kkplace_ok indexJ_ok) (kktask_ok kksend_ok) fun cn cl cp l m dn dj r xn xl xy xv hp => by
  have h1 : pLen cl < 4611686018427387904 := hp (pLen cl < 4611686018427387904) (by simp)
  have h2 : pLen dj < 4611686018427387904 := hp (pLen dj < 4611686018427387904) (by simp)
  have h3 : ∀ q ∈ dj, pLen q.2.2.1 < 4611686018427387904 ∧ pLen q.2.2.2.1 < 4611686018427387904 := hp (∀ q ∈ dj, pLen q.2.2.1 < 4611686018427387904 ∧ pLen q.2.2.2.1 < 4611686018427387904) (by simp)
  clear hp
  delta Call2_VC
  refine call_pre (cn := cn) (cl := cl) (cp := cp) (l := l) (m := m) (dn := dn) (dj := dj) (r := r) (xk := 2) (xn := xn) (xl := xl) (xy := xy) (xv := xv) h1 h2 h3 _ _ fun hz hpl hb => ?_
  have hE : calE (cn, cl, cp, ()) l m (dn, dj, ()) ((2 : Int), xn, xl, xy, xv, ()) = 0 := by rw [calE_kind hb]; rfl
  refine call_ref (cn := cn) (cl := cl) (cp := cp) (l := l) (m := m) (dn := dn) (dj := dj) (r := r) (xk := 2) (xn := xn) (xl := xl) (xy := xy) (xv := xv) h2 hz hE (by rfl) _ fun i hI hi e0 => ?_
  exact call_get hz hE hI hi hpl e0
theorem Call3_ok : Meets Try.prog (fun _ => none) 10 cCall3 := Call3_meets (kkbeginN_ok cCheck_ok cownN_ok) (kkrefuse_ok above_ok (kkplace_ok indexJ_ok)) kkreply_ok (kkplace_ok indexJ_ok) (kktask_ok kksend_ok) fun cn cl cp l m dn dj r xn xl xy xv hp => by
  have h1 : pLen cl < 4611686018427387904 := hp (pLen cl < 4611686018427387904) (by simp)
  have h2 : pLen dj < 4611686018427387904 := hp (pLen dj < 4611686018427387904) (by simp)
  have h3 : ∀ q ∈ dj, pLen q.2.2.1 < 4611686018427387904 ∧ pLen q.2.2.2.1 < 4611686018427387904 := hp (∀ q ∈ dj, pLen q.2.2.1 < 4611686018427387904 ∧ pLen q.2.2.2.1 < 4611686018427387904) (by simp)
  clear hp
  delta Call3_VC
  refine call_pre (cn := cn) (cl := cl) (cp := cp) (l := l) (m := m) (dn := dn) (dj := dj) (r := r) (xk := 3) (xn := xn) (xl := xl) (xy := xy) (xv := xv) h1 h2 h3 _ _ fun hz hpl hb => ?_
  have hE : calE (cn, cl, cp, ()) l m (dn, dj, ()) ((3 : Int), xn, xl, xy, xv, ()) = 0 := by rw [calE_kind hb]; rfl
  refine call_ref (cn := cn) (cl := cl) (cp := cp) (l := l) (m := m) (dn := dn) (dj := dj) (r := r) (xk := 3) (xn := xn) (xl := xl) (xy := xy) (xv := xv) h2 hz hE (by rfl) _ fun i hI hi e0 => ?_
  exact call_put hz hE hI hi hpl e0
theorem Call4_ok : Meets Try.prog (fun _ => none) 10 cCall4 := Call4_meets (kkbeginN_ok cCheck_ok cownN_ok) (kkrefuse_ok above_ok (kkplace_ok indexJ_ok)) kkreply_ok (kkplace_ok indexJ_ok) (kkcommitting_ok (kkagain_ok kksend_ok) (kkcommit_ok anyW_ok cloneN_ok (kksites_ok hasN_ok sort_ok) kkreply_ok (kkdrop_ok delJ_ok) kkrecord_ok (kktellN_ok kksend_ok))) fun cn cl cp l m dn dj r xn xl xy xv hp => by
  have h1 : pLen cl < 4611686018427387904 := hp (pLen cl < 4611686018427387904) (by simp)
  have h2 : pLen dj < 4611686018427387904 := hp (pLen dj < 4611686018427387904) (by simp)
  have h3 : ∀ q ∈ dj, pLen q.2.2.1 < 4611686018427387904 ∧ pLen q.2.2.2.1 < 4611686018427387904 := hp (∀ q ∈ dj, pLen q.2.2.1 < 4611686018427387904 ∧ pLen q.2.2.2.1 < 4611686018427387904) (by simp)
  clear hp
  delta Call4_VC
  refine call_pre (cn := cn) (cl := cl) (cp := cp) (l := l) (m := m) (dn := dn) (dj := dj) (r := r) (xk := 4) (xn := xn) (xl := xl) (xy := xy) (xv := xv) h1 h2 h3 _ _ fun hz hpl hb => ?_
  have hE : calE (cn, cl, cp, ()) l m (dn, dj, ()) ((4 : Int), xn, xl, xy, xv, ()) = 0 := by rw [calE_kind hb]; rfl
  refine call_ref (cn := cn) (cl := cl) (cp := cp) (l := l) (m := m) (dn := dn) (dj := dj) (r := r) (xk := 4) (xn := xn) (xl := xl) (xy := xy) (xv := xv) h2 hz hE (by rfl) _ fun i hI hi e0 => ?_
  exact call_commit hz hE hI hi e0
theorem Call5_ok : Meets Try.prog (fun _ => none) 10 cCall5 := Call5_meets (kkbeginN_ok cCheck_ok cownN_ok) (kkrefuse_ok above_ok (kkplace_ok indexJ_ok)) kkreply_ok (kkplace_ok indexJ_ok) (kkendN_ok kksend_ok (kksites_ok hasN_ok sort_ok) (kkdrop_ok delJ_ok)) fun cn cl cp l m dn dj r xn xl xy xv hp => by
  have h1 : pLen cl < 4611686018427387904 := hp (pLen cl < 4611686018427387904) (by simp)
  have h2 : pLen dj < 4611686018427387904 := hp (pLen dj < 4611686018427387904) (by simp)
  have h3 : ∀ q ∈ dj, pLen q.2.2.1 < 4611686018427387904 ∧ pLen q.2.2.2.1 < 4611686018427387904 := hp (∀ q ∈ dj, pLen q.2.2.1 < 4611686018427387904 ∧ pLen q.2.2.2.1 < 4611686018427387904) (by simp)
  clear hp
  delta Call5_VC
  refine call_pre (cn := cn) (cl := cl) (cp := cp) (l := l) (m := m) (dn := dn) (dj := dj) (r := r) (xk := 5) (xn := xn) (xl := xl) (xy := xy) (xv := xv) h1 h2 h3 _ _ fun hz hpl hb => ?_
  have hE : calE (cn, cl, cp, ()) l m (dn, dj, ()) ((5 : Int), xn, xl, xy, xv, ()) = 0 := by rw [calE_kind hb]; rfl
  refine call_ref (cn := cn) (cl := cl) (cp := cp) (l := l) (m := m) (dn := dn) (dj := dj) (r := r) (xk := 5) (xn := xn) (xl := xl) (xy := xy) (xv := xv) h2 hz hE (by rfl) _ fun i hI hi e0 => ?_
  exact call_roll hz hE hI hi e0
def callPr : Nat → Shape.den Call_S → List Prop
  | 0 => CallX_p
  | 1 => Call1_p
  | 2 => Call2_p
  | 3 => Call3_p
  | 4 => Call4_p
  | _ => Call5_p
theorem call_all : ∀ i, Meets Try.prog (fun _ => none) 10 (shCtr Call_S (callPr i) [] [.agg 0 kTurn, .slot 1 false tI] Call_f)
  | 0 => CallX_ok
  | 1 => Call1_ok
  | 2 => Call2_ok
  | 3 => Call3_ok
  | 4 => Call4_ok
  | _ + 5 => Call5_ok
theorem Call_ok : Meets Try.prog (fun _ => none) 10 cCall := by
  refine meets_split callPr 0 call_all fun x hp => ?_
  have b1 : pLen x.1.1.2.1 < 4611686018427387904 := hp (pLen x.1.1.2.1 < 4611686018427387904) (by simp)
  have b2 : pLen x.1.2.2.2.1.2.1 < 4611686018427387904 := hp (pLen x.1.2.2.2.1.2.1 < 4611686018427387904) (by simp)
  have b3 : ∀ q ∈ x.1.2.2.2.1.2.1, pLen q.2.2.1 < 4611686018427387904 ∧ pLen q.2.2.2.1 < 4611686018427387904 := hp (∀ q ∈ x.1.2.2.2.1.2.1, pLen q.2.2.1 < 4611686018427387904 ∧ pLen q.2.2.2.1 < 4611686018427387904) (by simp)
  clear hp
  have key : ∀ k : Int, inF k 1 5 = false ∨ k = 1 ∨ k = 2 ∨ k = 3 ∨ k = 4 ∨ k = 5 := fun k => by
    cases h : inF k 1 5 with
    | false => exact .inl rfl
    | true => have := inF_iff.1 h; omega
  rcases key x.1.2.2.2.2.2.1.1 with hk | hk | hk | hk | hk | hk
  · exact ⟨0, fun p hq => by
      simp only [callPr, List.mem_cons, List.not_mem_nil, or_false] at hq; rcases hq with rfl | rfl | rfl | rfl <;> assumption⟩
  · exact ⟨1, fun p hq => by
      simp only [callPr, List.mem_cons, List.not_mem_nil, or_false] at hq; rcases hq with rfl | rfl | rfl | rfl <;> assumption⟩
  · exact ⟨2, fun p hq => by
      simp only [callPr, List.mem_cons, List.not_mem_nil, or_false] at hq; rcases hq with rfl | rfl | rfl | rfl <;> assumption⟩
  · exact ⟨3, fun p hq => by
      simp only [callPr, List.mem_cons, List.not_mem_nil, or_false] at hq; rcases hq with rfl | rfl | rfl | rfl <;> assumption⟩
  · exact ⟨4, fun p hq => by
      simp only [callPr, List.mem_cons, List.not_mem_nil, or_false] at hq; rcases hq with rfl | rfl | rfl | rfl <;> assumption⟩
  · exact ⟨5, fun p hq => by
      simp only [callPr, List.mem_cons, List.not_mem_nil, or_false] at hq; rcases hq with rfl | rfl | rfl | rfl <;> assumption⟩

end Go.Proofs.Ytnkcmkegjckncaa

/- The law CoordCalls: for every input it returns true and turns nothing. No condition. -/
namespace Go.Proofs.Ytnkcmkegjckncaa
open Go.RowKit Go.ChangeShapes Go.WideShapes Go.Deep

theorem coordCalls_lifted (os : Os) (started : os.Started) (H : Type) (enc : TypeId × Value → H) :
    ReturnsInHanded {} Try.checked os 4 .any (Rows.coordCallsSpec.pre6 enc Try.prog Try.f4 Rows.coordCallsRow.domain false) (Rows.coordCallsSpec.post enc Try.prog Try.f4 false true false false) := by
  refine lift_law started _ _ Rows.coordCallsSpec Try.func4 (by kernel_rfl) rfl rfl (by kernel_rfl) ?_
    (ChangeSpec.witness6 (enc := enc) (C := Try.checked) false ⟨#[], #[.agg #[.int .i64 0, .slice none 0 0, .int .i64 0], .int .i64 0, .int .i64 0, .agg #[.int .i64 0, .slice none 0 0], .int .i64 0, .agg #[.int .i64 0, .int .i64 0, .int .i64 0, .int .i64 0, .int .i64 0]], []⟩ 8 (by kernel_rfl) (by kernel_rfl) (by kernel_rfl) (by kernel_rfl)) ?_
  · intro ds hds
    match ds, hds with
    | [_, _, _, _, _, _], _ => rfl
  · refine CoordCalls_walk DeskCopyF_ok Call_ok Called_ok sameTurn_ok sameDesk_ok fun x h => ?_
    have c1 : x.1.2.1.length * 16 ≤ 140737488351232 := h.1.2.1.1
    have c2 : x.2.2.2.1.2.1.length * 80 ≤ 140737488351232 := h.2.2.2.1.2.1.1
    have k1 : x.1.2.1.length < 4611686018427387904 := lt62 c1 (by decide)
    exact coordCalls_vc _ _ _ _ _ _ _ _ _ _ _ _ _ k1 c2 fun q hq => ⟨(h.2.2.2.1.2.1.2 q hq).2.2.1.1, (h.2.2.2.1.2.1.2 q hq).2.2.2.1.1⟩

/-- CoordCalls: the statement. -/
theorem coordCalls_holds : Rows.CoordCallsSaid :=
  OpenClaim.holds_of_wide 4 Try.f4 rfl rfl rfl rfl rfl rfl rfl ⟨rfl, rfl, rfl, rfl, rfl⟩ rfl rfl rfl rfl rfl (by kernel_rfl) Try.func4 (by kernel_rfl)
    (of_decide_eq_true (by kernel_rfl)) (by unfold Func.isWrapper; rw [if_neg (of_decide_eq_false (by kernel_rfl))]; exact ⟨rfl, rfl⟩)
    (fun os started H enc _ => coordCalls_lifted os started H enc)


end Go.Proofs.Ytnkcmkegjckncaa
