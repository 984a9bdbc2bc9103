/- A client's call: what it gives back is small; the law's condition. No condition. -/
import Derived.Test.YtnkcmkegjckncaaJ9
import Derived.Test.YtnkcmkegjckncaaJ8

/- The document's call of a client meets its contract. No condition. -/
namespace Go.Proofs.Ytnkcmkegjckncaa
open Go.RowKit

theorem beg_zero {c : CfgD} {l m : Int} {d : DeskD} (h : begE c l m d = 0) : deskF c d = 0 ∧ placeF c l = true := by
  unfold begE at h
  cases h1 : pEq (deskF c d) 0 with
  | false => rw [h1, cond_false] at h; rw [h] at h1; cases h1
  | true =>
    refine ⟨by simpa [pEq] using h1, ?_⟩
    rw [h1, cond_true] at h
    cases h2 : placeF c l with
    | true => rfl
    | false => rw [h2, cond_false] at h; cases h
theorem called_pre {cn : Int} {cl : List LabD} {cp l m dn : Int} {dj : List JobD} {r xk xn xl xy xv : Int} (h1 : pLen cl < 4611686018427387904) (h2 : pLen dj < 4611686018427387904) (h3 : ∀ q ∈ dj, pLen q.2.2.1 < 4611686018427387904 ∧ pLen q.2.2.2.1 < 4611686018427387904) (R R' : Prop)
    (hk : inF xk 1 5 = true) (hR : deskF (cn, cl, cp, ()) (dn, dj, ()) = 0 → placeF (cn, cl, cp, ()) l = true → begE (cn, cl, cp, ()) l m (dn, dj, ()) = 0 → R) :
    pLen cl < 4611686018427387904 ∧ pLen dj < 4611686018427387904 ∧ (∀ q ∈ dj, pLen q.2.2.1 < 4611686018427387904 ∧ pLen q.2.2.2.1 < 4611686018427387904) ∧ bif pEq (begE (cn, cl, cp, ()) l m (dn, dj, ())) 0 then (bif pNot (inF xk 1 5) then (noTurn, (3 : Int), ()) = (calT (cn, cl, cp, ()) l m (dn, dj, ()) r (xk, xn, xl, xy, xv, ()), calE (cn, cl, cp, ()) l m (dn, dj, ()) (xk, xn, xl, xy, xv, ()), ())
      else bif pNe (begE (cn, cl, cp, ()) l m (dn, dj, ())) 0 then (noTurn, (begE (cn, cl, cp, ()) l m (dn, dj, ())), ()) = (calT (cn, cl, cp, ()) l m (dn, dj, ()) r (xk, xn, xl, xy, xv, ()), calE (cn, cl, cp, ()) l m (dn, dj, ()) (xk, xn, xl, xy, xv, ()), ()) else pRoom (pLen dj) 80 ∧ (∀ q ∈ dj, pRoom (pLen q.2.2.1) 56 ∧ pRoom (pLen q.2.2.2.1) 8) ∧ pLen dj < 4611686018427387904 ∧ R) else bif pNe (begE (cn, cl, cp, ()) l m (dn, dj, ())) 0 then (noTurn, (begE (cn, cl, cp, ()) l m (dn, dj, ())), ()) = (calT (cn, cl, cp, ()) l m (dn, dj, ()) r (xk, xn, xl, xy, xv, ()), calE (cn, cl, cp, ()) l m (dn, dj, ()) (xk, xn, xl, xy, xv, ()), ()) else R' := by
  have no : (begE (cn, cl, cp, ()) l m (dn, dj, ())) ≠ 0 → (noTurn, (begE (cn, cl, cp, ()) l m (dn, dj, ())), ()) = (calT (cn, cl, cp, ()) l m (dn, dj, ()) r (xk, xn, xl, xy, xv, ()), calE (cn, cl, cp, ()) l m (dn, dj, ()) (xk, xn, xl, xy, xv, ()), ()) := fun he => by
    have h := calE_beg (x := (xk, xn, xl, xy, xv, ())) he
    rw [calT_no (by rw [h]; exact he), h]
  refine ⟨h1, h2, h3, bif_ok (fun b => bif_ok (fun c => ?_) fun _ => bif_ok (fun c => no (by simpa [pNe] using c)) fun _ => ?_) fun b => bif_ok (fun c => no (by simpa [pNe] using c)) fun c => ?_⟩
  · rw [hk] at c; cases c
  · have hb : (begE (cn, cl, cp, ()) l m (dn, dj, ())) = 0 := by simpa [pEq] using b
    obtain ⟨hz, hpl⟩ := beg_zero hb
    have hrm := rooms_ok hz
    exact ⟨hrm.1, hrm.2, h2, hR hz hpl hb⟩
  · have c : (begE (cn, cl, cp, ()) l m (dn, dj, ())) = 0 := by simpa [pNe] using c
    rw [c] at b; cases b
theorem called_ref {cn : Int} {cl : List LabD} {cp l m dn : Int} {dj : List JobD} {r xk xn xl xy xv : Int} (h1 : pLen cl < 4611686018427387904) (h2 : pLen dj < 4611686018427387904) (h3 : ∀ q ∈ dj, pLen q.2.2.1 < 4611686018427387904 ∧ pLen q.2.2.2.1 < 4611686018427387904) (hpl : placeF (cn, cl, cp, ()) l = true) (hE : calE (cn, cl, cp, ()) l m (dn, dj, ()) (xk, xn, xl, xy, xv, ()) = 0) (k1 : pEq xk 1 = false) (T : Prop)
    (hT : ∀ i : Nat, idxKeyJ dj xn = (i : Int) → i < dj.length → (pGet tyJob dj i).1 = xn → faultC (cn, cl, cp, ()) l (dn, dj, ()) (xk, xn, xl, xy, xv, ()) = 0 → T) :
    pLen cl < 4611686018427387904 ∧ pLen dj < 4611686018427387904 ∧ (∀ q ∈ dj, pLen q.2.2.1 < 4611686018427387904 ∧ pLen q.2.2.2.1 < 4611686018427387904) ∧ placeF (cn, cl, cp, ()) l = true ∧
      bif pNe (faultC (cn, cl, cp, ()) l (dn, dj, ()) (xk, xn, xl, xy, xv, ())) 0 then pRoom (pPlus (pLen ([] : List RepD)) (pLen [(m, xk, xn, xy, (0 : Int), faultC (cn, cl, cp, ()) l (dn, dj, ()) (xk, xn, xl, xy, xv, ()), ())])) 48 ∧ ((dn, dj, ([] : List MsgD), ([] : List RecD), pApp ([] : List RepD) [(m, xk, xn, xy, (0 : Int), faultC (cn, cl, cp, ()) l (dn, dj, ()) (xk, xn, xl, xy, xv, ()), ())], (0 : Int), (0 : Int), ()), (0 : Int), ()) = (calT (cn, cl, cp, ()) l m (dn, dj, ()) r (xk, xn, xl, xy, xv, ()), calE (cn, cl, cp, ()) l m (dn, dj, ()) (xk, xn, xl, xy, xv, ()), ())
      else pLen dj < 4611686018427387904 ∧ pIn (idxKeyJ dj xn) (pLen dj) ∧ T := by
  refine ⟨h1, h2, h3, hpl, bif_ok (fun c => ⟨app_room (xs := ([] : List RepD)) (by decide), ?_⟩) fun c => ?_⟩
  · rw [calT_err hE k1 (by simpa [pNe] using c) rfl, hE]; rfl
  · have hF : faultC (cn, cl, cp, ()) l (dn, dj, ()) (xk, xn, xl, xy, xv, ()) = 0 := by simpa [pNe] using c
    have c1 : pLt (idxKeyJ dj xn) 0 = false := by
      cases h : pLt (idxKeyJ dj xn) 0 with
      | false => rfl
      | true => rw [fault_six h] at hF; cases hF
    obtain ⟨i, hI, hi, hn⟩ := find_at c1
    exact ⟨h2, by rw [hI]; exact pIn_coe.2 hi, hT i hI hi hn hF⟩
theorem writes_vc (ts : List TaskD) (Fin : Int × Bool × Unit → Prop) (hts : ts.length ≤ 10) (hF : Fin ((ts.length : Int), anyUpto (writeAt ts) ts.length, ())) :
    writesCInv ts ((0 : Int), false, ()) ∧ ∀ (y : kden false tI × kden false .bool × PUnit), writesCInv ts y → bif pLt y.1 (pInt (pLen ts)) then (bif y.2.1 then writesCInv ts (pAdd .i64 y.1 1, true, ()) ∧ Nat.le (Nat.succ (writesCMu ts (pAdd .i64 y.1 1, true, ()))) (writesCMu ts y)
      else pIn y.1 (pLen ts) ∧ writesCInv ts (pAdd .i64 y.1 1, (pGet tyTask ts (pNat y.1)).1, ()) ∧ Nat.le (Nat.succ (writesCMu ts (pAdd .i64 y.1 1, (pGet tyTask ts (pNat y.1)).1, ()))) (writesCMu ts y)) else Fin y := by
  refine ⟨StepInv.start rfl, fun y hy => ?_⟩
  rcases StepInv.round (show ts.length < 4611686018427387904 by omega) hy with ⟨k, rfl, hk, hb, hT⟩ | rfl
  · rw [bif_true (by rw [pLt_coe]; exact decide_eq_true hk)]
    dsimp only
    rw [pNat_coe]
    refine bif_ok (fun c => hT _ ?_) fun c => ⟨pIn_coe.2 hk, hT _ ?_⟩
    · rw [anyUpto_succ, c, Bool.true_or]
    · rw [anyUpto_succ, c, Bool.false_or]; rfl
  · rw [bif_false (by rw [pLt_coe]; exact decide_eq_false (Nat.lt_irrefl _))]
    exact hF
theorem asks_vc (q : Nat) {cn : Int} {cl : List LabD} {cp l m dn : Int} {dj : List JobD} {r xn xl xy xv : Int} (Fin : Int × Int × TurnK × Unit → Prop) (hc : 1 ≤ cn ∧ cn ≤ 4) (hts : (pGet tyJob dj (pNat (idxKeyJ dj xn))).2.2.1.length ≤ 10)
    (hF : Fin (((pGet tyJob dj (pNat (idxKeyJ dj xn))).2.2.1.length : Int), (asksN (pGet tyJob dj (pNat (idxKeyJ dj xn))).2.2.1 (pGet tyJob dj (pNat (idxKeyJ dj xn))).2.2.1.length : Int), keepTn (dn, [], [], [], xn, 0, ()) (checksM cn m xn (pGet tyJob dj (pNat (idxKeyJ dj xn))).2.2.1 (pGet tyJob dj (pNat (idxKeyJ dj xn))).2.2.1.length), ())) :
    calledCInv cn cl cp l m dn dj r xn xl xy xv ((0 : Int), (0 : Int), (dn, (), [], [], [], xn, (0 : Int), ()), ()) ∧ ∀ (y : kden false tI × kden false tI × denCells (kTurnX q) × PUnit), calledCInv cn cl cp l m dn dj r xn xl xy xv y → bif pLt y.1 (pInt (pLen (pGet tyJob dj (pNat (idxKeyJ dj xn))).2.2.1)) then pIn y.1 (pLen (pGet tyJob dj (pNat (idxKeyJ dj xn))).2.2.1) ∧
      bif (pGet tyTask (pGet tyJob dj (pNat (idxKeyJ dj xn))).2.2.1 (pNat y.1)).1 then calledCInv cn cl cp l m dn dj r xn xl xy xv (pAdd .i64 y.1 1, y.2.1, (y.2.2.1.1, (), y.2.2.1.2.2), ()) ∧ Nat.le (Nat.succ (calledCMu cn cl cp l m dn dj r xn xl xy xv (pAdd .i64 y.1 1, y.2.1, (y.2.2.1.1, (), y.2.2.1.2.2), ()))) (calledCMu cn cl cp l m dn dj r xn xl xy xv y) else bif (pGet tyTask (pGet tyJob dj (pNat (idxKeyJ dj xn))).2.2.1 (pNat y.1)).2.2.2.2.2.2.2.1 then calledCInv cn cl cp l m dn dj r xn xl xy xv (pAdd .i64 y.1 1, y.2.1, (y.2.2.1.1, (), y.2.2.1.2.2), ()) ∧ Nat.le (Nat.succ (calledCMu cn cl cp l m dn dj r xn xl xy xv (pAdd .i64 y.1 1, y.2.1, (y.2.2.1.1, (), y.2.2.1.2.2), ()))) (calledCMu cn cl cp l m dn dj r xn xl xy xv y) else pNz cn ∧ pRoom (pPlus (pLen y.2.2.1.2.2.1) (pLen [((aboutF m 3 (pRem (pGet tyTask (pGet tyJob dj (pNat (idxKeyJ dj xn))).2.2.1 (pNat y.1)).2.2.1 cn) xn).1, (aboutF m 3 (pRem (pGet tyTask (pGet tyJob dj (pNat (idxKeyJ dj xn))).2.2.1 (pNat y.1)).2.2.1 cn) xn).2.1, (aboutF m 3 (pRem (pGet tyTask (pGet tyJob dj (pNat (idxKeyJ dj xn))).2.2.1 (pNat y.1)).2.2.1 cn) xn).2.2.1, (aboutF m 3 (pRem (pGet tyTask (pGet tyJob dj (pNat (idxKeyJ dj xn))).2.2.1 (pNat y.1)).2.2.1 cn) xn).2.2.2.1, (aboutF m 3 (pRem (pGet tyTask (pGet tyJob dj (pNat (idxKeyJ dj xn))).2.2.1 (pNat y.1)).2.2.1 cn) xn).2.2.2.2.1, (pGet tyTask (pGet tyJob dj (pNat (idxKeyJ dj xn))).2.2.1 (pNat y.1)).2.1, (pGet tyTask (pGet tyJob dj (pNat (idxKeyJ dj xn))).2.2.1 (pNat y.1)).2.2.1, (aboutF m 3 (pRem (pGet tyTask (pGet tyJob dj (pNat (idxKeyJ dj xn))).2.2.1 (pNat y.1)).2.2.1 cn) xn).2.2.2.2.2.2.2.1, (pGet tyTask (pGet tyJob dj (pNat (idxKeyJ dj xn))).2.2.1 (pNat y.1)).2.2.2.2.1, (aboutF m 3 (pRem (pGet tyTask (pGet tyJob dj (pNat (idxKeyJ dj xn))).2.2.1 (pNat y.1)).2.2.1 cn) xn).2.2.2.2.2.2.2.2.2)])) 96 ∧ calledCInv cn cl cp l m dn dj r xn xl xy xv (pAdd .i64 y.1 1, pAdd .i64 y.2.1 1, (y.2.2.1.1, (), pApp y.2.2.1.2.2.1 [((aboutF m 3 (pRem (pGet tyTask (pGet tyJob dj (pNat (idxKeyJ dj xn))).2.2.1 (pNat y.1)).2.2.1 cn) xn).1, (aboutF m 3 (pRem (pGet tyTask (pGet tyJob dj (pNat (idxKeyJ dj xn))).2.2.1 (pNat y.1)).2.2.1 cn) xn).2.1, (aboutF m 3 (pRem (pGet tyTask (pGet tyJob dj (pNat (idxKeyJ dj xn))).2.2.1 (pNat y.1)).2.2.1 cn) xn).2.2.1, (aboutF m 3 (pRem (pGet tyTask (pGet tyJob dj (pNat (idxKeyJ dj xn))).2.2.1 (pNat y.1)).2.2.1 cn) xn).2.2.2.1, (aboutF m 3 (pRem (pGet tyTask (pGet tyJob dj (pNat (idxKeyJ dj xn))).2.2.1 (pNat y.1)).2.2.1 cn) xn).2.2.2.2.1, (pGet tyTask (pGet tyJob dj (pNat (idxKeyJ dj xn))).2.2.1 (pNat y.1)).2.1, (pGet tyTask (pGet tyJob dj (pNat (idxKeyJ dj xn))).2.2.1 (pNat y.1)).2.2.1, (aboutF m 3 (pRem (pGet tyTask (pGet tyJob dj (pNat (idxKeyJ dj xn))).2.2.1 (pNat y.1)).2.2.1 cn) xn).2.2.2.2.2.2.2.1, (pGet tyTask (pGet tyJob dj (pNat (idxKeyJ dj xn))).2.2.1 (pNat y.1)).2.2.2.2.1, (aboutF m 3 (pRem (pGet tyTask (pGet tyJob dj (pNat (idxKeyJ dj xn))).2.2.1 (pNat y.1)).2.2.1 cn) xn).2.2.2.2.2.2.2.2.2)], y.2.2.1.2.2.2), ()) ∧ Nat.le (Nat.succ (calledCMu cn cl cp l m dn dj r xn xl xy xv (pAdd .i64 y.1 1, pAdd .i64 y.2.1 1, (y.2.2.1.1, (), pApp y.2.2.1.2.2.1 [((aboutF m 3 (pRem (pGet tyTask (pGet tyJob dj (pNat (idxKeyJ dj xn))).2.2.1 (pNat y.1)).2.2.1 cn) xn).1, (aboutF m 3 (pRem (pGet tyTask (pGet tyJob dj (pNat (idxKeyJ dj xn))).2.2.1 (pNat y.1)).2.2.1 cn) xn).2.1, (aboutF m 3 (pRem (pGet tyTask (pGet tyJob dj (pNat (idxKeyJ dj xn))).2.2.1 (pNat y.1)).2.2.1 cn) xn).2.2.1, (aboutF m 3 (pRem (pGet tyTask (pGet tyJob dj (pNat (idxKeyJ dj xn))).2.2.1 (pNat y.1)).2.2.1 cn) xn).2.2.2.1, (aboutF m 3 (pRem (pGet tyTask (pGet tyJob dj (pNat (idxKeyJ dj xn))).2.2.1 (pNat y.1)).2.2.1 cn) xn).2.2.2.2.1, (pGet tyTask (pGet tyJob dj (pNat (idxKeyJ dj xn))).2.2.1 (pNat y.1)).2.1, (pGet tyTask (pGet tyJob dj (pNat (idxKeyJ dj xn))).2.2.1 (pNat y.1)).2.2.1, (aboutF m 3 (pRem (pGet tyTask (pGet tyJob dj (pNat (idxKeyJ dj xn))).2.2.1 (pNat y.1)).2.2.1 cn) xn).2.2.2.2.2.2.2.1, (pGet tyTask (pGet tyJob dj (pNat (idxKeyJ dj xn))).2.2.1 (pNat y.1)).2.2.2.2.1, (aboutF m 3 (pRem (pGet tyTask (pGet tyJob dj (pNat (idxKeyJ dj xn))).2.2.1 (pNat y.1)).2.2.1 cn) xn).2.2.2.2.2.2.2.2.2)], y.2.2.1.2.2.2), ()))) (calledCMu cn cl cp l m dn dj r xn xl xy xv y) else Fin y := by
  refine ⟨StepInv.start rfl, fun y hy => ?_⟩
  rcases StepInv.round (show (pGet tyJob dj (pNat (idxKeyJ dj xn))).2.2.1.length < 4611686018427387904 by omega) hy with ⟨k, rfl, hk, hb, hT⟩ | rfl
  · rw [bif_true (by rw [pLt_coe]; exact decide_eq_true hk)]
    have hl := checksM_len cn m xn (pGet tyJob dj (pNat (idxKeyJ dj xn))).2.2.1 k
    have hal := asksN_le (pGet tyJob dj (pNat (idxKeyJ dj xn))).2.2.1 k
    dsimp only [keepTn]
    rw [pNat_coe]
    have hask : ∀ b, askAt (pGet tyJob dj (pNat (idxKeyJ dj xn))).2.2.1 k = b → asksN (pGet tyJob dj (pNat (idxKeyJ dj xn))).2.2.1 (k + 1) = cond b (asksN (pGet tyJob dj (pNat (idxKeyJ dj xn))).2.2.1 k + 1) (asksN (pGet tyJob dj (pNat (idxKeyJ dj xn))).2.2.1 k) ∧ checksM cn m xn (pGet tyJob dj (pNat (idxKeyJ dj xn))).2.2.1 (k + 1) = cond b (checksM cn m xn (pGet tyJob dj (pNat (idxKeyJ dj xn))).2.2.1 k ++ [checkM cn m xn (pGet tyTask (pGet tyJob dj (pNat (idxKeyJ dj xn))).2.2.1 k)]) (checksM cn m xn (pGet tyJob dj (pNat (idxKeyJ dj xn))).2.2.1 k) := by
      intro b hb
      subst hb
      exact ⟨rfl, rfl⟩
    refine ⟨pIn_coe.2 hk, bif_ok (fun c1 => hT _ ?_) fun c1 => bif_ok (fun c2 => hT _ ?_) fun c2 => ⟨nz_of hc.1, app_room (by omega), hT _ ?_⟩⟩
    · obtain ⟨u1, u2⟩ := hask false (by unfold askAt; rw [c1]; rfl)
      rw [u1, u2, cond_false, cond_false]
      rfl
    · obtain ⟨u1, u2⟩ := hask false (by unfold askAt; rw [c1, c2]; rfl)
      rw [u1, u2, cond_false, cond_false]
      rfl
    · obtain ⟨u1, u2⟩ := hask true (by unfold askAt; rw [c1, c2]; rfl)
      rw [u1, u2, cond_true, cond_true, pAdd1 (k := asksN (pGet tyJob dj (pNat (idxKeyJ dj xn))).2.2.1 k) (by omega)]
      rfl
  · rw [bif_false (by rw [pLt_coe]; exact decide_eq_false (Nat.lt_irrefl _))]
    exact hF

set_option maxHeartbeats 4000000 in
theorem CalledX_ok : Meets Try.prog (fun _ => none) 11 cCalledX := CalledX_meets deskFault_ok In_ok fun cn cl cp l m dn dj r xk xn xl xy xv hp => by
  have h1 : pLen cl < 4611686018427387904 := hp (pLen cl < 4611686018427387904) (by simp)
  have h2 : pLen dj < 4611686018427387904 := hp (pLen dj < 4611686018427387904) (by simp)
  have h3 : ∀ q ∈ dj, pLen q.2.2.1 < 4611686018427387904 ∧ pLen q.2.2.2.1 < 4611686018427387904 := hp (∀ q ∈ dj, pLen q.2.2.1 < 4611686018427387904 ∧ pLen q.2.2.2.1 < 4611686018427387904) (by simp)
  have hx : inF xk 1 5 = false := hp (inF xk 1 5 = false) (by simp)
  clear hp
  delta CalledX_VC
  have no : (begE (cn, cl, cp, ()) l m (dn, dj, ())) ≠ 0 → (noTurn, (begE (cn, cl, cp, ()) l m (dn, dj, ())), ()) = (calT (cn, cl, cp, ()) l m (dn, dj, ()) r (xk, xn, xl, xy, xv, ()), calE (cn, cl, cp, ()) l m (dn, dj, ()) (xk, xn, xl, xy, xv, ()), ()) := fun he => by
    have h := calE_beg (x := (xk, xn, xl, xy, xv, ())) he
    rw [calT_no (by rw [h]; exact he), h]
  refine ⟨h1, h2, h3, bif_ok (fun b => bif_ok (fun c => ?_) fun c => ?_) fun b => bif_ok (fun c => no (by simpa [pNe] using c)) fun c => ?_⟩
  · have hb : (begE (cn, cl, cp, ()) l m (dn, dj, ())) = 0 := by simpa [pEq] using b
    have hE : calE (cn, cl, cp, ()) l m (dn, dj, ()) (xk, xn, xl, xy, xv, ()) = 3 := by rw [calE_kind hb]; show cond (inF xk 1 5) (0 : Int) 3 = 3; rw [hx]; rfl
    show (noTurn, (3 : Int), ()) = (calT (cn, cl, cp, ()) l m (dn, dj, ()) r (xk, xn, xl, xy, xv, ()), calE (cn, cl, cp, ()) l m (dn, dj, ()) (xk, xn, xl, xy, xv, ()), ())
    rw [calT_no (by rw [hE]; decide), hE]
  · rw [hx] at c; cases c
  · have c : (begE (cn, cl, cp, ()) l m (dn, dj, ())) = 0 := by simpa [pNe] using c
    have b : pEq (begE (cn, cl, cp, ()) l m (dn, dj, ())) 0 = false := b
    rw [c] at b; cases b
set_option maxHeartbeats 4000000 in
theorem Called1_ok : Meets Try.prog (fun _ => none) 11 cCalled1 := Called1_meets deskFault_ok In_ok DeskCopyN_ok fun cn cl cp l m dn dj r xn xl xy xv hp => by
  have h1 : pLen cl < 4611686018427387904 := hp (pLen cl < 4611686018427387904) (by simp)
  have h2 : pLen dj < 4611686018427387904 := hp (pLen dj < 4611686018427387904) (by simp)
  have h3 : ∀ q ∈ dj, pLen q.2.2.1 < 4611686018427387904 ∧ pLen q.2.2.2.1 < 4611686018427387904 := hp (∀ q ∈ dj, pLen q.2.2.1 < 4611686018427387904 ∧ pLen q.2.2.2.1 < 4611686018427387904) (by simp)
  clear hp
  delta Called1_VC
  refine called_pre (cn := cn) (cl := cl) (cp := cp) (l := l) (m := m) (dn := dn) (dj := dj) (r := r) (xk := 1) (xn := xn) (xl := xl) (xy := xy) (xv := xv) h1 h2 h3 _ _ (by rfl) fun hz hpl hb => ?_
  have hE : calE (cn, cl, cp, ()) l m (dn, dj, ()) ((1 : Int), xn, xl, xy, xv, ()) = 0 := by rw [calE_kind hb]; rfl
  have hn6 : dj.length ≤ 6 := (deskF_zero hz).2.1
  have hg : pGe (pInt dj.length) 6 = pEq (pInt dj.length) 6 := ge_top (by unfold pInt; omega)
  have fb : ∀ T : TurnD, T = beginT m (dn, dj, ()) r → (T, (0 : Int), ()) = (calT (cn, cl, cp, ()) l m (dn, dj, ()) r ((1 : Int), xn, xl, xy, xv, ()), calE (cn, cl, cp, ()) l m (dn, dj, ()) ((1 : Int), xn, xl, xy, xv, ()), ()) := fun T h => by
    rw [calT_yes hE, hE, h]; rfl
  have tt : (pEq (pInt dj.length) 6 || (pGt dn 1048576 || pLt r 600)) = true → (Called1_t2 cn cl cp l m dn dj r xn xl xy xv) := fun h => ⟨app_room (xs := ([] : List RepD)) (by decide), fb _ (by unfold beginT; dsimp only; rw [h]; rfl)⟩
  refine bif_ok (fun a => tt (by rw [← hg, show pGe (pInt dj.length) 6 = true from a]; rfl)) fun a => bif_ok (fun b => tt (by rw [b]; simp)) fun b => bif_ok (fun c => tt (by rw [c]; simp)) fun c =>
    ⟨app_room (by omega), app_room (xs := ([] : List RecD)) (by decide), app_room (xs := ([] : List RepD)) (by decide), fb _ ?_⟩
  have hc : (pEq (pInt dj.length) 6 || (pGt dn 1048576 || pLt r 600)) = false := by rw [← hg, show pGe (pInt dj.length) 6 = false from a, b, c]; rfl
  unfold beginT; dsimp only; rw [hc]; rfl
set_option maxHeartbeats 4000000 in
theorem Called2_ok : Meets Try.prog (fun _ => none) 11 cCalled2 := Called2_meets deskFault_ok In_ok DeskCopyN_ok callFault_ok jobAt_ok about_ok fun cn cl cp l m dn dj r xn xl xy xv hp => by
  have h1 : pLen cl < 4611686018427387904 := hp (pLen cl < 4611686018427387904) (by simp)
  have h2 : pLen dj < 4611686018427387904 := hp (pLen dj < 4611686018427387904) (by simp)
  have h3 : ∀ q ∈ dj, pLen q.2.2.1 < 4611686018427387904 ∧ pLen q.2.2.2.1 < 4611686018427387904 := hp (∀ q ∈ dj, pLen q.2.2.1 < 4611686018427387904 ∧ pLen q.2.2.2.1 < 4611686018427387904) (by simp)
  clear hp
  delta Called2_VC
  refine called_pre (cn := cn) (cl := cl) (cp := cp) (l := l) (m := m) (dn := dn) (dj := dj) (r := r) (xk := 2) (xn := xn) (xl := xl) (xy := xy) (xv := xv) h1 h2 h3 _ _ (by rfl) fun hz hpl hb => ?_
  have hE : calE (cn, cl, cp, ()) l m (dn, dj, ()) ((2 : Int), xn, xl, xy, xv, ()) = 0 := by rw [calE_kind hb]; rfl
  refine called_ref (cn := cn) (cl := cl) (cp := cp) (l := l) (m := m) (dn := dn) (dj := dj) (r := r) (xk := 2) (xn := xn) (xl := xl) (xy := xy) (xv := xv) h1 h2 h3 hpl hE (by rfl) _ fun i hI hi hn hF => ?_
  have hj := jobs_ok hz (pGet tyJob dj i) (by rw [pGet_lt (t := tyJob) hi]; exact List.getElem_mem hi)
  have hcs := (deskF_zero hz).1
  have hn6 : dj.length ≤ 6 := (deskF_zero hz).2.1
  have hcal := calT_done (r := r) hE (by rfl) hF hI
  have fin : ∀ T : TurnD, T = doneT (cn, cl, cp, ()) l m (dn, dj, ()) ((2 : Int), xn, xl, xy, xv, ()) i (pGet tyJob dj i) → (T, (0 : Int), ()) = (Called2_v2 cn cl cp l m dn dj r xn xl xy xv) := fun T h => by
    show (T, (0 : Int), ()) = (calT (cn, cl, cp, ()) l m (dn, dj, ()) r ((2 : Int), xn, xl, xy, xv, ()), calE (cn, cl, cp, ()) l m (dn, dj, ()) ((2 : Int), xn, xl, xy, xv, ()), ())
    rw [hcal, hE, h]
  have q8 : (Called2_v8 dj xn) = pGet tyJob dj i := by show pGet tyJob dj (pNat (idxKeyJ dj xn)) = _; rw [hI, pNat_coe]
  have qd : pSet dj (pNat (idxKeyJ dj xn)) (Called2_v8 dj xn) = dj := pSet_get (t := tyJob)
  clear hcal
  obtain ⟨j, hjj⟩ : ∃ j : JobD, j = pGet tyJob dj i := ⟨_, rfl⟩
  rw [← hjj] at hj fin q8 hn
  have hts : ((Called2_v8 dj xn)).2.2.1.length ≤ 10 := by rw [q8]; exact hj.2.1
  have hin : pIn (idxKeyJ dj xn) (pLen dj) := by rw [hI]; exact pIn_coe.2 hi
  have q9 : (Called2_v9 dj xn) = pAdd .i64 j.2.2.2.2.1 1 := by delta Called2_v9; rw [q8]
  have q10 : (Called2_v10 dj xn xl xy) = [(false, xl, xy, (0 : Int), (0 : Int), pAdd .i64 j.2.2.2.2.1 1, false, false, ())] := by delta Called2_v10; rw [q9] <;> rfl
  have q11 : (Called2_v11 cn m dj xn xl xy) = [((1 : Int), m, pRem xy cn, m, xn, xl, xy, (0 : Int), (0 : Int), pAdd .i64 j.2.2.2.2.1 1, false, (0 : Int), ())] := by delta Called2_v11; rw [q9] <;> rfl
  have q12 : (Called2_v12 dj xn) = (j.1, j.2.1, j.2.2.1, j.2.2.2.1, pAdd .i64 j.2.2.2.2.1 1, (0 : Int), ()) := by delta Called2_v12; rw [q8, q9]
  have q13 : (Called2_v13 cn cl cp l m dn dj r xn xl xy xv) = (j.1, j.2.1, j.2.2.1, j.2.2.2.1, pAdd .i64 j.2.2.2.2.1 1, (0 : Int), ()) := by delta Called2_v13; rw [q12, hI, pNat_coe, pGet_set_eq (t := tyJob) hi]
  have hd : doneT (cn, cl, cp, ()) l m (dn, dj, ()) ((2 : Int), xn, xl, xy, xv, ()) i j = askT (dn, dj, ()) i j (false, xl, xy, (0 : Int), (0 : Int), pAdd .i64 j.2.2.2.2.1 1, false, false, ()) ((1 : Int), m, pRem xy cn, m, xn, xl, xy, (0 : Int), (0 : Int), pAdd .i64 j.2.2.2.2.1 1, false, (0 : Int), ()) := by rw [← hn]; rfl
  refine ⟨app_room (by omega), hin, rfl, nz_of hcs.1, app_room (xs := ([] : List MsgD)) (by decide), fin _ (turn_to hd (by rfl) ?_ ?_ (by rfl) (by rfl) (by rfl) (by rfl))⟩
  · show pSet (pSet dj (pNat (idxKeyJ dj xn)) (Called2_v12 dj xn)) (pNat (idxKeyJ dj xn)) (((Called2_v13 cn cl cp l m dn dj r xn xl xy xv)).1, ((Called2_v13 cn cl cp l m dn dj r xn xl xy xv)).2.1, pApp ((Called2_v8 dj xn)).2.2.1 (Called2_v10 dj xn xl xy), ((Called2_v8 dj xn)).2.2.2.1, ((Called2_v13 cn cl cp l m dn dj r xn xl xy xv)).2.2.2.2) = _
    rw [q12, q13, q8, q10, hI, pNat_coe, pSet_pSet]
    try rfl
  · show pApp ([] : List MsgD) (Called2_v11 cn m dj xn xl xy) = _
    rw [q11] <;> rfl
set_option maxHeartbeats 4000000 in
theorem Called3_ok : Meets Try.prog (fun _ => none) 11 cCalled3 := Called3_meets deskFault_ok In_ok DeskCopyN_ok callFault_ok jobAt_ok about_ok fun cn cl cp l m dn dj r xn xl xy xv hp => by
  have h1 : pLen cl < 4611686018427387904 := hp (pLen cl < 4611686018427387904) (by simp)
  have h2 : pLen dj < 4611686018427387904 := hp (pLen dj < 4611686018427387904) (by simp)
  have h3 : ∀ q ∈ dj, pLen q.2.2.1 < 4611686018427387904 ∧ pLen q.2.2.2.1 < 4611686018427387904 := hp (∀ q ∈ dj, pLen q.2.2.1 < 4611686018427387904 ∧ pLen q.2.2.2.1 < 4611686018427387904) (by simp)
  clear hp
  delta Called3_VC
  refine called_pre (cn := cn) (cl := cl) (cp := cp) (l := l) (m := m) (dn := dn) (dj := dj) (r := r) (xk := 3) (xn := xn) (xl := xl) (xy := xy) (xv := xv) h1 h2 h3 _ _ (by rfl) fun hz hpl hb => ?_
  have hE : calE (cn, cl, cp, ()) l m (dn, dj, ()) ((3 : Int), xn, xl, xy, xv, ()) = 0 := by rw [calE_kind hb]; rfl
  refine called_ref (cn := cn) (cl := cl) (cp := cp) (l := l) (m := m) (dn := dn) (dj := dj) (r := r) (xk := 3) (xn := xn) (xl := xl) (xy := xy) (xv := xv) h1 h2 h3 hpl hE (by rfl) _ fun i hI hi hn hF => ?_
  have hj := jobs_ok hz (pGet tyJob dj i) (by rw [pGet_lt (t := tyJob) hi]; exact List.getElem_mem hi)
  have hcs := (deskF_zero hz).1
  have hn6 : dj.length ≤ 6 := (deskF_zero hz).2.1
  have hcal := calT_done (r := r) hE (by rfl) hF hI
  have fin : ∀ T : TurnD, T = doneT (cn, cl, cp, ()) l m (dn, dj, ()) ((3 : Int), xn, xl, xy, xv, ()) i (pGet tyJob dj i) → (T, (0 : Int), ()) = (Called3_v2 cn cl cp l m dn dj r xn xl xy xv) := fun T h => by
    show (T, (0 : Int), ()) = (calT (cn, cl, cp, ()) l m (dn, dj, ()) r ((3 : Int), xn, xl, xy, xv, ()), calE (cn, cl, cp, ()) l m (dn, dj, ()) ((3 : Int), xn, xl, xy, xv, ()), ())
    rw [hcal, hE, h]
  have q8 : (Called3_v8 dj xn) = pGet tyJob dj i := by show pGet tyJob dj (pNat (idxKeyJ dj xn)) = _; rw [hI, pNat_coe]
  have qd : pSet dj (pNat (idxKeyJ dj xn)) (Called3_v8 dj xn) = dj := pSet_get (t := tyJob)
  clear hcal
  obtain ⟨j, hjj⟩ : ∃ j : JobD, j = pGet tyJob dj i := ⟨_, rfl⟩
  rw [← hjj] at hj fin q8 hn
  have hts : ((Called3_v8 dj xn)).2.2.1.length ≤ 10 := by rw [q8]; exact hj.2.1
  have hin : pIn (idxKeyJ dj xn) (pLen dj) := by rw [hI]; exact pIn_coe.2 hi
  have q9 : (Called3_v9 dj xn) = pAdd .i64 j.2.2.2.2.1 1 := by delta Called3_v9; rw [q8]
  have q10 : (Called3_v10 l dj xn xy xv) = [(true, l, xy, xv, (0 : Int), pAdd .i64 j.2.2.2.2.1 1, false, false, ())] := by delta Called3_v10; rw [q9] <;> rfl
  have q11 : (Called3_v11 cn m dj xn xy xv) = [((2 : Int), m, pRem xy cn, m, xn, (0 : Int), xy, xv, (0 : Int), pAdd .i64 j.2.2.2.2.1 1, false, (0 : Int), ())] := by delta Called3_v11; rw [q9] <;> rfl
  have q12 : (Called3_v12 dj xn) = (j.1, j.2.1, j.2.2.1, j.2.2.2.1, pAdd .i64 j.2.2.2.2.1 1, (0 : Int), ()) := by delta Called3_v12; rw [q8, q9]
  have q13 : (Called3_v13 cn cl cp l m dn dj r xn xl xy xv) = (j.1, j.2.1, j.2.2.1, j.2.2.2.1, pAdd .i64 j.2.2.2.2.1 1, (0 : Int), ()) := by delta Called3_v13; rw [q12, hI, pNat_coe, pGet_set_eq (t := tyJob) hi]
  have hd : doneT (cn, cl, cp, ()) l m (dn, dj, ()) ((3 : Int), xn, xl, xy, xv, ()) i j = askT (dn, dj, ()) i j (true, l, xy, xv, (0 : Int), pAdd .i64 j.2.2.2.2.1 1, false, false, ()) ((2 : Int), m, pRem xy cn, m, xn, (0 : Int), xy, xv, (0 : Int), pAdd .i64 j.2.2.2.2.1 1, false, (0 : Int), ()) := by rw [← hn]; rfl
  refine ⟨app_room (by omega), hin, rfl, nz_of hcs.1, app_room (xs := ([] : List MsgD)) (by decide), fin _ (turn_to hd (by rfl) ?_ ?_ (by rfl) (by rfl) (by rfl) (by rfl))⟩
  · show pSet (pSet dj (pNat (idxKeyJ dj xn)) (Called3_v12 dj xn)) (pNat (idxKeyJ dj xn)) (((Called3_v13 cn cl cp l m dn dj r xn xl xy xv)).1, ((Called3_v13 cn cl cp l m dn dj r xn xl xy xv)).2.1, pApp ((Called3_v8 dj xn)).2.2.1 (Called3_v10 l dj xn xy xv), ((Called3_v8 dj xn)).2.2.2.1, ((Called3_v13 cn cl cp l m dn dj r xn xl xy xv)).2.2.2.2) = _
    rw [q12, q13, q8, q10, hI, pNat_coe, pSet_pSet]
    try rfl
  · show pApp ([] : List MsgD) (Called3_v11 cn m dj xn xy xv) = _
    rw [q11] <;> rfl
set_option maxHeartbeats 4000000 in
theorem Called4_ok : Meets Try.prog (fun _ => none) 11 cCalled4 := Called4_meets deskFault_ok In_ok DeskCopyN_ok callFault_ok jobAt_ok about_ok (kkcommitted_ok hands_ok without_ok intsCopy_ok (kktoldN_ok about_ok)) fun cn cl cp l m dn dj r xn xl xy xv hp => by
  have h1 : pLen cl < 4611686018427387904 := hp (pLen cl < 4611686018427387904) (by simp)
  have h2 : pLen dj < 4611686018427387904 := hp (pLen dj < 4611686018427387904) (by simp)
  have h3 : ∀ q ∈ dj, pLen q.2.2.1 < 4611686018427387904 ∧ pLen q.2.2.2.1 < 4611686018427387904 := hp (∀ q ∈ dj, pLen q.2.2.1 < 4611686018427387904 ∧ pLen q.2.2.2.1 < 4611686018427387904) (by simp)
  clear hp
  delta Called4_VC
  refine called_pre (cn := cn) (cl := cl) (cp := cp) (l := l) (m := m) (dn := dn) (dj := dj) (r := r) (xk := 4) (xn := xn) (xl := xl) (xy := xy) (xv := xv) h1 h2 h3 _ _ (by rfl) fun hz hpl hb => ?_
  have hE : calE (cn, cl, cp, ()) l m (dn, dj, ()) ((4 : Int), xn, xl, xy, xv, ()) = 0 := by rw [calE_kind hb]; rfl
  refine called_ref (cn := cn) (cl := cl) (cp := cp) (l := l) (m := m) (dn := dn) (dj := dj) (r := r) (xk := 4) (xn := xn) (xl := xl) (xy := xy) (xv := xv) h1 h2 h3 hpl hE (by rfl) _ fun i hI hi hn hF => ?_
  have hj := jobs_ok hz (pGet tyJob dj i) (by rw [pGet_lt (t := tyJob) hi]; exact List.getElem_mem hi)
  have hcs := (deskF_zero hz).1
  have hn6 : dj.length ≤ 6 := (deskF_zero hz).2.1
  have hcal := calT_done (r := r) hE (by rfl) hF hI
  have fin : ∀ T : TurnD, T = doneT (cn, cl, cp, ()) l m (dn, dj, ()) ((4 : Int), xn, xl, xy, xv, ()) i (pGet tyJob dj i) → (T, (0 : Int), ()) = (Called4_v2 cn cl cp l m dn dj r xn xl xy xv) := fun T h => by
    show (T, (0 : Int), ()) = (calT (cn, cl, cp, ()) l m (dn, dj, ()) r ((4 : Int), xn, xl, xy, xv, ()), calE (cn, cl, cp, ()) l m (dn, dj, ()) ((4 : Int), xn, xl, xy, xv, ()), ())
    rw [hcal, hE, h]
  have q8 : (Called4_v8 dj xn) = pGet tyJob dj i := by show pGet tyJob dj (pNat (idxKeyJ dj xn)) = _; rw [hI, pNat_coe]
  have qd : pSet dj (pNat (idxKeyJ dj xn)) (Called4_v8 dj xn) = dj := pSet_get (t := tyJob)
  clear hcal
  obtain ⟨j, hjj⟩ : ∃ j : JobD, j = pGet tyJob dj i := ⟨_, rfl⟩
  rw [← hjj] at hj fin q8 hn
  have hts : ((Called4_v8 dj xn)).2.2.1.length ≤ 10 := by rw [q8]; exact hj.2.1
  have hin : pIn (idxKeyJ dj xn) (pLen dj) := by rw [hI]; exact pIn_coe.2 hi
  have hhl := handsF_len (cn := cn) (l := l) (ts := ((Called4_v8 dj xn)).2.2.1) hcs
  have hd : doneT (cn, cl, cp, ()) l m (dn, dj, ()) ((4 : Int), xn, xl, xy, xv, ()) i j = cond (anyUpto (askAt j.2.2.1) j.2.2.1.length) (dn, pSet dj i (j.1, 2, j.2.2.1, j.2.2.2.1, j.2.2.2.2.1, 0, ()), checksM cn m xn j.2.2.1 j.2.2.1.length, [], [], xn, 0, ()) (commitW cn l m dn dj i j xn) := by rw [← hn]; rfl
  have hin' : pIn (idxKeyJ dj xn) (pLen (pSet dj (pNat (idxKeyJ dj xn)) (Called4_v8 dj xn))) := by rw [qd]; exact hin
  have q15 : (Called4_v15 dj xn) = (j.1, 2, j.2.2.1, j.2.2.2.1, j.2.2.2.2.1, 0, ()) := by delta Called4_v15; rw [q8]
  have q17 : (Called4_v17 cn cl cp l m dn dj r xn xl xy xv) = (j.1, 2, j.2.2.1, j.2.2.2.1, j.2.2.2.2.1, 0, ()) := by delta Called4_v17; rw [q15, hI, pNat_coe, pGet_set_eq (t := tyJob) hi]
  have q37 : (Called4_v37 cn cl cp l m dn dj r xn xl xy xv) = j := by delta Called4_v37; rw [qd, hI, pNat_coe]; exact hjj.symm
  have q47 : (Called4_v47 cn cl cp l m dn dj r xn xl xy xv) = pSet dj i (j.1, 3, j.2.2.1, j.2.2.2.1, j.2.2.2.2.1, 0, ()) := by delta Called4_v47; rw [qd, q37, hI, pNat_coe]
  have q48 : (Called4_v48 cn cl cp l m dn dj r xn xl xy xv) = (j.1, 3, j.2.2.1, j.2.2.2.1, j.2.2.2.2.1, 0, ()) := by delta Called4_v48; rw [q47, hI, pNat_coe, pGet_set_eq (t := tyJob) hi]
  have hwq : pSet (Called4_v47 cn cl cp l m dn dj r xn xl xy xv) (pNat (idxKeyJ dj xn)) (((Called4_v48 cn cl cp l m dn dj r xn xl xy xv)).1, ((Called4_v48 cn cl cp l m dn dj r xn xl xy xv)).2.1, ((Called4_v8 dj xn)).2.2.1, handsF cn l ((Called4_v8 dj xn)).2.2.1, ((Called4_v48 cn cl cp l m dn dj r xn xl xy xv)).2.2.2.2) = pSet dj i (j.1, 3, j.2.2.1, handsF cn l j.2.2.1, j.2.2.2.2.1, 0, ()) := by rw [q47, q48, q8, hI, pNat_coe, pSet_pSet]
  have hl47 : pLen (Called4_v47 cn cl cp l m dn dj r xn xl xy xv) = pLen (pSet dj (pNat (idxKeyJ dj xn)) (Called4_v8 dj xn)) := by rw [qd]; show ((Called4_v47 cn cl cp l m dn dj r xn xl xy xv)).length = dj.length; rw [q47, pSet_len]
  have hrep : pApp ([] : List RepD) [(m, (4 : Int), ((Called4_v37 cn cl cp l m dn dj r xn xl xy xv)).1, (0 : Int), (0 : Int), (0 : Int), ())] = [(m, 4, j.1, 0, 0, 0, ())] := by rw [q37] <;> rfl
  have h37 : ((Called4_v37 cn cl cp l m dn dj r xn xl xy xv)).1 = j.1 := by rw [q37]
  refine asks_vc 176 _ hcs hts ?_
  refine bif_ok (fun c => ⟨hin, rfl, bif_ok (fun e => ?_) fun _ => ?_⟩) fun c => ⟨hin, rfl, bif_ok (fun _ => ?_) fun e => ?_⟩
  · have c : 0 < (asksN ((Called4_v8 dj xn)).2.2.1 ((Called4_v8 dj xn)).2.2.1.length : Int) := of_decide_eq_true c
    have e : (asksN ((Called4_v8 dj xn)).2.2.1 ((Called4_v8 dj xn)).2.2.1.length : Int) = 0 := by simpa [pEq] using e
    omega
  · have c : 0 < (asksN ((Called4_v8 dj xn)).2.2.1 ((Called4_v8 dj xn)).2.2.1.length : Int) := of_decide_eq_true c
    have ca : anyUpto (askAt ((Called4_v8 dj xn)).2.2.1) ((Called4_v8 dj xn)).2.2.1.length = true := by rw [asksN_any, decide_eq_false (by omega)]; rfl
    rw [q8] at ca
    rw [ca, cond_true] at hd
    refine fin _ (turn_to hd (by rfl) ?_ ?_ (by rfl) (by rfl) (by rfl) (by rfl))
    · show pSet (pSet dj (pNat (idxKeyJ dj xn)) (Called4_v15 dj xn)) (pNat (idxKeyJ dj xn)) (((Called4_v17 cn cl cp l m dn dj r xn xl xy xv)).1, ((Called4_v17 cn cl cp l m dn dj r xn xl xy xv)).2.1, ((Called4_v8 dj xn)).2.2.1, ((Called4_v8 dj xn)).2.2.2.1, ((Called4_v17 cn cl cp l m dn dj r xn xl xy xv)).2.2.2.2) = _
      rw [q15, q17, q8, hI, pNat_coe, pSet_pSet]
    · show checksM cn m xn ((Called4_v8 dj xn)).2.2.1 ((Called4_v8 dj xn)).2.2.1.length = _
      rw [q8]
  · have c : ¬ 0 < (asksN ((Called4_v8 dj xn)).2.2.1 ((Called4_v8 dj xn)).2.2.1.length : Int) := of_decide_eq_false c
    have ca : anyUpto (askAt ((Called4_v8 dj xn)).2.2.1) ((Called4_v8 dj xn)).2.2.1.length = false := by rw [asksN_any, decide_eq_true (by omega)]; rfl
    have hms : checksM cn m xn ((Called4_v8 dj xn)).2.2.1 ((Called4_v8 dj xn)).2.2.1.length = [] := checksM_none ca
    have hmz : (checksM cn m xn ((Called4_v8 dj xn)).2.2.1 ((Called4_v8 dj xn)).2.2.1.length).length ≤ 1000000 := by rw [hms]; exact Nat.zero_le _
    rw [q8] at ca
    rw [ca, cond_false] at hd
    refine ⟨hin', rfl, inF_iff.2 hcs, Nat.lt_of_le_of_lt hts (by decide), app_room (xs := ([] : List RepD)) (by decide), bif_ok (fun e => ?_) fun e => ?_⟩
    · have e : pEq (pInt (handsF cn l ((Called4_v8 dj xn)).2.2.1).length) 0 = true := e
      rw [q8] at e
      have hd : doneT (cn, cl, cp, ()) l m (dn, dj, ()) ((4 : Int), xn, xl, xy, xv, ()) i j = (dn, pDel dj i, [], [], [(m, 4, j.1, 0, 0, 0, ())], xn, j.1, ()) := by rw [hd]; unfold commitW; rw [e]; rfl
      have hjs : pSet (pSet dj (pNat (idxKeyJ dj xn)) (Called4_v8 dj xn)) (pNat (idxKeyJ dj xn)) (((Called4_v37 cn cl cp l m dn dj r xn xl xy xv)).1, ((Called4_v37 cn cl cp l m dn dj r xn xl xy xv)).2.1, ((Called4_v8 dj xn)).2.2.1, ((Called4_v8 dj xn)).2.2.2.1, ((Called4_v37 cn cl cp l m dn dj r xn xl xy xv)).2.2.2.2) = dj := by
        rw [qd, q37, q8, hI, pNat_coe, hjj]; exact pSet_get (t := tyJob)
      refine ⟨?_, fin _ (turn_to hd (by rfl) ?_ hms (by rfl) hrep (by rfl) h37)⟩
      · show (pSet (pSet dj (pNat (idxKeyJ dj xn)) (Called4_v8 dj xn)) (pNat (idxKeyJ dj xn)) (((Called4_v37 cn cl cp l m dn dj r xn xl xy xv)).1, ((Called4_v37 cn cl cp l m dn dj r xn xl xy xv)).2.1, ((Called4_v8 dj xn)).2.2.1, ((Called4_v8 dj xn)).2.2.2.1, ((Called4_v37 cn cl cp l m dn dj r xn xl xy xv)).2.2.2.2)).length < 1000
        rw [hjs]; omega
      · show withoutF (pSet (pSet dj (pNat (idxKeyJ dj xn)) (Called4_v8 dj xn)) (pNat (idxKeyJ dj xn)) (((Called4_v37 cn cl cp l m dn dj r xn xl xy xv)).1, ((Called4_v37 cn cl cp l m dn dj r xn xl xy xv)).2.1, ((Called4_v8 dj xn)).2.2.1, ((Called4_v8 dj xn)).2.2.2.1, ((Called4_v37 cn cl cp l m dn dj r xn xl xy xv)).2.2.2.2)) (idxKeyJ dj xn) = _
        rw [hjs, hI, withoutF_del hi]
    have e : pEq (pInt (handsF cn l ((Called4_v8 dj xn)).2.2.1).length) 0 = false := e
    rw [q8] at e
    have hmsg : checksM cn m xn ((Called4_v8 dj xn)).2.2.1 ((Called4_v8 dj xn)).2.2.1.length ++ saysM m true ((Called4_v37 cn cl cp l m dn dj r xn xl xy xv)).1 (handsF cn l ((Called4_v8 dj xn)).2.2.1) = saysM m true j.1 (handsF cn l j.2.2.1) := by rw [hms, q37, q8] <;> rfl
    refine writes_vc ((Called4_v8 dj xn)).2.2.1 _ hts ?_
    refine bif_ok (fun wr => ?_) fun wr => ?_
    · have wr : anyUpto (writeAt ((Called4_v8 dj xn)).2.2.1) ((Called4_v8 dj xn)).2.2.1.length = true := wr
      rw [q8] at wr
      have hd : doneT (cn, cl, cp, ()) l m (dn, dj, ()) ((4 : Int), xn, xl, xy, xv, ()) i j = (dn, pSet dj i (j.1, 3, j.2.2.1, handsF cn l j.2.2.1, j.2.2.2.2.1, 0, ()), saysM m true j.1 (handsF cn l j.2.2.1), [(3, m, j.1, 0, 0, 0, false, handsF cn l j.2.2.1, ())], [(m, 4, j.1, 0, 0, 0, ())], xn, j.1, ()) := by rw [hd]; unfold commitW; rw [e, wr]; rfl
      refine ⟨?_, app_room (xs := ([] : List RecD)) (by decide), hin', rfl, toldX_vc 3 _ _ _ _ _ (Nat.le_trans hhl (by decide)) hmz ⟨hl47, fin _ (turn_to hd (by rfl) hwq hmsg ?_ hrep (by rfl) h37)⟩⟩
      · show (handsF cn l ((Called4_v8 dj xn)).2.2.1).length * 8 ≤ _
        omega
      · show pApp ([] : List RecD) [((3 : Int), m, ((Called4_v37 cn cl cp l m dn dj r xn xl xy xv)).1, (0 : Int), (0 : Int), (0 : Int), false, handsF cn l ((Called4_v8 dj xn)).2.2.1, ())] = _
        rw [q37, q8] <;> rfl
    · have wr : anyUpto (writeAt ((Called4_v8 dj xn)).2.2.1) ((Called4_v8 dj xn)).2.2.1.length = false := wr
      rw [q8] at wr
      have hd : doneT (cn, cl, cp, ()) l m (dn, dj, ()) ((4 : Int), xn, xl, xy, xv, ()) i j = (dn, pSet dj i (j.1, 3, j.2.2.1, handsF cn l j.2.2.1, j.2.2.2.2.1, 0, ()), saysM m true j.1 (handsF cn l j.2.2.1), [], [(m, 4, j.1, 0, 0, 0, ())], xn, j.1, ()) := by rw [hd]; unfold commitW; rw [e, wr]; rfl
      exact ⟨hin', rfl, toldX_vc 3 _ _ _ _ _ (Nat.le_trans hhl (by decide)) hmz ⟨hl47, fin _ (turn_to hd (by rfl) hwq hmsg (by rfl) hrep (by rfl) h37)⟩⟩
  · have c : ¬ 0 < (asksN ((Called4_v8 dj xn)).2.2.1 ((Called4_v8 dj xn)).2.2.1.length : Int) := of_decide_eq_false c
    have e : ¬ (asksN ((Called4_v8 dj xn)).2.2.1 ((Called4_v8 dj xn)).2.2.1.length : Int) = 0 := by simpa [pEq] using e
    omega
set_option maxHeartbeats 4000000 in
theorem Called5_ok : Meets Try.prog (fun _ => none) 11 cCalled5 := Called5_meets deskFault_ok In_ok DeskCopyN_ok callFault_ok jobAt_ok (kkendedN_ok about_ok hands_ok without_ok) fun cn cl cp l m dn dj r xn xl xy xv hp => by
  have h1 : pLen cl < 4611686018427387904 := hp (pLen cl < 4611686018427387904) (by simp)
  have h2 : pLen dj < 4611686018427387904 := hp (pLen dj < 4611686018427387904) (by simp)
  have h3 : ∀ q ∈ dj, pLen q.2.2.1 < 4611686018427387904 ∧ pLen q.2.2.2.1 < 4611686018427387904 := hp (∀ q ∈ dj, pLen q.2.2.1 < 4611686018427387904 ∧ pLen q.2.2.2.1 < 4611686018427387904) (by simp)
  clear hp
  delta Called5_VC
  refine called_pre (cn := cn) (cl := cl) (cp := cp) (l := l) (m := m) (dn := dn) (dj := dj) (r := r) (xk := 5) (xn := xn) (xl := xl) (xy := xy) (xv := xv) h1 h2 h3 _ _ (by rfl) fun hz hpl hb => ?_
  have hE : calE (cn, cl, cp, ()) l m (dn, dj, ()) ((5 : Int), xn, xl, xy, xv, ()) = 0 := by rw [calE_kind hb]; rfl
  refine called_ref (cn := cn) (cl := cl) (cp := cp) (l := l) (m := m) (dn := dn) (dj := dj) (r := r) (xk := 5) (xn := xn) (xl := xl) (xy := xy) (xv := xv) h1 h2 h3 hpl hE (by rfl) _ fun i hI hi hn hF => ?_
  have hj := jobs_ok hz (pGet tyJob dj i) (by rw [pGet_lt (t := tyJob) hi]; exact List.getElem_mem hi)
  have hcs := (deskF_zero hz).1
  have hn6 : dj.length ≤ 6 := (deskF_zero hz).2.1
  have hcal := calT_done (r := r) hE (by rfl) hF hI
  have fin : ∀ T : TurnD, T = doneT (cn, cl, cp, ()) l m (dn, dj, ()) ((5 : Int), xn, xl, xy, xv, ()) i (pGet tyJob dj i) → (T, (0 : Int), ()) = (Called5_v2 cn cl cp l m dn dj r xn xl xy xv) := fun T h => by
    show (T, (0 : Int), ()) = (calT (cn, cl, cp, ()) l m (dn, dj, ()) r ((5 : Int), xn, xl, xy, xv, ()), calE (cn, cl, cp, ()) l m (dn, dj, ()) ((5 : Int), xn, xl, xy, xv, ()), ())
    rw [hcal, hE, h]
  have q8 : (Called5_v8 dj xn) = pGet tyJob dj i := by show pGet tyJob dj (pNat (idxKeyJ dj xn)) = _; rw [hI, pNat_coe]
  have qd : pSet dj (pNat (idxKeyJ dj xn)) (Called5_v8 dj xn) = dj := pSet_get (t := tyJob)
  clear hcal
  obtain ⟨j, hjj⟩ : ∃ j : JobD, j = pGet tyJob dj i := ⟨_, rfl⟩
  rw [← hjj] at hj fin q8 hn
  have hts : ((Called5_v8 dj xn)).2.2.1.length ≤ 10 := by rw [q8]; exact hj.2.1
  have hin : pIn (idxKeyJ dj xn) (pLen dj) := by rw [hI]; exact pIn_coe.2 hi
  have hhl := handsF_len (cn := cn) (l := l) (ts := ((Called5_v8 dj xn)).2.2.1) hcs
  have hd : doneT (cn, cl, cp, ()) l m (dn, dj, ()) ((5 : Int), xn, xl, xy, xv, ()) i j = (dn, pDel dj i, saysM m false j.1 (handsF cn l j.2.2.1), [], [(m, 5, xn, 0, 0, 0, ())], 0, 0, ()) := rfl
  refine ⟨hin, rfl, inF_iff.2 hcs, Nat.lt_of_le_of_lt hts (by decide), endedX_vc 1 _ _ _ _ _ (Nat.le_trans hhl (by decide)) (Nat.zero_le _) ⟨by rw [qd]; exact Nat.lt_of_le_of_lt hn6 (by decide), app_room (xs := ([] : List RepD)) (by decide), fin _ (turn_to hd (by rfl) ?_ ?_ (by rfl) (by rfl) (by rfl) (by rfl))⟩⟩
  · show withoutF (pSet dj (pNat (idxKeyJ dj xn)) (Called5_v8 dj xn)) (idxKeyJ dj xn) = _
    rw [qd, hI, withoutF_del hi]
  · show [] ++ saysM m false ((Called5_v8 dj xn)).1 (handsF cn l ((Called5_v8 dj xn)).2.2.1) = _
    rw [q8] <;> rfl
def calledPr : Nat → Shape.den Call_S → List Prop
  | 0 => CalledX_p
  | 1 => Called1_p
  | 2 => Called2_p
  | 3 => Called3_p
  | 4 => Called4_p
  | _ => Called5_p
theorem called_all : ∀ i, Meets Try.prog (fun _ => none) 11 (shCtr Call_S (calledPr i) [] [.agg 0 kTurn, .slot 1 false tI] Call_f)
  | 0 => CalledX_ok
  | 1 => Called1_ok
  | 2 => Called2_ok
  | 3 => Called3_ok
  | 4 => Called4_ok
  | _ + 5 => Called5_ok
theorem Called_ok : Meets Try.prog (fun _ => none) 11 cCalled := by
  refine meets_split calledPr 0 called_all fun x hp => ?_
  have b1 : pLen x.1.1.2.1 < 4611686018427387904 := hp (pLen x.1.1.2.1 < 4611686018427387904) (by simp)
  have b2 : pLen x.1.2.2.2.1.2.1 < 4611686018427387904 := hp (pLen x.1.2.2.2.1.2.1 < 4611686018427387904) (by simp)
  have b3 : ∀ q ∈ x.1.2.2.2.1.2.1, pLen q.2.2.1 < 4611686018427387904 ∧ pLen q.2.2.2.1 < 4611686018427387904 := hp (∀ q ∈ x.1.2.2.2.1.2.1, pLen q.2.2.1 < 4611686018427387904 ∧ pLen q.2.2.2.1 < 4611686018427387904) (by simp)
  clear hp
  have key : ∀ k : Int, inF k 1 5 = false ∨ k = 1 ∨ k = 2 ∨ k = 3 ∨ k = 4 ∨ k = 5 := fun k => by
    cases h : inF k 1 5 with
    | false => exact .inl rfl
    | true => have := inF_iff.1 h; omega
  rcases key x.1.2.2.2.2.2.1.1 with hk | hk | hk | hk | hk | hk
  · exact ⟨0, fun p hq => by
      simp only [calledPr, List.mem_cons, List.not_mem_nil, or_false] at hq; rcases hq with rfl | rfl | rfl | rfl <;> assumption⟩
  · exact ⟨1, fun p hq => by
      simp only [calledPr, List.mem_cons, List.not_mem_nil, or_false] at hq; rcases hq with rfl | rfl | rfl | rfl <;> assumption⟩
  · exact ⟨2, fun p hq => by
      simp only [calledPr, List.mem_cons, List.not_mem_nil, or_false] at hq; rcases hq with rfl | rfl | rfl | rfl <;> assumption⟩
  · exact ⟨3, fun p hq => by
      simp only [calledPr, List.mem_cons, List.not_mem_nil, or_false] at hq; rcases hq with rfl | rfl | rfl | rfl <;> assumption⟩
  · exact ⟨4, fun p hq => by
      simp only [calledPr, List.mem_cons, List.not_mem_nil, or_false] at hq; rcases hq with rfl | rfl | rfl | rfl <;> assumption⟩
  · exact ⟨5, fun p hq => by
      simp only [calledPr, List.mem_cons, List.not_mem_nil, or_false] at hq; rcases hq with rfl | rfl | rfl | rfl <;> assumption⟩

end Go.Proofs.Ytnkcmkegjckncaa

/- A client's call: what it gives back is small; the law's condition. No condition. -/
namespace Go.Proofs.Ytnkcmkegjckncaa
open Go.RowKit

theorem small_mk {t : TurnD} (h1 : t.2.1.length ≤ 1000) (h2 : ∀ q ∈ t.2.1, q.2.2.1.length ≤ 1000 ∧ q.2.2.2.1.length ≤ 1000) (h3 : t.2.2.1.length ≤ 1000) (h4 : t.2.2.2.1.length ≤ 1000) (h5 : ∀ q ∈ t.2.2.2.1, q.2.2.2.2.2.2.2.1.length ≤ 1000) (h6 : t.2.2.2.2.1.length ≤ 1000) : TurnSmall t :=
  ⟨by omega, fun q hq => ⟨by have := (h2 q hq).1; show q.2.2.1.length < _; omega, by have := (h2 q hq).2; show q.2.2.2.1.length < _; omega⟩, by omega, by omega, fun q hq => by have := h5 q hq; show q.2.2.2.2.2.2.2.1.length < _; omega, by omega⟩
theorem mem_pSet {xs : List JobD} {i : Nat} {v q : JobD} (h : q ∈ pSet xs i v) : q ∈ xs ∨ q = v := List.mem_or_eq_of_mem_set h
theorem mem_pDel {xs : List JobD} {i : Nat} {q : JobD} (h : q ∈ pDel xs i) : q ∈ xs := by
  unfold pDel at h
  rcases List.mem_append.1 h with h | h
  · exact List.mem_of_mem_take h
  · exact List.mem_of_mem_drop h
theorem pDel_le {xs : List JobD} {i : Nat} : (pDel xs i).length ≤ xs.length := by
  unfold pDel
  rw [List.length_append, List.length_take, List.length_drop]
  omega
theorem commitW_small {cn l m n : Int} {dj : List JobD} {i : Nat} {j : JobD} {su : Int} (hc : 1 ≤ cn ∧ cn ≤ 4) (hn : dj.length ≤ 6) (hd : ∀ q ∈ dj, q.2.2.1.length ≤ 1000 ∧ q.2.2.2.1.length ≤ 1000) (hj : j.2.2.1.length ≤ 10) : TurnSmall (commitW cn l m n dj i j su) := by
  have hh := handsF_len (cn := cn) (l := l) (ts := j.2.2.1) hc
  have hs := saysM_len m true j.1 (handsF cn l j.2.2.1)
  unfold commitW
  cases pEq (pInt (handsF cn l j.2.2.1).length) 0 with
  | true => exact small_mk (Nat.le_trans pDel_le (by omega)) (fun q hq => hd q (mem_pDel hq)) (Nat.zero_le _) (Nat.zero_le _) (fun _ h => by cases h) (by show (1 : Nat) ≤ 1000; decide)
  | false =>
    refine small_mk ?_ (fun q hq => ?_) ?_ ?_ (fun q hq => ?_) (by show (1 : Nat) ≤ 1000; decide)
    · show (pSet dj i _).length ≤ 1000
      rw [pSet_len]; omega
    · rcases mem_pSet hq with h | rfl
      · exact hd q h
      · exact ⟨by show j.2.2.1.length ≤ 1000; omega, by show (handsF cn l j.2.2.1).length ≤ 1000; omega⟩
    · show (saysM m true j.1 (handsF cn l j.2.2.1)).length ≤ 1000
      omega
    · show (cond (anyUpto (writeAt j.2.2.1) j.2.2.1.length) _ _ : List RecD).length ≤ 1000
      cases anyUpto (writeAt j.2.2.1) j.2.2.1.length
      · exact Nat.zero_le _
      · show (1 : Nat) ≤ 1000; decide
    · have hq : q ∈ (cond (anyUpto (writeAt j.2.2.1) j.2.2.1.length) [((3 : Int), m, j.1, (0 : Int), (0 : Int), (0 : Int), false, handsF cn l j.2.2.1, ())] [] : List RecD) := hq
      cases h : anyUpto (writeAt j.2.2.1) j.2.2.1.length with
      | false => rw [h] at hq; cases hq
      | true =>
        rw [h, cond_true, List.mem_singleton] at hq
        subst hq
        show (handsF cn l j.2.2.1).length ≤ 1000
        omega
theorem askT_small {d : DeskD} {i : Nat} {j : JobD} {t : TaskD} {a : MsgD} (hn : d.2.1.length ≤ 6) (hd : ∀ q ∈ d.2.1, q.2.2.1.length ≤ 1000 ∧ q.2.2.2.1.length ≤ 1000) (hj : j.2.2.1.length ≤ 10) (ha : j.2.2.2.1.length ≤ 4) : TurnSmall (askT d i j t a) := by
  refine small_mk ?_ (fun q hq => ?_) (by show (1 : Nat) ≤ 1000; decide) (Nat.zero_le _) (fun _ h => by cases h) (Nat.zero_le _)
  · show (pSet d.2.1 i _).length ≤ 1000
    rw [pSet_len]; omega
  · rcases mem_pSet hq with h | rfl
    · exact hd q h
    · refine ⟨?_, by show j.2.2.2.1.length ≤ 1000; omega⟩
      show (j.2.2.1 ++ [t]).length ≤ 1000
      rw [List.length_append]
      show j.2.2.1.length + 1 ≤ 1000
      omega
theorem calT_small (c : CfgD) (l m : Int) (d : DeskD) (r : Int) (x : CalD) : TurnSmall (calT c l m d r x) := by
  obtain ⟨cn, cl, cp, ⟨⟩⟩ := c
  obtain ⟨dn, dj, ⟨⟩⟩ := d
  obtain ⟨xk, xn, xl, xy, xv, ⟨⟩⟩ := x
  by_cases hE : calE (cn, cl, cp, ()) l m (dn, dj, ()) (xk, xn, xl, xy, xv, ()) = 0
  · have hb : begE (cn, cl, cp, ()) l m (dn, dj, ()) = 0 := by
      by_cases h : begE (cn, cl, cp, ()) l m (dn, dj, ()) = 0
      · exact h
      · rw [calE_beg h] at hE; exact hE
    obtain ⟨hz, _⟩ := beg_zero hb
    have hn : dj.length ≤ 6 := (deskF_zero hz).2.1
    have hc := (deskF_zero hz).1
    have hd : ∀ q ∈ dj, q.2.2.1.length ≤ 1000 ∧ q.2.2.2.1.length ≤ 1000 := fun q hq => by
      have := jobs_ok hz q hq
      exact ⟨Nat.le_trans this.2.1 (by decide), Nat.le_trans this.2.2.1 (by decide)⟩
    rw [calT_yes hE]
    show TurnSmall (cond (pEq xk 1) (beginT m (dn, dj, ()) r) (cond (pEq (faultC (cn, cl, cp, ()) l (dn, dj, ()) (xk, xn, xl, xy, xv, ())) 0) (doneT (cn, cl, cp, ()) l m (dn, dj, ()) (xk, xn, xl, xy, xv, ()) (pNat (idxKeyJ dj xn)) (pGet tyJob dj (pNat (idxKeyJ dj xn))))
      (dn, dj, [], [], [(m, xk, xn, xy, 0, faultC (cn, cl, cp, ()) l (dn, dj, ()) (xk, xn, xl, xy, xv, ()), ())], 0, 0, ())))
    cases pEq xk 1 with
    | true =>
      rw [cond_true]
      unfold beginT
      dsimp only
      cases (pEq (pInt dj.length) 6 || (pGt dn 1048576 || pLt r 600)) with
      | true => exact small_mk (by show dj.length ≤ 1000; omega) hd (Nat.zero_le _) (Nat.zero_le _) (fun _ h => by cases h) (by show (1 : Nat) ≤ 1000; decide)
      | false =>
        refine small_mk ?_ (fun q hq => ?_) (Nat.zero_le _) (by show (1 : Nat) ≤ 1000; decide) (fun q hq => ?_) (by show (1 : Nat) ≤ 1000; decide)
        · show (dj ++ [_]).length ≤ 1000
          rw [List.length_append]
          show dj.length + 1 ≤ 1000
          omega
        · rcases List.mem_append.1 hq with h | h
          · exact hd q h
          · rw [List.mem_singleton.1 h]
            exact ⟨Nat.zero_le _, Nat.zero_le _⟩
        · rw [List.mem_singleton.1 hq]
          exact Nat.zero_le _
    | false =>
      rw [cond_false]
      cases hf : pEq (faultC (cn, cl, cp, ()) l (dn, dj, ()) (xk, xn, xl, xy, xv, ())) 0 with
      | false => exact small_mk (by show dj.length ≤ 1000; omega) hd (Nat.zero_le _) (Nat.zero_le _) (fun _ h => by cases h) (by show (1 : Nat) ≤ 1000; decide)
      | true =>
        rw [cond_true]
        have hF : faultC (cn, cl, cp, ()) l (dn, dj, ()) (xk, xn, xl, xy, xv, ()) = 0 := by simpa [pEq] using hf
        have c1 : pLt (idxKeyJ dj xn) 0 = false := by
          cases h : pLt (idxKeyJ dj xn) 0 with
          | false => rfl
          | true => rw [fault_six h] at hF; cases hF
        obtain ⟨i, hI, hi, _⟩ := find_at c1
        rw [hI, pNat_coe]
        have hj := jobs_ok hz (pGet tyJob dj i) (by rw [pGet_lt (t := tyJob) hi]; exact List.getElem_mem hi)
        generalize pGet tyJob dj i = j at hj
        have hh := handsF_len (cn := cn) (l := l) (ts := j.2.2.1) hc
        unfold doneT
        dsimp only
        cases pEq xk 2 with
        | true => exact askT_small hn hd hj.2.1 hj.2.2.1
        | false =>
          rw [cond_false]
          cases pEq xk 3 with
          | true => exact askT_small hn hd hj.2.1 hj.2.2.1
          | false =>
            rw [cond_false]
            cases pEq xk 4 with
            | true =>
              rw [cond_true]
              cases anyUpto (askAt j.2.2.1) j.2.2.1.length with
              | true =>
                refine small_mk ?_ (fun q hq => ?_) ?_ (Nat.zero_le _) (fun _ h => by cases h) (Nat.zero_le _)
                · show (pSet dj i _).length ≤ 1000
                  rw [pSet_len]; omega
                · rcases mem_pSet hq with h | rfl
                  · exact hd q h
                  · exact ⟨by show j.2.2.1.length ≤ 1000; have := hj.2.1; omega, by show j.2.2.2.1.length ≤ 1000; have := hj.2.2.1; omega⟩
                · show (checksM cn m j.1 j.2.2.1 j.2.2.1.length).length ≤ 1000
                  have := checksM_len cn m j.1 j.2.2.1 j.2.2.1.length
                  have := hj.2.1
                  omega
              | false => exact commitW_small hc hn hd hj.2.1
            | false =>
              rw [cond_false]
              refine small_mk (Nat.le_trans pDel_le (by omega)) (fun q hq => hd q (mem_pDel hq)) ?_ (Nat.zero_le _) (fun _ h => by cases h) (by show (1 : Nat) ≤ 1000; decide)
              show (saysM m false j.1 (handsF cn l j.2.2.1)).length ≤ 1000
              rw [saysM_len]; omega
  · rw [calT_no hE]; exact noTurn_small
theorem coordCalls_vc (cn : Int) (cl : List LabD) (cp l m dn : Int) (dj : List JobD) (r xk xn xl xy xv : Int) (k1 : pLen cl < 4611686018427387904) (k2 : pRoom (pLen dj) 80) (k3 : ∀ q ∈ dj, pRoom (pLen q.2.2.1) 56 ∧ pRoom (pLen q.2.2.2.1) 8) : CoordCalls_VC cn cl cp l m dn dj r xk xn xl xy xv := by
  have a2 : pLen dj < 4611686018427387904 := lt62 k2 (by decide)
  have a3 : ∀ q ∈ dj, pLen q.2.2.1 < 4611686018427387904 ∧ pLen q.2.2.2.1 < 4611686018427387904 := fun q hq => ⟨lt62 (k3 q hq).1 (by decide), lt62 (k3 q hq).2 (by decide)⟩
  obtain ⟨s1, s2, s3, s4, s5, s6⟩ := calT_small (cn, cl, cp, ()) l m (dn, dj, ()) r (xk, xn, xl, xy, xv, ())
  delta CoordCalls_VC
  refine ⟨k2, k3, a2, k1, a2, a3, k1, a2, a3, ?_⟩
  rw [bif_true (show pEq _ _ = true by simp [pEq])]
  refine ⟨s1, s2, s3, s4, s5, s6, ?_⟩
  rw [bif_true (sameTurn_refl _)]
  exact ⟨a2, a3, congrArg (·, ()) (sameDesk_refl _)⟩


end Go.Proofs.Ytnkcmkegjckncaa
