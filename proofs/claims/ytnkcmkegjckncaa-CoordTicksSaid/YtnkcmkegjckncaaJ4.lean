/- Contracts, and what the evaluator says, as plain propositions: CuV. Printed by vc.py. -/
import Derived.Test.YtnkcmkegjckncaaJ3
import Derived.Test.YtnkcmkegjckncaaJ1

/- What a turn does, piece by piece: to tell, to end. No condition. -/
namespace Go.Proofs.Ytnkcmkegjckncaa
open Go.RowKit

theorem saysM_len (me : Int) (yes : Bool) (n : Int) (a : List ND) : (saysM me yes n a).length = a.length := by unfold saysM; rw [List.length_map]
theorem saysM_take {me : Int} {yes : Bool} {n : Int} {a : List ND} {k : Nat} (h : k < a.length) : saysM me yes n (a.take (k + 1)) = saysM me yes n (a.take k) ++ [decM me yes n (pGet tyN a k).1] := by
  unfold saysM
  rw [pGet_lt (t := tyN) h, List.take_succ_eq_append_getElem h, List.map_append]
  rfl
theorem last_pos {α : Type} {xs : List α} {x : α} (h : xs.length < 4611686018427387000) : pSubI .i64 (pInt (pLen (pApp xs [x]))) 1 = (xs.length : Int) := by
  have e : pLen (pApp xs [x]) = xs.length + 1 := by unfold pLen pApp; rw [List.length_append]; rfl
  rw [e]
  unfold pInt
  exact (pSub1 (k := xs.length + 1) (by omega) (by omega)).trans (by simp)
theorem last_get {t : Ty} {xs : List t.den} {x : t.den} : pGet t (pApp xs [x]) xs.length = x := by
  have : xs.length < (pApp xs [x]).length := by unfold pApp; rw [List.length_append]; exact Nat.lt_succ_self _
  rw [pGet_lt this]
  exact List.getElem_concat_length rfl _
theorem last_set {α : Type} {xs : List α} {x y : α} : pSet (pApp xs [x]) xs.length y = xs ++ [y] := by
  unfold pSet pApp
  rw [List.set_append_right _ _ (Nat.le_refl _)]
  simp
theorem app_room {α : Type} {xs : List α} {x : α} {n : Nat} (h : (xs.length + 1) * n ≤ 140737488351232) : pRoom (pPlus (pLen xs) (pLen [x])) n := h

/-- those that do not know are told -/
theorem tell_vc (w : WorkD) (n : Int) (a : List ND) (Fin : Int × WorkD × Unit → Prop) (ha : a.length ≤ 1000) (hm : w.2.2.2.2.2.2.2.1.length ≤ 1000000)
    (hF : Fin ((a.length : Int), withM w (w.2.2.2.2.2.2.2.1 ++ saysM w.2.2.2.2.1 true n a), ())) :
    tellInv w n a ((0 : Int), w, ()) ∧ ∀ (y : kden false tI × denCells kWork × PUnit), tellInv w n a y → bif pLt y.1 (pInt (pLen a)) then pIn y.1 (pLen a) ∧
      pRoom (pPlus (pLen y.2.1.2.2.2.2.2.2.2.1) (pLen [((4 : Int), y.2.1.2.2.2.2.1, (pGet tyN a (pNat y.1)).1, y.2.1.2.2.2.2.1, n, (0 : Int), (0 : Int), (0 : Int), (0 : Int), (0 : Int), false, (0 : Int), ())])) 96 ∧
      pIn (pSubI .i64 (pInt (pLen (pApp y.2.1.2.2.2.2.2.2.2.1 [((4 : Int), y.2.1.2.2.2.2.1, (pGet tyN a (pNat y.1)).1, y.2.1.2.2.2.2.1, n, (0 : Int), (0 : Int), (0 : Int), (0 : Int), (0 : Int), false, (0 : Int), ())]))) 1) (pLen (pApp y.2.1.2.2.2.2.2.2.2.1 [((4 : Int), y.2.1.2.2.2.2.1, (pGet tyN a (pNat y.1)).1, y.2.1.2.2.2.2.1, n, (0 : Int), (0 : Int), (0 : Int), (0 : Int), (0 : Int), false, (0 : Int), ())])) ∧
      tellInv w n a (pAdd .i64 y.1 1, (y.2.1.1, y.2.1.2.1, y.2.1.2.2.1, y.2.1.2.2.2.1, y.2.1.2.2.2.2.1, y.2.1.2.2.2.2.2.1, y.2.1.2.2.2.2.2.2.1,
        (let M := pApp y.2.1.2.2.2.2.2.2.2.1 [((4 : Int), y.2.1.2.2.2.2.1, (pGet tyN a (pNat y.1)).1, y.2.1.2.2.2.2.1, n, (0 : Int), (0 : Int), (0 : Int), (0 : Int), (0 : Int), false, (0 : Int), ())]
         let i := pNat (pSubI .i64 (pInt (pLen M)) 1)
         let m := pGet tyMsg M i
         pSet M i (m.1, m.2.1, m.2.2.1, m.2.2.2.1, m.2.2.2.2.1, m.2.2.2.2.2.1, m.2.2.2.2.2.2.1, m.2.2.2.2.2.2.2.1, m.2.2.2.2.2.2.2.2.1, m.2.2.2.2.2.2.2.2.2.1, true, m.2.2.2.2.2.2.2.2.2.2.2)), y.2.1.2.2.2.2.2.2.2.2), ()) ∧
      Nat.le (Nat.succ (tellMu w n a (pAdd .i64 y.1 1, (y.2.1.1, y.2.1.2.1, y.2.1.2.2.1, y.2.1.2.2.2.1, y.2.1.2.2.2.2.1, y.2.1.2.2.2.2.2.1, y.2.1.2.2.2.2.2.2.1,
        (let M := pApp y.2.1.2.2.2.2.2.2.2.1 [((4 : Int), y.2.1.2.2.2.2.1, (pGet tyN a (pNat y.1)).1, y.2.1.2.2.2.2.1, n, (0 : Int), (0 : Int), (0 : Int), (0 : Int), (0 : Int), false, (0 : Int), ())]
         let i := pNat (pSubI .i64 (pInt (pLen M)) 1)
         let m := pGet tyMsg M i
         pSet M i (m.1, m.2.1, m.2.2.1, m.2.2.2.1, m.2.2.2.2.1, m.2.2.2.2.2.1, m.2.2.2.2.2.2.1, m.2.2.2.2.2.2.2.1, m.2.2.2.2.2.2.2.2.1, m.2.2.2.2.2.2.2.2.2.1, true, m.2.2.2.2.2.2.2.2.2.2.2)), y.2.1.2.2.2.2.2.2.2.2), ()))) (tellMu w n a y) else Fin y := by
  refine ⟨StepInv.start ?_, fun y hy => ?_⟩
  · show (w, ()) = (withM w (w.2.2.2.2.2.2.2.1 ++ []), ())
    rw [List.append_nil]; rfl
  rcases StepInv.round (show a.length < 4611686018427387904 by omega) hy with ⟨k, rfl, hk, hb, hT⟩ | rfl
  · rw [bif_true (by rw [pLt_coe]; exact decide_eq_true hk)]
    have hx : (w.2.2.2.2.2.2.2.1 ++ saysM w.2.2.2.2.1 true n (a.take k)).length ≤ 1001000 := by
      rw [List.length_append, saysM_len, List.length_take]; omega
    dsimp only [withM, withMT]
    rw [pNat_coe]
    generalize hX : w.2.2.2.2.2.2.2.1 ++ saysM w.2.2.2.2.1 true n (a.take k) = X at *
    rw [last_pos (by omega), pNat_coe, last_get (t := tyMsg), last_set]
    refine ⟨pIn_coe.2 hk, app_room (by omega), pIn_coe.2 (by unfold pLen pApp; rw [List.length_append]; exact Nat.lt_succ_self _), hT _ ?_⟩
    rw [saysM_take hk, ← List.append_assoc, hX]
    rfl
  · rw [bif_false (by rw [pLt_coe]; exact decide_eq_false (Nat.lt_irrefl _))]
    rw [List.take_length]
    exact hF

/-- what is sent where a job ends -/
theorem ends_vc (w : WorkD) (n : Int) (a : List ND) (Fin : Int × WorkD × Unit → Prop) (ha : a.length ≤ 1000) (hm : w.2.2.2.2.2.2.2.1.length ≤ 1000000)
    (hF : Fin ((a.length : Int), withM w (w.2.2.2.2.2.2.2.1 ++ saysM w.2.2.2.2.1 false n a), ())) :
    kendInv w n a ((0 : Int), w, ()) ∧ ∀ (y : kden false tI × denCells kWork × PUnit), kendInv w n a y → bif pLt y.1 (pInt (pLen a)) then pIn y.1 (pLen a) ∧
      pRoom (pPlus (pLen y.2.1.2.2.2.2.2.2.2.1) (pLen [((4 : Int), y.2.1.2.2.2.2.1, (pGet tyN a (pNat y.1)).1, y.2.1.2.2.2.2.1, n, (0 : Int), (0 : Int), (0 : Int), (0 : Int), (0 : Int), false, (0 : Int), ())])) 96 ∧
      pIn (pSubI .i64 (pInt (pLen (pApp y.2.1.2.2.2.2.2.2.2.1 [((4 : Int), y.2.1.2.2.2.2.1, (pGet tyN a (pNat y.1)).1, y.2.1.2.2.2.2.1, n, (0 : Int), (0 : Int), (0 : Int), (0 : Int), (0 : Int), false, (0 : Int), ())]))) 1) (pLen (pApp y.2.1.2.2.2.2.2.2.2.1 [((4 : Int), y.2.1.2.2.2.2.1, (pGet tyN a (pNat y.1)).1, y.2.1.2.2.2.2.1, n, (0 : Int), (0 : Int), (0 : Int), (0 : Int), (0 : Int), false, (0 : Int), ())])) ∧
      kendInv w n a (pAdd .i64 y.1 1, (y.2.1.1, y.2.1.2.1, y.2.1.2.2.1, y.2.1.2.2.2.1, y.2.1.2.2.2.2.1, y.2.1.2.2.2.2.2.1, y.2.1.2.2.2.2.2.2.1, pApp y.2.1.2.2.2.2.2.2.2.1 [((4 : Int), y.2.1.2.2.2.2.1, (pGet tyN a (pNat y.1)).1, y.2.1.2.2.2.2.1, n, (0 : Int), (0 : Int), (0 : Int), (0 : Int), (0 : Int), false, (0 : Int), ())], y.2.1.2.2.2.2.2.2.2.2), ()) ∧
      Nat.le (Nat.succ (kendMu w n a (pAdd .i64 y.1 1, (y.2.1.1, y.2.1.2.1, y.2.1.2.2.1, y.2.1.2.2.2.1, y.2.1.2.2.2.2.1, y.2.1.2.2.2.2.2.1, y.2.1.2.2.2.2.2.2.1, pApp y.2.1.2.2.2.2.2.2.2.1 [((4 : Int), y.2.1.2.2.2.2.1, (pGet tyN a (pNat y.1)).1, y.2.1.2.2.2.2.1, n, (0 : Int), (0 : Int), (0 : Int), (0 : Int), (0 : Int), false, (0 : Int), ())], y.2.1.2.2.2.2.2.2.2.2), ()))) (kendMu w n a y) else Fin y := by
  refine ⟨StepInv.start ?_, fun y hy => ?_⟩
  · show (w, ()) = (withM w (w.2.2.2.2.2.2.2.1 ++ []), ())
    rw [List.append_nil]; rfl
  rcases StepInv.round (show a.length < 4611686018427387904 by omega) hy with ⟨k, rfl, hk, hb, hT⟩ | rfl
  · rw [bif_true (by rw [pLt_coe]; exact decide_eq_true hk)]
    have hx : (w.2.2.2.2.2.2.2.1 ++ saysM w.2.2.2.2.1 false n (a.take k)).length ≤ 1001000 := by
      rw [List.length_append, saysM_len, List.length_take]; omega
    dsimp only [withM, withMT]
    rw [pNat_coe]
    generalize hX : w.2.2.2.2.2.2.2.1 ++ saysM w.2.2.2.2.1 false n (a.take k) = X at *
    rw [last_pos (by omega)]
    refine ⟨pIn_coe.2 hk, app_room (by omega), pIn_coe.2 (by unfold pLen pApp; rw [List.length_append]; exact Nat.lt_succ_self _), hT _ ?_⟩
    rw [saysM_take hk, ← List.append_assoc, hX]
    rfl
  · rw [bif_false (by rw [pLt_coe]; exact decide_eq_false (Nat.lt_irrefl _))]
    rw [List.take_length]
    exact hF

/-- a job ends: its tasks' sites, sorted, are told -/
theorem end_vc (w : WorkD) (ts : List TaskD) (n : Int) (G : Int × List ND × Unit → Prop) (hc : 1 ≤ w.1 ∧ w.1 ≤ 4) (hts : ts.length ≤ 10) (hG : G ((ts.length : Int), sitesK w.1 w.2.2.2.1 ts ts.length, ())) :
    sitesInv w.1 w.2.2.2.1 ts ((0 : Int), [], ()) ∧ ∀ (y : kden false tI × kden true tyN × PUnit), sitesInv w.1 w.2.2.2.1 ts y → bif pLt y.1 (pInt (pLen ts)) then pIn y.1 (pLen ts) ∧ pNz w.1 ∧
      bif pEq (pGet tyTask ts (pNat y.1)).2.1 w.2.2.2.1 then Nat.le (Nat.succ (pLen y.2.1)) 4611686018427387904 ∧ bif pNot (pGe (hasF y.2.1 (pRem (pGet tyTask ts (pNat y.1)).2.2.1 w.1)) 0) then
        pRoom (pPlus (pLen y.2.1) (pLen [(pRem (pGet tyTask ts (pNat y.1)).2.2.1 w.1, ())])) 8 ∧ sitesInv w.1 w.2.2.2.1 ts (pAdd .i64 y.1 1, pApp y.2.1 [(pRem (pGet tyTask ts (pNat y.1)).2.2.1 w.1, ())], ()) ∧
          Nat.le (Nat.succ (sitesMu w.1 w.2.2.2.1 ts (pAdd .i64 y.1 1, pApp y.2.1 [(pRem (pGet tyTask ts (pNat y.1)).2.2.1 w.1, ())], ()))) (sitesMu w.1 w.2.2.2.1 ts y)
        else sitesInv w.1 w.2.2.2.1 ts (pAdd .i64 y.1 1, y.2) ∧ Nat.le (Nat.succ (sitesMu w.1 w.2.2.2.1 ts (pAdd .i64 y.1 1, y.2))) (sitesMu w.1 w.2.2.2.1 ts y)
      else sitesInv w.1 w.2.2.2.1 ts (pAdd .i64 y.1 1, y.2) ∧ Nat.le (Nat.succ (sitesMu w.1 w.2.2.2.1 ts (pAdd .i64 y.1 1, y.2))) (sitesMu w.1 w.2.2.2.1 ts y)
    else Nat.le (Nat.succ (pLen y.2.1)) 12 ∧ pLen (sortN y.2.1) = pLen y.2.1 ∧ G y := by
  refine ⟨StepInv.start rfl, fun y hy => ?_⟩
  rcases StepInv.round (show ts.length < 4611686018427387904 by omega) hy with ⟨k, rfl, hk2, hb, hT⟩ | rfl
  · rw [bif_true (by rw [pLt_coe]; exact decide_eq_true hk2)]
    dsimp only
    rw [pNat_coe]
    have hl := sitesK_len w.1 w.2.2.2.1 ts k
    refine ⟨pIn_coe.2 hk2, by unfold pNz; omega, bif_ok (fun h1 => ⟨show (sitesK w.1 w.2.2.2.1 ts k).length < _ by omega, bif_ok (fun h2 => ⟨app_room (by omega), hT _ ?_⟩) fun h2 => hT _ ?_⟩) fun h1 => hT _ ?_⟩
    · rw [sitesK_succ, h1]
      have : pLt (hasF (sitesK w.1 w.2.2.2.1 ts k) (pRem (pGet tyTask ts k).2.2.1 w.1)) 0 = true := by
        simp only [pNot, pGe, pLt, Bool.not_eq_true', decide_eq_false_iff_not, decide_eq_true_eq] at h2 ⊢; omega
      rw [this]; rfl
    · rw [sitesK_succ, h1]
      have : pLt (hasF (sitesK w.1 w.2.2.2.1 ts k) (pRem (pGet tyTask ts k).2.2.1 w.1)) 0 = false := by
        simp only [pNot, pGe, pLt, Bool.not_eq_false', decide_eq_false_iff_not, decide_eq_true_eq] at h2 ⊢; omega
      rw [this]; rfl
    · rw [sitesK_succ, h1]; rfl
  · rw [bif_false (by rw [pLt_coe]; exact decide_eq_false (Nat.lt_irrefl _))]
    dsimp only
    have hl := sitesK_len w.1 w.2.2.2.1 ts ts.length
    exact ⟨show (sitesK w.1 w.2.2.2.1 ts ts.length).length < 12 by omega, sortN_len _, hG⟩

theorem told_vc (t : TurnD) (me n : Int) (a : List ND) (Fin : Int × TurnD × Unit → Prop) (ha : a.length ≤ 1000) (hm : t.2.2.1.length ≤ 1000000)
    (hF : Fin ((a.length : Int), withMT t (t.2.2.1 ++ saysM me true n a), ())) :
    toldInv t me n a ((0 : Int), t, ()) ∧ ∀ (y : kden false tI × denCells kTurn × PUnit), toldInv t me n a y → bif pLt y.1 (pInt (pLen a)) then pIn y.1 (pLen a) ∧ pRoom (pPlus (pLen y.2.1.2.2.1) (pLen [(let b := aboutF me 4 (pGet tyN a (pNat y.1)).1 n; (b.1, b.2.1, b.2.2.1, b.2.2.2.1, b.2.2.2.2.1, b.2.2.2.2.2.1, b.2.2.2.2.2.2.1, b.2.2.2.2.2.2.2.1, b.2.2.2.2.2.2.2.2.1, b.2.2.2.2.2.2.2.2.2.1, true, b.2.2.2.2.2.2.2.2.2.2.2))])) 96 ∧
      toldInv t me n a (pAdd .i64 y.1 1, (y.2.1.1, y.2.1.2.1, pApp y.2.1.2.2.1 [(let b := aboutF me 4 (pGet tyN a (pNat y.1)).1 n; (b.1, b.2.1, b.2.2.1, b.2.2.2.1, b.2.2.2.2.1, b.2.2.2.2.2.1, b.2.2.2.2.2.2.1, b.2.2.2.2.2.2.2.1, b.2.2.2.2.2.2.2.2.1, b.2.2.2.2.2.2.2.2.2.1, true, b.2.2.2.2.2.2.2.2.2.2.2))], y.2.1.2.2.2), ()) ∧
      Nat.le (Nat.succ (toldMu t me n a (pAdd .i64 y.1 1, (y.2.1.1, y.2.1.2.1, pApp y.2.1.2.2.1 [(let b := aboutF me 4 (pGet tyN a (pNat y.1)).1 n; (b.1, b.2.1, b.2.2.1, b.2.2.2.1, b.2.2.2.2.1, b.2.2.2.2.2.1, b.2.2.2.2.2.2.1, b.2.2.2.2.2.2.2.1, b.2.2.2.2.2.2.2.2.1, b.2.2.2.2.2.2.2.2.2.1, true, b.2.2.2.2.2.2.2.2.2.2.2))], y.2.1.2.2.2), ()))) (toldMu t me n a y) else Fin y := by
  refine ⟨StepInv.start ?_, fun y hy => ?_⟩
  · show (t, ()) = (withMT t (t.2.2.1 ++ []), ())
    rw [List.append_nil]; rfl
  rcases StepInv.round (show a.length < 4611686018427387904 by omega) hy with ⟨k, rfl, hk, hb, hT⟩ | rfl
  · rw [bif_true (by rw [pLt_coe]; exact decide_eq_true hk)]
    have hx : (t.2.2.1 ++ saysM me true n (a.take k)).length ≤ 1001000 := by
      rw [List.length_append, saysM_len, List.length_take]; omega
    dsimp only [withMT]
    rw [pNat_coe]
    generalize hX : t.2.2.1 ++ saysM me true n (a.take k) = X at *
    refine ⟨pIn_coe.2 hk, app_room (by omega), hT _ ?_⟩
    rw [saysM_take hk, ← List.append_assoc, hX]
    rfl
  · rw [bif_false (by rw [pLt_coe]; exact decide_eq_false (Nat.lt_irrefl _))]
    rw [List.take_length]
    exact hF

theorem ended_vc (t : TurnD) (me n : Int) (a : List ND) (Fin : Int × TurnD × Unit → Prop) (ha : a.length ≤ 1000) (hm : t.2.2.1.length ≤ 1000000)
    (hF : Fin ((a.length : Int), withMT t (t.2.2.1 ++ saysM me false n a), ())) :
    endedInv t me n a ((0 : Int), t, ()) ∧ ∀ (y : kden false tI × denCells kTurn × PUnit), endedInv t me n a y → bif pLt y.1 (pInt (pLen a)) then pIn y.1 (pLen a) ∧ pRoom (pPlus (pLen y.2.1.2.2.1) (pLen [aboutF me 4 (pGet tyN a (pNat y.1)).1 n])) 96 ∧
      endedInv t me n a (pAdd .i64 y.1 1, (y.2.1.1, y.2.1.2.1, pApp y.2.1.2.2.1 [aboutF me 4 (pGet tyN a (pNat y.1)).1 n], y.2.1.2.2.2), ()) ∧
      Nat.le (Nat.succ (endedMu t me n a (pAdd .i64 y.1 1, (y.2.1.1, y.2.1.2.1, pApp y.2.1.2.2.1 [aboutF me 4 (pGet tyN a (pNat y.1)).1 n], y.2.1.2.2.2), ()))) (endedMu t me n a y) else Fin y := by
  refine ⟨StepInv.start ?_, fun y hy => ?_⟩
  · show (t, ()) = (withMT t (t.2.2.1 ++ []), ())
    rw [List.append_nil]; rfl
  rcases StepInv.round (show a.length < 4611686018427387904 by omega) hy with ⟨k, rfl, hk, hb, hT⟩ | rfl
  · rw [bif_true (by rw [pLt_coe]; exact decide_eq_true hk)]
    have hx : (t.2.2.1 ++ saysM me false n (a.take k)).length ≤ 1001000 := by
      rw [List.length_append, saysM_len, List.length_take]; omega
    dsimp only [withMT]
    rw [pNat_coe]
    generalize hX : t.2.2.1 ++ saysM me false n (a.take k) = X at *
    refine ⟨pIn_coe.2 hk, app_room (by omega), hT _ ?_⟩
    rw [saysM_take hk, ← List.append_assoc, hX]
    rfl
  · rw [bif_false (by rw [pLt_coe]; exact decide_eq_false (Nat.lt_irrefl _))]
    rw [List.take_length]
    exact hF

theorem withoutK_lo {l : List JobD} {i : Nat} : ∀ k, k ≤ i → k ≤ l.length → withoutK l (i : Int) k = l.take k
  | 0, _, _ => rfl
  | k + 1, h1, h2 => by
    rw [withoutK_succ, withoutK_lo k (by omega) (by omega)]
    have : pEq (k : Int) (i : Int) = false := by simp only [pEq, beq_eq_false_iff_ne, ne_eq]; omega
    rw [this, cond_false, pGet_lt (t := tyJob) h2, List.take_succ_eq_append_getElem h2]
theorem withoutK_hi {l : List JobD} {i : Nat} : ∀ m, i + 1 + m ≤ l.length → withoutK l (i : Int) (i + 1 + m) = l.take i ++ (l.drop (i + 1)).take m
  | 0, h => by
    show withoutK l (i : Int) (i + 1) = _
    rw [withoutK_succ]
    have : pEq (i : Int) (i : Int) = true := by simp [pEq]
    rw [this, cond_true, withoutK_lo i (Nat.le_refl _) (by omega)]
    simp
  | m + 1, h => by
    show withoutK l (i : Int) (i + 1 + m + 1) = _
    rw [withoutK_succ, withoutK_hi m (by omega)]
    have : pEq ((i + 1 + m : Nat) : Int) (i : Int) = false := by simp only [pEq, beq_eq_false_iff_ne, ne_eq]; omega
    have hd : m < (l.drop (i + 1)).length := by rw [List.length_drop]; omega
    rw [this, cond_false, pGet_lt (t := tyJob) (show i + 1 + m < l.length by omega), List.take_succ_eq_append_getElem hd, List.append_assoc, List.getElem_drop]
theorem withoutF_del {l : List JobD} {i : Nat} (h : i < l.length) : withoutF l (i : Int) = pDel l i := by
  have := withoutK_hi (l := l) (i := i) (l.length - (i + 1)) (by omega)
  rw [show i + 1 + (l.length - (i + 1)) = l.length by omega] at this
  unfold withoutF pDel
  rw [this]
  congr 1
  exact List.take_of_length_le (by rw [List.length_drop]; exact Nat.le_refl _)


end Go.Proofs.Ytnkcmkegjckncaa

/- What a tick comes to, job by job. No condition. -/
namespace Go.Proofs.Ytnkcmkegjckncaa
open Go.RowKit

/-- a job that may be, as far as a tick looks at it -/
def JobOk (j : JobD) : Prop := (1 ≤ j.2.1 ∧ j.2.1 ≤ 3) ∧ j.2.2.1.length ≤ 10 ∧ j.2.2.2.1.length ≤ 4 ∧ (∀ t ∈ j.2.2.1, 0 ≤ t.2.2.1) ∧ 0 ≤ j.2.2.2.2.2.1 ∧ j.2.2.2.2.2.1 ≤ 1048576
theorem up_ge {l : List ND} {m : Int} (h : allUpto (upAt l m) l.length = true) : ∀ i, i < l.length → (i : Int) ≤ (pGet tyN l i).1
  | 0, hi => by
    have := allUpto_iff.1 h 0 hi
    unfold upAt at this
    simp only [Bool.and_eq_true, pLe, decide_eq_true_eq] at this
    exact this.1.1
  | i + 1, hi => by
    have ih := up_ge h i (by omega)
    have := allUpto_iff.1 h (i + 1) hi
    unfold upAt at this
    simp only [Bool.and_eq_true, Bool.or_eq_true, pLt, decide_eq_true_eq] at this
    have h2 := this.2.resolve_left (by omega)
    rw [Nat.add_sub_cancel] at h2
    have : ((i + 1 : Nat) : Int) = (i : Int) + 1 := by omega
    omega
theorem up_len {l : List ND} {m : Int} (h : allUpto (upAt l m) l.length = true) (hm : m ≤ 4) : l.length ≤ 4 := by
  rcases Nat.eq_zero_or_pos l.length with h0 | h0
  · omega
  · have h1 := up_ge h (l.length - 1) (by omega)
    have := allUpto_iff.1 h (l.length - 1) (by omega)
    unfold upAt at this
    simp only [Bool.and_eq_true, pLt, decide_eq_true_eq] at this
    omega
theorem deskF_zero {c : CfgD} {d : DeskD} (h : deskF c d = 0) : (1 ≤ c.1 ∧ c.1 ≤ 4) ∧ d.2.1.length ≤ 6 ∧ ∀ i, i < d.2.1.length → jobAt c d i = true := by
  obtain ⟨cn, cl, cp, u⟩ := c; obtain ⟨dn, dj, u2⟩ := d; cases u; cases u2
  have hc : pEq (cfgF (cn, cl, cp, ())) 0 = true := by
    cases hq : pEq (cfgF (cn, cl, cp, ())) 0 with
    | true => rfl
    | false => rw [deskF_eq, hq, cond_false] at h; rw [h] at hq; cases hq
  have hs := inF_iff.1 (cfgF_sites4 (c := (cn, cl, cp, ())) (by simpa [pEq, pNe] using hc))
  rw [deskF_eq, hc, cond_true] at h
  cases hq : (inF dn 1 1048577 && pLe (pInt dj.length) 6 && allUpto (Go.Proofs.Ytnkcmkegjckncaa.jobAt (cn, cl, cp, ()) (dn, dj, ())) dj.length) with
  | false => rw [hq] at h; cases h
  | true =>
    simp only [Bool.and_eq_true] at hq
    refine ⟨hs, ?_, fun i hi => allUpto_iff.1 hq.2 i hi⟩
    have : (dj.length : Int) ≤ 6 := of_decide_eq_true hq.1.2
    show dj.length ≤ 6
    omega
theorem jobs_ok {c : CfgD} {d : DeskD} (h : deskF c d = 0) : ∀ j ∈ d.2.1, JobOk j := by
  obtain ⟨hc, _, hj⟩ := deskF_zero h
  intro j hm
  obtain ⟨i, hi, rfl⟩ := List.getElem_of_mem hm
  have h1 := hj i hi
  unfold Go.Proofs.Ytnkcmkegjckncaa.jobAt at h1
  rw [Bool.and_eq_true, pGet_lt (t := tyJob) hi] at h1
  generalize d.2.1[i] = j at h1
  obtain ⟨jn, js, jt, ja, jq, jg, u⟩ := j
  cases u
  obtain ⟨cn, cl, cp, u⟩ := c; cases u
  have h2 := h1.1
  rw [jobF_eq] at h2
  simp only [Bool.and_eq_true] at h2
  obtain ⟨⟨⟨⟨⟨⟨⟨⟨_, _⟩, hg⟩, hs⟩, ht⟩, _⟩, htk⟩, hup⟩, _⟩ := h2
  have ht' : (jt.length : Int) ≤ 10 := of_decide_eq_true ht
  refine ⟨inF_iff.1 hs, ?_, up_len hup hc.2, fun t htm => ?_, (inF_iff.1 hg).1, (inF_iff.1 hg).2⟩
  · show jt.length ≤ 10; omega
  · obtain ⟨k, hk, rfl⟩ := List.getElem_of_mem htm
    have := allUpto_iff.1 htk k hk
    unfold taskAt at this
    simp only [Bool.and_eq_true] at this
    rw [pGet_lt (t := tyTask) hk] at this
    have h3 := this.1.1.1
    unfold taskF at h3
    simp only [Bool.and_eq_true] at h3
    exact (inF_iff.1 h3.1.1.1.1.2).1
theorem jobs_up {c : CfgD} {d : DeskD} (h : deskF c d = 0) : ∀ i, i + 1 < d.2.1.length → (pGet tyJob d.2.1 i).1 < (pGet tyJob d.2.1 (i + 1)).1 := by
  obtain ⟨_, _, hj⟩ := deskF_zero h
  intro i hi
  have h1 := hj (i + 1) hi
  unfold Go.Proofs.Ytnkcmkegjckncaa.jobAt at h1
  simp only [Bool.and_eq_true, Bool.or_eq_true, decide_eq_true_eq, Nat.add_sub_cancel] at h1
  exact of_decide_eq_true (h1.2.resolve_left (by omega))
theorem jobs_lt {c : CfgD} {d : DeskD} (h : deskF c d = 0) {i : Nat} : ∀ j, i < j → j < d.2.1.length → (pGet tyJob d.2.1 i).1 < (pGet tyJob d.2.1 j).1
  | 0, h1, _ => absurd h1 (by omega)
  | j + 1, h1, h2 => by
    have hu := jobs_up h j h2
    by_cases e : i = j
    · subst e; exact hu
    · exact Int.lt_trans (jobs_lt (i := i) h j (by omega) (by omega)) hu

/-- the state of a tick at a job -/
structure TickAt (dj : List JobD) (k : Nat) (s : TS) : Prop where
  jobs : ∃ P : List JobD, s.1 = P ++ dj.drop k ∧ P.length ≤ k ∧ (∀ q ∈ P, JobOk q) ∧ ∀ q ∈ P, ∀ j, k ≤ j → j < dj.length → q.1 < (pGet tyJob dj j).1
  msgs : s.2.1.length ≤ 4 * k
  reps : s.2.2.length ≤ k
theorem drop_at {dj : List JobD} {k : Nat} (h : k < dj.length) : dj.drop k = pGet tyJob dj k :: dj.drop (k + 1) := by
  rw [pGet_lt (t := tyJob) h]; exact List.drop_eq_getElem_cons h
theorem waitR_len (me : Int) (j : JobD) : (waitR me j).length ≤ 1 := by
  unfold waitR
  cases pEq j.2.1 2 with
  | true => exact Nat.le_refl _
  | false => cases openT j.2.2.1 <;> simp
theorem ageJ_ok {j : JobD} {g : Int} (h : JobOk j) (h0 : 0 ≤ g) (h1 : g ≤ 1048576) : JobOk (ageJ j g) := ⟨h.1, h.2.1, h.2.2.1, h.2.2.2.1, h0, h1⟩
theorem app_at {P R : List JobD} {j : JobD} : pGet tyJob (P ++ j :: R) P.length = j := by
  rw [pGet_lt (t := tyJob) (by rw [List.length_append]; simp)]
  simp
theorem app_set {P R : List JobD} {j j' : JobD} : pSet (P ++ j :: R) P.length j' = P ++ j' :: R := by
  unfold pSet
  rw [List.set_append_right _ _ (Nat.le_refl _)]
  simp
theorem app_del {P R : List JobD} {j : JobD} : pDel (P ++ j :: R) P.length = P ++ R := by
  unfold pDel
  simp
/-- where the next job stands -/
theorem tick_find {c : CfgD} {d : DeskD} (h : deskF c d = 0) {k : Nat} {s : TS} (hs : TickAt d.2.1 k s) (hk : k < d.2.1.length) :
    ∃ P R : List JobD, s.1 = P ++ pGet tyJob d.2.1 k :: R ∧ R = d.2.1.drop (k + 1) ∧ P.length ≤ k ∧ (∀ q ∈ P, JobOk q) ∧ (∀ q ∈ P, ∀ j, k ≤ j → j < d.2.1.length → q.1 < (pGet tyJob d.2.1 j).1) ∧ idxKeyJ s.1 (pGet tyJob d.2.1 k).1 = (P.length : Int) := by
  obtain ⟨P, h1, h2, h3, h4⟩ := hs.jobs
  rw [drop_at hk] at h1
  refine ⟨P, _, h1, rfl, h2, h3, h4, ?_⟩
  rw [h1]
  unfold idxKeyJ
  refine idxOf_hit (by rw [List.length_append]; simp) (fun j hj => ?_) ?_
  · unfold keyAtJ
    have e : pGet tyJob (P ++ pGet tyJob d.2.1 k :: d.2.1.drop (k + 1)) j = P[j] := by
      rw [pGet_lt (t := tyJob) (by rw [List.length_append]; omega), List.getElem_append_left hj]
    rw [e]
    have := h4 P[j] (List.getElem_mem hj) k (Nat.le_refl _) hk
    simp only [pEq, beq_eq_false_iff_ne, ne_eq]
    omega
  · unfold keyAtJ
    rw [app_at]
    simp [pEq]
theorem tick_next {c : CfgD} {d : DeskD} (h : deskF c d = 0) (hp : c.2.2.1 ≤ 1048576) (l me : Int) {k : Nat} {s : TS} (hs : TickAt d.2.1 k s) (hk : k < d.2.1.length) : TickAt d.2.1 (k + 1) (stepS c l me s (pGet tyJob d.2.1 k).1) := by
  obtain ⟨P, R, h1, h2, h3, h4, h5, h6⟩ := tick_find h hs hk
  have hj := jobs_ok h (pGet tyJob d.2.1 k) (by rw [pGet_lt (t := tyJob) hk]; exact List.getElem_mem hk)
  have hc := (deskF_zero h).1
  have hup : ∀ j, k + 1 ≤ j → j < d.2.1.length → (pGet tyJob d.2.1 k).1 < (pGet tyJob d.2.1 j).1 := fun j a b => jobs_lt h j (by omega) b
  have hm := hs.msgs
  have hr := hs.reps
  have more : ∀ (j' : JobD), JobOk j' → j'.1 = (pGet tyJob d.2.1 k).1 → ∃ P2 : List JobD, P ++ j' :: R = P2 ++ d.2.1.drop (k + 1) ∧ P2.length ≤ k + 1 ∧ (∀ q ∈ P2, JobOk q) ∧ ∀ q ∈ P2, ∀ j, k + 1 ≤ j → j < d.2.1.length → q.1 < (pGet tyJob d.2.1 j).1 := by
    intro j' hj' hn
    refine ⟨P ++ [j'], by rw [h2]; simp, by rw [List.length_append]; simp; omega, fun q hq => ?_, fun q hq j a b => ?_⟩
    · rcases List.mem_append.1 hq with hq | hq
      · exact h4 q hq
      · rw [List.mem_singleton] at hq; subst hq; exact hj'
    · rcases List.mem_append.1 hq with hq | hq
      · exact h5 q hq j (by omega) b
      · rw [List.mem_singleton] at hq; subst hq; rw [hn]; exact hup j a b
  have hg : pAdd .i64 (pGet tyJob d.2.1 k).2.2.2.2.2.1 1 = (pGet tyJob d.2.1 k).2.2.2.2.2.1 + 1 := pAdd_in (by have := hj.2.2.2.2; omega)
  unfold stepS
  rw [h6, pNat_coe, h1, app_at, app_set]
  cases hq : pLt (pAdd .i64 (pGet tyJob d.2.1 k).2.2.2.2.2.1 1) c.2.2.1 with
  | true =>
    have hlt : pAdd .i64 (pGet tyJob d.2.1 k).2.2.2.2.2.1 1 < c.2.2.1 := of_decide_eq_true hq
    rw [cond_true]
    refine ⟨more _ (ageJ_ok hj ?_ ?_) rfl, show s.2.1.length ≤ _ by omega, show s.2.2.length ≤ _ by omega⟩
    · have := hj.2.2.2.2; omega
    · omega
  | false =>
    rw [cond_false]
    unfold lateS
    rw [h1, app_set, app_del]
    cases pEq (pGet tyJob d.2.1 k).2.1 3 with
    | true =>
      rw [cond_true]
      refine ⟨more _ (ageJ_ok hj (by omega) (by omega)) rfl, ?_, show s.2.2.length ≤ _ by omega⟩
      show (s.2.1 ++ saysM _ _ _ _).length ≤ _
      rw [List.length_append, saysM_len]
      have := hj.2.2.1
      omega
    | false =>
      rw [cond_false]
      refine ⟨⟨P, by rw [h2], by omega, h4, fun q hq j a b => h5 q hq j (by omega) b⟩, ?_, ?_⟩
      · show (s.2.1 ++ saysM _ _ _ _).length ≤ _
        rw [List.length_append, saysM_len]
        have := handsF_len (l := l) (ts := (pGet tyJob d.2.1 k).2.2.1) hc
        omega
      · show (s.2.2 ++ waitR _ _).length ≤ _
        rw [List.length_append]
        have := waitR_len me (pGet tyJob d.2.1 k)
        omega
theorem tick_all {c : CfgD} {d : DeskD} (h : deskF c d = 0) (hp : c.2.2.1 ≤ 1048576) (l me : Int) : ∀ k, k ≤ d.2.1.length → TickAt d.2.1 k (tickK c l me d.2.1 k)
  | 0, _ => ⟨⟨[], rfl, Nat.le_refl _, (fun _ h => by cases h), fun _ h => by cases h⟩, Nat.le_refl _, Nat.le_refl _⟩
  | k + 1, hk => tick_next h hp l me (tick_all h hp l me k (by omega)) hk


end Go.Proofs.Ytnkcmkegjckncaa

/- Contracts, and what the evaluator says, as plain propositions: CuV. Printed by vc.py. -/
namespace Go.Proofs.Ytnkcmkegjckncaa
open Go.RowKit Go.ChangeShapes Go.WideShapes Go.Deep

abbrev len64_S : Shape := ⟨[.one (.rd (.int .u64))], []⟩
abbrev len64_f : Shape.den len64_S → denVars [.slot 0 false tI] := fun x => (lenF x.1.1, ())
abbrev len64_p : Shape.den len64_S → List Prop := fun x => [pLt x.1.1 16 = true, pLe 0 x.1.1 = true]
def clen64 : Ctr := shCtr len64_S len64_p [] [.slot 0 false tI] len64_f
def cblen : Ctr := shCtr len64_S len64_p [] [.slot 0 false tI] len64_f
abbrev pdq_S : Shape := ⟨[.one (.own 0), .one (.rd tI), .one (.rd tI), .one (.rd tI)], [.row tyN]⟩
abbrev pdq_f : Shape.den pdq_S → denVars [.row 0 tyN] := fun x => (sortN x.2.1, ())
abbrev pdq_p : Shape.den pdq_S → List Prop := fun x => [x.1.2.1 = 0, x.1.2.2.1 = pInt (pLen x.2.1), pLen x.2.1 < 12]
def cpdq : Ctr := shCtr pdq_S pdq_p [] [.row 0 tyN] pdq_f
abbrev sort_S : Shape := ⟨[.one (.own 0)], [.row tyN]⟩
abbrev sort_f : Shape.den sort_S → denVars [.row 0 tyN] := fun x => (sortN x.2.1, ())
abbrev sort_p : Shape.den sort_S → List Prop := fun x => [pLen x.2.1 < 12]
def csort : Ctr := shCtr sort_S sort_p [] [.row 0 tyN] sort_f
abbrev delJ_S : Shape := ⟨[.one (.own 0), .one (.rd tI), .one (.rd tI)], [.row tyJob]⟩
abbrev delJ_f : Shape.den delJ_S → denVars [.slot 0 true tyJob] := fun x => (pDel x.2.1 (pNat x.1.2.1), ())
abbrev delJ_p : Shape.den delJ_S → List Prop := fun x => [pIn x.1.2.1 (pLen x.2.1), x.1.2.2.1 = pAdd .i64 x.1.2.1 1, pLen x.2.1 < 4611686018427387904]
def cdelJ : Ctr := shCtr delJ_S delJ_p [0] [.slot 0 true tyJob] delJ_f
abbrev sameTasks_S : Shape := ⟨[.one (.rd (.sl tyTask)), .one (.rd (.sl tyTask))], []⟩
abbrev sameTasks_f : Shape.den sameTasks_S → denVars [.slot 0 false .bool] := fun x => (sameTasksF x.1.1 x.1.2.1, ())
abbrev sameTasks_p : Shape.den sameTasks_S → List Prop := fun x => [pLen x.1.1 < 4611686018427387904]
def csameTasks : Ctr := shCtr sameTasks_S sameTasks_p [] [.slot 0 false .bool] sameTasks_f
abbrev sameInts_S : Shape := ⟨[.one (.rd (.sl tyN)), .one (.rd (.sl tyN))], []⟩
abbrev sameInts_f : Shape.den sameInts_S → denVars [.slot 0 false .bool] := fun x => (sameIntsF x.1.1 x.1.2.1, ())
abbrev sameInts_p : Shape.den sameInts_S → List Prop := fun x => [pLen x.1.1 < 4611686018427387904]
def csameInts : Ctr := shCtr sameInts_S sameInts_p [] [.slot 0 false .bool] sameInts_f
abbrev sameDesk_S : Shape := ⟨[pDesk, pDesk], []⟩
abbrev sameDesk_f : Shape.den sameDesk_S → denVars [.slot 0 false .bool] := fun x => (sameDeskF (x.1.1.1, x.1.1.2.1, ()) (x.1.2.1.1, x.1.2.1.2.1, ()), ())
abbrev sameDesk_p : Shape.den sameDesk_S → List Prop := fun x => [pLen x.1.1.2.1 < 4611686018427387904, (∀ q ∈ x.1.1.2.1, pLen q.2.2.1 < 4611686018427387904 ∧ pLen q.2.2.2.1 < 4611686018427387904)]
def csameDesk : Ctr := shCtr sameDesk_S sameDesk_p [] [.slot 0 false .bool] sameDesk_f
abbrev sameMsgs_S : Shape := ⟨[.one (.rd (.sl tyMsg)), .one (.rd (.sl tyMsg))], []⟩
abbrev sameMsgs_f : Shape.den sameMsgs_S → denVars [.slot 0 false .bool] := fun x => (sameMsgsF x.1.1 x.1.2.1, ())
abbrev sameMsgs_p : Shape.den sameMsgs_S → List Prop := fun x => [pLen x.1.1 < 4611686018427387904]
def csameMsgs : Ctr := shCtr sameMsgs_S sameMsgs_p [] [.slot 0 false .bool] sameMsgs_f
abbrev sameRecord_S : Shape := ⟨[pRec, pRec], []⟩
abbrev sameRecord_f : Shape.den sameRecord_S → denVars [.slot 0 false .bool] := fun x => (sameRecF (x.1.1.1, x.1.1.2.1, x.1.1.2.2.1, x.1.1.2.2.2.1, x.1.1.2.2.2.2.1, x.1.1.2.2.2.2.2.1, x.1.1.2.2.2.2.2.2.1, x.1.1.2.2.2.2.2.2.2.1, ()) (x.1.2.1.1, x.1.2.1.2.1, x.1.2.1.2.2.1, x.1.2.1.2.2.2.1, x.1.2.1.2.2.2.2.1, x.1.2.1.2.2.2.2.2.1, x.1.2.1.2.2.2.2.2.2.1, x.1.2.1.2.2.2.2.2.2.2.1, ()), ())
abbrev sameRecord_p : Shape.den sameRecord_S → List Prop := fun x => [pLen x.1.1.2.2.2.2.2.2.2.1 < 4611686018427387904]
def csameRecord : Ctr := shCtr sameRecord_S sameRecord_p [] [.slot 0 false .bool] sameRecord_f
abbrev sameRecords_S : Shape := ⟨[.one (.rd (.sl tyRec)), .one (.rd (.sl tyRec))], []⟩
abbrev sameRecords_f : Shape.den sameRecords_S → denVars [.slot 0 false .bool] := fun x => (sameRecsF x.1.1 x.1.2.1, ())
abbrev sameRecords_p : Shape.den sameRecords_S → List Prop := fun x => [pLen x.1.1 < 4611686018427387904, (∀ q ∈ x.1.1, pLen q.2.2.2.2.2.2.2.1 < 4611686018427387904)]
def csameRecords : Ctr := shCtr sameRecords_S sameRecords_p [] [.slot 0 false .bool] sameRecords_f
abbrev sameReps_S : Shape := ⟨[.one (.rd (.sl tyRep)), .one (.rd (.sl tyRep))], []⟩
abbrev sameReps_f : Shape.den sameReps_S → denVars [.slot 0 false .bool] := fun x => (sameRepsF x.1.1 x.1.2.1, ())
abbrev sameReps_p : Shape.den sameReps_S → List Prop := fun x => [pLen x.1.1 < 4611686018427387904]
def csameReps : Ctr := shCtr sameReps_S sameReps_p [] [.slot 0 false .bool] sameReps_f
abbrev sameTurn_S : Shape := ⟨[pTurn, pTurn], []⟩
abbrev sameTurn_f : Shape.den sameTurn_S → denVars [.slot 0 false .bool] := fun x => (sameTurnF (x.1.1.1, x.1.1.2.1, x.1.1.2.2.1, x.1.1.2.2.2.1, x.1.1.2.2.2.2.1, x.1.1.2.2.2.2.2.1, x.1.1.2.2.2.2.2.2.1, ()) (x.1.2.1.1, x.1.2.1.2.1, x.1.2.1.2.2.1, x.1.2.1.2.2.2.1, x.1.2.1.2.2.2.2.1, x.1.2.1.2.2.2.2.2.1, x.1.2.1.2.2.2.2.2.2.1, ()), ())
abbrev sameTurn_p : Shape.den sameTurn_S → List Prop := fun x => [pLen x.1.1.2.1 < 4611686018427387904, (∀ q ∈ x.1.1.2.1, pLen q.2.2.1 < 4611686018427387904 ∧ pLen q.2.2.2.1 < 4611686018427387904), pLen x.1.1.2.2.1 < 4611686018427387904, pLen x.1.1.2.2.2.1 < 4611686018427387904, (∀ q ∈ x.1.1.2.2.2.1, pLen q.2.2.2.2.2.2.2.1 < 4611686018427387904), pLen x.1.1.2.2.2.2.1 < 4611686018427387904]
def csameTurn : Ctr := shCtr sameTurn_S sameTurn_p [] [.slot 0 false .bool] sameTurn_f
abbrev eqsCuV : List TypeId := [96, 64, 81, 76, 62]

abbrev len64_v0 := (bs [0, 1, 2, 2, 3, 3, 3, 3, 4, 4, 4, 4, 4, 4, 4, 4, 5, 5, 5, 5, 5, 5, 5, 5, 5, 5, 5, 5, 5, 5, 5, 5, 6, 6, 6, 6, 6, 6, 6, 6, 6, 6, 6, 6, 6, 6, 6, 6, 6, 6, 6, 6, 6, 6, 6, 6, 6, 6, 6, 6, 6, 6, 6, 6, 7, 7, 7, 7, 7, 7, 7, 7, 7, 7, 7, 7, 7, 7, 7, 7, 7, 7, 7, 7, 7, 7, 7, 7, 7, 7, 7, 7, 7, 7, 7, 7, 7, 7, 7, 7, 7, 7, 7, 7, 7, 7, 7, 7, 7, 7, 7, 7, 7, 7, 7, 7, 7, 7, 7, 7, 7, 7, 7, 7, 7, 7, 7, 7, 8, 8, 8, 8, 8, 8, 8, 8, 8, 8, 8, 8, 8, 8, 8, 8, 8, 8, 8, 8, 8, 8, 8, 8, 8, 8, 8, 8, 8, 8, 8, 8, 8, 8, 8, 8, 8, 8, 8, 8, 8, 8, 8, 8, 8, 8, 8, 8, 8, 8, 8, 8, 8, 8, 8, 8, 8, 8, 8, 8, 8, 8, 8, 8, 8, 8, 8, 8, 8, 8, 8, 8, 8, 8, 8, 8, 8, 8, 8, 8, 8, 8, 8, 8, 8, 8, 8, 8, 8, 8, 8, 8, 8, 8, 8, 8, 8, 8, 8, 8, 8, 8, 8, 8, 8, 8, 8, 8, 8, 8, 8, 8, 8, 8, 8, 8, 8, 8, 8, 8, 8, 8, 8, 8, 8, 8, 8, 8])
abbrev len64_v1 (a : Int) := (pShr IntKind.u64 (pShr IntKind.u64 a (32 : Int)) (16 : Int))
abbrev len64_v2 (a : Int) := (pShr IntKind.u64 a (32 : Int))

def len64_VC (a : Int) : Prop :=
  bif pGe a (4294967296 : Int) then pGe0 (32 : Int) ∧ bif pGe (len64_v2 a) (65536 : Int) then pGe0 (16 : Int) ∧ bif pGe (len64_v1 a) (256 : Int) then pGe0 (8 : Int) ∧ pIn (pWrap IntKind.u8 (pShr IntKind.u64 (len64_v1 a) (8 : Int))) (pStrLen
 (len64_v0)) ∧ (pAdd IntKind.i64 (pAdd IntKind.i64 (pAdd IntKind.i64 (32 : Int) (16 : Int)) (8 : Int)) (pWrap IntKind.i64 (pStrGet (len64_v0) (pNat (pWrap IntKind.u8 (pShr IntKind.u64 (len64_v1 a) (8 : Int)))))), ()) = (lenF a, ()) else pIn
 (pWrap IntKind.u8 (len64_v1 a)) (pStrLen (len64_v0)) ∧ (pAdd IntKind.i64 (pAdd IntKind.i64 (32 : Int) (16 : Int)) (pWrap IntKind.i64 (pStrGet (len64_v0) (pNat (pWrap IntKind.u8 (len64_v1 a))))), ()) = (lenF a, ()) else bif pGe (len64_v2 a)
 (256 : Int) then pGe0 (8 : Int) ∧ pIn (pWrap IntKind.u8 (pShr IntKind.u64 (len64_v2 a) (8 : Int))) (pStrLen (len64_v0)) ∧ (pAdd IntKind.i64 (pAdd IntKind.i64 (32 : Int) (8 : Int)) (pWrap IntKind.i64 (pStrGet (len64_v0) (pNat (pWrap
 IntKind.u8 (pShr IntKind.u64 (len64_v2 a) (8 : Int)))))), ()) = (lenF a, ()) else pIn (pWrap IntKind.u8 (len64_v2 a)) (pStrLen (len64_v0)) ∧ (pAdd IntKind.i64 (32 : Int) (pWrap IntKind.i64 (pStrGet (len64_v0) (pNat (pWrap IntKind.u8
 (len64_v2 a))))), ()) = (lenF a, ()) else bif pGe a (65536 : Int) then pGe0 (16 : Int) ∧ bif pGe (pShr IntKind.u64 a (16 : Int)) (256 : Int) then pGe0 (8 : Int) ∧ pIn (pWrap IntKind.u8 (pShr IntKind.u64 (pShr IntKind.u64 a (16 : Int)) (8 :
 Int))) (pStrLen (len64_v0)) ∧ (pAdd IntKind.i64 (pAdd IntKind.i64 (pAdd IntKind.i64 (0 : Int) (16 : Int)) (8 : Int)) (pWrap IntKind.i64 (pStrGet (len64_v0) (pNat (pWrap IntKind.u8 (pShr IntKind.u64 (pShr IntKind.u64 a (16 : Int)) (8 :
 Int)))))), ()) = (lenF a, ()) else pIn (pWrap IntKind.u8 (pShr IntKind.u64 a (16 : Int))) (pStrLen (len64_v0)) ∧ (pAdd IntKind.i64 (pAdd IntKind.i64 (0 : Int) (16 : Int)) (pWrap IntKind.i64 (pStrGet (len64_v0) (pNat (pWrap IntKind.u8 (pShr
 IntKind.u64 a (16 : Int)))))), ()) = (lenF a, ()) else bif pGe a (256 : Int) then pGe0 (8 : Int) ∧ pIn (pWrap IntKind.u8 (pShr IntKind.u64 a (8 : Int))) (pStrLen (len64_v0)) ∧ (pAdd IntKind.i64 (pAdd IntKind.i64 (0 : Int) (8 : Int)) (pWrap
 IntKind.i64 (pStrGet (len64_v0) (pNat (pWrap IntKind.u8 (pShr IntKind.u64 a (8 : Int)))))), ()) = (lenF a, ()) else pIn (pWrap IntKind.u8 a) (pStrLen (len64_v0)) ∧ (pAdd IntKind.i64 (0 : Int) (pWrap IntKind.i64 (pStrGet (len64_v0) (pNat
 (pWrap IntKind.u8 a)))), ()) = (lenF a, ())
set_option maxRecDepth 100000 in
theorem len64_meets  (h : ∀ (a : Int), (∀ p ∈ len64_p ⟨(a, ()), ()⟩, p) → len64_VC a) : Mt 82 clen64 :=
  meets_vc (E := envOf Try.prog [] eqsCuV) (envOf_ok (fun p hp => by cases hp) (by kernel_rfl)) len64_S (fun x => fun ky9 st9 => look [] ky9) Try.func82 (by kernel_rfl) (by kernel_rfl) len64_p [] [.slot 0 false tI] len64_f (fun x => len64_VC x.1.1) (fun x => by kernel_rfl) (fun x hp => h x.1.1 hp)

def blen_VC (a : Int) : Prop :=
  pLt a (16 : Int) = Bool.true ∧ pLe (0 : Int) a = Bool.true ∧ (lenF a, ()) = (lenF a, ())
set_option maxRecDepth 100000 in
theorem blen_meets (hlen64 : Mt 82 clen64) (h : ∀ (a : Int), (∀ p ∈ len64_p ⟨(a, ()), ()⟩, p) → blen_VC a) : Mt 71 cblen :=
  meets_vc (E := envOf Try.prog [(82, (false, clen64))] eqsCuV) (envOf_ok (fun p hp => (by simp only [List.mem_cons, List.not_mem_nil, or_false] at hp; rcases hp with rfl; exact hlen64)) (by kernel_rfl)) len64_S (fun x => fun ky9 st9 => look [] ky9) Try.func71 (by kernel_rfl) (by kernel_rfl) len64_p [] [.slot 0 false tI] len64_f (fun x => blen_VC x.1.1) (fun x => by kernel_rfl) (fun x hp => h x.1.1 hp)

def pdq_VC (a : Int) (b : Int) (e : Int) (l : List ND) : Prop :=
  pdqInv a b e l (b, a, e, Bool.true, Bool.true, ()) ∧ ∀ (y : kden Bool.false tI × kden Bool.false tI × kden Bool.false tI × kden Bool.false Ty.bool × kden Bool.false Ty.bool × PUnit), pdqInv a b e l y → bif pLe (pSubI IntKind.i64 y.1 y.2.1)
 (12 : Int) then y.2.1 = (0 : Int) ∧ y.1 = pInt (pLen l) ∧ Nat.le (Nat.succ (pLen l)) 1000 ∧ pLen (sortN l) = pLen l ∧ (sortN l, ()) = (sortN l, ()) else bif pEq y.2.2.1 (0 : Int) then False else bif pNot y.2.2.2.1 then False else False
set_option maxRecDepth 100000 in
theorem pdq_meets (hinsort : Mt 72 cinsort) (h : ∀ (a : Int) (b : Int) (e : Int) (l : List ND), (∀ p ∈ pdq_p ⟨((), a, b, e, ()), (l, ())⟩, p) → pdq_VC a b e l) : Mt 70 cpdq :=
  meets_vc (E := envOf Try.prog [(72, (true, cinsort))] eqsCuV) (envOf_ok (fun p hp => (by simp only [List.mem_cons, List.not_mem_nil, or_false] at hp; rcases hp with rfl; exact hinsort)) (by kernel_rfl)) pdq_S (fun x => fun ky9 st9 => look [(2, (⟨[.slot 2 false tI, .slot 1 false tI, .slot 3 false tI, .slot 8 false .bool, .slot 9 false .bool], pdqInv x.1.2.1 x.1.2.2.1 x.1.2.2.2.1 x.2.1, pdqMu x.1.2.1 x.1.2.2.1 x.1.2.2.2.1 x.2.1⟩ : Ann))] ky9) Try.func70 (by kernel_rfl) (by kernel_rfl) pdq_p [] [.row 0 tyN] pdq_f (fun x => pdq_VC x.1.2.1 x.1.2.2.1 x.1.2.2.2.1 x.2.1) (fun x => by kernel_rfl) (fun x hp => h x.1.2.1 x.1.2.2.1 x.1.2.2.2.1 x.2.1 hp)

def sort_VC (l : List ND) : Prop :=
  pLt (pWrap IntKind.u64 (pInt (pLen l))) (16 : Int) = Bool.true ∧ pLe (0 : Int) (pWrap IntKind.u64 (pInt (pLen l))) = Bool.true ∧ (0 : Int) = (0 : Int) ∧ pInt (pLen l) = pInt (pLen l) ∧ Nat.le (Nat.succ (pLen l)) 12 ∧ pLen (sortN l) = pLen l
 ∧ (sortN l, ()) = (sortN l, ())
set_option maxRecDepth 100000 in
theorem sort_meets (hpdq : Mt 70 cpdq) (hblen : Mt 71 cblen) (h : ∀ (l : List ND), (∀ p ∈ sort_p ⟨((), ()), (l, ())⟩, p) → sort_VC l) : Mt 63 csort :=
  meets_vc (E := envOf Try.prog [(70, (true, cpdq)), (71, (false, cblen))] eqsCuV) (envOf_ok (fun p hp => (by simp only [List.mem_cons, List.not_mem_nil, or_false] at hp; rcases hp with rfl | rfl; exact hpdq; exact hblen)) (by kernel_rfl)) sort_S (fun x => fun ky9 st9 => look [] ky9) Try.func63 (by kernel_rfl) (by kernel_rfl) sort_p [] [.row 0 tyN] sort_f (fun x => sort_VC x.2.1) (fun x => by kernel_rfl) (fun x hp => h x.2.1 hp)

def sameTasks_VC (l : (List TaskD)) (m : (List TaskD)) : Prop :=
  bif pNe (pInt (pLen l)) (pInt (pLen m)) then (Bool.false, ()) = (sameTasksF l m, ()) else sameTasksInv l m ((0 : Int), ()) ∧ ∀ (y : kden Bool.false tI × PUnit), sameTasksInv l m y → bif pLt y.1 (pInt (pLen l)) then pIn y.1 (pLen l) ∧ pIn
 y.1 (pLen m) ∧ bif pNot (pAndB (pBeq (pGet tyTask l (pNat y.1)).1 (pGet tyTask m (pNat y.1)).1) (pAndB (pEq (pGet tyTask l (pNat y.1)).2.1 (pGet tyTask m (pNat y.1)).2.1) (pAndB (pEq (pGet tyTask l (pNat y.1)).2.2.1 (pGet tyTask m (pNat
 y.1)).2.2.1) (pAndB (pEq (pGet tyTask l (pNat y.1)).2.2.2.1 (pGet tyTask m (pNat y.1)).2.2.2.1) (pAndB (pEq (pGet tyTask l (pNat y.1)).2.2.2.2.1 (pGet tyTask m (pNat y.1)).2.2.2.2.1) (pAndB (pEq (pGet tyTask l (pNat y.1)).2.2.2.2.2.1 (pGet
 tyTask m (pNat y.1)).2.2.2.2.2.1) (pAndB (pBeq (pGet tyTask l (pNat y.1)).2.2.2.2.2.2.1 (pGet tyTask m (pNat y.1)).2.2.2.2.2.2.1) (pBeq (pGet tyTask l (pNat y.1)).2.2.2.2.2.2.2.1 (pGet tyTask m (pNat y.1)).2.2.2.2.2.2.2.1)))))))) then
 (Bool.false, ()) = (sameTasksF l m, ()) else sameTasksInv l m (pAdd IntKind.i64 y.1 (1 : Int), ()) ∧ Nat.le (Nat.succ (sameTasksMu l m (pAdd IntKind.i64 y.1 (1 : Int), ()))) (sameTasksMu l m y) else (Bool.true, ()) = (sameTasksF l m, ())
set_option maxRecDepth 100000 in
theorem sameTasks_meets  (h : ∀ (l : (List TaskD)) (m : (List TaskD)), (∀ p ∈ sameTasks_p ⟨(l, m, ()), ()⟩, p) → sameTasks_VC l m) : Mt 24 csameTasks :=
  meets_vc (E := envOf Try.prog [] eqsCuV) (envOf_ok (fun p hp => by cases hp) (by kernel_rfl)) sameTasks_S (fun x => fun ky9 st9 => look [(4, (⟨[.slot 5 false tI], sameTasksInv x.1.1 x.1.2.1, sameTasksMu x.1.1 x.1.2.1⟩ : Ann))] ky9) Try.func24 (by kernel_rfl) (by kernel_rfl) sameTasks_p [] [.slot 0 false .bool] sameTasks_f (fun x => sameTasks_VC x.1.1 x.1.2.1) (fun x => by kernel_rfl) (fun x hp => h x.1.1 x.1.2.1 hp)

def sameInts_VC (l : (List ND)) (m : (List ND)) : Prop :=
  bif pNe (pInt (pLen l)) (pInt (pLen m)) then (Bool.false, ()) = (sameIntsF l m, ()) else sameIntsInv l m ((0 : Int), ()) ∧ ∀ (y : kden Bool.false tI × PUnit), sameIntsInv l m y → bif pLt y.1 (pInt (pLen l)) then pIn y.1 (pLen l) ∧ pIn y.1
 (pLen m) ∧ bif pNe (pGet tyN l (pNat y.1)).1 (pGet tyN m (pNat y.1)).1 then (Bool.false, ()) = (sameIntsF l m, ()) else sameIntsInv l m (pAdd IntKind.i64 y.1 (1 : Int), ()) ∧ Nat.le (Nat.succ (sameIntsMu l m (pAdd IntKind.i64 y.1 (1 : Int),
 ()))) (sameIntsMu l m y) else (Bool.true, ()) = (sameIntsF l m, ())
set_option maxRecDepth 100000 in
theorem sameInts_meets  (h : ∀ (l : (List ND)) (m : (List ND)), (∀ p ∈ sameInts_p ⟨(l, m, ()), ()⟩, p) → sameInts_VC l m) : Mt 25 csameInts :=
  meets_vc (E := envOf Try.prog [] eqsCuV) (envOf_ok (fun p hp => by cases hp) (by kernel_rfl)) sameInts_S (fun x => fun ky9 st9 => look [(4, (⟨[.slot 5 false tI], sameIntsInv x.1.1 x.1.2.1, sameIntsMu x.1.1 x.1.2.1⟩ : Ann))] ky9) Try.func25 (by kernel_rfl) (by kernel_rfl) sameInts_p [] [.slot 0 false .bool] sameInts_f (fun x => sameInts_VC x.1.1 x.1.2.1) (fun x => by kernel_rfl) (fun x hp => h x.1.1 x.1.2.1 hp)

def sameDesk_VC (an : Int) (aj : (List JobD)) (bn : Int) (bj : (List JobD)) : Prop :=
  bif pNe an bn then (Bool.false, ()) = (sameDeskF (an, aj, ()) (bn, bj, ()), ()) else bif pNe (pInt (pLen aj)) (pInt (pLen bj)) then (Bool.false, ()) = (sameDeskF (an, aj, ()) (bn, bj, ()), ()) else sameDeskInv an aj bn bj ((0 : Int), ()) ∧
 ∀ (y : kden Bool.false tI × PUnit), sameDeskInv an aj bn bj y → bif pLt y.1 (pInt (pLen aj)) then pIn y.1 (pLen aj) ∧ pIn y.1 (pLen bj) ∧ bif pNe (pGet tyJob aj (pNat y.1)).1 (pGet tyJob bj (pNat y.1)).1 then (Bool.false, ()) = (sameDeskF
 (an, aj, ()) (bn, bj, ()), ()) else bif pNe (pGet tyJob aj (pNat y.1)).2.1 (pGet tyJob bj (pNat y.1)).2.1 then (Bool.false, ()) = (sameDeskF (an, aj, ()) (bn, bj, ()), ()) else bif pNe (pGet tyJob aj (pNat y.1)).2.2.2.2.1 (pGet tyJob bj
 (pNat y.1)).2.2.2.2.1 then (Bool.false, ()) = (sameDeskF (an, aj, ()) (bn, bj, ()), ()) else bif pNe (pGet tyJob aj (pNat y.1)).2.2.2.2.2.1 (pGet tyJob bj (pNat y.1)).2.2.2.2.2.1 then (Bool.false, ()) = (sameDeskF (an, aj, ()) (bn, bj, ()),
 ()) else Nat.le (Nat.succ (pLen (pGet tyJob aj (pNat y.1)).2.2.1)) 4611686018427387904 ∧ bif pNot (sameTasksF (pGet tyJob aj (pNat y.1)).2.2.1 (pGet tyJob bj (pNat y.1)).2.2.1) then (Bool.false, ()) = (sameDeskF (an, aj, ()) (bn, bj, ()),
 ()) else Nat.le (Nat.succ (pLen (pGet tyJob aj (pNat y.1)).2.2.2.1)) 4611686018427387904 ∧ bif pNot (sameIntsF (pGet tyJob aj (pNat y.1)).2.2.2.1 (pGet tyJob bj (pNat y.1)).2.2.2.1) then (Bool.false, ()) = (sameDeskF (an, aj, ()) (bn, bj,
 ()), ()) else sameDeskInv an aj bn bj (pAdd IntKind.i64 y.1 (1 : Int), ()) ∧ Nat.le (Nat.succ (sameDeskMu an aj bn bj (pAdd IntKind.i64 y.1 (1 : Int), ()))) (sameDeskMu an aj bn bj y) else (Bool.true, ()) = (sameDeskF (an, aj, ()) (bn, bj,
 ()), ())
set_option maxRecDepth 100000 in
theorem sameDesk_meets (hsameTasks : Mt 24 csameTasks) (hsameInts : Mt 25 csameInts) (h : ∀ (an : Int) (aj : (List JobD)) (bn : Int) (bj : (List JobD)), (∀ p ∈ sameDesk_p ⟨((an, aj, ()), (bn, bj, ()), ()), ()⟩, p) → sameDesk_VC an aj bn bj) : Mt 9 csameDesk :=
  meets_vc (E := envOf Try.prog [(24, (false, csameTasks)), (25, (false, csameInts))] eqsCuV) (envOf_ok (fun p hp => (by simp only [List.mem_cons, List.not_mem_nil, or_false] at hp; rcases hp with rfl | rfl; exact hsameTasks; exact hsameInts)) (by kernel_rfl)) sameDesk_S (fun x => fun ky9 st9 => look [(4, (⟨[.slot 5 false tI], sameDeskInv x.1.1.1 x.1.1.2.1 x.1.2.1.1 x.1.2.1.2.1, sameDeskMu x.1.1.1 x.1.1.2.1 x.1.2.1.1 x.1.2.1.2.1⟩ : Ann))] ky9) Try.func9 (by kernel_rfl) (by kernel_rfl) sameDesk_p [] [.slot 0 false .bool] sameDesk_f (fun x => sameDesk_VC x.1.1.1 x.1.1.2.1 x.1.2.1.1 x.1.2.1.2.1) (fun x => by kernel_rfl) (fun x hp => h x.1.1.1 x.1.1.2.1 x.1.2.1.1 x.1.2.1.2.1 hp)

def sameMsgs_VC (l : (List MsgD)) (m : (List MsgD)) : Prop :=
  bif pNe (pInt (pLen l)) (pInt (pLen m)) then (Bool.false, ()) = (sameMsgsF l m, ()) else sameMsgsInv l m ((0 : Int), ()) ∧ ∀ (y : kden Bool.false tI × PUnit), sameMsgsInv l m y → bif pLt y.1 (pInt (pLen l)) then pIn y.1 (pLen l) ∧ pIn y.1
 (pLen m) ∧ bif pNot (pAndB (pEq (pGet tyMsg l (pNat y.1)).1 (pGet tyMsg m (pNat y.1)).1) (pAndB (pEq (pGet tyMsg l (pNat y.1)).2.1 (pGet tyMsg m (pNat y.1)).2.1) (pAndB (pEq (pGet tyMsg l (pNat y.1)).2.2.1 (pGet tyMsg m (pNat y.1)).2.2.1)
 (pAndB (pEq (pGet tyMsg l (pNat y.1)).2.2.2.1 (pGet tyMsg m (pNat y.1)).2.2.2.1) (pAndB (pEq (pGet tyMsg l (pNat y.1)).2.2.2.2.1 (pGet tyMsg m (pNat y.1)).2.2.2.2.1) (pAndB (pEq (pGet tyMsg l (pNat y.1)).2.2.2.2.2.1 (pGet tyMsg m (pNat
 y.1)).2.2.2.2.2.1) (pAndB (pEq (pGet tyMsg l (pNat y.1)).2.2.2.2.2.2.1 (pGet tyMsg m (pNat y.1)).2.2.2.2.2.2.1) (pAndB (pEq (pGet tyMsg l (pNat y.1)).2.2.2.2.2.2.2.1 (pGet tyMsg m (pNat y.1)).2.2.2.2.2.2.2.1) (pAndB (pEq (pGet tyMsg l (pNat
 y.1)).2.2.2.2.2.2.2.2.1 (pGet tyMsg m (pNat y.1)).2.2.2.2.2.2.2.2.1) (pAndB (pEq (pGet tyMsg l (pNat y.1)).2.2.2.2.2.2.2.2.2.1 (pGet tyMsg m (pNat y.1)).2.2.2.2.2.2.2.2.2.1) (pAndB (pBeq (pGet tyMsg l (pNat y.1)).2.2.2.2.2.2.2.2.2.2.1 (pGet
 tyMsg m (pNat y.1)).2.2.2.2.2.2.2.2.2.2.1) (pEq (pGet tyMsg l (pNat y.1)).2.2.2.2.2.2.2.2.2.2.2.1 (pGet tyMsg m (pNat y.1)).2.2.2.2.2.2.2.2.2.2.2.1)))))))))))) then (Bool.false, ()) = (sameMsgsF l m, ()) else sameMsgsInv l m (pAdd
 IntKind.i64 y.1 (1 : Int), ()) ∧ Nat.le (Nat.succ (sameMsgsMu l m (pAdd IntKind.i64 y.1 (1 : Int), ()))) (sameMsgsMu l m y) else (Bool.true, ()) = (sameMsgsF l m, ())
set_option maxRecDepth 100000 in
theorem sameMsgs_meets  (h : ∀ (l : (List MsgD)) (m : (List MsgD)), (∀ p ∈ sameMsgs_p ⟨(l, m, ()), ()⟩, p) → sameMsgs_VC l m) : Mt 21 csameMsgs :=
  meets_vc (E := envOf Try.prog [] eqsCuV) (envOf_ok (fun p hp => by cases hp) (by kernel_rfl)) sameMsgs_S (fun x => fun ky9 st9 => look [(4, (⟨[.slot 5 false tI], sameMsgsInv x.1.1 x.1.2.1, sameMsgsMu x.1.1 x.1.2.1⟩ : Ann))] ky9) Try.func21 (by kernel_rfl) (by kernel_rfl) sameMsgs_p [] [.slot 0 false .bool] sameMsgs_f (fun x => sameMsgs_VC x.1.1 x.1.2.1) (fun x => by kernel_rfl) (fun x hp => h x.1.1 x.1.2.1 hp)

def sameRecord_VC (xk : Int) (xs : Int) (xn : Int) (xy : Int) (xv : Int) (xq : Int) (xw : Bool) (xl : (List ND)) (zk : Int) (zs : Int) (zn : Int) (zy : Int) (zv : Int) (zq : Int) (zw : Bool) (zl : (List ND)) : Prop :=
  bif pEq xk zk then bif pAndB (pEq xs zs) (pEq xn zn) then bif pEq xy zy then bif pEq xv zv then bif pEq xq zq then bif pBeq xw zw then Nat.le (Nat.succ (pLen xl)) 4611686018427387904 ∧ (sameIntsF xl zl, ()) = (sameRecF (xk, xs, xn, xy, xv,
 xq, xw, xl, ()) (zk, zs, zn, zy, zv, zq, zw, zl, ()), ()) else (Bool.false, ()) = (sameRecF (xk, xs, xn, xy, xv, xq, xw, xl, ()) (zk, zs, zn, zy, zv, zq, zw, zl, ()), ()) else (Bool.false, ()) = (sameRecF (xk, xs, xn, xy, xv, xq, xw, xl,
 ()) (zk, zs, zn, zy, zv, zq, zw, zl, ()), ()) else (Bool.false, ()) = (sameRecF (xk, xs, xn, xy, xv, xq, xw, xl, ()) (zk, zs, zn, zy, zv, zq, zw, zl, ()), ()) else (Bool.false, ()) = (sameRecF (xk, xs, xn, xy, xv, xq, xw, xl, ()) (zk, zs,
 zn, zy, zv, zq, zw, zl, ()), ()) else (Bool.false, ()) = (sameRecF (xk, xs, xn, xy, xv, xq, xw, xl, ()) (zk, zs, zn, zy, zv, zq, zw, zl, ()), ()) else (Bool.false, ()) = (sameRecF (xk, xs, xn, xy, xv, xq, xw, xl, ()) (zk, zs, zn, zy, zv,
 zq, zw, zl, ()), ())
set_option maxRecDepth 100000 in
theorem sameRecord_meets (hsameInts : Mt 25 csameInts) (h : ∀ (xk : Int) (xs : Int) (xn : Int) (xy : Int) (xv : Int) (xq : Int) (xw : Bool) (xl : (List ND)) (zk : Int) (zs : Int) (zn : Int) (zy : Int) (zv : Int) (zq : Int) (zw : Bool) (zl : (List ND)), (∀ p ∈ sameRecord_p ⟨((xk, xs, xn, xy, xv, xq, xw, xl, ()), (zk, zs, zn, zy, zv, zq, zw, zl, ()), ()), ()⟩, p) → sameRecord_VC xk xs xn xy xv xq xw xl zk zs zn zy zv zq zw zl) : Mt 45 csameRecord :=
  meets_vc (E := envOf Try.prog [(25, (false, csameInts))] eqsCuV) (envOf_ok (fun p hp => (by simp only [List.mem_cons, List.not_mem_nil, or_false] at hp; rcases hp with rfl; exact hsameInts)) (by kernel_rfl)) sameRecord_S (fun x => fun ky9 st9 => look [] ky9) Try.func45 (by kernel_rfl) (by kernel_rfl) sameRecord_p [] [.slot 0 false .bool] sameRecord_f (fun x => sameRecord_VC x.1.1.1 x.1.1.2.1 x.1.1.2.2.1 x.1.1.2.2.2.1 x.1.1.2.2.2.2.1 x.1.1.2.2.2.2.2.1 x.1.1.2.2.2.2.2.2.1 x.1.1.2.2.2.2.2.2.2.1 x.1.2.1.1 x.1.2.1.2.1 x.1.2.1.2.2.1 x.1.2.1.2.2.2.1 x.1.2.1.2.2.2.2.1 x.1.2.1.2.2.2.2.2.1 x.1.2.1.2.2.2.2.2.2.1 x.1.2.1.2.2.2.2.2.2.2.1) (fun x => by kernel_rfl) (fun x hp => h x.1.1.1 x.1.1.2.1 x.1.1.2.2.1 x.1.1.2.2.2.1 x.1.1.2.2.2.2.1 x.1.1.2.2.2.2.2.1 x.1.1.2.2.2.2.2.2.1 x.1.1.2.2.2.2.2.2.2.1 x.1.2.1.1 x.1.2.1.2.1 x.1.2.1.2.2.1 x.1.2.1.2.2.2.1 x.1.2.1.2.2.2.2.1 x.1.2.1.2.2.2.2.2.1 x.1.2.1.2.2.2.2.2.2.1 x.1.2.1.2.2.2.2.2.2.2.1 hp)

def sameRecords_VC (l : (List RecD)) (m : (List RecD)) : Prop :=
  bif pNe (pInt (pLen l)) (pInt (pLen m)) then (Bool.false, ()) = (sameRecsF l m, ()) else sameRecordsInv l m ((0 : Int), ()) ∧ ∀ (y : kden Bool.false tI × PUnit), sameRecordsInv l m y → bif pLt y.1 (pInt (pLen l)) then pIn y.1 (pLen l) ∧ pIn
 y.1 (pLen m) ∧ Nat.le (Nat.succ (pLen (pGet tyRec l (pNat y.1)).2.2.2.2.2.2.2.1)) 4611686018427387904 ∧ bif pNot (sameRecF (pGet tyRec l (pNat y.1)) (pGet tyRec m (pNat y.1))) then (Bool.false, ()) = (sameRecsF l m, ()) else sameRecordsInv
 l m (pAdd IntKind.i64 y.1 (1 : Int), ()) ∧ Nat.le (Nat.succ (sameRecordsMu l m (pAdd IntKind.i64 y.1 (1 : Int), ()))) (sameRecordsMu l m y) else (Bool.true, ()) = (sameRecsF l m, ())
set_option maxRecDepth 100000 in
theorem sameRecords_meets (hsameRecord : Mt 45 csameRecord) (h : ∀ (l : (List RecD)) (m : (List RecD)), (∀ p ∈ sameRecords_p ⟨(l, m, ()), ()⟩, p) → sameRecords_VC l m) : Mt 22 csameRecords :=
  meets_vc (E := envOf Try.prog [(45, (false, csameRecord))] eqsCuV) (envOf_ok (fun p hp => (by simp only [List.mem_cons, List.not_mem_nil, or_false] at hp; rcases hp with rfl; exact hsameRecord)) (by kernel_rfl)) sameRecords_S (fun x => fun ky9 st9 => look [(4, (⟨[.slot 5 false tI], sameRecordsInv x.1.1 x.1.2.1, sameRecordsMu x.1.1 x.1.2.1⟩ : Ann))] ky9) Try.func22 (by kernel_rfl) (by kernel_rfl) sameRecords_p [] [.slot 0 false .bool] sameRecords_f (fun x => sameRecords_VC x.1.1 x.1.2.1) (fun x => by kernel_rfl) (fun x hp => h x.1.1 x.1.2.1 hp)

def sameReps_VC (l : (List RepD)) (m : (List RepD)) : Prop :=
  bif pNe (pInt (pLen l)) (pInt (pLen m)) then (Bool.false, ()) = (sameRepsF l m, ()) else sameRepsInv l m ((0 : Int), ()) ∧ ∀ (y : kden Bool.false tI × PUnit), sameRepsInv l m y → bif pLt y.1 (pInt (pLen l)) then pIn y.1 (pLen l) ∧ pIn y.1
 (pLen m) ∧ bif pNot (pAndB (pEq (pGet tyRep l (pNat y.1)).1 (pGet tyRep m (pNat y.1)).1) (pAndB (pEq (pGet tyRep l (pNat y.1)).2.1 (pGet tyRep m (pNat y.1)).2.1) (pAndB (pEq (pGet tyRep l (pNat y.1)).2.2.1 (pGet tyRep m (pNat y.1)).2.2.1)
 (pAndB (pEq (pGet tyRep l (pNat y.1)).2.2.2.1 (pGet tyRep m (pNat y.1)).2.2.2.1) (pAndB (pEq (pGet tyRep l (pNat y.1)).2.2.2.2.1 (pGet tyRep m (pNat y.1)).2.2.2.2.1) (pEq (pGet tyRep l (pNat y.1)).2.2.2.2.2.1 (pGet tyRep m (pNat
 y.1)).2.2.2.2.2.1)))))) then (Bool.false, ()) = (sameRepsF l m, ()) else sameRepsInv l m (pAdd IntKind.i64 y.1 (1 : Int), ()) ∧ Nat.le (Nat.succ (sameRepsMu l m (pAdd IntKind.i64 y.1 (1 : Int), ()))) (sameRepsMu l m y) else (Bool.true, ())
 = (sameRepsF l m, ())
set_option maxRecDepth 100000 in
theorem sameReps_meets  (h : ∀ (l : (List RepD)) (m : (List RepD)), (∀ p ∈ sameReps_p ⟨(l, m, ()), ()⟩, p) → sameReps_VC l m) : Mt 23 csameReps :=
  meets_vc (E := envOf Try.prog [] eqsCuV) (envOf_ok (fun p hp => by cases hp) (by kernel_rfl)) sameReps_S (fun x => fun ky9 st9 => look [(4, (⟨[.slot 5 false tI], sameRepsInv x.1.1 x.1.2.1, sameRepsMu x.1.1 x.1.2.1⟩ : Ann))] ky9) Try.func23 (by kernel_rfl) (by kernel_rfl) sameReps_p [] [.slot 0 false .bool] sameReps_f (fun x => sameReps_VC x.1.1 x.1.2.1) (fun x => by kernel_rfl) (fun x hp => h x.1.1 x.1.2.1 hp)

def sameTurn_VC (an : Int) (aj : (List JobD)) (am : (List MsgD)) (ar : (List RecD)) (ap : (List RepD)) (au : Int) (ac : Int) (bn : Int) (bj : (List JobD)) (bm : (List MsgD)) (br : (List RecD)) (bp : (List RepD)) (bu : Int) (bc : Int) : Prop :=
  bif pEq au bu then bif pEq ac bc then Nat.le (Nat.succ (pLen aj)) 4611686018427387904 ∧ (∀ (q : Int × Int × List (Bool × Int × Int × Int × Int × Int × Bool × Bool × PUnit) × List (Int × PUnit) × Int × Int × PUnit), List.Mem q aj → Nat.le
 (Nat.succ (pLen q.2.2.1)) 4611686018427387904 ∧ Nat.le (Nat.succ (pLen q.2.2.2.1)) 4611686018427387904) ∧ bif sameDeskF (an, aj, ()) (bn, bj, ()) then Nat.le (Nat.succ (pLen am)) 4611686018427387904 ∧ bif sameMsgsF am bm then Nat.le
 (Nat.succ (pLen ar)) 4611686018427387904 ∧ (∀ (q : Int × Int × Int × Int × Int × Int × Bool × List (Int × PUnit) × PUnit), List.Mem q ar → Nat.le (Nat.succ (pLen q.2.2.2.2.2.2.2.1)) 4611686018427387904) ∧ bif sameRecsF ar br then Nat.le
 (Nat.succ (pLen ap)) 4611686018427387904 ∧ (sameRepsF ap bp, ()) = (sameTurnF (an, aj, am, ar, ap, au, ac, ()) (bn, bj, bm, br, bp, bu, bc, ()), ()) else (Bool.false, ()) = (sameTurnF (an, aj, am, ar, ap, au, ac, ()) (bn, bj, bm, br, bp,
 bu, bc, ()), ()) else (Bool.false, ()) = (sameTurnF (an, aj, am, ar, ap, au, ac, ()) (bn, bj, bm, br, bp, bu, bc, ()), ()) else (Bool.false, ()) = (sameTurnF (an, aj, am, ar, ap, au, ac, ()) (bn, bj, bm, br, bp, bu, bc, ()), ()) else
 (Bool.false, ()) = (sameTurnF (an, aj, am, ar, ap, au, ac, ()) (bn, bj, bm, br, bp, bu, bc, ()), ()) else (Bool.false, ()) = (sameTurnF (an, aj, am, ar, ap, au, ac, ()) (bn, bj, bm, br, bp, bu, bc, ()), ())
set_option maxRecDepth 100000 in
theorem sameTurn_meets (hsameDesk : Mt 9 csameDesk) (hsameMsgs : Mt 21 csameMsgs) (hsameRecords : Mt 22 csameRecords) (hsameReps : Mt 23 csameReps) (h : ∀ (an : Int) (aj : (List JobD)) (am : (List MsgD)) (ar : (List RecD)) (ap : (List RepD)) (au : Int) (ac : Int) (bn : Int) (bj : (List JobD)) (bm : (List MsgD)) (br : (List RecD)) (bp : (List RepD)) (bu : Int) (bc : Int), (∀ p ∈ sameTurn_p ⟨((an, aj, am, ar, ap, au, ac, ()), (bn, bj, bm, br, bp, bu, bc, ()), ()), ()⟩, p) → sameTurn_VC an aj am ar ap au ac bn bj bm br bp bu bc) : Mt 8 csameTurn :=
  meets_vc (E := envOf Try.prog [(9, (false, csameDesk)), (21, (false, csameMsgs)), (22, (false, csameRecords)), (23, (false, csameReps))] eqsCuV) (envOf_ok (fun p hp => (by simp only [List.mem_cons, List.not_mem_nil, or_false] at hp; rcases hp with rfl | rfl | rfl | rfl; exact hsameDesk; exact hsameMsgs; exact hsameRecords; exact hsameReps)) (by kernel_rfl)) sameTurn_S (fun x => fun ky9 st9 => look [] ky9) Try.func8 (by kernel_rfl) (by kernel_rfl) sameTurn_p [] [.slot 0 false .bool] sameTurn_f (fun x => sameTurn_VC x.1.1.1 x.1.1.2.1 x.1.1.2.2.1 x.1.1.2.2.2.1 x.1.1.2.2.2.2.1 x.1.1.2.2.2.2.2.1 x.1.1.2.2.2.2.2.2.1 x.1.2.1.1 x.1.2.1.2.1 x.1.2.1.2.2.1 x.1.2.1.2.2.2.1 x.1.2.1.2.2.2.2.1 x.1.2.1.2.2.2.2.2.1 x.1.2.1.2.2.2.2.2.2.1) (fun x => by kernel_rfl) (fun x hp => h x.1.1.1 x.1.1.2.1 x.1.1.2.2.1 x.1.1.2.2.2.1 x.1.1.2.2.2.2.1 x.1.1.2.2.2.2.2.1 x.1.1.2.2.2.2.2.2.1 x.1.2.1.1 x.1.2.1.2.1 x.1.2.1.2.2.1 x.1.2.1.2.2.2.1 x.1.2.1.2.2.2.2.1 x.1.2.1.2.2.2.2.2.1 x.1.2.1.2.2.2.2.2.2.1 hp)


end Go.Proofs.Ytnkcmkegjckncaa
