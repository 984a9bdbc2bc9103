/- Writing a key: functions of the store meet their contracts. No condition. -/
import Derived.Test.YtoalcmpjfnlkdaaSvF
import Derived.Test.YtoalcmpjfnlkdaaSmG
namespace Go.Proofs.Ytoalcmpjfnlkdaa
open Go.RowKit

theorem writeE_eq (is : List ItemD) (ls : List LockD) (ds : List DoubtD) (os : List TxnD) (a b k v q : Int) : writeE (is, ls, ds, os, ()) (a, b, ()) k v q =
  cond (pEq (askE (is, ls, ds, os, ()) (a, b, ()) k) 0) (cond (inF v 0 1073741824 && inF q 0 1048576)
    (cond (pGe (idxTxnF os (a, b, ())) 0 || (pGe (idxLkF ls a b k) 0 && pGt (pGet tyLock ls (pNat (idxLkF ls a b k))).2.2.2.2.2.1 q)) 13
      (cond (pGe (idxBusyF ls a b k true) 0) 11 (cond ((pLt (idxLkF ls a b k) 0 && pGe (pInt ls.length) 24) || pGe (itemF is k).2.2.1 1048576) 8 0))) 2) (askE (is, ls, ds, os, ()) (a, b, ()) k) := rfl
theorem write_err {s : StoD} {t : TxnD} {k v q n : Int} (h : writeE s t k v q = n) (hn : pEq n 0 = false) : (([], [], [], [], ()), n, ()) = (writeS s t k v q, writeE s t k v q, ()) := by
  unfold writeS; rw [h, hn]; rfl
theorem write_all {is : List ItemD} {ls : List LockD} {ds : List DoubtD} {os : List TxnD} {a b k v q : Int} (h : writeE (is, ls, ds, os, ()) (a, b, ()) k v q = 0) :
    (writeS (is, ls, ds, os, ()) (a, b, ()) k v q, writeE (is, ls, ds, os, ()) (a, b, ()) k v q, ()) =
    ((is, cond (pLt (idxLkF ls a b k) 0) (pApp ls [(a, b, k, true, v, q, ())]) (pSet ls (pNat (idxLkF ls a b k)) (a, b, k, true, v, q, ())), handF ds a b, os, ()), (0 : Int), ()) := by
  unfold writeS; rw [h]; rfl
theorem set_last {l : List LockD} {x y : LockD} : pSet (pApp l [y]) (pNat (pInt (pLen l))) x = pApp l [x] := by
  unfold pSet pApp pInt pLen
  rw [pNat_coe, List.set_append_right _ _ (Nat.le_refl _), Nat.sub_self]; rfl
theorem in_last {l : List LockD} {x : LockD} : pIn (pInt (pLen l)) (pLen (pApp l [x])) := by
  unfold pInt
  exact pIn_coe.2 (by show l.length < (pApp l [x]).length; unfold pApp; simp)
theorem item_ver {l : List ItemD} {k : Int} (h : itemsF l = true) : pLe (itemF l k).2.2.1 1048576 = true := by
  rw [itemF_eq]
  cases hk : pGe (idxKeyF l k) 0 with
  | false => rfl
  | true =>
    obtain ⟨_, i, e, hi⟩ := idxKey_pos h hk
    rw [cond_true, e, pNat_coe]
    have h1 := allUpto_iff.1 h i hi
    rw [itemOk_eq] at h1
    simp only [Bool.and_eq_true] at h1
    have h2 := h1.1.2
    unfold inF at h2
    simp only [Bool.and_eq_true] at h2
    exact h2.2

theorem Write_ok : Meets Try.prog (fun _ => none) 29 cWrite := Write_meets scall_ok item_ok lock_ok own_ok Contains_ok busy_ok hand_ok fun si sl sd so ts tn k v a hp => by
  have l1 : si.length < 4611686018427387904 := hp (pLen si < 4611686018427387904) (by simp)
  have l2 : sl.length < 4611686018427387904 := hp (pLen sl < 4611686018427387904) (by simp)
  have l3 : sd.length < 4611686018427387904 := hp (pLen sd < 4611686018427387904) (by simp)
  have l4 : so.length < 4611686018427387904 := hp (pLen so < 4611686018427387904) (by simp)
  have r1 : pRoom (pLen si) 24 := hp (pRoom (pLen si) 24) (by simp)
  have r2 : pRoom (pLen sl) 48 := hp (pRoom (pLen sl) 48) (by simp)
  have r3 : pRoom (pLen sd) 24 := hp (pRoom (pLen sd) 24) (by simp)
  have r4 : pRoom (pLen so) 16 := hp (pRoom (pLen so) 16) (by simp)
  clear hp
  unfold Write_VC
  refine ⟨l1, l2, l3, l4, bif_ok (fun h => ?_) fun ha => ?_⟩
  · exact write_err (by rw [writeE_eq]; clear l1 l2 l3 l4; grind [pLt, pLe, pGt, pGe, pEq, pNe, pNot, pAndB, pBeq, pInt, pLen, inF, pIn, pTo, pNat]) (by simpa [pNe, pEq] using h)
  obtain ⟨f1, f2, f3⟩ := doubts_few (ask_ok ha)
  have hin := @idxLk_in sl ts tn k
  have hv := @item_ver si k f3
  have ha0 : pEq (askE (si, sl, sd, so, ()) (ts, tn, ()) k) 0 = true := by simpa [pNe, pEq] using ha
  have q2 : sl.length < 25 := by omega
  have q3 : sd.length < 25 := by omega
  have qd : pRoom (pPlus (pLen sd) 1) 24 := (show (sd.length + 1) * 24 ≤ 140737488351232 by omega)
  have qa : ∀ x : LockD, (pApp sl [x]).length < 4611686018427387904 := fun x => by unfold pApp; simp only [List.length_append, List.length_cons, List.length_nil]; omega
  have qs : ∀ (i : Nat) (x : LockD), (pSet sl i x).length < 4611686018427387904 := fun i x => by rw [pSet_len (t := tyLock)]; exact l2
  have hE := writeE_eq si sl sd so ts tn k v a
  rw [ha0, cond_true] at hE
  clear ha ha0
  rw [lk_neg] at hE ⊢
  have fin : ∀ X, writeE (si, sl, sd, so, ()) (ts, tn, ()) k v a = 0 → X = cond (!pGe (idxLkF sl ts tn k) 0) (pApp sl [(ts, tn, k, true, v, a, ())]) (pSet sl (pNat (idxLkF sl ts tn k)) (ts, tn, k, true, v, a, ())) →
      ((si, X, handF sd ts tn, so, ()), (0 : Int), ()) = (writeS (si, sl, sd, so, ()) (ts, tn, ()) k v a, writeE (si, sl, sd, so, ()) (ts, tn, ()) k v a, ()) := fun X h0 hX => by
    rw [write_all h0, hX, lk_neg]
  have f4 : (sl.length : Int) ≤ 24 := by omega
  (repeat' (first | refine bif_ok (fun h => ?_) (fun h => ?_) | with_reducible refine And.intro ?_ ?_ | fail))
  all_goals first
    | assumption
    | exact qa _
    | exact qs _ _
    | exact room_more q2 (by decide)
    | (refine hin ?_; clear hE fin qa qs hin; grind [pLt, pLe, pGt, pGe, pEq, pNe, pNot, pAndB, pBeq, pInt, pLen, inF, pIn, pTo, pNat])
    | (refine write_err (hE.trans ?_) rfl; clear hE fin qa qs hin; grind [pLt, pLe, pGt, pGe, pEq, pNe, pNot, pAndB, pBeq, pInt, pLen, inF, pIn, pTo, pNat])
    | (refine fin _ (hE.trans ?_) ?_ <;> (clear hE fin qa qs hin; grind [pLt, pLe, pGt, pGe, pEq, pNe, pNot, pAndB, pBeq, pInt, pLen, inF, pIn, pTo, pNat]))

theorem WriteOf_ok : Meets Try.prog (fun _ => none) 30 cWriteOf := WriteOf_meets askFault_ok StoreCopy_ok itemOf_ok lockOf_ok others_ok isOver_ok doubtOf_ok In_ok fun si sl sd so ts tn k v a hp => by
  have l1 : si.length < 4611686018427387904 := hp (pLen si < 4611686018427387904) (by simp)
  have l2 : sl.length < 4611686018427387904 := hp (pLen sl < 4611686018427387904) (by simp)
  have l3 : sd.length < 4611686018427387904 := hp (pLen sd < 4611686018427387904) (by simp)
  have l4 : so.length < 4611686018427387904 := hp (pLen so < 4611686018427387904) (by simp)
  have r1 : pRoom (pLen si) 24 := hp (pRoom (pLen si) 24) (by simp)
  have r2 : pRoom (pLen sl) 48 := hp (pRoom (pLen sl) 48) (by simp)
  have r3 : pRoom (pLen sd) 24 := hp (pRoom (pLen sd) 24) (by simp)
  have r4 : pRoom (pLen so) 16 := hp (pRoom (pLen so) 16) (by simp)
  clear hp
  unfold WriteOf_VC
  cases ha0 : pEq (askE (si, sl, sd, so, ()) (ts, tn, ()) k) 0
  · refine ⟨l1, l2, l3, l4, ?_⟩
    have hE := writeE_eq si sl sd so ts tn k v a
    rw [ha0, cond_false] at hE
    (repeat' (first | refine bif_ok (fun h => ?_) (fun h => ?_) | with_reducible refine And.intro ?_ ?_ | fail))
    all_goals first
      | exact write_err hE ha0
      | (exfalso; clear hE l1 l2 l3 l4; grind [pLt, pLe, pGt, pGe, pEq, pNe, pNot, pAndB, pBeq, pInt, pLen, inF, pIn, pTo, pNat])
  have ha : pNe (askE (si, sl, sd, so, ()) (ts, tn, ()) k) 0 = false := by simpa [pNe, pEq] using ha0
  obtain ⟨f1, f2, f3⟩ := doubts_few (ask_ok ha)
  have hin := @idxLk_in sl ts tn k
  have hv := @item_ver si k f3
  have q2 : sl.length < 25 := by omega
  have q3 : sd.length < 25 := by omega
  have hE := writeE_eq si sl sd so ts tn k v a
  rw [ha0, cond_true] at hE
  clear ha0
  simp only [cond_true, set_last, busy_all, doubt_neg]
  rw [lk_neg] at hE ⊢
  have hH := handF_eq sd ts tn
  have fin : ∀ X Y, writeE (si, sl, sd, so, ()) (ts, tn, ()) k v a = 0 → X = cond (!pGe (idxLkF sl ts tn k) 0) (pApp sl [(ts, tn, k, true, v, a, ())]) (pSet sl (pNat (idxLkF sl ts tn k)) (ts, tn, k, true, v, a, ())) →
      Y = cond (pGe (idxDoubtF sd (ts, tn, ())) 0) sd (pApp sd [(ts, tn, 0, ())]) →
      ((si, X, Y, so, ()), (0 : Int), ()) = (writeS (si, sl, sd, so, ()) (ts, tn, ()) k v a, writeE (si, sl, sd, so, ()) (ts, tn, ()) k v a, ()) := fun X Y h0 hX hY => by
    rw [write_all h0, hX, hY, lk_neg, hH]
  have f4 : (sl.length : Int) ≤ 24 := by omega
  clear hH
  (repeat' (first | refine bif_ok (fun h => ?_) (fun h => ?_) | with_reducible refine And.intro ?_ ?_ | fail))
  all_goals first
    | assumption
    | exact in_last
    | exact room_more q2 (by decide)
    | exact room_more q3 (by decide)
    | (refine hin ?_; clear hE fin hin; grind [pLt, pLe, pGt, pGe, pEq, pNe, pNot, pAndB, pBeq, pInt, pLen, inF, pIn, pTo, pNat])
    | (refine write_err (hE.trans ?_) rfl; clear hE fin hin; grind [pLt, pLe, pGt, pGe, pEq, pNe, pNot, pAndB, pBeq, pInt, pLen, inF, pIn, pTo, pNat])
    | (refine fin _ _ (hE.trans ?_) ?_ ?_ <;> (clear hE fin hin ha; grind [pLt, pLe, pGt, pGe, pEq, pNe, pNot, pAndB, pBeq, pInt, pLen, inF, pIn, pTo, pNat]))
    | (exfalso; clear hE fin hin; grind [pLt, pLe, pGt, pGe, pEq, pNe, pNot, pAndB, pBeq, pInt, pLen, inF, pIn, pTo, pNat])

theorem writeS_len (is : List ItemD) (ls : List LockD) (ds : List DoubtD) (os : List TxnD) (t : TxnD) (k v q : Int) :
    (writeS (is, ls, ds, os, ()) t k v q).1.length ≤ is.length + 1 ∧ (writeS (is, ls, ds, os, ()) t k v q).2.1.length ≤ ls.length + 1 ∧ (writeS (is, ls, ds, os, ()) t k v q).2.2.1.length ≤ ds.length + 1 ∧ (writeS (is, ls, ds, os, ()) t k v q).2.2.2.1.length ≤ os.length + 1 := by
  unfold writeS
  cases pEq (writeE (is, ls, ds, os, ()) t k v q) 0 with
  | false => exact ⟨Nat.zero_le _, Nat.zero_le _, Nat.zero_le _, Nat.zero_le _⟩
  | true =>
    refine ⟨Nat.le_succ _, ?_, hand_len _ _ _, Nat.le_succ _⟩
    show (cond (pLt (idxLkF ls t.1 t.2.1 k) 0) (pApp ls [(t.1, t.2.1, k, true, v, q, ())]) (pSet ls (pNat (idxLkF ls t.1 t.2.1 k)) (t.1, t.2.1, k, true, v, q, ()))).length ≤ _
    cases pLt (idxLkF ls t.1 t.2.1 k) 0 with
    | true => show (pApp ls _).length ≤ _; unfold pApp; simp
    | false => show (pSet ls _ _).length ≤ _; rw [pSet_len (t := tyLock)]; exact Nat.le_succ _

end Go.Proofs.Ytoalcmpjfnlkdaa
