/- What the document says of a message that a site hears: the other cases, joined. No condition. -/
import Derived.Test.YtkhnakdmkhidbaaDoorJ6
import Derived.Test.YtkhnakdmkhidbaaDoorJ10
import Derived.Test.YtkhnakdmkhidbaaDoorJ7
import Derived.Test.YtkhnakdmkhidbaaDoorFH
import Derived.Test.YtkhnakdmkhidbaaDoorJ2
import Derived.Test.YtkhnakdmkhidbaaDoorJ9
import Derived.Test.YtkhnakdmkhidbaaDoorJ8

/- Writing a key: functions of the store meet their contracts. No condition. -/
namespace Go.Proofs.YtkhnakdmkhidbaaDoor
open Go.RowKit

theorem writeE_eq (is : List ItemD) (ls : List LockD) (ds : List DoubtD) (os : List TxnD) (a b k v q : Int) : writeE (is, ls, ds, os, ()) (a, b, ()) k v q =
  cond (pEq (askE (is, ls, ds, os, ()) (a, b, ()) k) 0) (cond (inF v 0 1073741824 && inF q 0 1048576)
    (cond (pGe (idxTxnF os (a, b, ())) 0 || (pGe (idxLkF ls a b k) 0 && pGt (pGet tyLock ls (pNat (idxLkF ls a b k))).2.2.2.2.2.1 q)) 13
      (cond (pGe (idxBusyF ls a b k true) 0) 11 (cond ((pLt (idxLkF ls a b k) 0 && pGe (pInt ls.length) 24) || pGe (itemF is k).2.2.1 1048576) 8 0))) 2) (askE (is, ls, ds, os, ()) (a, b, ()) k) := rfl
theorem write_err {s : StoD} {t : TxnD} {k v q n : Int} (h : writeE s t k v q = n) (hn : pEq n 0 = false) : (([], [], [], [], ()), n, ()) = (writeS s t k v q, writeE s t k v q, ()) := by
  unfold writeS; rw [h, hn]; rfl
theorem write_all {is : List ItemD} {ls : List LockD} {ds : List DoubtD} {os : List TxnD} {a b k v q : Int} (h : writeE (is, ls, ds, os, ()) (a, b, ()) k v q = 0) :
    (writeS (is, ls, ds, os, ()) (a, b, ()) k v q, writeE (is, ls, ds, os, ()) (a, b, ()) k v q, ()) =
    ((is, cond (pLt (idxLkF ls a b k) 0) (pApp ls [(a, b, k, true, v, q, ())]) (pSet ls (pNat (idxLkF ls a b k)) (a, b, k, true, v, q, ())), handF ds a b, os, ()), (0 : Int), ()) := by
  unfold writeS; rw [h]; rfl
theorem set_last {l : List LockD} {x y : LockD} : pSet (pApp l [y]) (pNat (pInt (pLen l))) x = pApp l [x] := by
  unfold pSet pApp pInt pLen
  rw [pNat_coe, List.set_append_right _ _ (Nat.le_refl _), Nat.sub_self]; rfl
theorem in_last {l : List LockD} {x : LockD} : pIn (pInt (pLen l)) (pLen (pApp l [x])) := by
  unfold pInt
  exact pIn_coe.2 (by show l.length < (pApp l [x]).length; unfold pApp; simp)
theorem item_ver {l : List ItemD} {k : Int} (h : itemsF l = true) : pLe (itemF l k).2.2.1 1048576 = true := by
  rw [itemF_eq]
  cases hk : pGe (idxKeyF l k) 0 with
  | false => rfl
  | true =>
    obtain ⟨_, i, e, hi⟩ := idxKey_pos (sort_of h) hk
    rw [cond_true, e, pNat_coe]
    have h1 := allUpto_iff.1 h i hi
    rw [itemOk_eq] at h1
    simp only [Bool.and_eq_true] at h1
    have h2 := h1.1.2
    unfold inF at h2
    simp only [Bool.and_eq_true] at h2
    exact h2.2

theorem Write_ok : Meets Tryd.prog (fun _ => none) 57 cWrite := Write_meets scall_ok item_ok lock_ok own_ok Contains_ok busy_ok hand_ok fun si sl sd so ts tn k v a hp => by
  have l1 : si.length < 4611686018427387904 := hp (pLen si < 4611686018427387904) (by simp)
  have l2 : sl.length < 4611686018427387904 := hp (pLen sl < 4611686018427387904) (by simp)
  have l3 : sd.length < 4611686018427387904 := hp (pLen sd < 4611686018427387904) (by simp)
  have l4 : so.length < 4611686018427387904 := hp (pLen so < 4611686018427387904) (by simp)
  have r1 : pRoom (pLen si) 24 := hp (pRoom (pLen si) 24) (by simp)
  have r2 : pRoom (pLen sl) 48 := hp (pRoom (pLen sl) 48) (by simp)
  have r3 : pRoom (pLen sd) 24 := hp (pRoom (pLen sd) 24) (by simp)
  have r4 : pRoom (pLen so) 16 := hp (pRoom (pLen so) 16) (by simp)
  clear hp
  unfold Write_VC
  refine ⟨l1, l2, l3, l4, bif_ok (fun h => ?_) fun ha => ?_⟩
  · exact write_err (by rw [writeE_eq]; clear l1 l2 l3 l4; grind [pLt, pLe, pGt, pGe, pEq, pNe, pNot, pAndB, pBeq, pInt, pLen, inF, pIn, pTo, pNat]) (by simpa [pNe, pEq] using h)
  obtain ⟨f1, f2, f3⟩ := doubts_few (ask_ok ha)
  have hin := @idxLk_in sl ts tn k
  have hv := @item_ver si k f3
  have ha0 : pEq (askE (si, sl, sd, so, ()) (ts, tn, ()) k) 0 = true := by simpa [pNe, pEq] using ha
  have q2 : sl.length < 25 := by omega
  have q3 : sd.length < 25 := by omega
  have qd : pRoom (pPlus (pLen sd) 1) 24 := (show (sd.length + 1) * 24 ≤ 140737488351232 by omega)
  have qa : ∀ x : LockD, (pApp sl [x]).length < 4611686018427387904 := fun x => by unfold pApp; simp only [List.length_append, List.length_cons, List.length_nil]; omega
  have qs : ∀ (i : Nat) (x : LockD), (pSet sl i x).length < 4611686018427387904 := fun i x => by rw [pSet_len (t := tyLock)]; exact l2
  have hE := writeE_eq si sl sd so ts tn k v a
  rw [ha0, cond_true] at hE
  clear ha ha0
  rw [lk_neg] at hE ⊢
  have fin : ∀ X, writeE (si, sl, sd, so, ()) (ts, tn, ()) k v a = 0 → X = cond (!pGe (idxLkF sl ts tn k) 0) (pApp sl [(ts, tn, k, true, v, a, ())]) (pSet sl (pNat (idxLkF sl ts tn k)) (ts, tn, k, true, v, a, ())) →
      ((si, X, handF sd ts tn, so, ()), (0 : Int), ()) = (writeS (si, sl, sd, so, ()) (ts, tn, ()) k v a, writeE (si, sl, sd, so, ()) (ts, tn, ()) k v a, ()) := fun X h0 hX => by
    rw [write_all h0, hX, lk_neg]
  have f4 : (sl.length : Int) ≤ 24 := by omega
  (repeat' (first | refine bif_ok (fun h => ?_) (fun h => ?_) | with_reducible refine And.intro ?_ ?_ | fail))
  all_goals first
    | assumption
    | exact qa _
    | exact qs _ _
    | exact room_more q2 (by decide)
    | (refine hin ?_; clear hE fin qa qs hin; grind [pLt, pLe, pGt, pGe, pEq, pNe, pNot, pAndB, pBeq, pInt, pLen, inF, pIn, pTo, pNat])
    | (refine write_err (hE.trans ?_) rfl; clear hE fin qa qs hin; grind [pLt, pLe, pGt, pGe, pEq, pNe, pNot, pAndB, pBeq, pInt, pLen, inF, pIn, pTo, pNat])
    | (refine fin _ (hE.trans ?_) ?_ <;> (clear hE fin qa qs hin; grind [pLt, pLe, pGt, pGe, pEq, pNe, pNot, pAndB, pBeq, pInt, pLen, inF, pIn, pTo, pNat]))

theorem WriteOf_ok : Meets Tryd.prog (fun _ => none) 29 cWriteOf := WriteOf_meets askFault_ok StoreCopy_ok itemOf_ok lockOf_ok others_ok isOver_ok doubtOf_ok In_ok fun si sl sd so ts tn k v a hp => by
  have l1 : si.length < 4611686018427387904 := hp (pLen si < 4611686018427387904) (by simp)
  have l2 : sl.length < 4611686018427387904 := hp (pLen sl < 4611686018427387904) (by simp)
  have l3 : sd.length < 4611686018427387904 := hp (pLen sd < 4611686018427387904) (by simp)
  have l4 : so.length < 4611686018427387904 := hp (pLen so < 4611686018427387904) (by simp)
  have r1 : pRoom (pLen si) 24 := hp (pRoom (pLen si) 24) (by simp)
  have r2 : pRoom (pLen sl) 48 := hp (pRoom (pLen sl) 48) (by simp)
  have r3 : pRoom (pLen sd) 24 := hp (pRoom (pLen sd) 24) (by simp)
  have r4 : pRoom (pLen so) 16 := hp (pRoom (pLen so) 16) (by simp)
  clear hp
  unfold WriteOf_VC
  cases ha0 : pEq (askE (si, sl, sd, so, ()) (ts, tn, ()) k) 0
  · refine ⟨l1, l2, l3, l4, ?_⟩
    have hE := writeE_eq si sl sd so ts tn k v a
    rw [ha0, cond_false] at hE
    (repeat' (first | refine bif_ok (fun h => ?_) (fun h => ?_) | with_reducible refine And.intro ?_ ?_ | fail))
    all_goals first
      | exact write_err hE ha0
      | (exfalso; clear hE l1 l2 l3 l4; grind [pLt, pLe, pGt, pGe, pEq, pNe, pNot, pAndB, pBeq, pInt, pLen, inF, pIn, pTo, pNat])
  have ha : pNe (askE (si, sl, sd, so, ()) (ts, tn, ()) k) 0 = false := by simpa [pNe, pEq] using ha0
  obtain ⟨f1, f2, f3⟩ := doubts_few (ask_ok ha)
  have hin := @idxLk_in sl ts tn k
  have hv := @item_ver si k f3
  have q2 : sl.length < 25 := by omega
  have q3 : sd.length < 25 := by omega
  have hE := writeE_eq si sl sd so ts tn k v a
  rw [ha0, cond_true] at hE
  clear ha0
  simp only [cond_true, set_last, busy_all, doubt_neg]
  rw [lk_neg] at hE ⊢
  have hH := handF_eq sd ts tn
  have fin : ∀ X Y, writeE (si, sl, sd, so, ()) (ts, tn, ()) k v a = 0 → X = cond (!pGe (idxLkF sl ts tn k) 0) (pApp sl [(ts, tn, k, true, v, a, ())]) (pSet sl (pNat (idxLkF sl ts tn k)) (ts, tn, k, true, v, a, ())) →
      Y = cond (pGe (idxDoubtF sd (ts, tn, ())) 0) sd (pApp sd [(ts, tn, 0, ())]) →
      ((si, X, Y, so, ()), (0 : Int), ()) = (writeS (si, sl, sd, so, ()) (ts, tn, ()) k v a, writeE (si, sl, sd, so, ()) (ts, tn, ()) k v a, ()) := fun X Y h0 hX hY => by
    rw [write_all h0, hX, hY, lk_neg, hH]
  have f4 : (sl.length : Int) ≤ 24 := by omega
  clear hH
  (repeat' (first | refine bif_ok (fun h => ?_) (fun h => ?_) | with_reducible refine And.intro ?_ ?_ | fail))
  all_goals first
    | assumption
    | exact in_last
    | exact room_more q2 (by decide)
    | exact room_more q3 (by decide)
    | (refine hin ?_; clear hE fin hin; grind [pLt, pLe, pGt, pGe, pEq, pNe, pNot, pAndB, pBeq, pInt, pLen, inF, pIn, pTo, pNat])
    | (refine write_err (hE.trans ?_) rfl; clear hE fin hin; grind [pLt, pLe, pGt, pGe, pEq, pNe, pNot, pAndB, pBeq, pInt, pLen, inF, pIn, pTo, pNat])
    | (refine fin _ _ (hE.trans ?_) ?_ ?_ <;> (clear hE fin hin ha; grind [pLt, pLe, pGt, pGe, pEq, pNe, pNot, pAndB, pBeq, pInt, pLen, inF, pIn, pTo, pNat]))
    | (exfalso; clear hE fin hin; grind [pLt, pLe, pGt, pGe, pEq, pNe, pNot, pAndB, pBeq, pInt, pLen, inF, pIn, pTo, pNat])

theorem writeS_len (is : List ItemD) (ls : List LockD) (ds : List DoubtD) (os : List TxnD) (t : TxnD) (k v q : Int) :
    (writeS (is, ls, ds, os, ()) t k v q).1.length ≤ is.length + 1 ∧ (writeS (is, ls, ds, os, ()) t k v q).2.1.length ≤ ls.length + 1 ∧ (writeS (is, ls, ds, os, ()) t k v q).2.2.1.length ≤ ds.length + 1 ∧ (writeS (is, ls, ds, os, ()) t k v q).2.2.2.1.length ≤ os.length + 1 := by
  unfold writeS
  cases pEq (writeE (is, ls, ds, os, ()) t k v q) 0 with
  | false => exact ⟨Nat.zero_le _, Nat.zero_le _, Nat.zero_le _, Nat.zero_le _⟩
  | true =>
    refine ⟨Nat.le_succ _, ?_, hand_len _ _ _, Nat.le_succ _⟩
    show (cond (pLt (idxLkF ls t.1 t.2.1 k) 0) (pApp ls [(t.1, t.2.1, k, true, v, q, ())]) (pSet ls (pNat (idxLkF ls t.1 t.2.1 k)) (t.1, t.2.1, k, true, v, q, ()))).length ≤ _
    cases pLt (idxLkF ls t.1 t.2.1 k) 0 with
    | true => show (pApp ls _).length ≤ _; unfold pApp; simp
    | false => show (pSet ls _ _).length ≤ _; rw [pSet_len (t := tyLock)]; exact Nat.le_succ _

end Go.Proofs.YtkhnakdmkhidbaaDoor

/- What a site hears: functions meet their contracts. No condition. -/
namespace Go.Proofs.YtkhnakdmkhidbaaDoor
open Go.RowKit

theorem booA : (∀ b : Bool, (true && b) = b) ∧ (∀ b : Bool, (false && b) = false) ∧ (∀ b : Bool, (b && true) = b) ∧ (∀ b : Bool, (b && false) = false) ∧ (∀ {α : Type} (a b : α), cond true a b = a) ∧ (∀ {α : Type} (a b : α), cond false a b = b) :=
  ⟨Bool.true_and, Bool.false_and, Bool.and_true, Bool.and_false, fun _ _ => rfl, fun _ _ => rfl⟩
theorem pNe_pEq (a b : Int) : pNe a b = !pEq a b := rfl
theorem sto_get {ss : List StoD} {l : Int} (h : StosOk ss) (hl : pIn l (pLen ss)) : StoOk (pGet tySto ss (pNat l)) := by
  obtain ⟨h0, h1⟩ := hl
  obtain ⟨i, rfl⟩ : ∃ i : Nat, l = (i : Int) := ⟨l.toNat, by omega⟩
  have hi : i < ss.length := by have : ((i : Nat) : Int) < (ss.length : Int) := h1; omega
  rw [pNat_coe]
  exact h.2 _ (by rw [pGet_lt hi]; exact List.getElem_mem hi)
theorem ReadF_ok : Meets Tryd.prog (fun _ => none) 54 cReadF := meets_frz Read_ok rfl fun _ => rfl
theorem WriteF_ok : Meets Tryd.prog (fun _ => none) 57 cWriteF := meets_frz Write_ok rfl fun _ => rfl
theorem EndF_ok : Meets Tryd.prog (fun _ => none) 60 cEndF := meets_frz End_ok rfl fun _ => rfl
theorem StoreCopyF_ok : Meets Tryd.prog (fun _ => none) 26 cStoreCopyF := meets_frz StoreCopy_ok rfl fun _ => rfl
theorem NotesCopyF_ok : Meets Tryd.prog (fun _ => none) 5 cNotesCopyF := meets_frz NotesCopy_ok rfl fun _ => rfl
theorem ReadW_ok : Meets Tryd.prog (fun _ => none) 54 cReadW := meets_mono ReadF_ok fun x hp => by
  have h : StoOk x.1.1 := hp _ List.mem_cons_self
  refine ⟨fun p hq => ?_, rfl⟩
  simp only [List.mem_cons, List.not_mem_nil, or_false] at hq; rcases hq with rfl | rfl | rfl | rfl | rfl | rfl | rfl | rfl
  · exact h.1.1
  · exact h.1.2.1
  · exact h.1.2.2.1
  · exact h.1.2.2.2
  · exact h.2.1
  · exact h.2.2.1
  · exact h.2.2.2.1
  · exact h.2.2.2.2
theorem WriteW_ok : Meets Tryd.prog (fun _ => none) 57 cWriteW := meets_mono WriteF_ok fun x hp => by
  have h : StoOk x.1.1 := hp _ List.mem_cons_self
  refine ⟨fun p hq => ?_, rfl⟩
  simp only [List.mem_cons, List.not_mem_nil, or_false] at hq; rcases hq with rfl | rfl | rfl | rfl | rfl | rfl | rfl | rfl
  · exact h.1.1
  · exact h.1.2.1
  · exact h.1.2.2.1
  · exact h.1.2.2.2
  · exact h.2.1
  · exact h.2.2.1
  · exact h.2.2.2.1
  · exact h.2.2.2.2
theorem EndW_ok : Meets Tryd.prog (fun _ => none) 60 cEndW := meets_mono EndF_ok fun x hp => by
  have h : StoOk x.1.1 := hp _ List.mem_cons_self
  refine ⟨fun p hq => ?_, rfl⟩
  simp only [List.mem_cons, List.not_mem_nil, or_false] at hq; rcases hq with rfl | rfl | rfl | rfl | rfl | rfl | rfl | rfl
  · exact h.1.1
  · exact h.1.2.1
  · exact h.1.2.2.1
  · exact h.1.2.2.2
  · exact h.2.1
  · exact h.2.2.1
  · exact h.2.2.2.1
  · exact h.2.2.2.2
theorem StoreCopyW_ok : Meets Tryd.prog (fun _ => none) 26 cStoreCopyW := meets_mono StoreCopyF_ok fun x hp => by
  have h : StoOk x.1.1 := hp _ List.mem_cons_self
  refine ⟨fun p hq => ?_, rfl⟩
  simp only [List.mem_cons, List.not_mem_nil, or_false] at hq; rcases hq with rfl | rfl | rfl | rfl
  · exact h.2.1
  · exact h.2.2.1
  · exact h.2.2.2.1
  · exact h.2.2.2.2
theorem WritesW_ok : Meets Tryd.prog (fun _ => none) 59 cWritesW := meets_mono Writes_ok fun x hp => by
  have h : StoOk x.1.1 := hp _ List.mem_cons_self
  refine ⟨fun p hq => ?_, rfl⟩
  simp only [List.mem_cons, List.not_mem_nil, or_false] at hq; rcases hq with rfl | rfl | rfl | rfl
  · exact h.1.1
  · exact h.1.2.1
  · exact h.1.2.2.1
  · exact h.1.2.2.2
theorem above_ok : Meets Tryd.prog (fun _ => none) 16 cabove := above_meets fun al ak bl bk => by
  unfold above_VC aboveF
  (repeat' (first | refine bif_ok (fun h => ?_) (fun h => ?_) | refine And.intro ?_ ?_ | fail))
  all_goals (refine leafE ?_; simp only [*, cond_true, cond_false])
theorem dominates_ok : Meets Tryd.prog (fun _ => none) 25 cdominates := dominates_meets fun al ak bl bk => by
  unfold dominates_VC aboveF
  (repeat' (first | refine bif_ok (fun h => ?_) (fun h => ?_) | refine And.intro ?_ ?_ | fail))
  all_goals (refine leafE ?_; simp only [*, cond_true, cond_false])
theorem Peek_ok : Meets Tryd.prog (fun _ => none) 55 cPeek := Peek_meets scall_ok busy_ok item_ok fun si sl sd so k hp => by
  have h : StoOk (si, sl, sd, so, ()) := hp _ List.mem_cons_self
  obtain ⟨⟨l1, l2, l3, l4⟩, _⟩ := h
  unfold Peek_VC Peek_v0
  refine ⟨l1, l2, l3, l4, bif_ok (fun h1 => ?_) fun h1 => ⟨l1, l2, l3, l4, bif_ok (fun h2 => ?_) fun h2 => ⟨l1, l2, l3, l4, (doubts_few (ask_sto h1)).2.2, ?_⟩⟩⟩
  · have e : pEq (askE (si, sl, sd, so, ()) (0, 1, ()) k) 0 = false := by simpa [pNe, pEq] using h1
    have e2 : peekE (si, sl, sd, so, ()) k = askE (si, sl, sd, so, ()) (0, 1, ()) k := by unfold peekE; rw [e]; rfl
    unfold peekV peekN; rw [e2, e]; rfl
  · have e : pEq (askE (si, sl, sd, so, ()) (0, 1, ()) k) 0 = true := by simpa [pNe, pEq] using h1
    have e2 : peekE (si, sl, sd, so, ()) k = 11 := by unfold peekE; rw [e, h2]; rfl
    unfold peekV peekN; rw [e2]; rfl
  · have e : pEq (askE (si, sl, sd, so, ()) (0, 1, ()) k) 0 = true := by simpa [pNe, pEq] using h1
    have e2 : peekE (si, sl, sd, so, ()) k = 0 := by unfold peekE; rw [e, h2]; rfl
    unfold peekV peekN; rw [e2]; rfl
theorem PeekOf_ok : Meets Tryd.prog (fun _ => none) 28 cPeekOf := PeekOf_meets askFault_ok others_ok itemOf_ok fun si sl sd so k hp => by
  have h : StoOk (si, sl, sd, so, ()) := hp _ List.mem_cons_self
  obtain ⟨⟨l1, l2, l3, l4⟩, _⟩ := h
  unfold PeekOf_VC
  rw [busy_write]
  refine ⟨l1, l2, l3, l4, bif_ok (fun h1 => ?_) fun h1 => ⟨l1, l2, l3, l4, bif_ok (fun h2 => ?_) fun h2 => ⟨l1, l2, l3, l4, l1, l2, l3, l4, ?_⟩⟩⟩
  · have e : pEq (askE (si, sl, sd, so, ()) (0, 1, ()) k) 0 = false := by simpa [pNe, pEq] using h1
    have e2 : peekE (si, sl, sd, so, ()) k = askE (si, sl, sd, so, ()) (0, 1, ()) k := by unfold peekE; rw [e]; rfl
    unfold peekV peekN; rw [e2, e]; rfl
  · have e : pEq (askE (si, sl, sd, so, ()) (0, 1, ()) k) 0 = true := by simpa [pNe, pEq] using h1
    have e2 : peekE (si, sl, sd, so, ()) k = 11 := by unfold peekE; rw [e, h2]; rfl
    unfold peekV peekN; rw [e2]; rfl
  · have e : pEq (askE (si, sl, sd, so, ()) (0, 1, ()) k) 0 = true := by simpa [pNe, pEq] using h1
    have e2 : peekE (si, sl, sd, so, ()) k = 0 := by unfold peekE; rw [e, h2]; rfl
    unfold peekV peekN; rw [e2]; rfl
theorem Still_ok : Meets Tryd.prog (fun _ => none) 58 cStill := Still_meets scall_ok lock_ok item_ok fun si sl sd so ts tn k v hp => by
  have h : StoOk (si, sl, sd, so, ()) := hp _ List.mem_cons_self
  obtain ⟨⟨l1, l2, l3, l4⟩, _⟩ := h
  unfold Still_VC
  refine ⟨l1, l2, l3, l4, bif_ok (fun h1 => ?_) fun h1 => ⟨l1, l2, l3, l4, bif_ok (fun h2 => ⟨l1, l2, l3, l4, (doubts_few (ask_sto h1)).2.2, ?_⟩) fun h2 => ?_⟩⟩
  · have e : pEq (askE (si, sl, sd, so, ()) (ts, tn, ()) k) 0 = false := by simpa [pNe, pEq] using h1
    unfold stillE stillB; rw [e]; rfl
  all_goals (have e : pEq (askE (si, sl, sd, so, ()) (ts, tn, ()) k) 0 = true := by simpa [pNe, pEq] using h1)
  all_goals (have e0 : askE (si, sl, sd, so, ()) (ts, tn, ()) k = 0 := by simpa [pEq] using e)
  · unfold stillE stillB; rw [e0, h2]; rfl
  · unfold stillE stillB; rw [e0, h2]; rfl
theorem StillOf_ok : Meets Tryd.prog (fun _ => none) 30 cStillOf := StillOf_meets askFault_ok lockOf_ok itemOf_ok fun si sl sd so ts tn k v hp => by
  have h : StoOk (si, sl, sd, so, ()) := hp _ List.mem_cons_self
  obtain ⟨⟨l1, l2, l3, l4⟩, _⟩ := h
  unfold StillOf_VC
  refine ⟨l1, l2, l3, l4, bif_ok (fun h1 => ?_) fun h1 => ⟨l1, l2, l3, l4, bif_ok (fun h2 => ⟨l1, l2, l3, l4, ?_⟩) fun h2 => ?_⟩⟩
  · have e : pEq (askE (si, sl, sd, so, ()) (ts, tn, ()) k) 0 = false := by simpa [pNe, pEq] using h1
    unfold stillE stillB; rw [e]; rfl
  all_goals (have e : pEq (askE (si, sl, sd, so, ()) (ts, tn, ()) k) 0 = true := by simpa [pNe, pEq] using h1)
  all_goals (have e0 : askE (si, sl, sd, so, ()) (ts, tn, ()) k = 0 := by simpa [pEq] using e)
  · unfold stillE stillB; rw [e0, h2]; rfl
  · unfold stillE stillB; rw [e0, h2]; rfl
theorem answer_ok : Meets Tryd.prog (fun _ => none) 53 canswer := answer_meets fun _ _ _ _ _ _ _ _ _ _ _ _ _ _ _ _ _ _ _ => rfl
theorem refusal_ok : Meets Tryd.prog (fun _ => none) 56 crefusal := refusal_meets fun e => by
  unfold refusal_VC refuF
  (repeat' (first | refine bif_ok (fun h => ?_) (fun h => ?_) | refine And.intro ?_ ?_ | fail))
  all_goals (refine leafE ?_; simp only [*, Bool.true_or, Bool.false_or])
theorem sread_ok : Meets Tryd.prog (fun _ => none) 18 csread := sread_meets answer_ok ReadW_ok Peek_ok refusal_ok fun zk zf zt zs zn zl zy zv ze za zd zc cn cl cp l me ss hp => by
  have hS : StosOk ss := hp (StosOk ss) (by simp)
  have hl : pIn l (pLen ss) := hp (pIn l (pLen ss)) (by simp)
  have hz : pIn zl (pLen ss) := hp (pIn zl (pLen ss)) (by simp)
  have h1 := sto_get hS hl
  have h2 := sto_get hS hz
  clear hp hS
  unfold sread_VC sread_t0 sread_v0
  (repeat' (first | refine bif_ok (fun h => ?_) (fun h => ?_) | with_reducible refine And.intro ?_ ?_ | fail))
  all_goals first
    | assumption
    | (refine leafE ?_; (try simp only [pNe_pEq, Bool.not_eq_true', Bool.not_eq_false'] at *); simp only [readA, rdE, rdV, rdN, rdS, sAt, zTxn, ansOf, gotM, doneM, prepR, sureM, *, booA]; done)
    | (exfalso; simp only [pNe, pEq, refuF] at *; grind)
theorem swrite_ok : Meets Tryd.prog (fun _ => none) 19 cswrite := swrite_meets answer_ok WriteW_ok refusal_ok fun zk zf zt zs zn zl zy zv ze za zd zc room cn cl cp l me ss hp => by
  have hS : StosOk ss := hp (StosOk ss) (by simp)
  have hl : pIn l (pLen ss) := hp (pIn l (pLen ss)) (by simp)
  have h1 := sto_get hS hl
  clear hp hS
  unfold swrite_VC swrite_t1 swrite_t0
  (repeat' (first | refine bif_ok (fun h => ?_) (fun h => ?_) | with_reducible refine And.intro ?_ ?_ | fail))
  all_goals first
    | assumption
    | (refine leafE ?_; (try simp only [pNe_pEq, Bool.not_eq_true', Bool.not_eq_false'] at *); simp only [writeA, wrE, wrE0, wrS, sAt, zTxn, ansOf, gotM, doneM, prepR, sureM, *, booA]; done)
    | (exfalso; simp only [pNe, pEq, refuF] at *; grind)
theorem sstill_ok : Meets Tryd.prog (fun _ => none) 20 csstill := sstill_meets answer_ok Still_ok Peek_ok fun zk zf zt zs zn zl zy zv ze za zd zc cn cl cp l me ss hp => by
  have hS : StosOk ss := hp (StosOk ss) (by simp)
  have hl : pIn l (pLen ss) := hp (pIn l (pLen ss)) (by simp)
  have hz : pIn zl (pLen ss) := hp (pIn zl (pLen ss)) (by simp)
  have h1 := sto_get hS hl
  have h2 := sto_get hS hz
  clear hp hS
  unfold sstill_VC
  (repeat' (first | refine bif_ok (fun h => ?_) (fun h => ?_) | with_reducible refine And.intro ?_ ?_ | fail))
  all_goals first
    | assumption
    | (refine leafE ?_; (try simp only [pNe_pEq, Bool.not_eq_true', Bool.not_eq_false'] at *); simp only [stillA, stillY, sAt, zTxn, ansOf, gotM, doneM, prepR, sureM, *, booA]; done)
    | (exfalso; simp only [pNe, pEq, refuF] at *; grind)

end Go.Proofs.YtkhnakdmkhidbaaDoor

/- A site is told the decision: the function meets its contract. No condition. -/
namespace Go.Proofs.YtkhnakdmkhidbaaDoor
open Go.RowKit

theorem dmg_same {z : MsgD} {x : NoteD} (h : newN z x = false) : dmg z x = x := by
  unfold dmg newN at *
  cases hh : hitN z x with
  | false => rfl
  | true =>
    rw [hh, Bool.true_and] at h
    obtain ⟨a, b, c, d, u⟩ := x
    have hd : d = true := by simpa [pNot] using h
    rw [hd]; rfl
theorem damK_len {z : MsgD} {ns : List NoteD} {k : Nat} (h : k ≤ ns.length) : (damK z ns k).length = ns.length := by
  unfold damK; simp only [List.length_append, List.length_map, List.length_take, List.length_drop]; omega
theorem damK_get {z : MsgD} {ns : List NoteD} {k : Nat} (h : k < ns.length) : pGet tyNote (damK z ns k) k = pGet tyNote ns k := by
  unfold pGet damK
  rw [List.getD_eq_getElem?_getD, List.getD_eq_getElem?_getD, List.getElem?_append_right (by simp only [List.length_map, List.length_take]; omega)]
  simp only [List.length_map, List.length_take, List.getElem?_drop]
  rw [show k + (k - min k ns.length) = k from by omega]
theorem damK_set {z : MsgD} {ns : List NoteD} {k : Nat} (h : k < ns.length) : pSet (damK z ns k) k (dmg z (pGet tyNote ns k)) = damK z ns (k + 1) := by
  unfold pSet damK
  have hl : ((ns.take k).map (dmg z)).length = k := by simp only [List.length_map, List.length_take]; omega
  rw [List.set_append_right _ _ (by omega), hl, Nat.sub_self, List.take_succ_eq_append_getElem h, List.map_append, List.append_assoc, List.drop_eq_getElem_cons h, pGet_lt (t := tyNote) h]
  rfl
theorem damK_skip {z : MsgD} {ns : List NoteD} {k : Nat} (h : k < ns.length) (hn : newN z (pGet tyNote ns k) = false) : damK z ns k = damK z ns (k + 1) := by
  rw [← damK_set h, dmg_same hn]
  unfold pSet
  have e : (damK z ns k)[k]? = some (pGet tyNote ns k) := by
    have hl : k < (damK z ns k).length := by rw [damK_len (Nat.le_of_lt h)]; exact h
    rw [List.getElem?_eq_getElem hl, ← pGet_lt (t := tyNote) hl, damK_get h]
  obtain ⟨hl, e2⟩ := List.getElem?_eq_some_iff.1 e
  rw [← e2, List.set_getElem_self]
theorem damK_all (z : MsgD) (ns : List NoteD) : damK z ns ns.length = damN ns z := by
  unfold damK damN
  rw [List.take_length, List.drop_length, List.append_nil]
theorem someN_succ {z : MsgD} {ns : List NoteD} {k : Nat} : someN z ns (k + 1) = (someN z ns k || newN z (pGet tyNote ns k)) := anyUpto_succ
theorem dmg_hit {z : MsgD} {x : NoteD} (h : hitN z x = true) : dmg z x = (x.1, x.2.1, x.2.2.1, true, ()) := by unfold dmg; rw [h]; rfl

theorem sdecide_ok : Meets Tryd.prog (fun _ => none) 21 csdecide := sdecide_meets WritesW_ok EndW_ok answer_ok fun zk zf zt zs zn zl zy zv ze za zd zc cn cl cp l me ss ns hp => by
  have hS : StosOk ss := hp (StosOk ss) (by simp)
  have hl : pIn l (pLen ss) := hp (pIn l (pLen ss)) (by simp)
  have hn : ns.length < 4611686018427387904 := hp (pLen ns < 4611686018427387904) (by simp)
  have h1 := sto_get hS hl
  clear hp hS
  unfold sdecide_VC sdecide_v0 sdecide_v1
  refine ⟨hl, h1, hl, h1, ⟨0, rfl, Nat.zero_le _⟩, fun y hy => ?_⟩
  obtain ⟨k, rfl, hk⟩ := hy
  by_cases hkn : k < ns.length
  · rw [bif_true (by simp [pLt_coe, pLen, hkn])]
    dsimp only
    rw [pNat_coe, damK_get hkn]
    have hb : k < 4611686018427387904 := by omega
    have hin : pIn (k : Int) (pLen (damK (zk, zf, zt, zs, zn, zl, zy, zv, ze, za, zd, zc, ()) ns k)) := by
      unfold pLen; rw [damK_len hk]; exact pIn_coe.2 hkn
    have nx : ∀ (b : Bool) (A : List NoteD), b = someN (zk, zf, zt, zs, zn, zl, zy, zv, ze, za, zd, zc, ()) ns (k + 1) → A = damK (zk, zf, zt, zs, zn, zl, zy, zv, ze, za, zd, zc, ()) ns (k + 1) → sdecInv zk zf zt zs zn zl zy zv ze za zd zc cn cl cp l me ss ns (pAdd .i64 (k : Int) 1, b, A, ()) :=
      fun b A e1 e2 => ⟨k + 1, by rw [pAdd1 hb, e1, e2], hkn⟩
    have sk : newN (zk, zf, zt, zs, zn, zl, zy, zv, ze, za, zd, zc, ()) (pGet tyNote ns k) = false → sdecInv zk zf zt zs zn zl zy zv ze za zd zc cn cl cp l me ss ns (pAdd .i64 (k : Int) 1, someN (zk, zf, zt, zs, zn, zl, zy, zv, ze, za, zd, zc, ()) ns k, damK (zk, zf, zt, zs, zn, zl, zy, zv, ze, za, zd, zc, ()) ns k, ()) :=
      fun e => nx _ _ (by rw [someN_succ, e, Bool.or_false]) (damK_skip hkn e)
    refine ⟨hin, bif_ok (fun a => bif_ok (fun b => bif_ok (fun c => ⟨hin, nx _ _ ?_ ?_, mu_step hkn hb⟩) fun c => ⟨sk ?_, mu_step hkn hb⟩) fun b => ⟨sk ?_, mu_step hkn hb⟩) fun a => ⟨sk ?_, mu_step hkn hb⟩⟩
    · have e : newN (zk, zf, zt, zs, zn, zl, zy, zv, ze, za, zd, zc, ()) (pGet tyNote ns k) = true := by
        show (pAndB (pEq _ zs) (pEq _ zn) && pNot (pBeq _ zd) && pNot _) = true
        rw [a, b, c]; rfl
      rw [someN_succ, e, Bool.or_true]
    · rw [← damK_set hkn, dmg_hit]
      show (pAndB (pEq _ zs) (pEq _ zn) && pNot (pBeq _ zd)) = true
      rw [a, b]; rfl
    · show (pAndB (pEq _ zs) (pEq _ zn) && pNot (pBeq _ zd) && pNot _) = false
      rw [c, Bool.and_false]
    · show (pAndB (pEq _ zs) (pEq _ zn) && pNot (pBeq _ zd) && pNot _) = false
      rw [b, Bool.and_false, Bool.false_and]
    · show (pAndB (pEq _ zs) (pEq _ zn) && pNot (pBeq _ zd) && pNot _) = false
      rw [a, Bool.false_and, Bool.false_and]
  · obtain rfl : k = ns.length := by omega
    rw [bif_false (by simp [pLt_coe, pLen])]
    dsimp only
    rw [damK_all]
    have ew : (bif pEq (askE (pGet tySto ss (pNat l)) (zs, zn, ()) 0) 0 then cntW (pGet tySto ss (pNat l)).2.1 zs zn else 0) = writesN (sAt ss l) (zTxn (zk, zf, zt, zs, zn, zl, zy, zv, ze, za, zd, zc, ())) := rfl
    rw [ew]
    have hd : decideA l me ss (zk, zf, zt, zs, zn, zl, zy, zv, ze, za, zd, zc, ()) ns = ansOf (endS (sAt ss l) (zTxn (zk, zf, zt, zs, zn, zl, zy, zv, ze, za, zd, zc, ())) zd) [ackM me (zk, zf, zt, zs, zn, zl, zy, zv, ze, za, zd, zc, ())] (cond (pGt (writesN (sAt ss l) (zTxn (zk, zf, zt, zs, zn, zl, zy, zv, ze, za, zd, zc, ()))) 0 || someN (zk, zf, zt, zs, zn, zl, zy, zv, ze, za, zd, zc, ()) ns ns.length) [applR (zk, zf, zt, zs, zn, zl, zy, zv, ze, za, zd, zc, ())] []) := rfl
    rw [hd]
    refine bif_ok (fun a => ?_) fun a => bif_ok (fun b => ?_) fun b => ?_
    · rw [a]; rfl
    · rw [a, b]; rfl
    · rw [a, b]; rfl

end Go.Proofs.YtkhnakdmkhidbaaDoor

/- Messages: the checks meet their contracts. No condition. -/
namespace Go.Proofs.YtkhnakdmkhidbaaDoor
open Go.RowKit

theorem wtxn_ok : Meets Tryd.prog (fun _ => none) 48 cwtxn := wtxn_meets fun cn cl cp ts tn => by
  unfold wtxn_VC
  (repeat' (first | refine bif_ok (fun h => ?_) (fun h => ?_) | refine And.intro ?_ ?_ | fail))
  all_goals (refine leafE ?_; simp only [wtxF]; grind [pLt, pLe, pGt, pGe, pEq, pNe, pNot, pAndB, pBeq, pInt, pLen, inF, pIn, pTo, pNat])
theorem wkey_ok : Meets Tryd.prog (fun _ => none) 49 cwkey := wkey_meets fun a => by
  unfold wkey_VC
  (repeat' (first | refine bif_ok (fun h => ?_) (fun h => ?_) | refine And.intro ?_ ?_ | fail))
  all_goals (refine leafE ?_; grind [pLt, pLe, pGt, pGe, pEq, pNe, pNot, pAndB, pBeq, pInt, pLen, inF, pIn, pTo, pNat])
theorem wvalue_ok : Meets Tryd.prog (fun _ => none) 50 cwvalue := wvalue_meets fun a => by
  unfold wvalue_VC
  (repeat' (first | refine bif_ok (fun h => ?_) (fun h => ?_) | refine And.intro ?_ ?_ | fail))
  all_goals (refine leafE ?_; grind [pLt, pLe, pGt, pGe, pEq, pNe, pNot, pAndB, pBeq, pInt, pLen, inF, pIn, pTo, pNat])
theorem wask_ok : Meets Tryd.prog (fun _ => none) 51 cwask := wask_meets fun a => by
  unfold wask_VC
  (repeat' (first | refine bif_ok (fun h => ?_) (fun h => ?_) | refine And.intro ?_ ?_ | fail))
  all_goals (refine leafE ?_; grind [pLt, pLe, pGt, pGe, pEq, pNe, pNot, pAndB, pBeq, pInt, pLen, inF, pIn, pTo, pNat])
theorem wcode_ok : Meets Tryd.prog (fun _ => none) 52 cwcode := wcode_meets fun a => by
  unfold wcode_VC
  (repeat' (first | refine bif_ok (fun h => ?_) (fun h => ?_) | refine And.intro ?_ ?_ | fail))
  all_goals (refine leafE ?_; simp only [codeF]; grind [pLt, pLe, pGt, pGe, pEq, pNe, pNot, pAndB, pBeq, pInt, pLen, inF, pIn, pTo, pNat])
theorem txnMay_ok : Meets Tryd.prog (fun _ => none) 67 ctxnMay := txnMay_meets In_ok fun cn cl cp ts tn hp => by
  have h4 : inF cn 1 4 = true := hp _ List.mem_cons_self
  have h5 := inF_iff.1 h4
  unfold txnMay_VC
  rw [pSubI_in (a := cn) (b := 1) (by omega)]
  (repeat' (first | refine bif_ok (fun h => ?_) (fun h => ?_) | refine And.intro ?_ ?_ | fail))
  all_goals (refine leafE ?_; simp only [wtxF]; grind [pLt, pLe, pGt, pGe, pEq, pNe, pNot, pAndB, pBeq, pInt, pLen, inF, pIn, pTo, pNat])

theorem msgF_eq (cn : Int) (cl : List LabD) (cp mk mf mt ms mn ml my mv me ma : Int) (md : Bool) (mc : Int) (r1 r2 r3 r4 r5 r6 r7 r8 : Bool) (hr : pGet tyParts messagesT (pNat mk) = (r1, r2, r3, r4, r5, r6, r7, r8, ())) :
    msgF (cn, cl, cp, ()) (mk, mf, mt, ms, mn, ml, my, mv, me, ma, md, mc, ()) = cond (pEq (cfgF (cn, cl, cp, ())) 0) (cond (inF mk 1 9)
      (cond (pLe 0 mf && pLt mf cn && pLe 0 mt && pLt mt cn && wtxF (cn, cl, cp, ()) ms mn && placeF (cn, cl, cp, ()) ml && inF my 0 7 && inF mv 0 1073741824 && inF me 0 1048576 && inF ma 0 1048576 && codeF mc)
        (cond ((r1 || pEq ml 0) && (r2 || pEq my 0) && (r3 || pEq mv 0) && (r4 || pEq me 0) && (r5 || pEq ma 0) && (r6 || !md) && (r7 || pEq mc 0) && (pEq mc 0 || (pEq mv 0 && pEq me 0))) 0 4) 2) 3) (cfgF (cn, cl, cp, ())) := by
  unfold msgF msgForm
  simp only [hr]
  rfl

theorem bif_dup {r b : Bool} {X T : Prop} (h1 : r = false → b = true → X) (h2 : (r || !b) = true → T) : bif pNot r then (bif b then X else T) else T := by
  cases r <;> cases b <;> simp_all [pNot]

set_option maxHeartbeats 4000000 in
theorem CheckMessage_ok : Meets Tryd.prog tabsM 15 cCheckMessage := CheckMessage_meets lCheck_ok.any wtxn_ok.any wkey_ok.any wvalue_ok.any wask_ok.any wcode_ok.any fun cn cl cp mk mf mt ms mn ml my mv me ma md mc hp => by
  have hl : cl.length < 4611686018427387904 := hp _ List.mem_cons_self
  clear hp
  unfold CheckMessage_VC CheckMessage_t0 CheckMessage_t1 CheckMessage_t2 CheckMessage_t3 CheckMessage_t4 CheckMessage_t5 CheckMessage_t6 CheckMessage_v0
  have hP : placeF (cn, cl, cp, ()) ml = (pLe 0 ml && pLt ml (pInt cl.length)) := rfl
  have hlen : messagesT.length = 10 := rfl
  generalize hr : pGet tyParts messagesT (pNat mk) = r
  obtain ⟨r1, r2, r3, r4, r5, r6, r7, r8, u⟩ := r
  have hM := msgF_eq cn cl cp mk mf mt ms mn ml my mv me ma md mc r1 r2 r3 r4 r5 r6 r7 r8 hr
  have hadd : inF mv 0 1073741824 = true → pLt me 0 = false → pGt me 1048576 = false → pAdd .i64 mv me = mv + me := fun h1 h2 h3 => pAdd_in (by
    rw [inF_iff] at h1; simp only [pLt, pGt, decide_eq_false_iff_not] at h2 h3; omega)
  dsimp only
  clear hr
  refine ⟨hl, ?_⟩
  (repeat' (first | refine bif_dup (fun h1 h2 => ?_) (fun h => ?_) | refine bif_ok (fun h => ?_) (fun h => ?_) | with_reducible refine And.intro ?_ ?_ | fail))
  all_goals first
    | (unfold pIn; simp only [pLt, pGt, decide_eq_false_iff_not] at *; omega)
    | (refine leafE ?_; rw [hM]; grind [pLt, pLe, pGt, pGe, pEq, pNe, pNot, pAndB, pBeq, pInt, pLen, inF, pIn, pTo, pNat])
    | skip


theorem row1 : pGet tyParts messagesT (pNat 1) = (true, true, false, false, true, false, false, false, ()) := rfl
theorem row2 : pGet tyParts messagesT (pNat 2) = (false, true, true, false, true, false, false, false, ()) := rfl
theorem row3 : pGet tyParts messagesT (pNat 3) = (true, true, false, true, false, false, false, false, ()) := rfl
theorem row4 : pGet tyParts messagesT (pNat 4) = (false, false, false, false, false, true, false, false, ()) := rfl
theorem row5 : pGet tyParts messagesT (pNat 5) = (true, true, true, true, true, false, true, false, ()) := rfl
theorem row6 : pGet tyParts messagesT (pNat 6) = (false, true, false, false, true, false, true, false, ()) := rfl
theorem row7 : pGet tyParts messagesT (pNat 7) = (true, true, false, true, false, true, false, false, ()) := rfl
theorem row8 : pGet tyParts messagesT (pNat 8) = (false, false, false, false, false, false, false, false, ()) := rfl
theorem row9 : pGet tyParts messagesT (pNat 9) = (false, false, false, false, false, false, false, false, ()) := rfl
set_option maxHeartbeats 4000000 in
theorem MessageFault_ok : Meets Tryd.prog (fun _ => none) 24 cMessageFault := MessageFault_meets cFault_ok In_ok txnMay_ok labelMay_ok fun cn cl cp mk mf mt ms mn ml my mv me ma md mc hp => by
  have hl : cl.length < 4611686018427387904 := hp _ List.mem_cons_self
  clear hp
  unfold MessageFault_VC MessageFault_t0 MessageFault_v0
  refine ⟨hl, bif_ok (fun h => ?_) fun hc => ?_⟩
  · refine leafE ?_; unfold msgF; grind [pLt, pLe, pGt, pGe, pEq, pNe, pNot, pAndB, pBeq, pInt, pLen, inF, pIn, pTo, pNat]
  have h4 := cfgF_sites4 hc
  have hc4 := inF_iff.1 h4
  have hc0 : pEq (cfgF (cn, cl, cp, ())) 0 = true := by simpa [pNe, pEq] using hc
  rw [pSubI_in (a := cn) (b := 1) (by simp only at hc4; omega)]
  refine bif_ok (fun h => ?_) fun hk => ?_
  · refine leafE ?_; unfold msgF; grind [pLt, pLe, pGt, pGe, pEq, pNe, pNot, pAndB, pBeq, pInt, pLen, inF, pIn, pTo, pNat]
  have hk9 : mk = 1 ∨ mk = 2 ∨ mk = 3 ∨ mk = 4 ∨ mk = 5 ∨ mk = 6 ∨ mk = 7 ∨ mk = 8 ∨ mk = 9 := by
    have : inF mk 1 9 = true := by cases hq : inF mk 1 9 with
      | true => rfl
      | false => rw [hq] at hk; cases hk
    rw [inF_iff] at this; omega
  rcases hk9 with rfl | rfl | rfl | rfl | rfl | rfl | rfl | rfl | rfl
  · have hM := msgF_eq cn cl cp 1 mf mt ms mn ml my mv me ma md mc _ _ _ _ _ _ _ _ row1
    rw [hc0, cond_true] at hM
    simp only [codeF, Bool.true_or, Bool.false_or, Bool.true_and, Bool.and_true] at hM
    (repeat' (first | refine bif_ok (fun h => ?_) (fun h => ?_) | refine And.intro ?_ ?_ | fail))
    all_goals first
      | exact hl
      | exact h4
      | (refine leafE ?_; rw [hM]; clear hM; grind [pLt, pLe, pGt, pGe, pEq, pNe, pNot, pAndB, pBeq, pInt, pLen, inF, pIn, pTo, pNat])
      | skip
  · have hM := msgF_eq cn cl cp 2 mf mt ms mn ml my mv me ma md mc _ _ _ _ _ _ _ _ row2
    rw [hc0, cond_true] at hM
    simp only [codeF, Bool.true_or, Bool.false_or, Bool.true_and, Bool.and_true] at hM
    (repeat' (first | refine bif_ok (fun h => ?_) (fun h => ?_) | refine And.intro ?_ ?_ | fail))
    all_goals first
      | exact hl
      | exact h4
      | (refine leafE ?_; rw [hM]; clear hM; grind [pLt, pLe, pGt, pGe, pEq, pNe, pNot, pAndB, pBeq, pInt, pLen, inF, pIn, pTo, pNat])
      | skip
  · have hM := msgF_eq cn cl cp 3 mf mt ms mn ml my mv me ma md mc _ _ _ _ _ _ _ _ row3
    rw [hc0, cond_true] at hM
    simp only [codeF, Bool.true_or, Bool.false_or, Bool.true_and, Bool.and_true] at hM
    (repeat' (first | refine bif_ok (fun h => ?_) (fun h => ?_) | refine And.intro ?_ ?_ | fail))
    all_goals first
      | exact hl
      | exact h4
      | (refine leafE ?_; rw [hM]; clear hM; grind [pLt, pLe, pGt, pGe, pEq, pNe, pNot, pAndB, pBeq, pInt, pLen, inF, pIn, pTo, pNat])
      | skip
  · have hM := msgF_eq cn cl cp 4 mf mt ms mn ml my mv me ma md mc _ _ _ _ _ _ _ _ row4
    rw [hc0, cond_true] at hM
    simp only [codeF, Bool.true_or, Bool.false_or, Bool.true_and, Bool.and_true] at hM
    (repeat' (first | refine bif_ok (fun h => ?_) (fun h => ?_) | refine And.intro ?_ ?_ | fail))
    all_goals first
      | exact hl
      | exact h4
      | (refine leafE ?_; rw [hM]; clear hM; grind [pLt, pLe, pGt, pGe, pEq, pNe, pNot, pAndB, pBeq, pInt, pLen, inF, pIn, pTo, pNat])
      | skip
  · have hM := msgF_eq cn cl cp 5 mf mt ms mn ml my mv me ma md mc _ _ _ _ _ _ _ _ row5
    rw [hc0, cond_true] at hM
    simp only [codeF, Bool.true_or, Bool.false_or, Bool.true_and, Bool.and_true] at hM
    (repeat' (first | refine bif_ok (fun h => ?_) (fun h => ?_) | refine And.intro ?_ ?_ | fail))
    all_goals first
      | exact hl
      | exact h4
      | (refine leafE ?_; rw [hM]; clear hM; grind [pLt, pLe, pGt, pGe, pEq, pNe, pNot, pAndB, pBeq, pInt, pLen, inF, pIn, pTo, pNat])
      | skip
  · have hM := msgF_eq cn cl cp 6 mf mt ms mn ml my mv me ma md mc _ _ _ _ _ _ _ _ row6
    rw [hc0, cond_true] at hM
    simp only [codeF, Bool.true_or, Bool.false_or, Bool.true_and, Bool.and_true] at hM
    (repeat' (first | refine bif_ok (fun h => ?_) (fun h => ?_) | refine And.intro ?_ ?_ | fail))
    all_goals first
      | exact hl
      | exact h4
      | (refine leafE ?_; rw [hM]; clear hM; grind [pLt, pLe, pGt, pGe, pEq, pNe, pNot, pAndB, pBeq, pInt, pLen, inF, pIn, pTo, pNat])
      | skip
  · have hM := msgF_eq cn cl cp 7 mf mt ms mn ml my mv me ma md mc _ _ _ _ _ _ _ _ row7
    rw [hc0, cond_true] at hM
    simp only [codeF, Bool.true_or, Bool.false_or, Bool.true_and, Bool.and_true] at hM
    (repeat' (first | refine bif_ok (fun h => ?_) (fun h => ?_) | refine And.intro ?_ ?_ | fail))
    all_goals first
      | exact hl
      | exact h4
      | (refine leafE ?_; rw [hM]; clear hM; grind [pLt, pLe, pGt, pGe, pEq, pNe, pNot, pAndB, pBeq, pInt, pLen, inF, pIn, pTo, pNat])
      | skip
  · have hM := msgF_eq cn cl cp 8 mf mt ms mn ml my mv me ma md mc _ _ _ _ _ _ _ _ row8
    rw [hc0, cond_true] at hM
    simp only [codeF, Bool.true_or, Bool.false_or, Bool.true_and, Bool.and_true] at hM
    (repeat' (first | refine bif_ok (fun h => ?_) (fun h => ?_) | refine And.intro ?_ ?_ | fail))
    all_goals first
      | exact hl
      | exact h4
      | (refine leafE ?_; rw [hM]; clear hM; grind [pLt, pLe, pGt, pGe, pEq, pNe, pNot, pAndB, pBeq, pInt, pLen, inF, pIn, pTo, pNat])
      | skip
  · have hM := msgF_eq cn cl cp 9 mf mt ms mn ml my mv me ma md mc _ _ _ _ _ _ _ _ row9
    rw [hc0, cond_true] at hM
    simp only [codeF, Bool.true_or, Bool.false_or, Bool.true_and, Bool.and_true] at hM
    (repeat' (first | refine bif_ok (fun h => ?_) (fun h => ?_) | refine And.intro ?_ ?_ | fail))
    all_goals first
      | exact hl
      | exact h4
      | (refine leafE ?_; rw [hM]; clear hM; grind [pLt, pLe, pGt, pGe, pEq, pNe, pNot, pAndB, pBeq, pInt, pLen, inF, pIn, pTo, pNat])
      | skip

end Go.Proofs.YtkhnakdmkhidbaaDoor

/- What the document says of a message that a site hears: the function meets its contract, case by case. No condition. -/
namespace Go.Proofs.YtkhnakdmkhidbaaDoor
open Go.RowKit

theorem ReadOfF_ok : Meets Tryd.prog (fun _ => none) 27 cReadOfF := meets_frz ReadOf_ok rfl fun _ => rfl
theorem WriteOfF_ok : Meets Tryd.prog (fun _ => none) 29 cWriteOfF := meets_frz WriteOf_ok rfl fun _ => rfl
theorem EndOfF_ok : Meets Tryd.prog (fun _ => none) 32 cEndOfF := meets_frz EndOf_ok rfl fun _ => rfl
theorem ReadOfW_ok : Meets Tryd.prog (fun _ => none) 27 cReadOfW := meets_mono ReadOfF_ok fun x hp => by
  have h : StoOk x.1.1 := hp _ List.mem_cons_self
  refine ⟨fun p hq => ?_, rfl⟩
  simp only [List.mem_cons, List.not_mem_nil, or_false] at hq; rcases hq with rfl | rfl | rfl | rfl | rfl | rfl | rfl | rfl
  · exact h.1.1
  · exact h.1.2.1
  · exact h.1.2.2.1
  · exact h.1.2.2.2
  · exact h.2.1
  · exact h.2.2.1
  · exact h.2.2.2.1
  · exact h.2.2.2.2
theorem WriteOfW_ok : Meets Tryd.prog (fun _ => none) 29 cWriteOfW := meets_mono WriteOfF_ok fun x hp => by
  have h : StoOk x.1.1 := hp _ List.mem_cons_self
  refine ⟨fun p hq => ?_, rfl⟩
  simp only [List.mem_cons, List.not_mem_nil, or_false] at hq; rcases hq with rfl | rfl | rfl | rfl | rfl | rfl | rfl | rfl
  · exact h.1.1
  · exact h.1.2.1
  · exact h.1.2.2.1
  · exact h.1.2.2.2
  · exact h.2.1
  · exact h.2.2.1
  · exact h.2.2.2.1
  · exact h.2.2.2.2
theorem EndOfW_ok : Meets Tryd.prog (fun _ => none) 32 cEndOfW := meets_mono EndOfF_ok fun x hp => by
  have h : StoOk x.1.1 := hp _ List.mem_cons_self
  refine ⟨fun p hq => ?_, rfl⟩
  simp only [List.mem_cons, List.not_mem_nil, or_false] at hq; rcases hq with rfl | rfl | rfl | rfl | rfl | rfl | rfl | rfl
  · exact h.1.1
  · exact h.1.2.1
  · exact h.1.2.2.1
  · exact h.1.2.2.2
  · exact h.2.1
  · exact h.2.2.1
  · exact h.2.2.2.1
  · exact h.2.2.2.2
theorem WritesOfW_ok : Meets Tryd.prog (fun _ => none) 31 cWritesOfW := meets_mono WritesOf_ok fun x hp => by
  have h : StoOk x.1.1 := hp _ List.mem_cons_self
  refine ⟨fun p hq => ?_, rfl⟩
  simp only [List.mem_cons, List.not_mem_nil, or_false] at hq; rcases hq with rfl | rfl | rfl | rfl
  · exact h.1.1
  · exact h.1.2.1
  · exact h.1.2.2.1
  · exact h.1.2.2.2
theorem siteFaultW_ok : Meets Tryd.prog (fun _ => none) 23 csiteFaultW := meets_mono siteFault_ok fun x hp => by
  have h1 : pLen x.1.1.2.1 < 4611686018427387904 := hp _ List.mem_cons_self
  have h2 : StosOk x.1.2.2.2.1 := hp _ (List.mem_cons_of_mem _ List.mem_cons_self)
  refine ⟨fun p hq => ?_, rfl⟩
  simp only [List.mem_cons, List.not_mem_nil, or_false] at hq; rcases hq with rfl | rfl | rfl
  · exact h1
  · exact h2.1
  · exact fun q hq => ⟨(h2.2 q hq).1.1, (h2.2 q hq).1.2.1, (h2.2 q hq).1.2.2.1, (h2.2 q hq).1.2.2.2, (h2.2 q hq).2⟩
theorem sF0_ok : Meets Tryd.prog (fun _ => none) 23 csF0 := meets_mono siteFaultW_ok fun x hp => by
  have h3 : checkF (x.1.1.1, x.1.1.2.1, x.1.1.2.2.1, ()) x.1.2.1 x.1.2.2.1 x.1.2.2.2.1 = 0 := hp _ (List.mem_cons_of_mem _ (List.mem_cons_of_mem _ List.mem_cons_self))
  refine ⟨fun p hq => hp p ?_, congrArg (·, ()) h3⟩
  simp only [List.mem_cons, List.not_mem_nil, or_false] at hq; rcases hq with rfl | rfl
  · exact List.mem_cons_self
  · exact List.mem_cons_of_mem _ List.mem_cons_self
theorem sF1_ok : Meets Tryd.prog (fun _ => none) 23 csF1 := meets_mono siteFaultW_ok fun x hp => by
  have h3 : checkF (x.1.1.1, x.1.1.2.1, x.1.1.2.2.1, ()) x.1.2.1 x.1.2.2.1 x.1.2.2.2.1 = 1 := hp _ (List.mem_cons_of_mem _ (List.mem_cons_of_mem _ List.mem_cons_self))
  refine ⟨fun p hq => hp p ?_, congrArg (·, ()) h3⟩
  simp only [List.mem_cons, List.not_mem_nil, or_false] at hq; rcases hq with rfl | rfl
  · exact List.mem_cons_self
  · exact List.mem_cons_of_mem _ List.mem_cons_self
theorem sF2_ok : Meets Tryd.prog (fun _ => none) 23 csF2 := meets_mono siteFaultW_ok fun x hp => by
  have h3 : checkF (x.1.1.1, x.1.1.2.1, x.1.1.2.2.1, ()) x.1.2.1 x.1.2.2.1 x.1.2.2.2.1 = 2 := hp _ (List.mem_cons_of_mem _ (List.mem_cons_of_mem _ List.mem_cons_self))
  refine ⟨fun p hq => hp p ?_, congrArg (·, ()) h3⟩
  simp only [List.mem_cons, List.not_mem_nil, or_false] at hq; rcases hq with rfl | rfl
  · exact List.mem_cons_self
  · exact List.mem_cons_of_mem _ List.mem_cons_self
theorem sF6_ok : Meets Tryd.prog (fun _ => none) 23 csF6 := meets_mono siteFaultW_ok fun x hp => by
  have h3 : checkF (x.1.1.1, x.1.1.2.1, x.1.1.2.2.1, ()) x.1.2.1 x.1.2.2.1 x.1.2.2.2.1 = 6 := hp _ (List.mem_cons_of_mem _ (List.mem_cons_of_mem _ List.mem_cons_self))
  refine ⟨fun p hq => hp p ?_, congrArg (·, ()) h3⟩
  simp only [List.mem_cons, List.not_mem_nil, or_false] at hq; rcases hq with rfl | rfl
  · exact List.mem_cons_self
  · exact List.mem_cons_of_mem _ List.mem_cons_self
theorem sF7_ok : Meets Tryd.prog (fun _ => none) 23 csF7 := meets_mono siteFaultW_ok fun x hp => by
  have h3 : checkF (x.1.1.1, x.1.1.2.1, x.1.1.2.2.1, ()) x.1.2.1 x.1.2.2.1 x.1.2.2.2.1 = 7 := hp _ (List.mem_cons_of_mem _ (List.mem_cons_of_mem _ List.mem_cons_self))
  refine ⟨fun p hq => hp p ?_, congrArg (·, ()) h3⟩
  simp only [List.mem_cons, List.not_mem_nil, or_false] at hq; rcases hq with rfl | rfl
  · exact List.mem_cons_self
  · exact List.mem_cons_of_mem _ List.mem_cons_self
theorem sF9_ok : Meets Tryd.prog (fun _ => none) 23 csF9 := meets_mono siteFaultW_ok fun x hp => by
  have h3 : checkF (x.1.1.1, x.1.1.2.1, x.1.1.2.2.1, ()) x.1.2.1 x.1.2.2.1 x.1.2.2.2.1 = 9 := hp _ (List.mem_cons_of_mem _ (List.mem_cons_of_mem _ List.mem_cons_self))
  refine ⟨fun p hq => hp p ?_, congrArg (·, ()) h3⟩
  simp only [List.mem_cons, List.not_mem_nil, or_false] at hq; rcases hq with rfl | rfl
  · exact List.mem_cons_self
  · exact List.mem_cons_of_mem _ List.mem_cons_self
theorem mF0_ok : Meets Tryd.prog (fun _ => none) 24 cmF0 := meets_mono MessageFault_ok fun x hp => by
  have h3 : msgF x.1.1 x.1.2.1 = 0 := hp _ (List.mem_cons_of_mem _ List.mem_cons_self)
  refine ⟨fun p hq => hp p ?_, congrArg (·, ()) h3⟩
  simp only [List.mem_cons, List.not_mem_nil, or_false] at hq; rcases hq with rfl
  exact List.mem_cons_self
theorem mF2_ok : Meets Tryd.prog (fun _ => none) 24 cmF2 := meets_mono MessageFault_ok fun x hp => by
  have h3 : msgF x.1.1 x.1.2.1 = 2 := hp _ (List.mem_cons_of_mem _ List.mem_cons_self)
  refine ⟨fun p hq => hp p ?_, congrArg (·, ()) h3⟩
  simp only [List.mem_cons, List.not_mem_nil, or_false] at hq; rcases hq with rfl
  exact List.mem_cons_self
theorem mF3_ok : Meets Tryd.prog (fun _ => none) 24 cmF3 := meets_mono MessageFault_ok fun x hp => by
  have h3 : msgF x.1.1 x.1.2.1 = 3 := hp _ (List.mem_cons_of_mem _ List.mem_cons_self)
  refine ⟨fun p hq => hp p ?_, congrArg (·, ()) h3⟩
  simp only [List.mem_cons, List.not_mem_nil, or_false] at hq; rcases hq with rfl
  exact List.mem_cons_self
theorem mF4_ok : Meets Tryd.prog (fun _ => none) 24 cmF4 := meets_mono MessageFault_ok fun x hp => by
  have h3 : msgF x.1.1 x.1.2.1 = 4 := hp _ (List.mem_cons_of_mem _ List.mem_cons_self)
  refine ⟨fun p hq => hp p ?_, congrArg (·, ()) h3⟩
  simp only [List.mem_cons, List.not_mem_nil, or_false] at hq; rcases hq with rfl
  exact List.mem_cons_self

theorem hear_err1 {c : CfgD} {l me : Int} {ss : List StoD} {ns : List NoteD} {room : Int} {z : MsgD} {k : Int} (h : checkF c l me ss = k) (hk : pEq k 0 = false) :
    (([], [], [], [], [], [], [], ()), k, ()) = (hearA c l me ss ns room z, hearE c l me ss ns room z, ()) := by
  have e : hearE c l me ss ns room z = k := by unfold hearE; rw [h, hk]; rfl
  unfold hearA; rw [e, hk]; rfl
theorem hear_err2 {c : CfgD} {l me : Int} {ss : List StoD} {ns : List NoteD} {room : Int} {z : MsgD} {k : Int} (h : checkF c l me ss = 0) (h2 : msgF c z = k) (hk : pEq k 0 = false) :
    (([], [], [], [], [], [], [], ()), k, ()) = (hearA c l me ss ns room z, hearE c l me ss ns room z, ()) := by
  have e : hearE c l me ss ns room z = k := by unfold hearE; rw [h, h2, hk]; rfl
  unfold hearA; rw [e, hk]; rfl
theorem hear_eq {c : CfgD} {l me : Int} {ss : List StoD} {ns : List NoteD} {room : Int} {z : MsgD} (h : checkF c l me ss = 0) (h2 : msgF c z = 0) :
    (hearA c l me ss ns room z, hearE c l me ss ns room z, ()) = cond (pEq z.2.2.1 me) (cond ((pEq z.1 1 || pEq z.1 3) && !aboveF (pGet tyLab c.2.1 (pNat l)) (pGet tyLab c.2.1 (pNat z.2.2.2.2.2.1)))
      (([], [], [], [], [], [], [], ()), 10, ()) (cond (pGt z.1 4) (([], [], [], [], [], [], [], ()), 3, ()) (hearK l me ss ns room z, 0, ()))) (([], [], [], [], [], [], [], ()), 2, ()) := by
  unfold hearA hearE
  rw [h, h2]
  cases pEq z.2.2.1 me with
  | false => rfl
  | true =>
    cases ((pEq z.1 1 || pEq z.1 3) && !aboveF (pGet tyLab c.2.1 (pNat l)) (pGet tyLab c.2.1 (pNat z.2.2.2.2.2.1))) with
    | true => rfl
    | false => cases pGt z.1 4 <;> rfl
theorem msg_in {c : CfgD} {z : MsgD} (h : msgF c z = 0) : inF z.1 1 9 = true ∧ msgRange c z = true := by
  unfold msgF at h
  cases hc : pEq (cfgF c) 0 with
  | false =>
    rw [hc, cond_false] at h
    rw [h] at hc; exact absurd hc (by decide)
  | true =>
    rw [hc, cond_true] at h
    cases hk : inF z.1 1 9 with
    | false => rw [hk] at h; exact absurd (show (3 : Int) = 0 from h) (by decide)
    | true =>
      rw [hk, cond_true] at h
      cases hm : msgRange c z with
      | false => rw [hm] at h; exact absurd (show (2 : Int) = 0 from h) (by decide)
      | true => exact ⟨rfl, rfl⟩
theorem place_in {c : CfgD} {l : Int} (h : placeF c l = true) : pIn l (pLen c.2.1) := by
  unfold placeF at h
  simp only [Bool.and_eq_true] at h
  exact ⟨of_decide_eq_true h.1, of_decide_eq_true h.2⟩
/-- what is known when nothing is wrong -/
theorem hear_in {c : CfgD} {l me : Int} {ss : List StoD} {z : MsgD} (h : checkF c l me ss = 0) (h2 : msgF c z = 0) :
    pIn l (pLen c.2.1) ∧ pIn z.2.2.2.2.2.1 (pLen c.2.1) ∧ pIn l (pLen ss) ∧ pIn z.2.2.2.2.2.1 (pLen ss) := by
  have hc : pNe (checkF (c.1, c.2.1, c.2.2.1, ()) l me ss) 0 = false := by
    show pNe (checkF c l me ss) 0 = false; rw [h]; rfl
  obtain ⟨⟨p1, p2⟩, p3, _⟩ := checkF_ok hc
  have hm := (msg_in h2).2
  have hp : placeF c z.2.2.2.2.2.1 = true := by
    unfold msgRange at hm; simp only [Bool.and_eq_true] at hm; exact hm.1.1.1.1.1.2
  have q := place_in hp
  refine ⟨⟨of_decide_eq_true p1, of_decide_eq_true p2⟩, q, ?_, ?_⟩
  · unfold pLen; rw [p3]; exact ⟨of_decide_eq_true p1, of_decide_eq_true p2⟩
  · unfold pLen; rw [p3]; exact q
theorem room_1 {α : Type} {x : α} {b : Nat} (hb : b ≤ 96) : pRoom (pPlus (pLen ([] : List Unit)) (pLen [x])) b := by show (0 + 1) * b ≤ 140737488351232; omega
theorem hS1_ok : Meets Tryd.prog (fun _ => none) 7 chS1 := hS1_meets sF1_ok fun cn cl cp l me ss ns room zk zf zt zs zn zl zy zv ze za zd zc hp => by
  have hcl : cl.length < 4611686018427387904 := hp (pLen cl < 4611686018427387904) (by simp)
  have hS : StosOk ss := hp (StosOk ss) (by simp)
  have hn : ns.length < 4611686018427387904 := hp (pLen ns < 4611686018427387904) (by simp)
  have hr : pRoom (pLen ns) 24 := hp (pRoom (pLen ns) 24) (by simp)
  have h : checkF (cn, cl, cp, ()) l me ss = 1 := hp (checkF (cn, cl, cp, ()) l me ss = 1) (by simp)
  exact ⟨hcl, hS, h, hear_err1 h rfl⟩
theorem hS2_ok : Meets Tryd.prog (fun _ => none) 7 chS2 := hS2_meets sF2_ok fun cn cl cp l me ss ns room zk zf zt zs zn zl zy zv ze za zd zc hp => by
  have hcl : cl.length < 4611686018427387904 := hp (pLen cl < 4611686018427387904) (by simp)
  have hS : StosOk ss := hp (StosOk ss) (by simp)
  have hn : ns.length < 4611686018427387904 := hp (pLen ns < 4611686018427387904) (by simp)
  have hr : pRoom (pLen ns) 24 := hp (pRoom (pLen ns) 24) (by simp)
  have h : checkF (cn, cl, cp, ()) l me ss = 2 := hp (checkF (cn, cl, cp, ()) l me ss = 2) (by simp)
  exact ⟨hcl, hS, h, hear_err1 h rfl⟩
theorem hS6_ok : Meets Tryd.prog (fun _ => none) 7 chS6 := hS6_meets sF6_ok fun cn cl cp l me ss ns room zk zf zt zs zn zl zy zv ze za zd zc hp => by
  have hcl : cl.length < 4611686018427387904 := hp (pLen cl < 4611686018427387904) (by simp)
  have hS : StosOk ss := hp (StosOk ss) (by simp)
  have hn : ns.length < 4611686018427387904 := hp (pLen ns < 4611686018427387904) (by simp)
  have hr : pRoom (pLen ns) 24 := hp (pRoom (pLen ns) 24) (by simp)
  have h : checkF (cn, cl, cp, ()) l me ss = 6 := hp (checkF (cn, cl, cp, ()) l me ss = 6) (by simp)
  exact ⟨hcl, hS, h, hear_err1 h rfl⟩
theorem hS7_ok : Meets Tryd.prog (fun _ => none) 7 chS7 := hS7_meets sF7_ok fun cn cl cp l me ss ns room zk zf zt zs zn zl zy zv ze za zd zc hp => by
  have hcl : cl.length < 4611686018427387904 := hp (pLen cl < 4611686018427387904) (by simp)
  have hS : StosOk ss := hp (StosOk ss) (by simp)
  have hn : ns.length < 4611686018427387904 := hp (pLen ns < 4611686018427387904) (by simp)
  have hr : pRoom (pLen ns) 24 := hp (pRoom (pLen ns) 24) (by simp)
  have h : checkF (cn, cl, cp, ()) l me ss = 7 := hp (checkF (cn, cl, cp, ()) l me ss = 7) (by simp)
  exact ⟨hcl, hS, h, hear_err1 h rfl⟩
theorem hS9_ok : Meets Tryd.prog (fun _ => none) 7 chS9 := hS9_meets sF9_ok fun cn cl cp l me ss ns room zk zf zt zs zn zl zy zv ze za zd zc hp => by
  have hcl : cl.length < 4611686018427387904 := hp (pLen cl < 4611686018427387904) (by simp)
  have hS : StosOk ss := hp (StosOk ss) (by simp)
  have hn : ns.length < 4611686018427387904 := hp (pLen ns < 4611686018427387904) (by simp)
  have hr : pRoom (pLen ns) 24 := hp (pRoom (pLen ns) 24) (by simp)
  have h : checkF (cn, cl, cp, ()) l me ss = 9 := hp (checkF (cn, cl, cp, ()) l me ss = 9) (by simp)
  exact ⟨hcl, hS, h, hear_err1 h rfl⟩
theorem hM2_ok : Meets Tryd.prog (fun _ => none) 7 chM2 := hM2_meets sF0_ok mF2_ok fun cn cl cp l me ss ns room zk zf zt zs zn zl zy zv ze za zd zc hp => by
  have hcl : cl.length < 4611686018427387904 := hp (pLen cl < 4611686018427387904) (by simp)
  have hS : StosOk ss := hp (StosOk ss) (by simp)
  have hn : ns.length < 4611686018427387904 := hp (pLen ns < 4611686018427387904) (by simp)
  have hr : pRoom (pLen ns) 24 := hp (pRoom (pLen ns) 24) (by simp)
  have h : checkF (cn, cl, cp, ()) l me ss = 0 := hp (checkF (cn, cl, cp, ()) l me ss = 0) (by simp)
  have h2 : msgF (cn, cl, cp, ()) (zk, zf, zt, zs, zn, zl, zy, zv, ze, za, zd, zc, ()) = 2 := hp (msgF (cn, cl, cp, ()) (zk, zf, zt, zs, zn, zl, zy, zv, ze, za, zd, zc, ()) = 2) (by simp)
  exact ⟨hcl, hS, h, hcl, h2, hear_err2 h h2 rfl⟩
theorem hM3_ok : Meets Tryd.prog (fun _ => none) 7 chM3 := hM3_meets sF0_ok mF3_ok fun cn cl cp l me ss ns room zk zf zt zs zn zl zy zv ze za zd zc hp => by
  have hcl : cl.length < 4611686018427387904 := hp (pLen cl < 4611686018427387904) (by simp)
  have hS : StosOk ss := hp (StosOk ss) (by simp)
  have hn : ns.length < 4611686018427387904 := hp (pLen ns < 4611686018427387904) (by simp)
  have hr : pRoom (pLen ns) 24 := hp (pRoom (pLen ns) 24) (by simp)
  have h : checkF (cn, cl, cp, ()) l me ss = 0 := hp (checkF (cn, cl, cp, ()) l me ss = 0) (by simp)
  have h2 : msgF (cn, cl, cp, ()) (zk, zf, zt, zs, zn, zl, zy, zv, ze, za, zd, zc, ()) = 3 := hp (msgF (cn, cl, cp, ()) (zk, zf, zt, zs, zn, zl, zy, zv, ze, za, zd, zc, ()) = 3) (by simp)
  exact ⟨hcl, hS, h, hcl, h2, hear_err2 h h2 rfl⟩
theorem hM4_ok : Meets Tryd.prog (fun _ => none) 7 chM4 := hM4_meets sF0_ok mF4_ok fun cn cl cp l me ss ns room zk zf zt zs zn zl zy zv ze za zd zc hp => by
  have hcl : cl.length < 4611686018427387904 := hp (pLen cl < 4611686018427387904) (by simp)
  have hS : StosOk ss := hp (StosOk ss) (by simp)
  have hn : ns.length < 4611686018427387904 := hp (pLen ns < 4611686018427387904) (by simp)
  have hr : pRoom (pLen ns) 24 := hp (pRoom (pLen ns) 24) (by simp)
  have h : checkF (cn, cl, cp, ()) l me ss = 0 := hp (checkF (cn, cl, cp, ()) l me ss = 0) (by simp)
  have h2 : msgF (cn, cl, cp, ()) (zk, zf, zt, zs, zn, zl, zy, zv, ze, za, zd, zc, ()) = 4 := hp (msgF (cn, cl, cp, ()) (zk, zf, zt, zs, zn, zl, zy, zv, ze, za, zd, zc, ()) = 4) (by simp)
  exact ⟨hcl, hS, h, hcl, h2, hear_err2 h h2 rfl⟩
theorem writes_in {s : StoD} {t : TxnD} (h : StoOk s) : 0 ≤ writesN s t ∧ writesN s t < 4611686018427387904 := by
  unfold writesN
  cases pEq (askE s t 0) 0 with
  | false => exact ⟨Int.le_refl (0 : Int), show (0 : Int) < 4611686018427387904 by decide⟩
  | true =>
    rw [cond_true]
    have hc := cntTo_le (p := fun j => lockIsF (pGet tyLock s.2.1 j) (t.1, t.2.1, ()) && (pGet tyLock s.2.1 j).2.2.2.1) (k := s.2.1.length)
    have hl := h.1.2.1
    unfold cntW
    omega
theorem gt_add {a : Int} (h : 0 ≤ a) (n : Nat) : (pGt a 0 || pGt (n : Int) 0) = pGt (a + (n : Int)) 0 := by
  rw [Bool.eq_iff_iff]
  simp only [Bool.or_eq_true, pGt, decide_eq_true_eq]
  omega
theorem lits : (pEq 1 1 = true ∧ pEq 1 2 = false ∧ pEq 1 3 = false ∧ pEq 2 1 = false ∧ pEq 2 2 = true ∧ pEq 2 3 = false ∧ pEq 3 1 = false ∧ pEq 3 2 = false ∧ pEq 3 3 = true) ∧ (pGt 1 4 = false ∧ pGt 2 4 = false ∧ pGt 3 4 = false ∧ pGt 4 4 = false) ∧
    (pEq 4 1 = false ∧ pEq 4 2 = false ∧ pEq 4 3 = false ∧ pEq 4 4 = true) ∧ (pEq 0 0 = true ∧ pEq 0 11 = false ∧ pEq 0 8 = false ∧ pEq 11 0 = false ∧ pEq 11 11 = true ∧ pEq 8 0 = false ∧ pEq 8 11 = false ∧ pEq 8 8 = true) :=
  ⟨⟨rfl, rfl, rfl, rfl, rfl, rfl, rfl, rfl, rfl⟩, ⟨rfl, rfl, rfl, rfl⟩, ⟨rfl, rfl, rfl, rfl⟩, ⟨rfl, rfl, rfl, rfl, rfl, rfl, rfl, rfl⟩⟩
theorem booB : (∀ b : Bool, (true || b) = true) ∧ (∀ b : Bool, (b || true) = true) ∧ (∀ b : Bool, (false || b) = b) ∧ (∀ b : Bool, (b || false) = b) ∧ (∀ b : Bool, (true && b) = b) ∧ (∀ b : Bool, (false && b) = false) ∧ (∀ b : Bool, (b && true) = b) ∧
    (∀ b : Bool, (b && false) = false) ∧ ((!true) = false) ∧ ((!false) = true) ∧ (∀ {α : Type} (a b : α), cond true a b = a) ∧ (∀ {α : Type} (a b : α), cond false a b = b) :=
  ⟨Bool.true_or, Bool.or_true, Bool.false_or, Bool.or_false, Bool.true_and, Bool.false_and, Bool.and_true, Bool.and_false, rfl, rfl, fun _ _ => rfl, fun _ _ => rfl⟩
theorem four (e : Int) : e = 0 ∨ e = 11 ∨ e = 8 ∨ (pEq e 0 = false ∧ pEq e 11 = false ∧ pEq e 8 = false) := by
  simp only [pEq, beq_eq_false_iff_ne]; omega
theorem readV_no {s : StoD} {t : TxnD} {k : Int} (h : pEq (readE s t k) 0 = false) : readV s t k = 0 := by unfold readV; rw [h]; rfl
theorem readN_no {s : StoD} {t : TxnD} {k : Int} (h : pEq (readE s t k) 0 = false) : readN s t k = 0 := by unfold readN; rw [h]; rfl
theorem peekV_no {s : StoD} {k : Int} (h : pEq (peekE s k) 0 = false) : peekV s k = 0 := by unfold peekV; rw [h]; rfl
theorem peekN_no {s : StoD} {k : Int} (h : pEq (peekE s k) 0 = false) : peekN s k = 0 := by unfold peekN; rw [h]; rfl
theorem hK5_ok : Meets Tryd.prog (fun _ => none) 7 chK5 := hK5_meets sF0_ok mF0_ok dominates_ok StoreCopyW_ok NotesCopy_ok ReadOfW_ok PeekOf_ok WriteOfW_ok StillOf_ok WritesOfW_ok EndOfW_ok fun cn cl cp l me ss ns room zf zt zs zn zl zy zv ze za zd zc hp => by
  have hcl : cl.length < 4611686018427387904 := hp (pLen cl < 4611686018427387904) (by simp)
  have hS : StosOk ss := hp (StosOk ss) (by simp)
  have hn : ns.length < 4611686018427387904 := hp (pLen ns < 4611686018427387904) (by simp)
  have hr : pRoom (pLen ns) 24 := hp (pRoom (pLen ns) 24) (by simp)
  have h : checkF (cn, cl, cp, ()) l me ss = 0 := hp (checkF (cn, cl, cp, ()) l me ss = 0) (by simp)
  have h2 : msgF (cn, cl, cp, ()) (5, zf, zt, zs, zn, zl, zy, zv, ze, za, zd, zc, ()) = 0 := hp (msgF (cn, cl, cp, ()) (5, zf, zt, zs, zn, zl, zy, zv, ze, za, zd, zc, ()) = 0) (by simp)
  obtain ⟨i1, i2, i3, i4⟩ := hear_in h h2
  have s1 := sto_get hS i3
  have s2 := sto_get hS i4
  clear hp
  unfold hK5_VC
  rw [hear_eq h h2]
  refine ⟨hcl, hS, h, hcl, h2, bif_ok (fun h => ?_) fun h => ?_⟩
  · rw [show pEq zt me = false by simpa [pNe, pEq] using h]; rfl
  · rw [show pEq zt me = true by simpa [pNe, pEq] using h]; rfl
theorem hK6_ok : Meets Tryd.prog (fun _ => none) 7 chK6 := hK6_meets sF0_ok mF0_ok dominates_ok StoreCopyW_ok NotesCopy_ok ReadOfW_ok PeekOf_ok WriteOfW_ok StillOf_ok WritesOfW_ok EndOfW_ok fun cn cl cp l me ss ns room zf zt zs zn zl zy zv ze za zd zc hp => by
  have hcl : cl.length < 4611686018427387904 := hp (pLen cl < 4611686018427387904) (by simp)
  have hS : StosOk ss := hp (StosOk ss) (by simp)
  have hn : ns.length < 4611686018427387904 := hp (pLen ns < 4611686018427387904) (by simp)
  have hr : pRoom (pLen ns) 24 := hp (pRoom (pLen ns) 24) (by simp)
  have h : checkF (cn, cl, cp, ()) l me ss = 0 := hp (checkF (cn, cl, cp, ()) l me ss = 0) (by simp)
  have h2 : msgF (cn, cl, cp, ()) (6, zf, zt, zs, zn, zl, zy, zv, ze, za, zd, zc, ()) = 0 := hp (msgF (cn, cl, cp, ()) (6, zf, zt, zs, zn, zl, zy, zv, ze, za, zd, zc, ()) = 0) (by simp)
  obtain ⟨i1, i2, i3, i4⟩ := hear_in h h2
  have s1 := sto_get hS i3
  have s2 := sto_get hS i4
  clear hp
  unfold hK6_VC
  rw [hear_eq h h2]
  refine ⟨hcl, hS, h, hcl, h2, bif_ok (fun h => ?_) fun h => ?_⟩
  · rw [show pEq zt me = false by simpa [pNe, pEq] using h]; rfl
  · rw [show pEq zt me = true by simpa [pNe, pEq] using h]; rfl
theorem hK7_ok : Meets Tryd.prog (fun _ => none) 7 chK7 := hK7_meets sF0_ok mF0_ok dominates_ok StoreCopyW_ok NotesCopy_ok ReadOfW_ok PeekOf_ok WriteOfW_ok StillOf_ok WritesOfW_ok EndOfW_ok fun cn cl cp l me ss ns room zf zt zs zn zl zy zv ze za zd zc hp => by
  have hcl : cl.length < 4611686018427387904 := hp (pLen cl < 4611686018427387904) (by simp)
  have hS : StosOk ss := hp (StosOk ss) (by simp)
  have hn : ns.length < 4611686018427387904 := hp (pLen ns < 4611686018427387904) (by simp)
  have hr : pRoom (pLen ns) 24 := hp (pRoom (pLen ns) 24) (by simp)
  have h : checkF (cn, cl, cp, ()) l me ss = 0 := hp (checkF (cn, cl, cp, ()) l me ss = 0) (by simp)
  have h2 : msgF (cn, cl, cp, ()) (7, zf, zt, zs, zn, zl, zy, zv, ze, za, zd, zc, ()) = 0 := hp (msgF (cn, cl, cp, ()) (7, zf, zt, zs, zn, zl, zy, zv, ze, za, zd, zc, ()) = 0) (by simp)
  obtain ⟨i1, i2, i3, i4⟩ := hear_in h h2
  have s1 := sto_get hS i3
  have s2 := sto_get hS i4
  clear hp
  unfold hK7_VC
  rw [hear_eq h h2]
  refine ⟨hcl, hS, h, hcl, h2, bif_ok (fun h => ?_) fun h => ?_⟩
  · rw [show pEq zt me = false by simpa [pNe, pEq] using h]; rfl
  · rw [show pEq zt me = true by simpa [pNe, pEq] using h]; rfl
theorem hK8_ok : Meets Tryd.prog (fun _ => none) 7 chK8 := hK8_meets sF0_ok mF0_ok dominates_ok StoreCopyW_ok NotesCopy_ok ReadOfW_ok PeekOf_ok WriteOfW_ok StillOf_ok WritesOfW_ok EndOfW_ok fun cn cl cp l me ss ns room zf zt zs zn zl zy zv ze za zd zc hp => by
  have hcl : cl.length < 4611686018427387904 := hp (pLen cl < 4611686018427387904) (by simp)
  have hS : StosOk ss := hp (StosOk ss) (by simp)
  have hn : ns.length < 4611686018427387904 := hp (pLen ns < 4611686018427387904) (by simp)
  have hr : pRoom (pLen ns) 24 := hp (pRoom (pLen ns) 24) (by simp)
  have h : checkF (cn, cl, cp, ()) l me ss = 0 := hp (checkF (cn, cl, cp, ()) l me ss = 0) (by simp)
  have h2 : msgF (cn, cl, cp, ()) (8, zf, zt, zs, zn, zl, zy, zv, ze, za, zd, zc, ()) = 0 := hp (msgF (cn, cl, cp, ()) (8, zf, zt, zs, zn, zl, zy, zv, ze, za, zd, zc, ()) = 0) (by simp)
  obtain ⟨i1, i2, i3, i4⟩ := hear_in h h2
  have s1 := sto_get hS i3
  have s2 := sto_get hS i4
  clear hp
  unfold hK8_VC
  rw [hear_eq h h2]
  refine ⟨hcl, hS, h, hcl, h2, bif_ok (fun h => ?_) fun h => ?_⟩
  · rw [show pEq zt me = false by simpa [pNe, pEq] using h]; rfl
  · rw [show pEq zt me = true by simpa [pNe, pEq] using h]; rfl
theorem hK9_ok : Meets Tryd.prog (fun _ => none) 7 chK9 := hK9_meets sF0_ok mF0_ok dominates_ok StoreCopyW_ok NotesCopy_ok ReadOfW_ok PeekOf_ok WriteOfW_ok StillOf_ok WritesOfW_ok EndOfW_ok fun cn cl cp l me ss ns room zf zt zs zn zl zy zv ze za zd zc hp => by
  have hcl : cl.length < 4611686018427387904 := hp (pLen cl < 4611686018427387904) (by simp)
  have hS : StosOk ss := hp (StosOk ss) (by simp)
  have hn : ns.length < 4611686018427387904 := hp (pLen ns < 4611686018427387904) (by simp)
  have hr : pRoom (pLen ns) 24 := hp (pRoom (pLen ns) 24) (by simp)
  have h : checkF (cn, cl, cp, ()) l me ss = 0 := hp (checkF (cn, cl, cp, ()) l me ss = 0) (by simp)
  have h2 : msgF (cn, cl, cp, ()) (9, zf, zt, zs, zn, zl, zy, zv, ze, za, zd, zc, ()) = 0 := hp (msgF (cn, cl, cp, ()) (9, zf, zt, zs, zn, zl, zy, zv, ze, za, zd, zc, ()) = 0) (by simp)
  obtain ⟨i1, i2, i3, i4⟩ := hear_in h h2
  have s1 := sto_get hS i3
  have s2 := sto_get hS i4
  clear hp
  unfold hK9_VC
  rw [hear_eq h h2]
  refine ⟨hcl, hS, h, hcl, h2, bif_ok (fun h => ?_) fun h => ?_⟩
  · rw [show pEq zt me = false by simpa [pNe, pEq] using h]; rfl
  · rw [show pEq zt me = true by simpa [pNe, pEq] using h]; rfl
theorem hK4_ok : Meets Tryd.prog (fun _ => none) 7 chK4 := hK4_meets sF0_ok mF0_ok dominates_ok StoreCopyW_ok NotesCopy_ok ReadOfW_ok PeekOf_ok WriteOfW_ok StillOf_ok WritesOfW_ok EndOfW_ok fun cn cl cp l me ss ns room zf zt zs zn zl zy zv ze za zd zc hp => by
  have hcl : cl.length < 4611686018427387904 := hp (pLen cl < 4611686018427387904) (by simp)
  have hS : StosOk ss := hp (StosOk ss) (by simp)
  have hn : ns.length < 4611686018427387904 := hp (pLen ns < 4611686018427387904) (by simp)
  have hr : pRoom (pLen ns) 24 := hp (pRoom (pLen ns) 24) (by simp)
  have h : checkF (cn, cl, cp, ()) l me ss = 0 := hp (checkF (cn, cl, cp, ()) l me ss = 0) (by simp)
  have h2 : msgF (cn, cl, cp, ()) (4, zf, zt, zs, zn, zl, zy, zv, ze, za, zd, zc, ()) = 0 := hp (msgF (cn, cl, cp, ()) (4, zf, zt, zs, zn, zl, zy, zv, ze, za, zd, zc, ()) = 0) (by simp)
  obtain ⟨i1, i2, i3, i4⟩ := hear_in h h2
  have s1 := sto_get hS i3
  have s2 := sto_get hS i4
  clear hp i1 i2
  unfold hK4_VC hK4_t0 hK4_v0
  rw [hear_eq h h2]
  have hmt : pEq zt me = true → ∀ A : AnsD, A = hearK l me ss ns room (4, zf, zt, zs, zn, zl, zy, zv, ze, za, zd, zc, ()) → (A, (0 : Int), ()) = cond (pEq zt me) (cond ((pEq 4 1 || pEq 4 3) && !aboveF (pGet tyLab cl (pNat l)) (pGet tyLab cl (pNat zl)))
      (([], [], [], [], [], [], [], ()), (10 : Int), ()) (cond (pGt 4 4) (([], [], [], [], [], [], [], ()), 3, ()) (hearK l me ss ns room (4, zf, zt, zs, zn, zl, zy, zv, ze, za, zd, zc, ()), 0, ()))) (([], [], [], [], [], [], [], ()), 2, ()) := by
    intro e A hA; rw [e, hA]; rfl
  refine ⟨hcl, hS, h, hcl, h2, bif_ok (fun h => ?_) fun h => ⟨i3, s1, hr, i3, s1, ⟨0, ?_, Nat.zero_le _⟩, fun y hy => ?_⟩⟩
  · rw [show pEq zt me = false by simpa [pNe, pEq] using h]; rfl
  · show ((0 : Int), writesN (sAt ss l) (zs, zn, ()), ()) = (((0 : Nat) : Int), writesN (sAt ss l) (zs, zn, ()) + ((0 : Nat) : Int), ())
    rw [Int.natCast_zero, Int.add_zero]
  have hmt := hmt (show pEq zt me = true by simpa [pNe, pEq] using h)
  obtain ⟨k, rfl, hk⟩ := hy
  have hw0 : 0 ≤ writesN (sAt ss l) (zs, zn, ()) ∧ writesN (sAt ss l) (zs, zn, ()) < 4611686018427387904 := writes_in s1
  by_cases hkn : k < ns.length
  · rw [bif_true (by simp [pLt_coe, pLen, hkn])]
    dsimp only
    rw [pNat_coe]
    have hb : k < 4611686018427387904 := by omega
    have hc := cntTo_le (p := fun j => newN (4, zf, zt, zs, zn, zl, zy, zv, ze, za, zd, zc, ()) (pGet tyNote ns j)) (k := k)
    have nx : ∀ u : Int, u = writesN (sAt ss l) (zs, zn, ()) + ((cntTo (fun j => newN (4, zf, zt, zs, zn, zl, zy, zv, ze, za, zd, zc, ()) (pGet tyNote ns j)) (k + 1) : Nat) : Int) → heardAInv cn cl cp l me ss ns room zf zt zs zn zl zy zv ze za zd zc (pAdd .i64 (k : Int) 1, u, ()) :=
      fun u hu => ⟨k + 1, by rw [pAdd1 hb, hu], hkn⟩
    refine ⟨pIn_coe.2 hkn, bif_ok (fun a => ⟨pIn_coe.2 hkn, bif_ok (fun b => ⟨pIn_coe.2 hkn, bif_ok (fun c => ⟨nx _ ?_, mu_step hkn hb⟩) fun c => ⟨nx _ ?_, mu_step hkn hb⟩⟩) fun b => ⟨nx _ ?_, mu_step hkn hb⟩⟩) fun a => ⟨nx _ ?_, mu_step hkn hb⟩⟩
    · rw [cntTo_succ, show newN (4, zf, zt, zs, zn, zl, zy, zv, ze, za, zd, zc, ()) (pGet tyNote ns k) = true from by
        show (pAndB (pEq _ zs) (pEq _ zn) && pNot (pBeq _ zd) && pNot _) = true
        rw [a, b, c]; rfl, pAdd_in (by omega), cond_true, Int.natCast_add, Int.add_assoc]; rfl
    · rw [cntTo_succ, show newN (4, zf, zt, zs, zn, zl, zy, zv, ze, za, zd, zc, ()) (pGet tyNote ns k) = false from by
        show (pAndB (pEq _ zs) (pEq _ zn) && pNot (pBeq _ zd) && pNot _) = false
        rw [c, Bool.and_false]]; rfl
    · rw [cntTo_succ, show newN (4, zf, zt, zs, zn, zl, zy, zv, ze, za, zd, zc, ()) (pGet tyNote ns k) = false from by
        show (pAndB (pEq _ zs) (pEq _ zn) && pNot (pBeq _ zd) && pNot _) = false
        rw [b, Bool.and_false, Bool.false_and]]; rfl
    · rw [cntTo_succ, show newN (4, zf, zt, zs, zn, zl, zy, zv, ze, za, zd, zc, ()) (pGet tyNote ns k) = false from by
        show (pAndB (pEq _ zs) (pEq _ zn) && pNot (pBeq _ zd) && pNot _) = false
        rw [a, Bool.false_and, Bool.false_and]]; rfl
  obtain rfl : k = ns.length := by omega
  rw [bif_false (by simp [pLt_coe, pLen])]
  dsimp only
  have hany : (pGt (writesN (sAt ss l) (zs, zn, ())) 0 || someN (4, zf, zt, zs, zn, zl, zy, zv, ze, za, zd, zc, ()) ns ns.length) = pGt (writesN (sAt ss l) (zs, zn, ()) + ((cntTo (fun j => newN (4, zf, zt, zs, zn, zl, zy, zv, ze, za, zd, zc, ()) (pGet tyNote ns j)) ns.length : Nat) : Int)) 0 := by
    have e : someN (4, zf, zt, zs, zn, zl, zy, zv, ze, za, zd, zc, ()) ns ns.length = pGt ((cntTo (fun j => newN (4, zf, zt, zs, zn, zl, zy, zv, ze, za, zd, zc, ()) (pGet tyNote ns j)) ns.length : Nat) : Int) 0 := cntTo_any.symm
    rw [e]
    exact gt_add hw0.1 _
  have hB : ∀ rs : List RecD, rs = decR l ss (4, zf, zt, zs, zn, zl, zy, zv, ze, za, zd, zc, ()) ns → heardBInv cn cl cp l me ss ns room zf zt zs zn zl zy zv ze za zd zc (0, ((endS (pGet tySto ss (pNat l)) (zs, zn, ()) zd).1, (endS (pGet tySto ss (pNat l)) (zs, zn, ()) zd).2.1, (endS (pGet tySto ss (pNat l)) (zs, zn, ()) zd).2.2.1, (endS (pGet tySto ss (pNat l)) (zs, zn, ()) zd).2.2.2.1, [], rs, ns, ()), ()) :=
    fun rs hrs => ⟨0, by rw [hrs]; rfl, Nat.zero_le _⟩
  have loop : ∀ y, heardBInv cn cl cp l me ss ns room zf zt zs zn zl zy zv ze za zd zc y → ∃ k : Nat, y = ((k : Int), withN (ansOf (endS (sAt ss l) (zs, zn, ()) zd) [] (decR l ss (4, zf, zt, zs, zn, zl, zy, zv, ze, za, zd, zc, ()) ns)) (damK (4, zf, zt, zs, zn, zl, zy, zv, ze, za, zd, zc, ()) ns k), ()) ∧ k ≤ ns.length := fun y hy => hy
  have fin : withN (ansOf (endS (sAt ss l) (zs, zn, ()) zd) [ackM me (4, zf, zt, zs, zn, zl, zy, zv, ze, za, zd, zc, ())] (decR l ss (4, zf, zt, zs, zn, zl, zy, zv, ze, za, zd, zc, ()) ns)) (damN ns (4, zf, zt, zs, zn, zl, zy, zv, ze, za, zd, zc, ())) = hearK l me ss ns room (4, zf, zt, zs, zn, zl, zy, zv, ze, za, zd, zc, ()) := rfl
  refine bif_ok (fun a => ⟨room_1 (by decide), i3, s1, hB _ ?_, fun y hy => ?_⟩) fun a => ⟨i3, s1, hB _ ?_, fun y hy => ?_⟩
  · unfold decR; rw [show (pGt (writesN (sAt ss l) (zTxn (4, zf, zt, zs, zn, zl, zy, zv, ze, za, zd, zc, ()))) 0 || someN (4, zf, zt, zs, zn, zl, zy, zv, ze, za, zd, zc, ()) ns ns.length) = true from hany.trans a]; rfl
  rotate_left
  · unfold decR; rw [show (pGt (writesN (sAt ss l) (zTxn (4, zf, zt, zs, zn, zl, zy, zv, ze, za, zd, zc, ()))) 0 || someN (4, zf, zt, zs, zn, zl, zy, zv, ze, za, zd, zc, ()) ns ns.length) = false from hany.trans a]; rfl
  all_goals
    obtain ⟨k, rfl, hk⟩ := loop y hy
    by_cases hkn : k < ns.length
    · have hb : k < 4611686018427387904 := by omega
      have hle : (damK (4, zf, zt, zs, zn, zl, zy, zv, ze, za, zd, zc, ()) ns k).length = ns.length := damK_len hk
      have hin : pIn (k : Int) (pLen (damK (4, zf, zt, zs, zn, zl, zy, zv, ze, za, zd, zc, ()) ns k)) := by unfold pLen; rw [hle]; exact pIn_coe.2 hkn
      show bif pLt (k : Int) (pInt (pLen (damK (4, zf, zt, zs, zn, zl, zy, zv, ze, za, zd, zc, ()) ns k))) then _ else _
      rw [bif_true (show pLt (k : Int) (pInt (pLen (damK (4, zf, zt, zs, zn, zl, zy, zv, ze, za, zd, zc, ()) ns k))) = true by unfold pLen; rw [hle]; simp [pLt_coe, hkn])]
      dsimp only [withN, ansOf]
      rw [pNat_coe, damK_get hkn]
      have nx : ∀ A : List NoteD, A = damK (4, zf, zt, zs, zn, zl, zy, zv, ze, za, zd, zc, ()) ns (k + 1) → heardBInv cn cl cp l me ss ns room zf zt zs zn zl zy zv ze za zd zc (pAdd .i64 (k : Int) 1, ((endS (sAt ss l) (zs, zn, ()) zd).1, (endS (sAt ss l) (zs, zn, ()) zd).2.1, (endS (sAt ss l) (zs, zn, ()) zd).2.2.1, (endS (sAt ss l) (zs, zn, ()) zd).2.2.2.1, [], decR l ss (4, zf, zt, zs, zn, zl, zy, zv, ze, za, zd, zc, ()) ns, A, ()), ()) :=
        fun A hA => ⟨k + 1, by rw [pAdd1 hb, hA]; rfl, hkn⟩
      refine ⟨hin, bif_ok (fun a => ⟨hin, bif_ok (fun b => ⟨hin, nx _ ?_, mu_step hkn hb⟩) fun b => ⟨nx _ ?_, mu_step hkn hb⟩⟩) fun a => ⟨nx _ ?_, mu_step hkn hb⟩⟩
      · rw [← damK_set hkn, dmg_hit]
        show (pAndB (pEq _ zs) (pEq _ zn) && pNot (pBeq _ zd)) = true
        rw [a, b]; rfl
      · exact damK_skip hkn (by
          show (pAndB (pEq _ zs) (pEq _ zn) && pNot (pBeq _ zd) && pNot _) = false
          rw [b, Bool.and_false, Bool.false_and])
      · exact damK_skip hkn (by
          show (pAndB (pEq _ zs) (pEq _ zn) && pNot (pBeq _ zd) && pNot _) = false
          rw [a, Bool.false_and, Bool.false_and])
    · obtain rfl : k = ns.length := by omega
      have hle : (damK (4, zf, zt, zs, zn, zl, zy, zv, ze, za, zd, zc, ()) ns ns.length).length = ns.length := damK_len (Nat.le_refl _)
      show bif pLt (ns.length : Int) (pInt (pLen (damK (4, zf, zt, zs, zn, zl, zy, zv, ze, za, zd, zc, ()) ns ns.length))) then _ else _
      rw [bif_false (show pLt (ns.length : Int) (pInt (pLen (damK (4, zf, zt, zs, zn, zl, zy, zv, ze, za, zd, zc, ()) ns ns.length))) = false by unfold pLen; rw [hle]; simp [pLt_coe])]
      refine ⟨room_1 (by decide), ?_⟩
      dsimp only [withN, ansOf]
      rw [damK_all]
      exact hmt _ fin

end Go.Proofs.YtkhnakdmkhidbaaDoor

/- What the document says of a message that a site hears: the other cases, joined. No condition. -/
namespace Go.Proofs.YtkhnakdmkhidbaaDoor
open Go.RowKit

theorem hK1_ok : Meets Tryd.prog (fun _ => none) 7 chK1 := hK1_meets sF0_ok mF0_ok dominates_ok StoreCopyW_ok NotesCopy_ok ReadOfW_ok PeekOf_ok WriteOfW_ok StillOf_ok WritesOfW_ok EndOfW_ok fun cn cl cp l me ss ns room zf zt zs zn zl zy zv ze za zd zc hp => by
  have hcl : cl.length < 4611686018427387904 := hp (pLen cl < 4611686018427387904) (by simp)
  have hS : StosOk ss := hp (StosOk ss) (by simp)
  have hn : ns.length < 4611686018427387904 := hp (pLen ns < 4611686018427387904) (by simp)
  have hr : pRoom (pLen ns) 24 := hp (pRoom (pLen ns) 24) (by simp)
  have h : checkF (cn, cl, cp, ()) l me ss = 0 := hp (checkF (cn, cl, cp, ()) l me ss = 0) (by simp)
  have h2 : msgF (cn, cl, cp, ()) (1, zf, zt, zs, zn, zl, zy, zv, ze, za, zd, zc, ()) = 0 := hp (msgF (cn, cl, cp, ()) (1, zf, zt, zs, zn, zl, zy, zv, ze, za, zd, zc, ()) = 0) (by simp)
  obtain ⟨i1, i2, i3, i4⟩ := hear_in h h2
  have s1 := sto_get hS i3
  have s2 := sto_get hS i4
  clear hp
  unfold hK1_VC hK1_t3 hK1_t4 hK1_t2 hK1_t1 hK1_t0 hK1_v0 hK1_v1 hK1_v2 hK1_v3
  rw [hear_eq h h2]
  simp only [lits, booB, hearK]
  cases hl0 : pEq zl l with
  | true =>
    rcases four (readE (pGet tySto ss (pNat l)) (zs, zn, ()) zy) with he | he | he | ⟨f0, f11, f8⟩
    · simp only [hl0, he, lits, booB]
      (repeat' (first | refine bif_ok (fun h => ?_) (fun h => ?_) | with_reducible refine And.intro ?_ ?_ | fail))
      all_goals first
        | assumption
        | exact room_1 (by decide)
        | (simp only [pNe_pEq, Bool.not_eq_true', Bool.not_eq_false', pNot] at *; simp only [readA, rdE, rdV, rdN, rdS, gotM, refuF, withN, sAt, zTxn, ansOf, pApp, List.nil_append, he, hl0, readV_no, readN_no, *, lits, booB]; done)
    · simp only [hl0, he, lits, booB]
      (repeat' (first | refine bif_ok (fun h => ?_) (fun h => ?_) | with_reducible refine And.intro ?_ ?_ | fail))
      all_goals first
        | assumption
        | exact room_1 (by decide)
        | (simp only [pNe_pEq, Bool.not_eq_true', Bool.not_eq_false', pNot] at *; simp only [readA, rdE, rdV, rdN, rdS, gotM, refuF, withN, sAt, zTxn, ansOf, pApp, List.nil_append, he, hl0, readV_no, readN_no, *, lits, booB]; done)
    · simp only [hl0, he, lits, booB]
      (repeat' (first | refine bif_ok (fun h => ?_) (fun h => ?_) | with_reducible refine And.intro ?_ ?_ | fail))
      all_goals first
        | assumption
        | exact room_1 (by decide)
        | (simp only [pNe_pEq, Bool.not_eq_true', Bool.not_eq_false', pNot] at *; simp only [readA, rdE, rdV, rdN, rdS, gotM, refuF, withN, sAt, zTxn, ansOf, pApp, List.nil_append, he, hl0, readV_no, readN_no, *, lits, booB]; done)
    · simp only [hl0, f0, f11, f8, lits, booB]
      (repeat' (first | refine bif_ok (fun h => ?_) (fun h => ?_) | with_reducible refine And.intro ?_ ?_ | fail))
      all_goals first
        | assumption
        | exact room_1 (by decide)
        | (simp only [pNe_pEq, Bool.not_eq_true', Bool.not_eq_false', pNot] at *; simp only [readA, rdE, rdV, rdN, rdS, gotM, refuF, withN, sAt, zTxn, ansOf, pApp, List.nil_append, f0, f11, f8, hl0, readV_no, readN_no, *, lits, booB]; done)
  
  | false =>
    rcases four (peekE (pGet tySto ss (pNat zl)) zy) with he | he | he | ⟨f0, f11, f8⟩
    · simp only [hl0, he, lits, booB]
      (repeat' (first | refine bif_ok (fun h => ?_) (fun h => ?_) | with_reducible refine And.intro ?_ ?_ | fail))
      all_goals first
        | assumption
        | exact room_1 (by decide)
        | (simp only [pNe_pEq, Bool.not_eq_true', Bool.not_eq_false', pNot] at *; simp only [readA, rdE, rdV, rdN, rdS, gotM, refuF, withN, sAt, zTxn, ansOf, pApp, List.nil_append, he, hl0, peekV_no, peekN_no, *, lits, booB]; done)
    · simp only [hl0, he, lits, booB]
      (repeat' (first | refine bif_ok (fun h => ?_) (fun h => ?_) | with_reducible refine And.intro ?_ ?_ | fail))
      all_goals first
        | assumption
        | exact room_1 (by decide)
        | (simp only [pNe_pEq, Bool.not_eq_true', Bool.not_eq_false', pNot] at *; simp only [readA, rdE, rdV, rdN, rdS, gotM, refuF, withN, sAt, zTxn, ansOf, pApp, List.nil_append, he, hl0, peekV_no, peekN_no, *, lits, booB]; done)
    · simp only [hl0, he, lits, booB]
      (repeat' (first | refine bif_ok (fun h => ?_) (fun h => ?_) | with_reducible refine And.intro ?_ ?_ | fail))
      all_goals first
        | assumption
        | exact room_1 (by decide)
        | (simp only [pNe_pEq, Bool.not_eq_true', Bool.not_eq_false', pNot] at *; simp only [readA, rdE, rdV, rdN, rdS, gotM, refuF, withN, sAt, zTxn, ansOf, pApp, List.nil_append, he, hl0, peekV_no, peekN_no, *, lits, booB]; done)
    · simp only [hl0, f0, f11, f8, lits, booB]
      (repeat' (first | refine bif_ok (fun h => ?_) (fun h => ?_) | with_reducible refine And.intro ?_ ?_ | fail))
      all_goals first
        | assumption
        | exact room_1 (by decide)
        | (simp only [pNe_pEq, Bool.not_eq_true', Bool.not_eq_false', pNot] at *; simp only [readA, rdE, rdV, rdN, rdS, gotM, refuF, withN, sAt, zTxn, ansOf, pApp, List.nil_append, f0, f11, f8, hl0, peekV_no, peekN_no, *, lits, booB]; done)
theorem hK2_ok : Meets Tryd.prog (fun _ => none) 7 chK2 := hK2_meets sF0_ok mF0_ok dominates_ok StoreCopyW_ok NotesCopy_ok ReadOfW_ok PeekOf_ok WriteOfW_ok StillOf_ok WritesOfW_ok EndOfW_ok fun cn cl cp l me ss ns room zf zt zs zn zl zy zv ze za zd zc hp => by
  have hcl : cl.length < 4611686018427387904 := hp (pLen cl < 4611686018427387904) (by simp)
  have hS : StosOk ss := hp (StosOk ss) (by simp)
  have hn : ns.length < 4611686018427387904 := hp (pLen ns < 4611686018427387904) (by simp)
  have hr : pRoom (pLen ns) 24 := hp (pRoom (pLen ns) 24) (by simp)
  have h : checkF (cn, cl, cp, ()) l me ss = 0 := hp (checkF (cn, cl, cp, ()) l me ss = 0) (by simp)
  have h2 : msgF (cn, cl, cp, ()) (2, zf, zt, zs, zn, zl, zy, zv, ze, za, zd, zc, ()) = 0 := hp (msgF (cn, cl, cp, ()) (2, zf, zt, zs, zn, zl, zy, zv, ze, za, zd, zc, ()) = 0) (by simp)
  obtain ⟨i1, i2, i3, i4⟩ := hear_in h h2
  have s1 := sto_get hS i3
  have s2 := sto_get hS i4
  clear hp
  unfold hK2_VC hK2_t0 hK2_t2 hK2_t1 hK2_v0 hK2_v1 hK2_v2 hK2_v3
  rw [hear_eq h h2]
  simp only [lits, booB, hearK]
  cases hr5 : pLt room 500 with
  | true =>
    rcases four (writeE (pGet tySto ss (pNat l)) (zs, zn, ()) zy zv za) with he | he | he | ⟨f0, f11, f8⟩
    · simp only [he, lits, booB]
      (repeat' (first | refine bif_ok (fun h => ?_) (fun h => ?_) | with_reducible refine And.intro ?_ ?_ | fail))
      all_goals first
        | assumption
        | exact room_1 (by decide)
        | (simp only [pNe_pEq, Bool.not_eq_true', Bool.not_eq_false', pNot] at *; simp only [writeA, wrE, wrE0, wrS, doneM, prepR, refuF, withN, sAt, zTxn, ansOf, pApp, List.nil_append, he, hr5, *, lits, booB]; done)
    · simp only [he, lits, booB]
      (repeat' (first | refine bif_ok (fun h => ?_) (fun h => ?_) | with_reducible refine And.intro ?_ ?_ | fail))
      all_goals first
        | assumption
        | exact room_1 (by decide)
        | (simp only [pNe_pEq, Bool.not_eq_true', Bool.not_eq_false', pNot] at *; simp only [writeA, wrE, wrE0, wrS, doneM, prepR, refuF, withN, sAt, zTxn, ansOf, pApp, List.nil_append, he, hr5, *, lits, booB]; done)
    · simp only [he, lits, booB]
      (repeat' (first | refine bif_ok (fun h => ?_) (fun h => ?_) | with_reducible refine And.intro ?_ ?_ | fail))
      all_goals first
        | assumption
        | exact room_1 (by decide)
        | (simp only [pNe_pEq, Bool.not_eq_true', Bool.not_eq_false', pNot] at *; simp only [writeA, wrE, wrE0, wrS, doneM, prepR, refuF, withN, sAt, zTxn, ansOf, pApp, List.nil_append, he, hr5, *, lits, booB]; done)
    · simp only [f0, f11, f8, lits, booB]
      (repeat' (first | refine bif_ok (fun h => ?_) (fun h => ?_) | with_reducible refine And.intro ?_ ?_ | fail))
      all_goals first
        | assumption
        | exact room_1 (by decide)
        | (simp only [pNe_pEq, Bool.not_eq_true', Bool.not_eq_false', pNot] at *; simp only [writeA, wrE, wrE0, wrS, doneM, prepR, refuF, withN, sAt, zTxn, ansOf, pApp, List.nil_append, f0, f11, f8, hr5, *, lits, booB]; done)
  | false =>
    rcases four (writeE (pGet tySto ss (pNat l)) (zs, zn, ()) zy zv za) with he | he | he | ⟨f0, f11, f8⟩
    · simp only [he, lits, booB]
      (repeat' (first | refine bif_ok (fun h => ?_) (fun h => ?_) | with_reducible refine And.intro ?_ ?_ | fail))
      all_goals first
        | assumption
        | exact room_1 (by decide)
        | (simp only [pNe_pEq, Bool.not_eq_true', Bool.not_eq_false', pNot] at *; simp only [writeA, wrE, wrE0, wrS, doneM, prepR, refuF, withN, sAt, zTxn, ansOf, pApp, List.nil_append, he, hr5, *, lits, booB]; done)
    · simp only [he, lits, booB]
      (repeat' (first | refine bif_ok (fun h => ?_) (fun h => ?_) | with_reducible refine And.intro ?_ ?_ | fail))
      all_goals first
        | assumption
        | exact room_1 (by decide)
        | (simp only [pNe_pEq, Bool.not_eq_true', Bool.not_eq_false', pNot] at *; simp only [writeA, wrE, wrE0, wrS, doneM, prepR, refuF, withN, sAt, zTxn, ansOf, pApp, List.nil_append, he, hr5, *, lits, booB]; done)
    · simp only [he, lits, booB]
      (repeat' (first | refine bif_ok (fun h => ?_) (fun h => ?_) | with_reducible refine And.intro ?_ ?_ | fail))
      all_goals first
        | assumption
        | exact room_1 (by decide)
        | (simp only [pNe_pEq, Bool.not_eq_true', Bool.not_eq_false', pNot] at *; simp only [writeA, wrE, wrE0, wrS, doneM, prepR, refuF, withN, sAt, zTxn, ansOf, pApp, List.nil_append, he, hr5, *, lits, booB]; done)
    · simp only [f0, f11, f8, lits, booB]
      (repeat' (first | refine bif_ok (fun h => ?_) (fun h => ?_) | with_reducible refine And.intro ?_ ?_ | fail))
      all_goals first
        | assumption
        | exact room_1 (by decide)
        | (simp only [pNe_pEq, Bool.not_eq_true', Bool.not_eq_false', pNot] at *; simp only [writeA, wrE, wrE0, wrS, doneM, prepR, refuF, withN, sAt, zTxn, ansOf, pApp, List.nil_append, f0, f11, f8, hr5, *, lits, booB]; done)
theorem hK3_ok : Meets Tryd.prog (fun _ => none) 7 chK3 := hK3_meets sF0_ok mF0_ok dominates_ok StoreCopyW_ok NotesCopy_ok ReadOfW_ok PeekOf_ok WriteOfW_ok StillOf_ok WritesOfW_ok EndOfW_ok fun cn cl cp l me ss ns room zf zt zs zn zl zy zv ze za zd zc hp => by
  have hcl : cl.length < 4611686018427387904 := hp (pLen cl < 4611686018427387904) (by simp)
  have hS : StosOk ss := hp (StosOk ss) (by simp)
  have hn : ns.length < 4611686018427387904 := hp (pLen ns < 4611686018427387904) (by simp)
  have hr : pRoom (pLen ns) 24 := hp (pRoom (pLen ns) 24) (by simp)
  have h : checkF (cn, cl, cp, ()) l me ss = 0 := hp (checkF (cn, cl, cp, ()) l me ss = 0) (by simp)
  have h2 : msgF (cn, cl, cp, ()) (3, zf, zt, zs, zn, zl, zy, zv, ze, za, zd, zc, ()) = 0 := hp (msgF (cn, cl, cp, ()) (3, zf, zt, zs, zn, zl, zy, zv, ze, za, zd, zc, ()) = 0) (by simp)
  obtain ⟨i1, i2, i3, i4⟩ := hear_in h h2
  have s1 := sto_get hS i3
  have s2 := sto_get hS i4
  clear hp
  unfold hK3_VC hK3_v0
  rw [hear_eq h h2]
  simp only [lits, booB, hearK]
  (repeat' (first | refine bif_ok (fun h => ?_) (fun h => ?_) | with_reducible refine And.intro ?_ ?_ | fail))
  all_goals first
    | assumption
    | exact room_1 (by decide)
    | (simp only [pNe_pEq, Bool.not_eq_true', Bool.not_eq_false', pNot] at *; simp only [stillA, stillY, sureM, withN, sAt, zTxn, ansOf, pApp, List.nil_append, hearK, *, lits, booB]; done)

end Go.Proofs.YtkhnakdmkhidbaaDoor
