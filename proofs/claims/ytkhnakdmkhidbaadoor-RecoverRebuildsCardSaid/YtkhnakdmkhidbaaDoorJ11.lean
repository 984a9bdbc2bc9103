/- Stores that are small enough. No condition. -/
import Derived.Test.YtkhnakdmkhidbaaDoorJ6
import Derived.Test.YtkhnakdmkhidbaaDoorJ9
import Derived.Test.YtkhnakdmkhidbaaDoorJ7
import Derived.Test.YtkhnakdmkhidbaaDoorJ8
import Derived.Test.YtkhnakdmkhidbaaDoorJ10
import Derived.Test.YtkhnakdmkhidbaaDoorFH

/- Functions of the store meet their contracts: items, locks. No condition. -/
namespace Go.Proofs.YtkhnakdmkhidbaaDoor
open Go.RowKit

theorem itemF_eq (l : List ItemD) (k : Int) : itemF l k = cond (pGe (idxKeyF l k) 0) (pGet tyItem l (pNat (idxKeyF l k))) (k, 0, 0, ()) := rfl
theorem item_ok : Meets Tryd.prog (fun _ => none) 85 citem := item_meets at_ok fun si sl sd so k hp => by
  have hl : si.length < 4611686018427387904 := hp (pLen si < 4611686018427387904) (by simp)
  have hs : itemsF si = true := hp (itemsF si = true) (by simp)
  clear hp
  unfold item_VC
  rw [itemF_eq]
  refine ⟨hl, sort_of hs, bif_ok (fun h => ?_) fun h => ?_⟩
  · obtain ⟨h1, i, h2, h3⟩ := idxKey_pos (sort_of hs) h
    rw [h, h1, h2, cond_true]
    exact ⟨pIn_coe.2 h3, rfl⟩
  · rw [h]; rfl
theorem itemOf_ok : Meets Tryd.prog (fun _ => none) 69 citemOf := itemOf_meets fun si sl sd so k hp => by
  have hl : si.length < 4611686018427387904 := hp (pLen si < 4611686018427387904) (by simp)
  clear hp
  refine ⟨UpInv.start, fun y hy => ?_⟩
  rcases FindInv.round hl hy with ⟨i, rfl, hk, hb, hT, hF⟩ | ⟨rfl, hT⟩
  · rw [bif_true (by simp [pLt_coe, pLen, hk]), pNat_coe]
    refine ⟨pIn_coe.2 hk, bif_ok (fun h => ⟨pIn_coe.2 hk, ?_⟩) fun h => hF h⟩
    have e : idxKeyF si k = (i : Int) := hT h
    rw [itemF_eq, e, show pGe (i : Int) 0 = true by simp [pGe], cond_true, pNat_coe]
  · rw [bif_false (by simp [pLt_coe, pLen])]
    have e : idxKeyF si k = -1 := hT
    rw [itemF_eq, e]; rfl

theorem lock1_ok : Meets Tryd.prog (fun _ => none) 108 clock1 := lock1_meets fun xs xn xk xw xv xq a b c => by
  unfold lock1_VC
  have e : lkIs (xs, xn, xk, xw, xv, xq, ()) a b c = (pAndB (pEq xs a) (pEq xn b) && pEq xk c) := rfl
  rw [e]
  (repeat' (first | refine bif_ok (fun h => ?_) (fun h => ?_) | refine And.intro ?_ ?_ | fail))
  all_goals (refine leafE ?_; grind [pLt, pLe, pGt, pGe, pEq, pNe, pNot, pAndB, pBeq, pInt, pLen, inF, pIn, pTo, pNat])
theorem indexLk_ok : Meets Tryd.prog (fun _ => none) 107 cindexLk := indexLk_meets lock1_ok fun l a b c hp => by
  have hl : l.length < 4611686018427387904 := hp _ List.mem_cons_self
  refine ⟨UpInv.start, fun y hy => ?_⟩
  rcases FindInv.round hl hy with ⟨k, rfl, hk, hb, hT, hF⟩ | ⟨rfl, hT⟩
  · rw [bif_true (by simp [pLt_coe, pLen, hk]), pNat_coe, lock_eta]
    refine ⟨pIn_coe.2 hk, bif_ok (fun h => ?_) fun h => hF h⟩
    exact congrArg (·, ()) (hT h).symm
  · rw [bif_false (by simp [pLt_coe, pLen])]
    exact congrArg (·, ()) hT.symm
theorem lock_ok : Meets Tryd.prog (fun _ => none) 86 clock := lock_meets indexLk_ok fun si sl sd so ts tn k hp => ⟨hp (pLen sl < 4611686018427387904) (by simp), rfl⟩
theorem lockOf_ok : Meets Tryd.prog (fun _ => none) 70 clockOf := lockOf_meets fun si sl sd so ts tn k hp => by
  have hl : sl.length < 4611686018427387904 := hp (pLen sl < 4611686018427387904) (by simp)
  clear hp
  refine ⟨UpInv.start, fun y hy => ?_⟩
  rcases FindInv.round hl hy with ⟨i, rfl, hk, hb, hT, hF⟩ | ⟨rfl, hT⟩
  · rw [bif_true (by simp [pLt_coe, pLen, hk]), pNat_coe]
    have e : lkIs (pGet tyLock sl i) ts tn k = (pAndB (pEq (pGet tyLock sl i).1 ts) (pEq (pGet tyLock sl i).2.1 tn) && pEq (pGet tyLock sl i).2.2.1 k) := rfl
    refine ⟨pIn_coe.2 hk, bif_ok (fun h => ⟨pIn_coe.2 hk, bif_ok (fun h2 => ?_) fun h2 => ?_⟩) fun h => ?_⟩
    · exact congrArg (·, ()) (hT (by rw [e, h, h2]; rfl)).symm
    · exact hF (by rw [e, h, h2]; rfl)
    · exact hF (by rw [e, h]; rfl)
  · rw [bif_false (by simp [pLt_coe, pLen])]
    exact congrArg (·, ()) hT.symm
theorem busyIs_eq (x : LockD) (a b c : Int) (g : Bool) : busyIs x a b c g = ((pEq x.2.2.1 c && pNot (pAndB (pEq x.1 a) (pEq x.2.1 b))) && (g || x.2.2.2.1)) := rfl
theorem busy1_ok : Meets Tryd.prog (fun _ => none) 110 cbusy1 := busy1_meets fun xs xn xk xw xv xq c a b g => by
  unfold busy1_VC
  (repeat' (first | refine bif_ok (fun h => ?_) (fun h => ?_) | refine And.intro ?_ ?_ | fail))
  all_goals (refine leafE ?_; rw [busyIs_eq]; grind [pLt, pLe, pGt, pGe, pEq, pNe, pNot, pAndB, pBeq, pInt, pLen, inF, pIn, pTo, pNat])
theorem indexBu_ok : Meets Tryd.prog (fun _ => none) 107 cindexBu := indexBu_meets busy1_ok fun l c a b g hp => by
  have hl : l.length < 4611686018427387904 := hp _ List.mem_cons_self
  refine ⟨UpInv.start, fun y hy => ?_⟩
  rcases FindInv.round hl hy with ⟨k, rfl, hk, hb, hT, hF⟩ | ⟨rfl, hT⟩
  · rw [bif_true (by simp [pLt_coe, pLen, hk]), pNat_coe, lock_eta]
    refine ⟨pIn_coe.2 hk, bif_ok (fun h => ?_) fun h => hF h⟩
    exact congrArg (·, ()) (hT h).symm
  · rw [bif_false (by simp [pLt_coe, pLen])]
    exact congrArg (·, ()) hT.symm
theorem containsBu_ok : Meets Tryd.prog (fun _ => none) 104 ccontainsBu := containsBu_meets indexBu_ok fun l c a b g hp => ⟨hp _ List.mem_cons_self, rfl⟩
theorem busy_ok : Meets Tryd.prog (fun _ => none) 89 cbusy := busy_meets containsBu_ok fun si sl sd so ts tn k g hp => ⟨hp (pLen sl < 4611686018427387904) (by simp), rfl⟩

theorem others_ok : Meets Tryd.prog (fun _ => none) 71 cothers := others_meets fun si sl sd so ts tn k hp => by
  have hl : sl.length < 4611686018427387904 := hp (pLen sl < 4611686018427387904) (by simp)
  clear hp
  refine ⟨⟨0, rfl, Nat.zero_le _⟩, fun y hy => ?_⟩
  obtain ⟨i, rfl, hi⟩ := hy
  by_cases hk : i < sl.length
  · rw [bif_true (by simp [pLt_coe, pLen, hk])]
    dsimp only
    rw [pNat_coe]
    have ea := busyIs_eq (pGet tyLock sl i) ts tn k true
    have ew := busyIs_eq (pGet tyLock sl i) ts tn k false
    have ha := cntTo_le (p := fun j => busyIs (pGet tyLock sl j) ts tn k true) (k := i)
    have hw := cntTo_le (p := fun j => busyIs (pGet tyLock sl j) ts tn k false) (k := i)
    have nx : ∀ u v : Int, u = ((cntTo (fun j => busyIs (pGet tyLock sl j) ts tn k true) (i + 1) : Nat) : Int) → v = ((cntTo (fun j => busyIs (pGet tyLock sl j) ts tn k false) (i + 1) : Nat) : Int) →
        othInv si sl sd so ts tn k (pAdd .i64 (i : Int) 1, u, v, ()) := fun u v hu hv => ⟨i + 1, by rw [pAdd1 (by omega), hu, hv], hk⟩
    refine ⟨pIn_coe.2 hk, bif_ok (fun h1 => ⟨pIn_coe.2 hk, bif_ok (fun h2 => ⟨pIn_coe.2 hk, bif_ok (fun h3 => ⟨nx _ _ ?_ ?_, mu_step hk (by omega)⟩) fun h3 => ⟨nx _ _ ?_ ?_, mu_step hk (by omega)⟩⟩) fun h2 => ⟨nx _ _ ?_ ?_, mu_step hk (by omega)⟩⟩) fun h1 => ⟨nx _ _ ?_ ?_, mu_step hk (by omega)⟩⟩
    · rw [cntTo_succ, ea, h1, h2, pAdd1 (by omega)]; rfl
    · rw [cntTo_succ, ew, h1, h2, h3, pAdd1 (by omega)]; rfl
    · rw [cntTo_succ, ea, h1, h2, pAdd1 (by omega)]; rfl
    · rw [cntTo_succ, ew, h1, h2, h3]; rfl
    · rw [cntTo_succ, ea, h1, h2]; rfl
    · rw [cntTo_succ, ew, h1, h2]; rfl
    · rw [cntTo_succ, ea, h1]; rfl
    · rw [cntTo_succ, ew, h1]; rfl
  · obtain rfl : i = sl.length := by omega
    rw [bif_false (by simp [pLt_coe, pLen])]
    rfl
theorem busy_all (l : List LockD) (a b c : Int) : pGt (othA l a b c) 0 = pGe (idxBusyF l a b c true) 0 := by
  unfold othA idxBusyF; rw [cntTo_any, idxOf_ge]
theorem handF_eq (l : List DoubtD) (a b : Int) : handF l a b = cond (pGe (idxDoubtF l (a, b, ())) 0) l (pApp l [(a, b, 0, ())]) := rfl
theorem hand_ok : Meets Tryd.prog (fun _ => none) 90 chand := hand_meets doubted_ok fun a b is ls ds os hp => by
  have h1 : is.length < 4611686018427387904 := hp (pLen is < 4611686018427387904) (by simp)
  have h2 : ls.length < 4611686018427387904 := hp (pLen ls < 4611686018427387904) (by simp)
  have h3 : ds.length < 4611686018427387904 := hp (pLen ds < 4611686018427387904) (by simp)
  have h4 : os.length < 4611686018427387904 := hp (pLen os < 4611686018427387904) (by simp)
  have h5 : pRoom (pPlus (pLen ds) 1) 24 := hp (pRoom (pPlus (pLen ds) 1) 24) (by simp)
  clear hp
  unfold hand_VC
  rw [handF_eq]
  refine ⟨h1, h2, h3, h4, bif_ok (fun h => ⟨h5, ?_⟩) fun h => ?_⟩
  · rw [show pGe (idxDoubtF ds (a, b, ())) 0 = false by simpa [pNot] using h]; rfl
  · rw [show pGe (idxDoubtF ds (a, b, ())) 0 = true by simpa [pNot] using h]; rfl


end Go.Proofs.YtkhnakdmkhidbaaDoor

/- Reading a key: functions of the store meet their contracts. No condition. -/
namespace Go.Proofs.YtkhnakdmkhidbaaDoor
open Go.RowKit

theorem ask_ok {s : StoD} {t : TxnD} {k : Int} (h : pNe (askE s t k) 0 = false) : stoF s = true := by
  cases hs : stoF s with
  | true => rfl
  | false => rw [askE_eq, hs] at h; cases h
theorem idxLk_in {l : List LockD} {a b c : Int} (h : pGe (idxLkF l a b c) 0 = true) : pIn (idxLkF l a b c) (pLen l) := by
  unfold idxLkF at *
  have hg := h
  rw [idxOf_ge] at hg
  unfold idxOf at *
  cases hq : (List.range l.length).find? (fun j => lkIs (pGet tyLock l j) a b c) with
  | some j => exact pIn_coe.2 (show j < l.length by simpa using List.mem_of_find?_eq_some hq)
  | none => rw [hq] at h; cases h

theorem doubt_neg {l : List DoubtD} {t : TxnD} : pLt (idxDoubtF l t) 0 = !pGe (idxDoubtF l t) 0 := by
  rw [Bool.eq_iff_iff]; simp only [pLt, pGe, decide_eq_true_eq, Bool.not_eq_true', decide_eq_false_iff_not]; omega
theorem lk_neg {l : List LockD} {a b c : Int} : pLt (idxLkF l a b c) 0 = !pGe (idxLkF l a b c) 0 := by
  rw [Bool.eq_iff_iff]; simp only [pLt, pGe, decide_eq_true_eq, Bool.not_eq_true', decide_eq_false_iff_not]; omega
theorem hand_len (l : List DoubtD) (a b : Int) : (handF l a b).length ≤ l.length + 1 := by
  unfold handF pApp
  cases pGe (idxDoubtF l (a, b, ())) 0 <;> simp
end Go.Proofs.YtkhnakdmkhidbaaDoor

/- Writing a key: functions of the store meet their contracts. No condition. -/
namespace Go.Proofs.YtkhnakdmkhidbaaDoor
open Go.RowKit

theorem writeE_eq (is : List ItemD) (ls : List LockD) (ds : List DoubtD) (os : List TxnD) (a b k v q : Int) : writeE (is, ls, ds, os, ()) (a, b, ()) k v q =
  cond (pEq (askE (is, ls, ds, os, ()) (a, b, ()) k) 0) (cond (inF v 0 1073741824 && inF q 0 1048576)
    (cond (pGe (idxTxnF os (a, b, ())) 0 || (pGe (idxLkF ls a b k) 0 && pGt (pGet tyLock ls (pNat (idxLkF ls a b k))).2.2.2.2.2.1 q)) 13
      (cond (pGe (idxBusyF ls a b k true) 0) 11 (cond ((pLt (idxLkF ls a b k) 0 && pGe (pInt ls.length) 24) || pGe (itemF is k).2.2.1 1048576) 8 0))) 2) (askE (is, ls, ds, os, ()) (a, b, ()) k) := rfl
theorem write_err {s : StoD} {t : TxnD} {k v q n : Int} (h : writeE s t k v q = n) (hn : pEq n 0 = false) : (([], [], [], [], ()), n, ()) = (writeS s t k v q, writeE s t k v q, ()) := by
  unfold writeS; rw [h, hn]; rfl
theorem write_all {is : List ItemD} {ls : List LockD} {ds : List DoubtD} {os : List TxnD} {a b k v q : Int} (h : writeE (is, ls, ds, os, ()) (a, b, ()) k v q = 0) :
    (writeS (is, ls, ds, os, ()) (a, b, ()) k v q, writeE (is, ls, ds, os, ()) (a, b, ()) k v q, ()) =
    ((is, cond (pLt (idxLkF ls a b k) 0) (pApp ls [(a, b, k, true, v, q, ())]) (pSet ls (pNat (idxLkF ls a b k)) (a, b, k, true, v, q, ())), handF ds a b, os, ()), (0 : Int), ()) := by
  unfold writeS; rw [h]; rfl
theorem set_last {l : List LockD} {x y : LockD} : pSet (pApp l [y]) (pNat (pInt (pLen l))) x = pApp l [x] := by
  unfold pSet pApp pInt pLen
  rw [pNat_coe, List.set_append_right _ _ (Nat.le_refl _), Nat.sub_self]; rfl
theorem in_last {l : List LockD} {x : LockD} : pIn (pInt (pLen l)) (pLen (pApp l [x])) := by
  unfold pInt
  exact pIn_coe.2 (by show l.length < (pApp l [x]).length; unfold pApp; simp)
theorem item_ver {l : List ItemD} {k : Int} (h : itemsF l = true) : pLe (itemF l k).2.2.1 1048576 = true := by
  rw [itemF_eq]
  cases hk : pGe (idxKeyF l k) 0 with
  | false => rfl
  | true =>
    obtain ⟨_, i, e, hi⟩ := idxKey_pos (sort_of h) hk
    rw [cond_true, e, pNat_coe]
    have h1 := allUpto_iff.1 h i hi
    rw [itemOk_eq] at h1
    simp only [Bool.and_eq_true] at h1
    have h2 := h1.1.2
    unfold inF at h2
    simp only [Bool.and_eq_true] at h2
    exact h2.2

theorem Write_ok : Meets Tryd.prog (fun _ => none) 57 cWrite := Write_meets scall_ok item_ok lock_ok own_ok Contains_ok busy_ok hand_ok fun si sl sd so ts tn k v a hp => by
  have l1 : si.length < 4611686018427387904 := hp (pLen si < 4611686018427387904) (by simp)
  have l2 : sl.length < 4611686018427387904 := hp (pLen sl < 4611686018427387904) (by simp)
  have l3 : sd.length < 4611686018427387904 := hp (pLen sd < 4611686018427387904) (by simp)
  have l4 : so.length < 4611686018427387904 := hp (pLen so < 4611686018427387904) (by simp)
  have r1 : pRoom (pLen si) 24 := hp (pRoom (pLen si) 24) (by simp)
  have r2 : pRoom (pLen sl) 48 := hp (pRoom (pLen sl) 48) (by simp)
  have r3 : pRoom (pLen sd) 24 := hp (pRoom (pLen sd) 24) (by simp)
  have r4 : pRoom (pLen so) 16 := hp (pRoom (pLen so) 16) (by simp)
  clear hp
  unfold Write_VC
  refine ⟨l1, l2, l3, l4, bif_ok (fun h => ?_) fun ha => ?_⟩
  · exact write_err (by rw [writeE_eq]; clear l1 l2 l3 l4; grind [pLt, pLe, pGt, pGe, pEq, pNe, pNot, pAndB, pBeq, pInt, pLen, inF, pIn, pTo, pNat]) (by simpa [pNe, pEq] using h)
  obtain ⟨f1, f2, f3⟩ := doubts_few (ask_ok ha)
  have hin := @idxLk_in sl ts tn k
  have hv := @item_ver si k f3
  have ha0 : pEq (askE (si, sl, sd, so, ()) (ts, tn, ()) k) 0 = true := by simpa [pNe, pEq] using ha
  have q2 : sl.length < 25 := by omega
  have q3 : sd.length < 25 := by omega
  have qd : pRoom (pPlus (pLen sd) 1) 24 := (show (sd.length + 1) * 24 ≤ 140737488351232 by omega)
  have qa : ∀ x : LockD, (pApp sl [x]).length < 4611686018427387904 := fun x => by unfold pApp; simp only [List.length_append, List.length_cons, List.length_nil]; omega
  have qs : ∀ (i : Nat) (x : LockD), (pSet sl i x).length < 4611686018427387904 := fun i x => by rw [pSet_len (t := tyLock)]; exact l2
  have hE := writeE_eq si sl sd so ts tn k v a
  rw [ha0, cond_true] at hE
  clear ha ha0
  rw [lk_neg] at hE ⊢
  have fin : ∀ X, writeE (si, sl, sd, so, ()) (ts, tn, ()) k v a = 0 → X = cond (!pGe (idxLkF sl ts tn k) 0) (pApp sl [(ts, tn, k, true, v, a, ())]) (pSet sl (pNat (idxLkF sl ts tn k)) (ts, tn, k, true, v, a, ())) →
      ((si, X, handF sd ts tn, so, ()), (0 : Int), ()) = (writeS (si, sl, sd, so, ()) (ts, tn, ()) k v a, writeE (si, sl, sd, so, ()) (ts, tn, ()) k v a, ()) := fun X h0 hX => by
    rw [write_all h0, hX, lk_neg]
  have f4 : (sl.length : Int) ≤ 24 := by omega
  (repeat' (first | refine bif_ok (fun h => ?_) (fun h => ?_) | with_reducible refine And.intro ?_ ?_ | fail))
  all_goals first
    | assumption
    | exact qa _
    | exact qs _ _
    | exact room_more q2 (by decide)
    | (refine hin ?_; clear hE fin qa qs hin; grind [pLt, pLe, pGt, pGe, pEq, pNe, pNot, pAndB, pBeq, pInt, pLen, inF, pIn, pTo, pNat])
    | (refine write_err (hE.trans ?_) rfl; clear hE fin qa qs hin; grind [pLt, pLe, pGt, pGe, pEq, pNe, pNot, pAndB, pBeq, pInt, pLen, inF, pIn, pTo, pNat])
    | (refine fin _ (hE.trans ?_) ?_ <;> (clear hE fin qa qs hin; grind [pLt, pLe, pGt, pGe, pEq, pNe, pNot, pAndB, pBeq, pInt, pLen, inF, pIn, pTo, pNat]))

theorem WriteOf_ok : Meets Tryd.prog (fun _ => none) 29 cWriteOf := WriteOf_meets askFault_ok StoreCopy_ok itemOf_ok lockOf_ok others_ok isOver_ok doubtOf_ok In_ok fun si sl sd so ts tn k v a hp => by
  have l1 : si.length < 4611686018427387904 := hp (pLen si < 4611686018427387904) (by simp)
  have l2 : sl.length < 4611686018427387904 := hp (pLen sl < 4611686018427387904) (by simp)
  have l3 : sd.length < 4611686018427387904 := hp (pLen sd < 4611686018427387904) (by simp)
  have l4 : so.length < 4611686018427387904 := hp (pLen so < 4611686018427387904) (by simp)
  have r1 : pRoom (pLen si) 24 := hp (pRoom (pLen si) 24) (by simp)
  have r2 : pRoom (pLen sl) 48 := hp (pRoom (pLen sl) 48) (by simp)
  have r3 : pRoom (pLen sd) 24 := hp (pRoom (pLen sd) 24) (by simp)
  have r4 : pRoom (pLen so) 16 := hp (pRoom (pLen so) 16) (by simp)
  clear hp
  unfold WriteOf_VC
  cases ha0 : pEq (askE (si, sl, sd, so, ()) (ts, tn, ()) k) 0
  · refine ⟨l1, l2, l3, l4, ?_⟩
    have hE := writeE_eq si sl sd so ts tn k v a
    rw [ha0, cond_false] at hE
    (repeat' (first | refine bif_ok (fun h => ?_) (fun h => ?_) | with_reducible refine And.intro ?_ ?_ | fail))
    all_goals first
      | exact write_err hE ha0
      | (exfalso; clear hE l1 l2 l3 l4; grind [pLt, pLe, pGt, pGe, pEq, pNe, pNot, pAndB, pBeq, pInt, pLen, inF, pIn, pTo, pNat])
  have ha : pNe (askE (si, sl, sd, so, ()) (ts, tn, ()) k) 0 = false := by simpa [pNe, pEq] using ha0
  obtain ⟨f1, f2, f3⟩ := doubts_few (ask_ok ha)
  have hin := @idxLk_in sl ts tn k
  have hv := @item_ver si k f3
  have q2 : sl.length < 25 := by omega
  have q3 : sd.length < 25 := by omega
  have hE := writeE_eq si sl sd so ts tn k v a
  rw [ha0, cond_true] at hE
  clear ha0
  simp only [cond_true, set_last, busy_all, doubt_neg]
  rw [lk_neg] at hE ⊢
  have hH := handF_eq sd ts tn
  have fin : ∀ X Y, writeE (si, sl, sd, so, ()) (ts, tn, ()) k v a = 0 → X = cond (!pGe (idxLkF sl ts tn k) 0) (pApp sl [(ts, tn, k, true, v, a, ())]) (pSet sl (pNat (idxLkF sl ts tn k)) (ts, tn, k, true, v, a, ())) →
      Y = cond (pGe (idxDoubtF sd (ts, tn, ())) 0) sd (pApp sd [(ts, tn, 0, ())]) →
      ((si, X, Y, so, ()), (0 : Int), ()) = (writeS (si, sl, sd, so, ()) (ts, tn, ()) k v a, writeE (si, sl, sd, so, ()) (ts, tn, ()) k v a, ()) := fun X Y h0 hX hY => by
    rw [write_all h0, hX, hY, lk_neg, hH]
  have f4 : (sl.length : Int) ≤ 24 := by omega
  clear hH
  (repeat' (first | refine bif_ok (fun h => ?_) (fun h => ?_) | with_reducible refine And.intro ?_ ?_ | fail))
  all_goals first
    | assumption
    | exact in_last
    | exact room_more q2 (by decide)
    | exact room_more q3 (by decide)
    | (refine hin ?_; clear hE fin hin; grind [pLt, pLe, pGt, pGe, pEq, pNe, pNot, pAndB, pBeq, pInt, pLen, inF, pIn, pTo, pNat])
    | (refine write_err (hE.trans ?_) rfl; clear hE fin hin; grind [pLt, pLe, pGt, pGe, pEq, pNe, pNot, pAndB, pBeq, pInt, pLen, inF, pIn, pTo, pNat])
    | (refine fin _ _ (hE.trans ?_) ?_ ?_ <;> (clear hE fin hin ha; grind [pLt, pLe, pGt, pGe, pEq, pNe, pNot, pAndB, pBeq, pInt, pLen, inF, pIn, pTo, pNat]))
    | (exfalso; clear hE fin hin; grind [pLt, pLe, pGt, pGe, pEq, pNe, pNot, pAndB, pBeq, pInt, pLen, inF, pIn, pTo, pNat])

end Go.Proofs.YtkhnakdmkhidbaaDoor

/- What a site hears: functions meet their contracts. No condition. -/
namespace Go.Proofs.YtkhnakdmkhidbaaDoor
open Go.RowKit

theorem WriteF_ok : Meets Tryd.prog (fun _ => none) 57 cWriteF := meets_frz Write_ok rfl fun _ => rfl
theorem EndF_ok : Meets Tryd.prog (fun _ => none) 60 cEndF := meets_frz End_ok rfl fun _ => rfl
theorem WriteW_ok : Meets Tryd.prog (fun _ => none) 57 cWriteW := meets_mono WriteF_ok fun x hp => by
  have h : StoOk x.1.1 := hp _ List.mem_cons_self
  refine ⟨fun p hq => ?_, rfl⟩
  simp only [List.mem_cons, List.not_mem_nil, or_false] at hq; rcases hq with rfl | rfl | rfl | rfl | rfl | rfl | rfl | rfl
  · exact h.1.1
  · exact h.1.2.1
  · exact h.1.2.2.1
  · exact h.1.2.2.2
  · exact h.2.1
  · exact h.2.2.1
  · exact h.2.2.2.1
  · exact h.2.2.2.2
theorem EndW_ok : Meets Tryd.prog (fun _ => none) 60 cEndW := meets_mono EndF_ok fun x hp => by
  have h : StoOk x.1.1 := hp _ List.mem_cons_self
  refine ⟨fun p hq => ?_, rfl⟩
  simp only [List.mem_cons, List.not_mem_nil, or_false] at hq; rcases hq with rfl | rfl | rfl | rfl | rfl | rfl | rfl | rfl
  · exact h.1.1
  · exact h.1.2.1
  · exact h.1.2.2.1
  · exact h.1.2.2.2
  · exact h.2.1
  · exact h.2.2.1
  · exact h.2.2.2.1
  · exact h.2.2.2.2
end Go.Proofs.YtkhnakdmkhidbaaDoor

/- A site is told the decision: the function meets its contract. No condition. -/
namespace Go.Proofs.YtkhnakdmkhidbaaDoor
open Go.RowKit

end Go.Proofs.YtkhnakdmkhidbaaDoor

/- What comes back from a tape: jobs by their numbers, and what is small. No condition. -/
namespace Go.Proofs.YtkhnakdmkhidbaaDoor
open Go.RowKit

theorem comm1_ok : Meets Tryd.prog (fun _ => none) 99 ccomm1 := comm1_meets fun n s t a q g k => rfl
theorem jobs_up {l : List JobD} (h : sortJ l = true) : ∀ {j i : Nat}, i < j → j < l.length → pLt (pGet tyJob l i).1 (pGet tyJob l j).1 = true
  | 0, _, hi, _ => absurd hi (by omega)
  | j + 1, i, hi, hj => by
    have h1 := allUpto_iff.1 h (j + 1) hj
    have h2 : pLt (pGet tyJob l j).1 (pGet tyJob l (j + 1)).1 = true := by
      simp only [Bool.or_eq_true, decide_eq_true_eq, Nat.add_sub_cancel] at h1
      rcases h1 with h | h
      · omega
      · exact h
    rcases Nat.lt_succ_iff_lt_or_eq.1 hi with h3 | h3
    · exact pLt_trans (jobs_up h h3 (by omega)) h2
    · rw [h3]; exact h2
theorem posJ_at {l : List JobD} {k : Int} {i : Nat} (hi : i ≤ l.length) (h1 : ∀ m, m < i → pGe (pGet tyJob l m).1 k = false) (h2 : i < l.length → pGe (pGet tyJob l i).1 k = true) : posJ l k = (i : Int) := by
  unfold posJ
  by_cases hl : i < l.length
  · rw [find_range hl h1 (h2 hl)]
  · have : i = l.length := by omega
    have hn : (List.range l.length).find? (fun j => pGe (pGet tyJob l j).1 k) = none := by
      rw [List.find?_eq_none]; intro j hj; rw [h1 j (by rw [this]; simpa using hj)]; simp
    rw [hn, this]
theorem idxKeyJ_at {l : List JobD} {k : Int} (hs : sortJ l = true) {i : Nat} (hi : i ≤ l.length) (h1 : ∀ m, m < i → pGe (pGet tyJob l m).1 k = false) (h2 : i < l.length → pGe (pGet tyJob l i).1 k = true) :
    idxKeyJ l k = cond (decide (i < l.length) && pEq (pGet tyJob l i).1 k) (i : Int) (-1) := by
  have hlow : ∀ j, j < i → keyAtJ l k j = false := fun j hj => by
    have := h1 j hj; simp only [keyAtJ, pGe, pEq, decide_eq_false_iff_not, beq_eq_false_iff_ne] at this ⊢; omega
  cases hq : (decide (i < l.length) && pEq (pGet tyJob l i).1 k) with
  | true =>
    simp only [Bool.and_eq_true, decide_eq_true_eq] at hq
    exact idxOf_hit hq.1 hlow hq.2
  | false =>
    refine idxOf_none fun j hj => ?_
    by_cases hji : j < i
    · exact hlow j hji
    · have hil : i < l.length := by omega
      have hk := h2 hil
      simp only [hil, decide_true, Bool.true_and] at hq
      by_cases he : j = i
      · rw [he]; exact hq
      · have hup := jobs_up hs (show i < j by omega) hj
        simp only [keyAtJ, pLt, pGe, pEq, decide_eq_true_eq, beq_eq_false_iff_ne] at hk hq hup ⊢
        omega
theorem subJ_lt {a k : Int} (ha : 1 ≤ a ∧ a ≤ 1048576) (hk : 0 ≤ k ∧ k ≤ 1048576) : pLt (pSubI .i64 a k) 0 = pLt a k := by
  rw [pSubI_in (a := a) (b := k) (by omega)]
  unfold pLt
  rw [Bool.eq_iff_iff]; simp only [decide_eq_true_eq]; omega
theorem subJ_eq {a k : Int} (ha : 1 ≤ a ∧ a ≤ 1048576) (hk : 0 ≤ k ∧ k ≤ 1048576) : pEq (pSubI .i64 a k) 0 = pEq a k := by
  rw [pSubI_in (a := a) (b := k) (by omega)]
  rw [Bool.eq_iff_iff]; simp only [pEq, beq_iff_eq]; omega
theorem pLe_of {a k : Int} (h : pLt a k = false) : pLe k a = true := by
  simp only [pLt, pLe, decide_eq_true_eq, decide_eq_false_iff_not] at h ⊢; omega

theorem binJ_ok : Meets Tryd.prog (fun _ => none) 98 cbinJ := binJ_meets comm1_ok fun l k hp => by
  have hl : l.length < 4611686018427387904 := hp (pLen l < 4611686018427387904) (by simp)
  have hs : sortJ l = true := hp (sortJ l = true) (by simp)
  have hji : JobsIn l := hp (JobsIn l) (by simp)
  have hkk := inF_iff.1 (hp (inF k 0 1048576 = true) (by simp))
  have hN : ∀ m, m < l.length → 1 ≤ (pGet tyJob l m).1 ∧ (pGet tyJob l m).1 ≤ 1048576 := fun m hm => by
    have := hji (pGet tyJob l m) (by rw [pGet_lt hm]; exact List.getElem_mem hm)
    exact inF_iff.1 this
  clear hp hji
  unfold binJ_VC
  refine ⟨⟨0, l.length, rfl, Nat.zero_le _, Nat.le_refl _, fun m hm => absurd hm (by omega), fun m h1 h2 => absurd h2 (by omega)⟩, fun y hy => ?_⟩
  obtain ⟨i, j, rfl, hij, hj, h1, h2⟩ := hy
  dsimp only
  by_cases hlt : i < j
  · rw [bif_true (show pLt (i : Int) (j : Int) = true by simp [pLt, hlt]), mid (by omega) (by omega), pNat_coe]
    have hm : (i + j) / 2 < j := by omega
    have hm2 : i ≤ (i + j) / 2 := by omega
    refine ⟨(by unfold pGe0; decide), pIn_coe.2 (by unfold pLen; omega), bif_ok (fun h => ?_) fun h => ?_⟩
    · have hk : pLt (pGet tyJob l ((i + j) / 2)).1 k = true := by
        rw [subJ_lt (hN ((i + j) / 2) (by omega)) hkk] at h; exact h
      simp only [pLt, decide_eq_true_eq] at hk
      rw [pAdd1 (by omega)]
      refine ⟨⟨(i + j) / 2 + 1, j, rfl, by omega, hj, fun m hm3 => ?_, h2⟩, ?_⟩
      · simp only [pGe, decide_eq_false_iff_not]
        by_cases he : m = (i + j) / 2
        · rw [he]; omega
        · have := jobs_up hs (show m < (i + j) / 2 by omega) (by omega); simp only [pLt, decide_eq_true_eq] at this; omega
      · unfold binJMu; simp only [Int.toNat_natCast]; exact Nat.lt_of_lt_of_le (show j - ((i + j) / 2 + 1) < j - i by omega) (Nat.le_refl _)
    · have hk : pLe k (pGet tyJob l ((i + j) / 2)).1 = true := by
        rw [subJ_lt (hN ((i + j) / 2) (by omega)) hkk] at h; exact pLe_of h
      simp only [pLe, decide_eq_true_eq] at hk
      refine ⟨⟨i, (i + j) / 2, rfl, hm2, by omega, h1, fun m hm3 hm4 => ?_⟩, ?_⟩
      · simp only [pGe, decide_eq_true_eq]
        by_cases he : m = (i + j) / 2
        · rw [he]; omega
        · have := jobs_up hs (show (i + j) / 2 < m by omega) hm4; simp only [pLt, decide_eq_true_eq] at this; omega
      · unfold binJMu; simp only [Int.toNat_natCast]; exact Nat.lt_of_lt_of_le (show (i + j) / 2 - i < j - i by omega) (Nat.le_refl _)
  · obtain rfl : i = j := by omega
    rw [bif_false (show pLt (i : Int) (i : Int) = false by simp [pLt]), pNat_coe]
    have h2' : i < l.length → pGe (pGet tyJob l i).1 k = true := fun h => h2 i (Nat.le_refl _) h
    have hpos := posJ_at hj h1 h2'
    have hidx := idxKeyJ_at hs hj h1 h2'
    rw [hpos, hidx]
    by_cases hil : i < l.length
    · rw [bif_true (by simp [pLt_coe, pLen, hil])]
      refine ⟨pIn_coe.2 hil, ?_⟩
      have hk := h2' hil
      have e : pEq (pSubI .i64 (pGet tyJob l i).1 k) 0 = pEq (pGet tyJob l i).1 k := by
        exact subJ_eq (hN i hil) hkk
      rw [e]
      simp only [hil, decide_true, Bool.true_and]
      cases pEq (pGet tyJob l i).1 k <;> simp [pGe]
    · rw [bif_false (by simp [pLt_coe, pLen]; omega)]
      simp only [hil, decide_false, Bool.false_and, cond_false]
      rfl

theorem cloneN_ok : Meets Tryd.prog (fun _ => none) 101 ccloneN := cloneN_meets fun l hp => by
  have h : pRoom (pLen l) 8 := hp (pRoom (pLen l) 8) (by simp)
  refine ⟨fun h0 => ?_, ?_, rfl⟩
  · rw [List.eq_nil_of_length_eq_zero h0]
  · unfold pPlus pLen; rw [List.length_nil, Nat.zero_add]; exact h
theorem intsCopy_ok : Meets Tryd.prog (fun _ => none) 42 cintsCopy := intsCopy_meets fun l hp => by
  have h : pRoom (pLen l) 8 := hp (pRoom (pLen l) 8) (by simp)
  have hb : l.length < 4611686018427387904 := lt62 h (by decide)
  clear hp
  unfold intsCopy_VC
  refine ⟨⟨0, rfl, Nat.zero_le _⟩, fun y hy => ?_⟩
  obtain ⟨k, rfl, hk⟩ := hy
  by_cases hkn : k < l.length
  · rw [bif_true (by simp [pLt_coe, pLen, hkn])]
    dsimp only
    rw [pNat_coe]
    have e : pApp (l.take k) [pGet tyN l k] = l.take (k + 1) := by
      rw [List.take_succ_eq_append_getElem hkn, pGet_lt (t := tyN) hkn]; rfl
    refine ⟨pIn_coe.2 hkn, room_le h ?_, ⟨k + 1, by rw [pAdd1 (by omega), e], hkn⟩, mu_step hkn (by omega)⟩
    show (l.take k).length + 1 ≤ l.length
    rw [List.length_take]; omega
  · obtain rfl : k = l.length := by omega
    rw [bif_false (by simp [pLt_coe, pLen])]
    dsimp only
    rw [List.take_length]
theorem cloneNF_ok : Meets Tryd.prog (fun _ => none) 101 ccloneNF := meets_frz cloneN_ok rfl fun _ => rfl
theorem intsCopyF_ok : Meets Tryd.prog (fun _ => none) 42 cintsCopyF := meets_frz intsCopy_ok rfl fun _ => rfl


end Go.Proofs.YtkhnakdmkhidbaaDoor

/- slices.Insert at []api.Job: its walk. No condition. -/
namespace Go.Proofs.YtkhnakdmkhidbaaDoor
open Go.RowKit Go.Lib

theorem insJJ : (Tryd.prog.info? 99).map (fun i => (i.zero, i.size, i.bytes)) = some (some (.agg #[.int .i64 0, .int .i64 0, .slice none 0 0, .slice none 0 0, .int .i64 0, .int .i64 0]), 6, 80) := by kernel_rfl
theorem insZJ : ∀ w, (Go.sizeOf 99).run Tryd.prog w = .ok 6 w := fun w => by
  obtain ⟨i0, hi0, hz0, hzs, hzb⟩ := info_parts insJJ
  unfold Go.sizeOf typeInfo
  simp [hi0, hzs]

set_option maxHeartbeats 4000000 in
set_option maxRecDepth 100000 in
theorem insJ_shift (b n c i vb m vc : Nat) (cs vs : List Value) (w : World) (hi : i < n) (hm : 0 < m) (hroom : n + m ≤ c) (hc63 : c ≤ 9223372036854775807) (hvb : vb ≠ b)
    (hcl : cs.length = n * 6) (hvl : vs.length = m * 6)
    (hcs : ∀ j v, cs[j]? = some v → w.cell? ⟨b, j, none⟩ = some v) (hsp : ∀ j, j < (n + m) * 6 → (w.cell? ⟨b, j, none⟩).isSome = true) (hfz : ∀ j, j < (n + m) * 6 → w.frozen? ⟨b, j, none⟩ = false)
    (hvs : ∀ j v, vs[j]? = some v → w.cell? ⟨vb, j, none⟩ = some v) (h1c : ∀ v ∈ cs, v.oneCell' = true) (h1v : ∀ v ∈ vs, v.oneCell' = true)
    (tA tB : TypeId) (kA kB : Nat) (hsa : w.shape? vb = some (tA, kA)) (hsb : w.shape? b = some (tB, kB)) (hkB : kB ≠ 0) (hfa : w.frozen? ⟨vb, 0, none⟩ = false) (hfe : w.frozen? ⟨vb, kA, none⟩ = false) :
    Calls Tryd.prog 100 #[.slice (some ⟨b, 0, none⟩) n c, .int .i64 i, .slice (some ⟨vb, 0, none⟩) m vc] w fun e w' =>
      e = .returned (.slice (some ⟨b, 0, none⟩) (n + m) c) ∧ w' = (w.drew.setCells b ((i + m) * 6) (cs.drop (i * 6))).setCells b (i * 6) vs := by
  have hz1 : ¬ ((m : Int) = 0) := by omega
  have hz2 : ¬ ((i : Int) = (n : Int)) := by omega
  have hsz : (Tryd.prog.info? 99).map (·.size) = some 6 := by
    obtain ⟨i0, hi0, h0, h1, h2⟩ := info_parts insJJ
    rw [hi0]; simp [h1]
  have hov : ∀ lb cb, (callFunc 117 #[.slice (some ⟨vb, 0, none⟩) m vc, .slice (some ⟨b, (i + m) * 6, none⟩) lb cb]).run Tryd.prog w = .ok (.value (.bool false)) w := fun lb cb => by
    rw [run_callFunc_extern Tryd.func117 (by kernel_rfl) (by kernel_rfl) (by kernel_rfl) (e := Extern.SlicesOverlaps.overlaps #[48, 48] #[4]) (by kernel_rfl),
      Lib.run_overlaps_apart w 48 4 99 Tryd.underlying48 6 insZJ ⟨vb, 0, none⟩ ⟨b, (i + m) * 6, none⟩ m vc lb cb hvb tA tB kA kB hsa hsb hkB hfa hfe]
    rfl
  have hdl : (cs.drop (i * 6)).length = (n - i) * 6 := by rw [List.length_drop, hcl]; omega
  have hw1 : IntKind.i64.wrap ((i : Int) + (m : Int)) = (i : Int) + (m : Int) := by rw [IntKind.wrap_i64]; omega
  have hb1 : (0 : Int) ≤ (i : Int) + (m : Int) := by omega
  have hin : i ≤ n := by omega
  have htn : ((i : Int) + (m : Int)).toNat = i + m := by omega
  have hb2 : ¬ (c = i + m) := by omega
  have hb3 : (i : Int) ≤ (n : Int) + (m : Int) := by omega
  have hb4 : ¬ (c = i) := by omega
  have hcp1 : ∀ ty dc sc, (Builtin.copy_ #[48, 48] ty #[.slice (some ⟨b, (i + m) * 6, none⟩) (n + m - (i + m)) dc, .slice (some ⟨b, i * 6, none⟩) (n + m - i) sc]).run Tryd.prog w.drew = .ok (goInt ((n - i : Nat) : Nat)) (w.drew.setCells b ((i + m) * 6) (cs.drop (i * 6))) := fun ty dc sc =>
    run_copy_K w.drew _ _ ty 99 6 b ((i + m) * 6) (n + m - (i + m)) dc ⟨b, i * 6, none⟩ (n + m - i) sc (cs.drop (i * 6)) (n - i) Tryd.underlying48 hsz (by simp only [Nat.min_def]; split <;> omega) hdl
      (fun j v hj => by rw [Addr.add_lit]; exact hcs (i * 6 + j) v (by rwa [List.getElem?_drop] at hj))
      (fun j hj => hsp _ (by omega)) (fun j hj => hfz _ (by omega)) (fun v hv => h1c v (List.mem_of_mem_drop hv))
  obtain ⟨W1, hW1⟩ : ∃ W1, W1 = w.drew.setCells b ((i + m) * 6) (cs.drop (i * 6)) := ⟨_, rfl⟩
  have hsp1 : ∀ k, k < (n + m) * 6 → (W1.cell? ⟨b, k, none⟩).isSome = true := fun k hk => by
    rw [hW1]
    exact isSome_setCells b (cs.drop (i * 6)) ((i + m) * 6) w.drew (fun j hj => hsp _ (by omega)) k (hsp k hk)
  have hcp2 : ∀ (W : World), (∀ x, W.cell? x = W1.cell? x) → (∀ x, W.frozen? x = W1.frozen? x) → ∀ ty dc, (Builtin.copy_ #[48, 48] ty #[.slice (some ⟨b, i * 6, none⟩) (n + m - i) dc, .slice (some ⟨vb, 0, none⟩) m vc]).run Tryd.prog W = .ok (goInt (m : Nat)) (W.setCells b (i * 6) vs) := fun W hWc hWf ty dc =>
    run_copy_K W _ _ ty 99 6 b (i * 6) (n + m - i) dc ⟨vb, 0, none⟩ m vc vs m Tryd.underlying48 hsz (by simp only [Nat.min_def]; split <;> omega) hvl
      (fun j v hj => by
        rw [Addr.add_lit, hWc, hW1, World.cell?_setCells_out b _ _ _ _ (fun h _ => absurd h hvb), Nat.zero_add]
        exact hvs j v hj)
      (fun j hj => by rw [hWc]; exact hsp1 _ (by omega)) (fun j hj => by rw [hWf, hW1, World.frozen?_setCells]; exact hfz _ (by omega)) h1v
  rw [← hW1] at hcp1
  go_enter Tryd.func100, Tryd.ntmps100
  go_wp2_with (simp only [hov])
  go_region_law (refine step_copy_runI rfl _ _ 48 48 rfl _ _ (by simp [Act.eval, Act.put]) (by simp [Act.eval, Act.put]) (hcp1 _ _ _) ?_)
  go_wp2_with (at_builtin; refine wpList_copy_runI _ rfl _ _ 48 48 rfl _ _ rfl rfl (hcp2 _ (fun _ => rfl) (fun _ => rfl) _ _) ?_)
  go_ret
  first | exact ⟨rfl, rfl⟩ | exact ⟨rfl, by rw [hW1]⟩

set_option maxHeartbeats 4000000 in
set_option maxRecDepth 100000 in
theorem insJ_grow (b n c i vb m vc : Nat) (cs vs : List Value) (w : World) (hi : i < n) (hm : 0 < m) (hnc : n ≤ c) (hroom : c < n + m) (hbig : (n + m) * 80 ≤ 140737488355328)
    (hcl : cs.length = n * 6) (hvl : vs.length = m * 6)
    (hcs : ∀ j v, cs[j]? = some v → w.cell? ⟨b, j, none⟩ = some v)
    (hvs : ∀ j v, vs[j]? = some v → w.cell? ⟨vb, j, none⟩ = some v) (h1c : ∀ v ∈ cs, v.oneCell' = true) (h1v : ∀ v ∈ vs, v.oneCell' = true) :
    Calls Tryd.prog 100 #[.slice (some ⟨b, 0, none⟩) n c, .int .i64 i, .slice (some ⟨vb, 0, none⟩) m vc] w fun e w' =>
      e = .returned (.slice (some ⟨w.heap.size, 0, none⟩) (n + m) (grownCap w (n + m) c 99)) ∧
      w' = (((w.alloc (.cells ((cs.take (i * 6)).toArray ++ Builtin.zeroCells (.agg #[.int .i64 0, .int .i64 0, .slice none 0 0, .slice none 0 0, .int .i64 0, .int .i64 0] : Value).cells (n + m - i) ++ Builtin.zeroCells (.agg #[.int .i64 0, .int .i64 0, .slice none 0 0, .slice none 0 0, .int .i64 0, .int .i64 0] : Value).cells (grownCap w (n + m) c 99 - (n + m))) 99)).drew.setCells w.heap.size (i * 6) vs).drew).setCells w.heap.size ((i + m) * 6) (cs.drop (i * 6)) := by
  obtain ⟨i0, hi0, hz0, hzs, hzb⟩ := info_parts insJJ
  have hz1 : ¬ ((m : Int) = 0) := by omega
  have hz2 : ¬ ((i : Int) = (n : Int)) := by omega
  have hz3 : (c : Int) < (n : Int) + (m : Int) := by omega
  have hsz : (Tryd.prog.info? 99).map (·.size) = some 6 := by rw [hi0]; simp [hzs]
  have hbw : b < w.heap.size := block_lt_of_cell (hcs 0 _ (List.getElem?_eq_getElem (by omega)))
  have hvw : vb < w.heap.size := block_lt_of_cell (hvs 0 _ (List.getElem?_eq_getElem (by omega)))
  have hkk : (n : Int) + (m : Int) - (i : Int) = ((n + m - i : Nat) : Int) := by omega
  have hik : i + (n + m - i) = n + m := by omega
  have hold : (Builtin.firstCells i0.size i (.slice (some ⟨b, 0, none⟩) i c)).run Tryd.prog w.drew = .ok (cs.take (i * 6)).toArray w.drew := by
    rw [hzs]
    exact run_firstCells_some w.drew 6 i ⟨b, 0, none⟩ i c (cs.take (i * 6)) (by rw [List.length_take]; omega) (fun j v hj => by
      rw [Addr.add_lit, Nat.zero_add]
      rw [List.getElem?_take] at hj
      split at hj
      · exact hcs j v hj
      · cases hj)
  have hrz : ∀ ty, (Builtin.append_ #[48, 3] ty #[.slice (some ⟨b, 0, none⟩) i c, .int .i64 ((n : Int) + (m : Int) - (i : Int))]).run Tryd.prog w =
      .ok (.slice (some ⟨w.heap.size, 0, none⟩) (n + m) (grownCap w (n + m) c 99)) (w.drew.alloc (.cells ((cs.take (i * 6)).toArray ++ Builtin.zeroCells (.agg #[.int .i64 0, .int .i64 0, .slice none 0 0, .slice none 0 0, .int .i64 0, .int .i64 0] : Value).cells (n + m - i) ++ Builtin.zeroCells (.agg #[.int .i64 0, .int .i64 0, .slice none 0 0, .slice none 0 0, .int .i64 0, .int .i64 0] : Value).cells (grownCap w (n + m) c 99 - (n + m))) 99)) := fun ty => by
    have h := Lib.run_append_grow_zeros w 48 3 ty 99 i0 _ .i64 .i64 Tryd.underlying48 Tryd.underlying3 hi0 hz0 (some ⟨b, 0, none⟩) i c (cs.take (i * 6)) hold (n + m - i) (by omega) (by omega) (by omega) (by omega) (by rw [hzb]; omega) (by rw [hzb, hik]; exact growslice_fits hroom hbig)
    rw [hik] at h
    rw [hkk]
    exact h
  obtain ⟨G, hG⟩ : ∃ G, G = grownCap w (n + m) c 99 := ⟨_, rfl⟩
  obtain ⟨ROW, hROW⟩ : ∃ ROW : Array Value, ROW = (cs.take (i * 6)).toArray ++ Builtin.zeroCells (.agg #[.int .i64 0, .int .i64 0, .slice none 0 0, .slice none 0 0, .int .i64 0, .int .i64 0] : Value).cells (n + m - i) ++ Builtin.zeroCells (.agg #[.int .i64 0, .int .i64 0, .slice none 0 0, .slice none 0 0, .int .i64 0, .int .i64 0] : Value).cells (G - (n + m)) := ⟨_, rfl⟩
  rw [← hG] at hrz ⊢
  rw [← hROW] at hrz ⊢
  have hRl : (n + m) * 6 ≤ ROW.size := by
    rw [hROW]
    simp [Builtin.zeroCells, Value.cells]
    omega
  obtain ⟨W1, hW1⟩ : ∃ W1, W1 = w.drew.alloc (.cells ROW 99) := ⟨_, rfl⟩
  rw [← hW1] at hrz
  have hN : ∀ j, j < (n + m) * 6 → (W1.cell? ⟨w.heap.size, j, none⟩).isSome = true := fun j hj => by
    rw [hW1, World.cell?_alloc_at (w := w.drew) ROW _ w.heap.size j rfl, Array.getElem?_eq_getElem (by omega)]; rfl
  have hNf : ∀ j, W1.frozen? ⟨w.heap.size, j, none⟩ = false := fun j => by rw [hW1]; exact World.frozen?_alloc_at (w := w.drew) ROW _ w.heap.size j rfl
  have hOb : ∀ j v, w.cell? ⟨b, j, none⟩ = some v → W1.cell? ⟨b, j, none⟩ = some v := fun j v h => by rw [hW1, World.cell?_alloc_past (w := w.drew) _ b j hbw]; exact h
  have hOv : ∀ j v, w.cell? ⟨vb, j, none⟩ = some v → W1.cell? ⟨vb, j, none⟩ = some v := fun j v h => by rw [hW1, World.cell?_alloc_past (w := w.drew) _ vb j hvw]; exact h
  have hcpA : ∀ (W : World), (∀ x, W.cell? x = W1.cell? x) → (∀ x, W.frozen? x = W1.frozen? x) → ∀ ty dc, (Builtin.copy_ #[48, 48] ty #[.slice (some ⟨w.heap.size, i * 6, none⟩) (n + m - i) dc, .slice (some ⟨vb, 0, none⟩) m vc]).run Tryd.prog W = .ok (goInt (m : Nat)) (W.setCells w.heap.size (i * 6) vs) := fun W hWc hWf ty dc =>
    run_copy_K W _ _ ty 99 6 w.heap.size (i * 6) (n + m - i) dc ⟨vb, 0, none⟩ m vc vs m Tryd.underlying48 hsz (by simp only [Nat.min_def]; split <;> omega) hvl
      (fun j v hj => by rw [Addr.add_lit, hWc, Nat.zero_add]; exact hOv _ v (hvs j v hj))
      (fun j hj => by rw [hWc]; exact hN _ (by omega)) (fun j hj => by rw [hWf]; exact hNf _) h1v
  have hGn : n + m ≤ G := by rw [hG]; exact grownCap_ge w _ _ _
  have hG63 : G ≤ 9223372036854775807 := by
    have := grownCap_le_maxLen w (n + m) c 99 (by unfold maxLen; omega)
    rw [← hG] at this
    unfold maxLen at this
    omega
  have hGi : ¬ (G = i) := by omega
  have hGim : ¬ (G = i + m) := by omega
  have hci : ¬ (c = i) := by omega
  have hbN : b ≠ w.heap.size := by omega
  have hdl : (cs.drop (i * 6)).length = (n - i) * 6 := by rw [List.length_drop, hcl]; omega
  have hcpB : ∀ (W : World), (∀ x, W.cell? x = (W1.setCells w.heap.size (i * 6) vs).cell? x) → (∀ x, W.frozen? x = (W1.setCells w.heap.size (i * 6) vs).frozen? x) → ∀ ty dc sc, (Builtin.copy_ #[48, 48] ty #[.slice (some ⟨w.heap.size, (i + m) * 6, none⟩) (n + m - (i + m)) dc, .slice (some ⟨b, i * 6, none⟩) (n - i) sc]).run Tryd.prog W = .ok (goInt ((n - i : Nat) : Nat)) (W.setCells w.heap.size ((i + m) * 6) (cs.drop (i * 6))) := fun W hWc hWf ty dc sc =>
    run_copy_K W _ _ ty 99 6 w.heap.size ((i + m) * 6) (n + m - (i + m)) dc ⟨b, i * 6, none⟩ (n - i) sc (cs.drop (i * 6)) (n - i) Tryd.underlying48 hsz (by simp only [Nat.min_def]; split <;> omega) hdl
      (fun j v hj => by
        rw [Addr.add_lit, hWc, World.cell?_setCells_out _ _ _ _ _ (fun h _ => absurd h hbN)]
        exact hOb _ v (hcs (i * 6 + j) v (by rwa [List.getElem?_drop] at hj)))
      (fun j hj => by rw [hWc]; exact isSome_setCells _ _ _ _ (fun t ht => hN _ (by omega)) _ (hN _ (by omega)))
      (fun j hj => by rw [hWf, World.frozen?_setCells]; exact hNf _) (fun v hv => h1c v (List.mem_of_mem_drop hv))
  subst hW1
  have hE1 : ∀ x, ((w.alloc (.cells ROW 99)).drew).cell? x = (w.drew.alloc (.cells ROW 99)).cell? x := fun x => rfl
  have hE2 : ∀ x, ((w.alloc (.cells ROW 99)).drew).frozen? x = (w.drew.alloc (.cells ROW 99)).frozen? x := fun x => rfl
  have hF1 : ∀ x, (((w.alloc (.cells ROW 99)).drew.setCells w.heap.size (i * 6) vs).drew).cell? x = ((w.drew.alloc (.cells ROW 99)).setCells w.heap.size (i * 6) vs).cell? x := fun x => rfl
  have hF2 : ∀ x, (((w.alloc (.cells ROW 99)).drew.setCells w.heap.size (i * 6) vs).drew).frozen? x = ((w.drew.alloc (.cells ROW 99)).setCells w.heap.size (i * 6) vs).frozen? x := fun x => rfl
  have hw1 : IntKind.i64.wrap ((i : Int) + (m : Int)) = (i : Int) + (m : Int) := by rw [IntKind.wrap_i64]; omega
  have hb1 : (0 : Int) ≤ (i : Int) + (m : Int) := by omega
  have hin : i ≤ n := by omega
  have htn : ((i : Int) + (m : Int)).toNat = i + m := by omega
  have hb3 : (i : Int) ≤ (n : Int) := by omega
  clear hkk hik hold hROW hG hRl
  go_enter Tryd.func100, Tryd.ntmps100
  go_wp2_with (first
    | (at_builtin; refine Lib.wpList_append_run _ rfl _ _ _ _ rfl _ _ rfl rfl _ _ (hrz _) ?_)
    | (at_builtin; refine wpList_copy_runI _ rfl _ _ 48 48 rfl _ _ rfl rfl (hcpA _ hE1 hE2 _ _) ?_)
    | (at_builtin; refine wpList_copy_runI _ rfl _ _ 48 48 rfl _ _ rfl rfl (hcpB _ (fun _ => rfl) (fun _ => rfl) _ _ _) ?_))
  go_region_law (refine step_copy_runI rfl _ _ 48 48 rfl (.slice (some ⟨w.heap.size, (i + m) * 6, none⟩) (n + m - (i + m)) (G - (i + m))) (.slice (some ⟨b, i * 6, none⟩) (n - i) (c - i)) (by simp [Act.eval, Act.put]) (by simp [Act.eval, Act.put]) (hcpB _ hF1 hF2 3 (G - (i + m)) (c - i)) ?_)
  go_wp2
  go_ret
  exact ⟨rfl, rfl⟩

theorem insJ_zs (i n G : Nat) (hi : i < n) (hG : n + 1 ≤ G) : i * 6 + (Builtin.zeroCells (.agg #[.int .i64 0, .int .i64 0, .slice none 0 0, .slice none 0 0, .int .i64 0, .int .i64 0] : Value).cells (n + 1 - i) ++ Builtin.zeroCells (.agg #[.int .i64 0, .int .i64 0, .slice none 0 0, .slice none 0 0, .int .i64 0, .int .i64 0] : Value).cells (G - (n + 1))).size = G * 6 := by
  rw [Array.size_append, size_zeroCells, size_zeroCells]
  show i * 6 + ((n + 1 - i) * 6 + (G - (n + 1)) * 6) = G * 6
  omega
set_option maxHeartbeats 4000000 in
theorem insJ_walk : InsWalk Tryd.prog 100 6 80 := by
  refine insWalk_of (by decide) (fun b n c i vb vc cs vs w h1 h2 h3 h4 h5 h6 h7 h8 h9 h10 h11 h12 tA tB kA kB h13 h14 h15 h16 h17 => ?_) fun b n c i vb vc cs vs w h1 h2 h3 h4 h5 h6 h7 h8 h9 h10 => ?_
  · exact insJ_shift b n c i vb 1 vc cs vs w h1 (by decide) h2 h3 h4 h5 (by rw [Nat.one_mul]; exact h6) h7 h8 h9 h10 h11 h12 tA tB kA kB h13 h14 h15 h16 h17
  · have hG := grownCap_ge w (n + 1) c 99
    have hb : n + 1 ≤ maxLen := by unfold maxLen; omega
    refine ⟨Builtin.zeroCells (.agg #[.int .i64 0, .int .i64 0, .slice none 0 0, .slice none 0 0, .int .i64 0, .int .i64 0] : Value).cells (n + 1 - i) ++ Builtin.zeroCells (.agg #[.int .i64 0, .int .i64 0, .slice none 0 0, .slice none 0 0, .int .i64 0, .int .i64 0] : Value).cells (grownCap w (n + 1) c 99 - (n + 1)), grownCap w (n + 1) c 99, 99, ?_, hG, grownCap_le_maxLen w (n + 1) c 99 hb, insJ_zs i n _ h1 hG⟩
    rw [← Array.append_assoc]
    exact insJ_grow b n c i vb 1 vc cs vs w h1 (by decide) h2 h3 h4 h5 (by rw [Nat.one_mul]; exact h6) h7 h8 h9 h10


end Go.Proofs.YtkhnakdmkhidbaaDoor

/- What comes back from a tape: one record. No condition. -/
namespace Go.Proofs.YtkhnakdmkhidbaaDoor
open Go.RowKit

theorem insJA_ok : Meets Tryd.prog (fun _ => none) 100 cinsJA := insJA_meets fun l i v hp => by
  have h1 : i = pInt (pLen l) := (hp _ List.mem_cons_self)
  have h2 : v.length = 1 := (hp _ (List.mem_cons_of_mem _ List.mem_cons_self))
  have h3 : pRoom (pPlus (pLen l) 1) 80 := (hp _ (List.mem_cons_of_mem _ (List.mem_cons_of_mem _ List.mem_cons_self)))
  clear hp
  subst h1
  match v, h2 with
  | [x], _ =>
  unfold insJA_VC
  refine ⟨⟨Int.natCast_nonneg _, Int.le_refl _⟩, ?_⟩
  rw [bif_false (show pEq (pInt (pLen [x])) 0 = false by rfl), bif_true (show pEq (pInt (pLen l)) (pInt (pLen l)) = true by simp [pEq])]
  refine ⟨h3, congrArg (·, ()) ?_⟩
  show l ++ [x] = pIns l (pNat (pInt l.length)) x
  rw [show pNat (pInt l.length) = l.length from pNat_coe _]
  unfold pIns
  rw [List.take_length, List.drop_length]
def insJPr : Bool → Shape.den ⟨[.one (.own 0), .one (.rd tI), .one (.own 1)], [.row tyJob, .row tyJob]⟩ → List Prop
  | true, x => [x.1.2.1 = pInt (pLen x.2.1), pLen x.2.2.1 = 1, pRoom (pPlus (pLen x.2.1) 1) 80]
  | false, x => [pIn x.1.2.1 (pLen x.2.1), pLen x.2.2.1 = 1, pRoom (pPlus (pLen x.2.1) 1) 80]
theorem insJ_ok : Meets Tryd.prog (fun _ => none) 100 cinsJ := by
  refine meets_split insJPr true (fun i => ?_) fun x hp => ?_
  · cases i with
    | true => exact insJA_ok
    | false => exact meets_ins (t := tyJob) Tryd.func100 (by kernel_rfl) (by kernel_rfl) (by decide) insJ_walk
  · have h1 : pTo x.1.2.1 (pLen x.2.1) := (hp _ List.mem_cons_self)
    have h2 : pLen x.2.2.1 = 1 := (hp _ (List.mem_cons_of_mem _ List.mem_cons_self))
    have h3 : pRoom (pPlus (pLen x.2.1) 1) 80 := (hp _ (List.mem_cons_of_mem _ (List.mem_cons_of_mem _ List.mem_cons_self)))
    have key : ∀ i : Int, pTo i (pLen x.2.1) → i = pInt (pLen x.2.1) ∨ pIn i (pLen x.2.1) := fun i h => by
      obtain ⟨a, b⟩ := h
      rcases Int.lt_or_eq_of_le b with c | c
      · exact .inr ⟨a, c⟩
      · exact .inl c
    rcases key _ h1 with h | h
    · refine ⟨true, fun p hq => ?_⟩
      simp only [insJPr, List.mem_cons, List.not_mem_nil, or_false] at hq
      rcases hq with rfl | rfl | rfl
      · exact h
      · exact h2
      · exact h3
    · refine ⟨false, fun p hq => ?_⟩
      simp only [insJPr, List.mem_cons, List.not_mem_nil, or_false] at hq
      rcases hq with rfl | rfl | rfl
      · exact h
      · exact h2
      · exact h3

theorem small_ok {s : StoD} (h : SmallS s) : StoOk s := by
  obtain ⟨a, b, c, d⟩ := h
  have q : ∀ a b c d : Nat, a ≤ 32 → b ≤ 25 → c ≤ 25 → d ≤ 4194305 → ((a < 4611686018427387904 ∧ b < 4611686018427387904 ∧ c < 4611686018427387904 ∧ d < 4611686018427387904) ∧ a * 24 ≤ 140737488351232 ∧ b * 48 ≤ 140737488351232 ∧ c * 24 ≤ 140737488351232 ∧ d * 16 ≤ 140737488351232) := fun a b c d _ _ _ _ => by omega
  exact q _ _ _ _ a b c d
theorem mend_ok : Meets Tryd.prog (fun _ => none) 77 cmend := mend_meets EndW_ok fun ts tn g me is ls ds os nx js ns hp => by
  have h : StoOk (is, ls, ds, os, ()) := hp _ List.mem_cons_self
  clear hp
  unfold mend_VC mend_v0
  refine ⟨h, bif_ok (fun e => ?_) fun e => ?_⟩
  · have e2 : endM me (is, ls, ds, os, nx, js, ns, ()) (ts, tn, ()) g = withS (is, ls, ds, os, nx, js, ns, ()) (endS (is, ls, ds, os, ()) (ts, tn, ()) g) := by
      unfold endM; rw [show pEq (endE (mSto (is, ls, ds, os, nx, js, ns, ())) (ts, tn, ())) 0 = true from e]; rfl
    rw [e2]; rfl
  · have e2 : endM me (is, ls, ds, os, nx, js, ns, ()) (ts, tn, ()) g = (is, ls, ds, os, nx, js, ns, ()) := by
      unfold endM; rw [show pEq (endE (mSto (is, ls, ds, os, nx, js, ns, ())) (ts, tn, ())) 0 = false from e]; rfl
    rw [e2]
theorem posJ_to (l : List JobD) (k : Int) : pTo (posJ l k) (pLen l) := by
  unfold posJ
  split
  · rename_i j hj
    have := List.mem_of_find?_eq_some hj
    have hj2 : j < l.length := by simpa using this
    exact ⟨Int.natCast_nonneg _, by show (j : Int) ≤ (l.length : Int); omega⟩
  · exact ⟨Int.natCast_nonneg _, Int.le_refl _⟩
theorem mcomm_ok : Meets Tryd.prog (fun _ => none) 78 cmcomm := mcomm_meets binJ_ok cloneNF_ok insJ_ok fun rk rs rn ry rv ra rd rl me is ls ds os nx js ns hp => by
  have hm : MemOk (is, ls, ds, os, nx, js, ns, ()) := hp (MemOk (is, ls, ds, os, nx, js, ns, ())) (by simp)
  have hn : inF rn 1 1048576 = true := hp (inF rn 1 1048576 = true) (by simp)
  have hl : rl.length < 1000000 := hp (pLen rl < 1000000) (by simp)
  clear hp
  have j6 : js.length ≤ 6 := hm.2.1.1
  have hn2 := inF_iff.1 hn
  have yes : noComm me (is, ls, ds, os, nx, js, ns, ()) (rk, rs, rn, ry, rv, ra, rd, rl, ()) = true → ((me, is, ls, ds, os, nx, js, ns, ()), ()) = ((me, (commM me (is, ls, ds, os, nx, js, ns, ()) (rk, rs, rn, ry, rv, ra, rd, rl, ())).1, (commM me (is, ls, ds, os, nx, js, ns, ()) (rk, rs, rn, ry, rv, ra, rd, rl, ())).2.1, (commM me (is, ls, ds, os, nx, js, ns, ()) (rk, rs, rn, ry, rv, ra, rd, rl, ())).2.2.1, (commM me (is, ls, ds, os, nx, js, ns, ()) (rk, rs, rn, ry, rv, ra, rd, rl, ())).2.2.2.1, (commM me (is, ls, ds, os, nx, js, ns, ()) (rk, rs, rn, ry, rv, ra, rd, rl, ())).2.2.2.2.1, (commM me (is, ls, ds, os, nx, js, ns, ()) (rk, rs, rn, ry, rv, ra, rd, rl, ())).2.2.2.2.2.1, (commM me (is, ls, ds, os, nx, js, ns, ()) (rk, rs, rn, ry, rv, ra, rd, rl, ())).2.2.2.2.2.2.1, ()), ()) := by
    intro h
    have e : commM me (is, ls, ds, os, nx, js, ns, ()) (rk, rs, rn, ry, rv, ra, rd, rl, ()) = (is, ls, ds, os, nx, js, ns, ()) := by unfold commM; rw [h]; rfl
    rw [e]
  have nc : noComm me (is, ls, ds, os, nx, js, ns, ()) (rk, rs, rn, ry, rv, ra, rd, rl, ()) = (pGe (idxKeyJ js rn) 0 || (pNe rs me || (pGe rn nx || (pEq (pInt (pLen rl)) 0 || pEq (pInt (pLen js)) 6)))) := rfl
  unfold mcomm_VC mcomm_t0 mcomm_v0
  refine ⟨by show js.length < _; omega, hm.2.1.2.1, hm.2.1.2.2, by rw [inF_iff]; omega, ?_⟩
  refine bif_ok (fun a => yes (by rw [nc, a]; rfl)) fun a => bif_ok (fun b => yes (by rw [nc, a, b]; rfl)) fun b => bif_ok (fun c => yes (by rw [nc, a, b, c]; rfl)) fun c =>
    bif_ok (fun d => yes (by rw [nc, a, b, c, d]; rfl)) fun d => bif_ok (fun e => yes (by rw [nc, a, b, c, d, e]; rfl)) fun e => ⟨?_, posJ_to js rn, rfl, ?_, ?_⟩
  · show rl.length * 8 ≤ 140737488351232; omega
  · show (js.length + 1) * 80 ≤ 140737488351232; omega
  · have e2 : commM me (is, ls, ds, os, nx, js, ns, ()) (rk, rs, rn, ry, rv, ra, rd, rl, ()) = withJ (is, ls, ds, os, nx, js, ns, ()) (pIns js (pNat (posJ js rn)) (jobOf (rk, rs, rn, ry, rv, ra, rd, rl, ()))) := by
      unfold commM; rw [nc, a, b, c, d, e]; rfl
    rw [e2]; rfl
theorem one1_ok : Meets Tryd.prog (fun _ => none) 80 cone1 := one1_meets fun xn xs xt xa xq xg rk rs rn ry rv ra rd rl me is ls ds os nx js ns => rfl
theorem indexDJ_ok : Meets Tryd.prog (fun _ => none) 102 cindexDJ := indexDJ_meets one1_ok fun js rk rs rn ry rv ra rd rl me is ls ds os nx ns hp => by
  have hl : js.length < 4611686018427387904 := hp _ List.mem_cons_self
  clear hp
  unfold indexDJ_VC
  refine ⟨UpInv.start, fun y hy => ?_⟩
  rcases FindInv.round hl hy with ⟨k, rfl, hk, hb, hT, hF⟩ | ⟨rfl, hT⟩
  · rw [bif_true (by simp [pLt_coe, pLen, hk]), pNat_coe]
    refine ⟨pIn_coe.2 hk, bif_ok (fun h => ?_) fun h => hF h⟩
    exact congrArg (·, ()) (hT h).symm
  · rw [bif_false (by simp [pLt_coe, pLen])]
    exact congrArg (·, ()) hT.symm
theorem delDJ_ok : Meets Tryd.prog (fun _ => none) 79 cdelDJ := delDJ_meets one1_ok indexDJ_ok fun js rk rs rn ry rv ra rd rl me is ls ds os nx ns hp => by
  have hl : js.length < 4611686018427387904 := hp _ List.mem_cons_self
  clear hp
  unfold delDJ_VC
  refine ⟨hl, ?_⟩
  rcases idxOf_cases (p := fun j => isDJ (pGet tyJob js j) rs rn me) (n := js.length) with ⟨h1, h2⟩ | ⟨i, h1, hi, h3, h4⟩
  · rw [show idxDJ js rs rn me = -1 from h1, bif_true (by rfl)]
    exact congrArg (·, ()) (keep_all (t := tyJob) h2).symm
  · rw [show idxDJ js rs rn me = (i : Int) from h1, bif_false (by simp [pEq] <;> omega)]
    refine ⟨DelAt.start (t := tyJob) hi (by omega) h4 h3, fun y hy => ?_⟩
    obtain ⟨q, j, zs, rfl, haj, hj, hzl, ht, hd⟩ := hy
    dsimp only
    have hzl' : zs.length = js.length := hzl
    rw [show pLen zs = js.length from hzl]
    by_cases hjn : j < js.length
    · rw [bif_true (by simp [pLt_coe, hjn]), pNat_coe, pNat_coe, DelAt.at (t := tyJob) hjn hzl hd]
      obtain ⟨s1, s2⟩ := DelAt.step (t := tyJob) (p := fun x => isDJ x rs rn me) haj hjn (by omega) hzl ht hd
      refine ⟨pIn_coe.2 hjn, bif_ok (fun h => ⟨pIn_coe.2 (by omega), s1 (by simpa [pNot] using h), mu_step hjn (by omega)⟩) fun h => ⟨s2 (by simpa [pNot] using h), mu_step hjn (by omega)⟩⟩
    · obtain rfl : j = js.length := by omega
      rw [bif_false (by simp [pLt_coe]), pNat_coe]
      refine ⟨pTo_coe.2 (by omega), haj, pTo_coe.2 (by show q ≤ (pClr zs q _).length; rw [clr_len (by omega)]; omega), congrArg (·, ()) (DelAt.done (t := tyJob) haj hzl ht)⟩


end Go.Proofs.YtkhnakdmkhidbaaDoor

/- Stores that are small enough. No condition. -/
namespace Go.Proofs.YtkhnakdmkhidbaaDoor
open Go.RowKit

/-- few enough to be in memory -/
def FewS (s : StoD) : Prop := s.1.length ≤ 32 ∧ s.2.1.length ≤ 25 ∧ s.2.2.1.length ≤ 25 ∧ s.2.2.2.1.length ≤ 4194305
theorem few_no : FewS noSto := ⟨Nat.zero_le _, Nat.zero_le _, Nat.zero_le _, Nat.zero_le _⟩
theorem few_self {s : StoD} (h : stoF s = true) : FewS s ∧ s.2.1.length ≤ 24 ∧ s.2.2.1.length ≤ 24 := by
  obtain ⟨f1, f2, f3⟩ := doubts_few (is := s.1) (ls := s.2.1) (ds := s.2.2.1) (os := s.2.2.2.1) h
  have f4 := items_few f3
  have f5 := over_few (is := s.1) (ls := s.2.1) (ds := s.2.2.1) (os := s.2.2.2.1) h
  exact ⟨⟨by omega, by omega, by omega, by omega⟩, f2, by omega⟩
theorem few_write {s : StoD} (h : stoF s = true) (t : TxnD) (k v a : Int) : FewS (writeS s t k v a) := by
  obtain ⟨⟨a1, _, _, d⟩, b, c⟩ := few_self h
  have hh := hand_len s.2.2.1 t.1 t.2.1
  unfold writeS
  cases pEq (writeE s t k v a) 0 with
  | false => exact few_no
  | true =>
    refine ⟨a1, ?_, by show (handF s.2.2.1 t.1 t.2.1).length ≤ 25; omega, d⟩
    cases pLt (idxLkF s.2.1 t.1 t.2.1 k) 0 with
    | true => show (s.2.1 ++ [_]).length ≤ 25; rw [List.length_append]; show s.2.1.length + 1 ≤ 25; omega
    | false => show (s.2.1.set _ _).length ≤ 25; rw [List.length_set]; omega
theorem few_end {s : StoD} (h : stoF s = true) (t : TxnD) (g : Bool) : FewS (endS s t g) := by
  obtain ⟨a1, a2, a3, a4⟩ := endS_len s.1 s.2.1 s.2.2.1 s.2.2.2.1 t g
  obtain ⟨f1, f2, f3⟩ := doubts_few (is := s.1) (ls := s.2.1) (ds := s.2.2.1) (os := s.2.2.2.1) h
  have f4 := items_few f3
  have f5 := over_few (is := s.1) (ls := s.2.1) (ds := s.2.2.1) (os := s.2.2.2.1) h
  exact ⟨Nat.le_trans a1 (by omega), Nat.le_trans a2 (by omega), Nat.le_trans a3 (by omega), Nat.le_trans a4 (by omega)⟩


end Go.Proofs.YtkhnakdmkhidbaaDoor
