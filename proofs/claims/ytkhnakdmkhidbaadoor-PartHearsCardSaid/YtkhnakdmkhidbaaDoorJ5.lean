/- Contracts, and what the evaluator says, as plain propositions: SvD. Printed by vc.py. -/
import Derived.Test.YtkhnakdmkhidbaaDoorJ4
import Derived.Test.YtkhnakdmkhidbaaDoorJ2
import Derived.Test.YtkhnakdmkhidbaaDoorJ3

/- Copies of the store, and its doubts by a tick older: functions meet their contracts. No condition. -/
namespace Go.Proofs.YtkhnakdmkhidbaaDoor
open Go.RowKit

theorem mu_step {n k : Nat} (h : k < n) (hb : k < 4611686018427387904) : Nat.le (Nat.succ (n - (pAdd .i64 (k : Int) 1).toNat)) (n - ((k : Nat) : Int).toNat) := by
  rw [pAdd1 hb, Int.toNat_natCast, Int.toNat_natCast]; exact Nat.le_of_eq (by omega)
theorem room_take {α : Type} {l : List α} {k b : Nat} {x : α} (hk : k < l.length) (h : pRoom (pLen l) b) : pRoom (pPlus (pLen (l.take k)) (pLen [x])) b := by
  unfold pRoom pPlus pLen at *
  simp only [List.length_take, List.length_cons, List.length_nil]
  rw [Nat.min_eq_left (by omega)]
  exact Nat.le_trans (Nat.mul_le_mul_right b (by omega)) h
theorem StoreCopy_ok : Meets Tryd.prog (fun _ => none) 26 cStoreCopy := StoreCopy_meets fun is ls ds os hp => by
  have h1 : pRoom (pLen is) 24 := hp _ (by simp)
  have h2 : pRoom (pLen ls) 48 := hp (pRoom (pLen ls) 48) (by simp)
  have h3 : pRoom (pLen ds) 24 := hp (pRoom (pLen ds) 24) (by simp)
  have h4 : pRoom (pLen os) 16 := hp (pRoom (pLen os) 16) (by simp)
  have b1 : is.length * 24 ≤ 140737488351232 := h1
  have b2 : ls.length * 48 ≤ 140737488351232 := h2
  have b3 : ds.length * 24 ≤ 140737488351232 := h3
  have b4 : os.length * 16 ≤ 140737488351232 := h4
  clear hp
  unfold StoreCopy_VC
  refine ⟨⟨0, rfl, Nat.zero_le _⟩, fun y hy => ?_⟩
  obtain ⟨k, rfl, hk⟩ := hy
  by_cases hkn : k < is.length
  · rw [bif_true (by simp [pLt_coe, pLen, hkn])]
    dsimp only
    rw [pNat_coe]
    refine ⟨pIn_coe.2 hkn, room_take hkn h1, ⟨k + 1, ?_, hkn⟩, mu_step hkn (by omega)⟩
    rw [pAdd1 (by omega), show pApp (is.take k) [((pGet tyItem is k).1, (pGet tyItem is k).2.1, (pGet tyItem is k).2.2.1, ())] = is.take (k + 1) from take_app (t := tyItem) hkn]
  obtain rfl : k = is.length := by omega
  rw [bif_false (by simp [pLt_coe, pLen])]
  dsimp only
  rw [List.take_length]
  refine ⟨⟨0, rfl, Nat.zero_le _⟩, fun y hy => ?_⟩
  obtain ⟨k, rfl, hk⟩ := hy
  by_cases hkn : k < ls.length
  · rw [bif_true (by simp [pLt_coe, pLen, hkn])]
    dsimp only
    rw [pNat_coe]
    refine ⟨pIn_coe.2 hkn, room_take hkn h2, ⟨k + 1, ?_, hkn⟩, mu_step hkn (by omega)⟩
    rw [pAdd1 (by omega), show pApp (ls.take k) [((pGet tyLock ls k).1, (pGet tyLock ls k).2.1, (pGet tyLock ls k).2.2.1, (pGet tyLock ls k).2.2.2.1, (pGet tyLock ls k).2.2.2.2.1, (pGet tyLock ls k).2.2.2.2.2.1, ())] = ls.take (k + 1) from take_app (t := tyLock) hkn]
  obtain rfl : k = ls.length := by omega
  rw [bif_false (by simp [pLt_coe, pLen])]
  dsimp only
  rw [List.take_length]
  refine ⟨⟨0, rfl, Nat.zero_le _⟩, fun y hy => ?_⟩
  obtain ⟨k, rfl, hk⟩ := hy
  by_cases hkn : k < ds.length
  · rw [bif_true (by simp [pLt_coe, pLen, hkn])]
    dsimp only
    rw [pNat_coe]
    refine ⟨pIn_coe.2 hkn, room_take hkn h3, ⟨k + 1, ?_, hkn⟩, mu_step hkn (by omega)⟩
    rw [pAdd1 (by omega), show pApp (ds.take k) [((pGet tyItem ds k).1, (pGet tyItem ds k).2.1, (pGet tyItem ds k).2.2.1, ())] = ds.take (k + 1) from take_app (t := tyDoubt) hkn]
  obtain rfl : k = ds.length := by omega
  rw [bif_false (by simp [pLt_coe, pLen])]
  dsimp only
  rw [List.take_length]
  refine ⟨⟨0, rfl, Nat.zero_le _⟩, fun y hy => ?_⟩
  obtain ⟨k, rfl, hk⟩ := hy
  by_cases hkn : k < os.length
  · rw [bif_true (by simp [pLt_coe, pLen, hkn])]
    dsimp only
    rw [pNat_coe]
    refine ⟨pIn_coe.2 hkn, room_take hkn h4, ⟨k + 1, ?_, hkn⟩, mu_step hkn (by omega)⟩
    rw [pAdd1 (by omega), show pApp (os.take k) [((pGet tyTxn os k).1, (pGet tyTxn os k).2.1, ())] = os.take (k + 1) from take_app (t := tyTxn) hkn]
  obtain rfl : k = os.length := by omega
  rw [bif_false (by simp [pLt_coe, pLen])]
  dsimp only
  rw [List.take_length]

/- rows that are changed in place -/
theorem pSet_len {t : Ty} {l : List t.den} {k : Nat} {x : t.den} : (pSet l k x).length = l.length := by unfold pSet; simp
theorem pGet_set {t : Ty} {l : List t.den} {k : Nat} {x : t.den} (h : k < l.length) : pGet t (pSet l k x) k = x := by
  unfold pGet pSet; rw [List.getD_eq_getElem?_getD, List.getElem?_set_self h]; rfl
theorem pSet_set {α : Type} {l : List α} {k : Nat} {x y : α} : pSet (pSet l k x) k y = pSet l k y := by unfold pSet; simp
theorem aged_len {ds : List DoubtD} {p : Int} {k : Nat} (h : k ≤ ds.length) : (agedK ds p k).length = ds.length := by
  unfold agedK; simp only [List.length_append, List.length_map, List.length_take, List.length_drop]; omega
theorem aged_get {ds : List DoubtD} {p : Int} {k : Nat} (h : k < ds.length) : pGet tyDoubt (agedK ds p k) k = pGet tyDoubt ds k := by
  unfold pGet agedK
  rw [List.getD_eq_getElem?_getD, List.getD_eq_getElem?_getD, List.getElem?_append_right (by simp only [List.length_map, List.length_take]; omega)]
  simp only [List.length_map, List.length_take, List.getElem?_drop]
  rw [show k + (k - min k ds.length) = k from by omega]
theorem aged_set {ds : List DoubtD} {p : Int} {k : Nat} (h : k < ds.length) : pSet (agedK ds p k) k (tickD p (pGet tyDoubt ds k)) = agedK ds p (k + 1) := by
  unfold pSet agedK
  have hl : ((ds.take k).map (tickD p)).length = k := by simp only [List.length_map, List.length_take]; omega
  rw [List.set_append_right _ _ (by omega), hl, Nat.sub_self, List.take_succ_eq_append_getElem h, List.map_append, List.append_assoc, List.drop_eq_getElem_cons h, pGet_lt (t := tyDoubt) h]
  rfl
theorem told_next {ds : List DoubtD} {p : Int} {k : Nat} (h : k < ds.length) : toldK ds p (k + 1) = cond (pGe (pAdd .i64 (pGet tyDoubt ds k).2.2.1 1) p) (pApp (toldK ds p k) [((pGet tyDoubt ds k).1, (pGet tyDoubt ds k).2.1, ())]) (toldK ds p k) := by
  unfold toldK
  rw [List.take_succ_eq_append_getElem h, List.filter_append, List.map_append, pGet_lt (t := tyDoubt) h]
  cases hq : pGe (pAdd .i64 (ds[k]'h).2.2.1 1) p with
  | true => rw [List.filter_cons_of_pos (by simpa using hq)]; rfl
  | false => rw [List.filter_cons_of_neg (by simp [hq])]; simp
theorem told_len {ds : List DoubtD} {p : Int} {k : Nat} : (toldK ds p k).length ≤ k := by
  unfold toldK
  rw [List.length_map]
  exact Nat.le_trans (List.length_filter_le _ _) (by simp only [List.length_take]; omega)

end Go.Proofs.YtkhnakdmkhidbaaDoor

/- What every law of the store needs: it is the same as itself; bounds of the argument. No condition. -/
namespace Go.Proofs.YtkhnakdmkhidbaaDoor
open Go.RowKit

theorem sameTxns_refl (l : List TxnD) : sameTxnsF l l = true := by
  unfold sameTxnsF
  rw [allUpto_true fun j _ => by simp [eqTxnAt, eqTxn, pEq]]
  simp
theorem sameSto_refl (s : StoD) : sameStoF s s = true := by
  unfold sameStoF
  rw [sameTxns_refl, allUpto_true fun j _ => by simp [eqItemAt, pEq], allUpto_true fun j _ => by simp [eqLockAt, pEq, pBeq], allUpto_true fun j _ => by simp [eqItemAt, pEq]]
  simp

/-- what is known of a store that was handed in -/
structure StoIn (is : List ItemD) (ls : List LockD) (ds : List DoubtD) (os : List TxnD) : Prop where
  r1 : pRoom (pLen is) 24
  r2 : pRoom (pLen ls) 48
  r3 : pRoom (pLen ds) 24
  r4 : pRoom (pLen os) 16
  l1 : is.length < 4611686018427387904
  l2 : ls.length < 4611686018427387904
  l3 : ds.length < 4611686018427387904
  l4 : os.length < 4611686018427387904
theorem stoIn (x : wSto.ty.den) (h : wSto.ok x) : StoIn x.1 x.2.1 x.2.2.1 x.2.2.2.1 := by
  have r1 : x.1.length * 24 ≤ 140737488351232 := h.1.1
  have r2 : x.2.1.length * 48 ≤ 140737488351232 := h.2.1.1
  have r3 : x.2.2.1.length * 24 ≤ 140737488351232 := h.2.2.1.1
  have r4 : x.2.2.2.1.length * 16 ≤ 140737488351232 := h.2.2.2.1.1
  exact ⟨r1, r2, r3, r4, lt62 r1 (by decide), lt62 r2 (by decide), lt62 r3 (by decide), lt62 r4 (by decide)⟩

theorem ageS_len (is : List ItemD) (ls : List LockD) (ds : List DoubtD) (os : List TxnD) (p : Int) :
    (ageS (is, ls, ds, os, ()) p).1.length ≤ is.length ∧ (ageS (is, ls, ds, os, ()) p).2.1.length ≤ ls.length ∧ (ageS (is, ls, ds, os, ()) p).2.2.1.length ≤ ds.length ∧ (ageS (is, ls, ds, os, ()) p).2.2.2.1.length ≤ os.length ∧
    (ageL (is, ls, ds, os, ()) p).length ≤ ds.length := by
  unfold ageS ageL
  cases pEq (ageE (is, ls, ds, os, ()) p) 0 with
  | true => exact ⟨Nat.le_refl _, Nat.le_refl _, Nat.le_of_eq (aged_len (Nat.le_refl _)), Nat.le_refl _, told_len⟩
  | false => exact ⟨Nat.zero_le _, Nat.zero_le _, Nat.zero_le _, Nat.zero_le _, Nat.zero_le _⟩

/-- whoever is in doubt has a lock, and is there once -/
theorem doubts_few {is : List ItemD} {ls : List LockD} {ds : List DoubtD} {os : List TxnD} (h : stoF (is, ls, ds, os, ()) = true) : ds.length ≤ ls.length ∧ ls.length ≤ 24 ∧ itemsF is = true := by
  rw [stoF_eq, doubtsF_eq, locksF_eq] at h
  simp only [Bool.and_eq_true] at h
  obtain ⟨⟨hi, hd, _⟩, _, hl⟩ := h
  have hn : ((List.range ds.length).map fun i => ((pGet tyDoubt ds i).1, (pGet tyDoubt ds i).2.1)).Nodup := by
    unfold List.Nodup
    rw [List.pairwise_map]
    refine List.pairwise_lt_range.imp_of_mem fun {a b} ha hb hab => ?_
    have h1 := allUpto_iff.1 hd b (by simpa using hb)
    rw [doubtOkAt_eq] at h1
    simp only [Bool.and_eq_true] at h1
    have h2 := allUpto_iff.1 h1.2 a hab
    intro e
    simp only [Prod.mk.injEq] at e
    simp only [sameD, pAndB, pEq, e.1, e.2, beq_self_eq_true, Bool.and_self, Bool.not_true, Bool.false_eq_true] at h2
  have hs : ((List.range ds.length).map fun i => ((pGet tyDoubt ds i).1, (pGet tyDoubt ds i).2.1)) ⊆ ((List.range ls.length).map fun i => ((pGet tyLock ls i).1, (pGet tyLock ls i).2.1)) := by
    intro x hx
    obtain ⟨i, hi, rfl⟩ := List.mem_map.1 hx
    have h1 := allUpto_iff.1 hd i (by simpa using hi)
    rw [doubtOkAt_eq] at h1
    simp only [Bool.and_eq_true] at h1
    have h2 := h1.1.2
    unfold idxLockF at h2
    rw [idxOf_ge] at h2
    obtain ⟨j, hj, h3⟩ := anyUpto_iff.1 h2
    simp only [lockIsF, pEq, Bool.and_eq_true, beq_iff_eq] at h3
    exact List.mem_map.2 ⟨j, by simpa using hj, by simp only [h3.1, h3.2]⟩
  refine ⟨by simpa using hn.length_le_of_subset hs, ?_, hi⟩
  have hl' : (ls.length : Int) ≤ 24 := of_decide_eq_true hl
  omega

theorem room_more {α : Type} {l : List α} {n b : Nat} {x : α} (h : l.length < n) (hb : n * b ≤ 140737488351232) : pRoom (pPlus (pLen l) (pLen [x])) b := by
  unfold pRoom pPlus pLen
  exact Nat.le_trans (Nat.mul_le_mul_right b (show l.length + 1 ≤ n by omega)) hb
theorem z62 : 0 < 4611686018427387904 := by decide

theorem lt62s {n m b : Nat} (h : n * b ≤ 140737488351232) (hb : 1 ≤ b) (hm : m ≤ n + 1) : m < 4611686018427387904 := by
  have := Nat.mul_le_mul_left n hb
  omega

end Go.Proofs.YtkhnakdmkhidbaaDoor

/- Contracts, and what the evaluator says, as plain propositions: PbV. Printed by vc.py. -/
namespace Go.Proofs.YtkhnakdmkhidbaaDoor
open Go.RowKit Go.ChangeShapes Go.WideShapes Go.Deep

abbrev scheck_S : Shape := ⟨[.one (.lit (.pt 0 0))], [.box [.rd tI, .rd (.sl tyLab), .rd tI, .rd tI, .rd tI, .rd (.sl tySto)]]⟩
abbrev scheck_f : Shape.den scheck_S → denVars [.slot 0 false tI] := fun x => (checkF (x.2.1.1, x.2.1.2.1, x.2.1.2.2.1, ()) x.2.1.2.2.2.1 x.2.1.2.2.2.2.1 x.2.1.2.2.2.2.2.1, ())
abbrev scheck_p : Shape.den scheck_S → List Prop := fun x => [pLen x.2.1.2.1 < 4611686018427387904, pLen x.2.1.2.2.2.2.2.1 < 4611686018427387904, (∀ q ∈ x.2.1.2.2.2.2.2.1, pLen q.1 < 4611686018427387904 ∧ pLen q.2.1 < 4611686018427387904 ∧ pLen q.2.2.1 < 4611686018427387904 ∧ pLen q.2.2.2.1 < 4611686018427387904 ∧ pRoom (pLen q.1) 24 ∧ pRoom (pLen q.2.1) 48 ∧ pRoom (pLen q.2.2.1) 24 ∧ pRoom (pLen q.2.2.2.1) 16)]
def cscheck : Ctr := shCtr scheck_S scheck_p [] [.slot 0 false tI] scheck_f
abbrev siteFault_S : Shape := ⟨[pCfg, .one (.rd tI), .one (.rd tI), .one (.rd (.sl tySto))], []⟩
abbrev siteFault_f : Shape.den siteFault_S → denVars [.slot 0 false tI] := fun x => (checkF x.1.1 x.1.2.1 x.1.2.2.1 x.1.2.2.2.1, ())
abbrev siteFault_p : Shape.den siteFault_S → List Prop := fun x => [pLen x.1.1.2.1 < 4611686018427387904, pLen x.1.2.2.2.1 < 4611686018427387904, (∀ q ∈ x.1.2.2.2.1, pLen q.1 < 4611686018427387904 ∧ pLen q.2.1 < 4611686018427387904 ∧ pLen q.2.2.1 < 4611686018427387904 ∧ pLen q.2.2.2.1 < 4611686018427387904 ∧ pRoom (pLen q.1) 24 ∧ pRoom (pLen q.2.1) 48 ∧ pRoom (pLen q.2.2.1) 24 ∧ pRoom (pLen q.2.2.2.1) 16)]
def csiteFault : Ctr := shCtr siteFault_S siteFault_p [] [.slot 0 false tI] siteFault_f
abbrev sameMsgs_S : Shape := ⟨[.one (.rd (.sl tyMsg)), .one (.rd (.sl tyMsg))], []⟩
abbrev sameMsgs_f : Shape.den sameMsgs_S → denVars [.slot 0 false .bool] := fun x => (sameMsgsF x.1.1 x.1.2.1, ())
abbrev sameMsgs_p : Shape.den sameMsgs_S → List Prop := fun x => [pLen x.1.1 < 4611686018427387904]
def csameMsgs : Ctr := shCtr sameMsgs_S sameMsgs_p [] [.slot 0 false .bool] sameMsgs_f
abbrev sameNotes_S : Shape := ⟨[.one (.rd (.sl tyNote)), .one (.rd (.sl tyNote))], []⟩
abbrev sameNotes_f : Shape.den sameNotes_S → denVars [.slot 0 false .bool] := fun x => (sameNotesF x.1.1 x.1.2.1, ())
abbrev sameNotes_p : Shape.den sameNotes_S → List Prop := fun x => [pLen x.1.1 < 4611686018427387904]
def csameNotes : Ctr := shCtr sameNotes_S sameNotes_p [] [.slot 0 false .bool] sameNotes_f
abbrev Writes_S : Shape := ⟨[pSto, pTxn], []⟩
abbrev Writes_f : Shape.den Writes_S → denVars [.slot 0 false tI, .slot 1 false tI] := fun x => (cond (pEq (askE x.1.1 x.1.2.1 0) 0) (cntW x.1.1.2.1 x.1.2.1.1 x.1.2.1.2.1) 0, askE x.1.1 x.1.2.1 0, ())
abbrev Writes_p : Shape.den Writes_S → List Prop := fun x => [pLen x.1.1.1 < 4611686018427387904, pLen x.1.1.2.1 < 4611686018427387904, pLen x.1.1.2.2.1 < 4611686018427387904, pLen x.1.1.2.2.2.1 < 4611686018427387904]
def cWrites : Ctr := shCtr Writes_S Writes_p [] [.slot 0 false tI, .slot 1 false tI] Writes_f
abbrev cloneNote_S : Shape := ⟨[.one (.rd (.sl tyNote))], []⟩
abbrev cloneNote_f : Shape.den cloneNote_S → denVars [.slot 0 true tyNote] := fun x => (x.1.1, ())
abbrev cloneNote_p : Shape.den cloneNote_S → List Prop := fun x => [pRoom (pLen x.1.1) 24]
def ccloneNote : Ctr := shCtr cloneNote_S cloneNote_p [] [.slot 0 true tyNote] cloneNote_f
def cNotesCopy : Ctr := shCtr cloneNote_S cloneNote_p [] [.slot 0 true tyNote] cloneNote_f
abbrev pownR_S : Shape := ⟨[pAns, .one (.rd (.sl tyNote))], []⟩
abbrev pownR_f : Shape.den pownR_S → denVars [.agg 0 vAnsR] := fun x => ((x.1.1.1, x.1.1.2.1, x.1.1.2.2.1, x.1.1.2.2.2.1, x.1.1.2.2.2.2.1, x.1.1.2.2.2.2.2.1, x.1.2.1, ()), ())
abbrev pownR_p : Shape.den pownR_S → List Prop := fun x => [pRoom (pLen x.1.1.1) 24, pRoom (pLen x.1.1.2.1) 48, pRoom (pLen x.1.1.2.2.1) 24, pRoom (pLen x.1.1.2.2.2.1) 16]
def cpownR : Ctr := shCtr pownR_S pownR_p [] [.agg 0 vAnsR] pownR_f
abbrev sameInts_S : Shape := ⟨[.one (.rd (.sl tyN)), .one (.rd (.sl tyN))], []⟩
abbrev sameInts_f : Shape.den sameInts_S → denVars [.slot 0 false .bool] := fun x => (sameIntsF x.1.1 x.1.2.1, ())
abbrev sameInts_p : Shape.den sameInts_S → List Prop := fun x => [pLen x.1.1 < 4611686018427387904]
def csameInts : Ctr := shCtr sameInts_S sameInts_p [] [.slot 0 false .bool] sameInts_f
abbrev sameRecord_S : Shape := ⟨[(.agg [.rd tI, .rd tI, .rd tI, .rd tI, .rd tI, .rd tI, .rd .bool, .rd (.sl tyN)]), (.agg [.rd tI, .rd tI, .rd tI, .rd tI, .rd tI, .rd tI, .rd .bool, .rd (.sl tyN)])], []⟩
abbrev sameRecord_f : Shape.den sameRecord_S → denVars [.slot 0 false .bool] := fun x => (sameRecF (x.1.1.1, x.1.1.2.1, x.1.1.2.2.1, x.1.1.2.2.2.1, x.1.1.2.2.2.2.1, x.1.1.2.2.2.2.2.1, x.1.1.2.2.2.2.2.2.1, x.1.1.2.2.2.2.2.2.2.1, ()) (x.1.2.1.1, x.1.2.1.2.1, x.1.2.1.2.2.1, x.1.2.1.2.2.2.1, x.1.2.1.2.2.2.2.1, x.1.2.1.2.2.2.2.2.1, x.1.2.1.2.2.2.2.2.2.1, x.1.2.1.2.2.2.2.2.2.2.1, ()), ())
abbrev sameRecord_p : Shape.den sameRecord_S → List Prop := fun x => [pLen x.1.1.2.2.2.2.2.2.2.1 < 4611686018427387904]
def csameRecord : Ctr := shCtr sameRecord_S sameRecord_p [] [.slot 0 false .bool] sameRecord_f
abbrev sameRecords_S : Shape := ⟨[.one (.rd (.sl tyRec)), .one (.rd (.sl tyRec))], []⟩
abbrev sameRecords_f : Shape.den sameRecords_S → denVars [.slot 0 false .bool] := fun x => (sameRecsF x.1.1 x.1.2.1, ())
abbrev sameRecords_p : Shape.den sameRecords_S → List Prop := fun x => [pLen x.1.1 < 4611686018427387904, (∀ q ∈ x.1.1, pLen q.2.2.2.2.2.2.2.1 < 4611686018427387904)]
def csameRecords : Ctr := shCtr sameRecords_S sameRecords_p [] [.slot 0 false .bool] sameRecords_f
abbrev sameAnsw_S : Shape := ⟨[pAns, pAns], []⟩
abbrev sameAnsw_f : Shape.den sameAnsw_S → denVars [.slot 0 false .bool] := fun x => (sameAnswF (x.1.1.1, x.1.1.2.1, x.1.1.2.2.1, x.1.1.2.2.2.1, x.1.1.2.2.2.2.1, x.1.1.2.2.2.2.2.1, x.1.1.2.2.2.2.2.2.1, ()) (x.1.2.1.1, x.1.2.1.2.1, x.1.2.1.2.2.1, x.1.2.1.2.2.2.1, x.1.2.1.2.2.2.2.1, x.1.2.1.2.2.2.2.2.1, x.1.2.1.2.2.2.2.2.2.1, ()), ())
abbrev sameAnsw_p : Shape.den sameAnsw_S → List Prop := fun x => [pLen x.1.1.1 < 4611686018427387904, pLen x.1.1.2.1 < 4611686018427387904, pLen x.1.1.2.2.1 < 4611686018427387904, pLen x.1.1.2.2.2.1 < 4611686018427387904, pLen x.1.1.2.2.2.2.1 < 4611686018427387904, pLen x.1.1.2.2.2.2.2.1 < 4611686018427387904, pLen x.1.1.2.2.2.2.2.2.1 < 4611686018427387904, (∀ q ∈ x.1.1.2.2.2.2.2.1, pLen q.2.2.2.2.2.2.2.1 < 4611686018427387904)]
def csameAnsw : Ctr := shCtr sameAnsw_S sameAnsw_p [] [.slot 0 false .bool] sameAnsw_f
abbrev eqsPbV : List TypeId := [28, 103, 105, 107, 65, 31, 57]

def scheck_VC (cn : Int) (cl : List LabD) (cp : Int) (l : Int) (me : Int) (ss : List StoD) : Prop :=
  Nat.le (Nat.succ (pLen cl)) 4611686018427387904 ∧ bif pNe (cfgF (cn, cl, cp, ())) (0 : Int) then (cfgF (cn, cl, cp, ()), ()) = (checkF (cn, cl, cp, ()) l me ss, ()) else bif pLt l (0 : Int) then ((6 : Int), ()) = (checkF (cn, cl, cp, ()) l
 me ss, ()) else bif pGe l (pInt (pLen cl)) then ((6 : Int), ()) = (checkF (cn, cl, cp, ()) l me ss, ()) else bif pLt me (0 : Int) then ((2 : Int), ()) = (checkF (cn, cl, cp, ()) l me ss, ()) else bif pGe me cn then ((2 : Int), ()) = (checkF
 (cn, cl, cp, ()) l me ss, ()) else bif pNe (pInt (pLen ss)) (pInt (pLen cl)) then ((9 : Int), ()) = (checkF (cn, cl, cp, ()) l me ss, ()) else scheckInv cn cl cp l me ss ((0 : Int), ()) ∧ ∀ (y : kden Bool.false tI × PUnit), scheckInv cn cl
 cp l me ss y → bif pLt y.1 (pInt (pLen ss)) then pIn y.1 (pLen ss) ∧ Nat.le (Nat.succ (pLen (pGet tySto ss (pNat y.1)).1)) 4611686018427387904 ∧ Nat.le (Nat.succ (pLen (pGet tySto ss (pNat y.1)).2.1)) 4611686018427387904 ∧ Nat.le (Nat.succ
 (pLen (pGet tySto ss (pNat y.1)).2.2.1)) 4611686018427387904 ∧ Nat.le (Nat.succ (pLen (pGet tySto ss (pNat y.1)).2.2.2.1)) 4611686018427387904 ∧ bif pNe (bif stoF (pGet tySto ss (pNat y.1)) then (0 : Int) else (9 : Int)) (0 : Int) then (bif
 stoF (pGet tySto ss (pNat y.1)) then (0 : Int) else (9 : Int), ()) = (checkF (cn, cl, cp, ()) l me ss, ()) else scheckInv cn cl cp l me ss (pAdd IntKind.i64 y.1 (1 : Int), ()) ∧ Nat.le (Nat.succ (scheckMu cn cl cp l me ss (pAdd IntKind.i64
 y.1 (1 : Int), ()))) (scheckMu cn cl cp l me ss y) else ((0 : Int), ()) = (checkF (cn, cl, cp, ()) l me ss, ())
set_option maxRecDepth 100000 in
theorem scheck_meets (hlCheck : Mt 35 clCheck) (hCheck : Mt 47 cCheck) (h : ∀ (cn : Int) (cl : List LabD) (cp : Int) (l : Int) (me : Int) (ss : List StoD), (∀ p ∈ scheck_p ⟨((), ()), ((cn, cl, cp, l, me, ss, ()), ())⟩, p) → scheck_VC cn cl cp l me ss) : Mt 14 cscheck :=
  meets_vc (E := envOf Tryd.prog [(35, (false, clCheck)), (47, (false, cCheck))] eqsPbV) (envOf_ok (fun p hp => (by simp only [List.mem_cons, List.not_mem_nil, or_false] at hp; rcases hp with rfl | rfl; exact hlCheck; exact hCheck)) (by kernel_rfl)) scheck_S (fun x => fun ky9 st9 => look [(11, (⟨[.slot 67 false tI], scheckInv x.2.1.1 x.2.1.2.1 x.2.1.2.2.1 x.2.1.2.2.2.1 x.2.1.2.2.2.2.1 x.2.1.2.2.2.2.2.1, scheckMu x.2.1.1 x.2.1.2.1 x.2.1.2.2.1 x.2.1.2.2.2.1 x.2.1.2.2.2.2.1 x.2.1.2.2.2.2.2.1⟩ : Ann))] ky9) Tryd.func14 (by kernel_rfl) (by kernel_rfl) scheck_p [] [.slot 0 false tI] scheck_f (fun x => scheck_VC x.2.1.1 x.2.1.2.1 x.2.1.2.2.1 x.2.1.2.2.2.1 x.2.1.2.2.2.2.1 x.2.1.2.2.2.2.2.1) (fun x => by kernel_rfl) (fun x hp => h x.2.1.1 x.2.1.2.1 x.2.1.2.2.1 x.2.1.2.2.2.1 x.2.1.2.2.2.2.1 x.2.1.2.2.2.2.2.1 hp)

def siteFault_VC (cn : Int) (cl : (List LabD)) (cp : Int) (l : Int) (me : Int) (ss : (List StoD)) : Prop :=
  Nat.le (Nat.succ (pLen cl)) 4611686018427387904 ∧ bif pNe (cfgF (cn, cl, cp, ())) (0 : Int) then (cfgF (cn, cl, cp, ()), ()) = (checkF (cn, cl, cp, ()) l me ss, ()) else Nat.le (Nat.succ (pLen cl)) 4611686018427387904 ∧ bif pNot (placeF
 (cn, cl, cp, ()) l) then ((6 : Int), ()) = (checkF (cn, cl, cp, ()) l me ss, ()) else bif pNot (inF me (0 : Int) (pSubI IntKind.i64 cn (1 : Int))) then ((2 : Int), ()) = (checkF (cn, cl, cp, ()) l me ss, ()) else bif pNe (pInt (pLen ss))
 (pInt (pLen cl)) then ((9 : Int), ()) = (checkF (cn, cl, cp, ()) l me ss, ()) else siteFaultInv cn cl cp l me ss ((0 : Int), ()) ∧ ∀ (y : kden Bool.false tI × PUnit), siteFaultInv cn cl cp l me ss y → bif pLt y.1 (pInt (pLen ss)) then pIn
 y.1 (pLen ss) ∧ Nat.le (Nat.succ (pLen (pGet tySto ss (pNat y.1)).1)) 4611686018427387904 ∧ Nat.le (Nat.succ (pLen (pGet tySto ss (pNat y.1)).2.1)) 4611686018427387904 ∧ Nat.le (Nat.succ (pLen (pGet tySto ss (pNat y.1)).2.2.1))
 4611686018427387904 ∧ Nat.le (Nat.succ (pLen (pGet tySto ss (pNat y.1)).2.2.2.1)) 4611686018427387904 ∧ bif pNot (stoF (pGet tySto ss (pNat y.1))) then ((9 : Int), ()) = (checkF (cn, cl, cp, ()) l me ss, ()) else siteFaultInv cn cl cp l me
 ss (pAdd IntKind.i64 y.1 (1 : Int), ()) ∧ Nat.le (Nat.succ (siteFaultMu cn cl cp l me ss (pAdd IntKind.i64 y.1 (1 : Int), ()))) (siteFaultMu cn cl cp l me ss y) else ((0 : Int), ()) = (checkF (cn, cl, cp, ()) l me ss, ())
set_option maxRecDepth 100000 in
theorem siteFault_meets (hcFault : Mt 38 ccFault) (hIn : Mt 39 cIn) (hlabelMay : Mt 65 clabelMay) (hStoreMay : Mt 66 cStoreMay) (h : ∀ (cn : Int) (cl : (List LabD)) (cp : Int) (l : Int) (me : Int) (ss : (List StoD)), (∀ p ∈ siteFault_p ⟨((cn, cl, cp, ()), l, me, ss, ()), ()⟩, p) → siteFault_VC cn cl cp l me ss) : Mt 23 csiteFault :=
  meets_vc (E := envOf Tryd.prog [(38, (false, ccFault)), (39, (false, cIn)), (65, (false, clabelMay)), (66, (false, cStoreMay))] eqsPbV) (envOf_ok (fun p hp => (by simp only [List.mem_cons, List.not_mem_nil, or_false] at hp; rcases hp with rfl | rfl | rfl | rfl; exact hcFault; exact hIn; exact hlabelMay; exact hStoreMay)) (by kernel_rfl)) siteFault_S (fun x => fun ky9 st9 => look [(11, (⟨[.slot 10 false tI], siteFaultInv x.1.1.1 x.1.1.2.1 x.1.1.2.2.1 x.1.2.1 x.1.2.2.1 x.1.2.2.2.1, siteFaultMu x.1.1.1 x.1.1.2.1 x.1.1.2.2.1 x.1.2.1 x.1.2.2.1 x.1.2.2.2.1⟩ : Ann))] ky9) Tryd.func23 (by kernel_rfl) (by kernel_rfl) siteFault_p [] [.slot 0 false tI] siteFault_f (fun x => siteFault_VC x.1.1.1 x.1.1.2.1 x.1.1.2.2.1 x.1.2.1 x.1.2.2.1 x.1.2.2.2.1) (fun x => by kernel_rfl) (fun x hp => h x.1.1.1 x.1.1.2.1 x.1.1.2.2.1 x.1.2.1 x.1.2.2.1 x.1.2.2.2.1 hp)

abbrev sameMsgs_v0 := (Ty.pair tI (Ty.pair tI (Ty.pair tI (Ty.pair tI (Ty.pair tI (Ty.pair tI (Ty.pair tI (Ty.pair tI (Ty.pair tI (Ty.pair tI (Ty.pair Ty.bool tyN)))))))))))

def sameMsgs_VC (l : (List MsgD)) (m : (List MsgD)) : Prop :=
  bif pNe (pInt (pLen l)) (pInt (pLen m)) then (Bool.false, ()) = (sameMsgsF l m, ()) else sameMsgsInv l m ((0 : Int), ()) ∧ ∀ (y : kden Bool.false tI × PUnit), sameMsgsInv l m y → bif pLt y.1 (pInt (pLen l)) then pIn y.1 (pLen l) ∧ pIn y.1
 (pLen m) ∧ bif pNot (pAndB (pEq (pGet (sameMsgs_v0) l (pNat y.1)).1 (pGet (sameMsgs_v0) m (pNat y.1)).1) (pAndB (pEq (pGet (sameMsgs_v0) l (pNat y.1)).2.1 (pGet (sameMsgs_v0) m (pNat y.1)).2.1) (pAndB (pEq (pGet (sameMsgs_v0) l (pNat
 y.1)).2.2.1 (pGet (sameMsgs_v0) m (pNat y.1)).2.2.1) (pAndB (pEq (pGet (sameMsgs_v0) l (pNat y.1)).2.2.2.1 (pGet (sameMsgs_v0) m (pNat y.1)).2.2.2.1) (pAndB (pEq (pGet (sameMsgs_v0) l (pNat y.1)).2.2.2.2.1 (pGet (sameMsgs_v0) m (pNat
 y.1)).2.2.2.2.1) (pAndB (pEq (pGet (sameMsgs_v0) l (pNat y.1)).2.2.2.2.2.1 (pGet (sameMsgs_v0) m (pNat y.1)).2.2.2.2.2.1) (pAndB (pEq (pGet (sameMsgs_v0) l (pNat y.1)).2.2.2.2.2.2.1 (pGet (sameMsgs_v0) m (pNat y.1)).2.2.2.2.2.2.1) (pAndB
 (pEq (pGet (sameMsgs_v0) l (pNat y.1)).2.2.2.2.2.2.2.1 (pGet (sameMsgs_v0) m (pNat y.1)).2.2.2.2.2.2.2.1) (pAndB (pEq (pGet (sameMsgs_v0) l (pNat y.1)).2.2.2.2.2.2.2.2.1 (pGet (sameMsgs_v0) m (pNat y.1)).2.2.2.2.2.2.2.2.1) (pAndB (pEq (pGet
 (sameMsgs_v0) l (pNat y.1)).2.2.2.2.2.2.2.2.2.1 (pGet (sameMsgs_v0) m (pNat y.1)).2.2.2.2.2.2.2.2.2.1) (pAndB (pBeq (pGet (sameMsgs_v0) l (pNat y.1)).2.2.2.2.2.2.2.2.2.2.1 (pGet (sameMsgs_v0) m (pNat y.1)).2.2.2.2.2.2.2.2.2.2.1) (pEq (pGet
 (sameMsgs_v0) l (pNat y.1)).2.2.2.2.2.2.2.2.2.2.2.1 (pGet (sameMsgs_v0) m (pNat y.1)).2.2.2.2.2.2.2.2.2.2.2.1)))))))))))) then (Bool.false, ()) = (sameMsgsF l m, ()) else sameMsgsInv l m (pAdd IntKind.i64 y.1 (1 : Int), ()) ∧ Nat.le
 (Nat.succ (sameMsgsMu l m (pAdd IntKind.i64 y.1 (1 : Int), ()))) (sameMsgsMu l m y) else (Bool.true, ()) = (sameMsgsF l m, ())
set_option maxRecDepth 100000 in
theorem sameMsgs_meets  (h : ∀ (l : (List MsgD)) (m : (List MsgD)), (∀ p ∈ sameMsgs_p ⟨(l, m, ()), ()⟩, p) → sameMsgs_VC l m) : Mt 33 csameMsgs :=
  meets_vc (E := envOf Tryd.prog [] eqsPbV) (envOf_ok (fun p hp => by cases hp) (by kernel_rfl)) sameMsgs_S (fun x => fun ky9 st9 => look [(4, (⟨[.slot 5 false tI], sameMsgsInv x.1.1 x.1.2.1, sameMsgsMu x.1.1 x.1.2.1⟩ : Ann))] ky9) Tryd.func33 (by kernel_rfl) (by kernel_rfl) sameMsgs_p [] [.slot 0 false .bool] sameMsgs_f (fun x => sameMsgs_VC x.1.1 x.1.2.1) (fun x => by kernel_rfl) (fun x hp => h x.1.1 x.1.2.1 hp)

def sameNotes_VC (l : (List NoteD)) (m : (List NoteD)) : Prop :=
  bif pNe (pInt (pLen l)) (pInt (pLen m)) then (Bool.false, ()) = (sameNotesF l m, ()) else sameNotesInv l m ((0 : Int), ()) ∧ ∀ (y : kden Bool.false tI × PUnit), sameNotesInv l m y → bif pLt y.1 (pInt (pLen l)) then pIn y.1 (pLen l) ∧ pIn
 y.1 (pLen m) ∧ bif pNot (pAndB (pEq (pGet tyNote l (pNat y.1)).1 (pGet tyNote m (pNat y.1)).1) (pAndB (pEq (pGet tyNote l (pNat y.1)).2.1 (pGet tyNote m (pNat y.1)).2.1) (pAndB (pBeq (pGet tyNote l (pNat y.1)).2.2.1 (pGet tyNote m (pNat
 y.1)).2.2.1) (pBeq (pGet tyNote l (pNat y.1)).2.2.2.1 (pGet tyNote m (pNat y.1)).2.2.2.1)))) then (Bool.false, ()) = (sameNotesF l m, ()) else sameNotesInv l m (pAdd IntKind.i64 y.1 (1 : Int), ()) ∧ Nat.le (Nat.succ (sameNotesMu l m (pAdd
 IntKind.i64 y.1 (1 : Int), ()))) (sameNotesMu l m y) else (Bool.true, ()) = (sameNotesF l m, ())
set_option maxRecDepth 100000 in
theorem sameNotes_meets  (h : ∀ (l : (List NoteD)) (m : (List NoteD)), (∀ p ∈ sameNotes_p ⟨(l, m, ()), ()⟩, p) → sameNotes_VC l m) : Mt 9 csameNotes :=
  meets_vc (E := envOf Tryd.prog [] eqsPbV) (envOf_ok (fun p hp => by cases hp) (by kernel_rfl)) sameNotes_S (fun x => fun ky9 st9 => look [(4, (⟨[.slot 5 false tI], sameNotesInv x.1.1 x.1.2.1, sameNotesMu x.1.1 x.1.2.1⟩ : Ann))] ky9) Tryd.func9 (by kernel_rfl) (by kernel_rfl) sameNotes_p [] [.slot 0 false .bool] sameNotes_f (fun x => sameNotes_VC x.1.1 x.1.2.1) (fun x => by kernel_rfl) (fun x hp => h x.1.1 x.1.2.1 hp)

def Writes_VC (si : (List ItemD)) (sl : (List LockD)) (sd : (List DoubtD)) (so : (List TxnD)) (ts : Int) (tn : Int) : Prop :=
  Nat.le (Nat.succ (pLen si)) 4611686018427387904 ∧ Nat.le (Nat.succ (pLen sl)) 4611686018427387904 ∧ Nat.le (Nat.succ (pLen sd)) 4611686018427387904 ∧ Nat.le (Nat.succ (pLen so)) 4611686018427387904 ∧ bif pNe (askE (si, sl, sd, so, ()) (ts,
 tn, ()) (0 : Int)) (0 : Int) then ((0 : Int), askE (si, sl, sd, so, ()) (ts, tn, ()) (0 : Int), ()) = (bif pEq (askE (si, sl, sd, so, ()) (ts, tn, ()) (0 : Int)) (0 : Int) then cntW sl ts tn else (0 : Int), askE (si, sl, sd, so, ()) (ts,
 tn, ()) (0 : Int), ()) else cntvInv si sl sd so ts tn ((0 : Int), (0 : Int), ()) ∧ ∀ (y : kden Bool.false tI × kden Bool.false tI × PUnit), cntvInv si sl sd so ts tn y → bif pLt y.1 (pInt (pLen sl)) then pIn y.1 (pLen sl) ∧ bif pAndB (pEq
 (pGet tyLock sl (pNat y.1)).1 ts) (pEq (pGet tyLock sl (pNat y.1)).2.1 tn) then bif (pGet tyLock sl (pNat y.1)).2.2.2.1 then cntvInv si sl sd so ts tn (pAdd IntKind.i64 y.1 (1 : Int), pAdd IntKind.i64 y.2.1 (1 : Int), ()) ∧ Nat.le (Nat.succ
 (cntvMu si sl sd so ts tn (pAdd IntKind.i64 y.1 (1 : Int), pAdd IntKind.i64 y.2.1 (1 : Int), ()))) (cntvMu si sl sd so ts tn y) else cntvInv si sl sd so ts tn (pAdd IntKind.i64 y.1 (1 : Int), y.2.1, ()) ∧ Nat.le (Nat.succ (cntvMu si sl sd
 so ts tn (pAdd IntKind.i64 y.1 (1 : Int), y.2.1, ()))) (cntvMu si sl sd so ts tn y) else cntvInv si sl sd so ts tn (pAdd IntKind.i64 y.1 (1 : Int), y.2.1, ()) ∧ Nat.le (Nat.succ (cntvMu si sl sd so ts tn (pAdd IntKind.i64 y.1 (1 : Int),
 y.2.1, ()))) (cntvMu si sl sd so ts tn y) else (y.2.1, (0 : Int), ()) = (bif pEq (askE (si, sl, sd, so, ()) (ts, tn, ()) (0 : Int)) (0 : Int) then cntW sl ts tn else (0 : Int), askE (si, sl, sd, so, ()) (ts, tn, ()) (0 : Int), ())
set_option maxRecDepth 100000 in
theorem Writes_meets (hcall : Mt 84 ccall) (h : ∀ (si : (List ItemD)) (sl : (List LockD)) (sd : (List DoubtD)) (so : (List TxnD)) (ts : Int) (tn : Int), (∀ p ∈ Writes_p ⟨((si, sl, sd, so, ()), (ts, tn, ()), ()), ()⟩, p) → Writes_VC si sl sd so ts tn) : Mt 59 cWrites :=
  meets_vc (E := envOf Tryd.prog [(84, (false, ccall))] eqsPbV) (envOf_ok (fun p hp => (by simp only [List.mem_cons, List.not_mem_nil, or_false] at hp; rcases hp with rfl; exact hcall)) (by kernel_rfl)) Writes_S (fun x => fun ky9 st9 => look [(6, (⟨[.slot 19 false tI, .slot 7 false tI], cntvInv x.1.1.1 x.1.1.2.1 x.1.1.2.2.1 x.1.1.2.2.2.1 x.1.2.1.1 x.1.2.1.2.1, cntvMu x.1.1.1 x.1.1.2.1 x.1.1.2.2.1 x.1.1.2.2.2.1 x.1.2.1.1 x.1.2.1.2.1⟩ : Ann))] ky9) Tryd.func59 (by kernel_rfl) (by kernel_rfl) Writes_p [] [.slot 0 false tI, .slot 1 false tI] Writes_f (fun x => Writes_VC x.1.1.1 x.1.1.2.1 x.1.1.2.2.1 x.1.1.2.2.2.1 x.1.2.1.1 x.1.2.1.2.1) (fun x => by kernel_rfl) (fun x hp => h x.1.1.1 x.1.1.2.1 x.1.1.2.2.1 x.1.1.2.2.2.1 x.1.2.1.1 x.1.2.1.2.1 hp)

def cloneNote_VC (l : (List NoteD)) : Prop :=
  (pLen l = 0 → ([], ()) = (l, ())) ∧ pRoom (pPlus (pLen ([] : List Unit)) (pLen l)) 24 ∧ (pApp [] l, ()) = (l, ())
set_option maxRecDepth 100000 in
theorem cloneNote_meets  (h : ∀ (l : (List NoteD)), (∀ p ∈ cloneNote_p ⟨(l, ()), ()⟩, p) → cloneNote_VC l) : Mt 17 ccloneNote :=
  meets_vc (E := envOf Tryd.prog [] eqsPbV) (envOf_ok (fun p hp => by cases hp) (by kernel_rfl)) cloneNote_S (fun x => fun ky9 st9 => look [] ky9) Tryd.func17 (by kernel_rfl) (by kernel_rfl) cloneNote_p [] [.slot 0 true tyNote] cloneNote_f (fun x => cloneNote_VC x.1.1) (fun x => by kernel_rfl) (fun x hp => h x.1.1 hp)

def NotesCopy_VC (l : (List NoteD)) : Prop :=
  notesCopyInv l ((0 : Int), [], ()) ∧ ∀ (y : kden Bool.false tI × kden Bool.true tyNote × PUnit), notesCopyInv l y → bif pLt y.1 (pInt (pLen l)) then pIn y.1 (pLen l) ∧ pRoom (pPlus (pLen y.2.1) (pLen [(pGet tyNote l (pNat y.1))])) 24 ∧
 notesCopyInv l (pAdd IntKind.i64 y.1 (1 : Int), pApp y.2.1 [(pGet tyNote l (pNat y.1))], ()) ∧ Nat.le (Nat.succ (notesCopyMu l (pAdd IntKind.i64 y.1 (1 : Int), pApp y.2.1 [(pGet tyNote l (pNat y.1))], ()))) (notesCopyMu l y) else (y.2.1,
 ()) = (l, ())
set_option maxRecDepth 100000 in
theorem NotesCopy_meets  (h : ∀ (l : (List NoteD)), (∀ p ∈ cloneNote_p ⟨(l, ()), ()⟩, p) → NotesCopy_VC l) : Mt 5 cNotesCopy :=
  meets_vc (E := envOf Tryd.prog [] eqsPbV) (envOf_ok (fun p hp => by cases hp) (by kernel_rfl)) cloneNote_S (fun x => fun ky9 st9 => look [(3, (⟨[.slot 4 false tI, .slot 3 true tyNote], notesCopyInv x.1.1, notesCopyMu x.1.1⟩ : Ann))] ky9) Tryd.func5 (by kernel_rfl) (by kernel_rfl) cloneNote_p [] [.slot 0 true tyNote] cloneNote_f (fun x => NotesCopy_VC x.1.1) (fun x => by kernel_rfl) (fun x hp => h x.1.1 hp)

def pownR_VC (ai : (List ItemD)) (al : (List LockD)) (ad : (List DoubtD)) (ao : (List TxnD)) (am : (List MsgD)) (ar : (List RecD)) (an : (List NoteD)) (n : (List NoteD)) : Prop :=
  pRoom (pLen ai) 24 ∧ pRoom (pLen al) 48 ∧ pRoom (pLen ad) 24 ∧ pRoom (pLen ao) 16 ∧ ((ai, al, ad, ao, am, ar, n, ()), ()) = ((ai, al, ad, ao, am, ar, n, ()), ())
set_option maxRecDepth 100000 in
theorem pownR_meets (hcloneItem : Mt 61 ccloneItem) (hcloneLock : Mt 62 ccloneLock) (hcloneDoubt : Mt 63 ccloneDoubt) (hcloneTxn : Mt 64 ccloneTxn) (h : ∀ (ai : (List ItemD)) (al : (List LockD)) (ad : (List DoubtD)) (ao : (List TxnD)) (am : (List MsgD)) (ar : (List RecD)) (an : (List NoteD)) (n : (List NoteD)), (∀ p ∈ pownR_p ⟨((ai, al, ad, ao, am, ar, an, ()), n, ()), ()⟩, p) → pownR_VC ai al ad ao am ar an n) : Mt 22 cpownR :=
  meets_vc (E := envOf Tryd.prog [(61, (false, ccloneItem)), (62, (false, ccloneLock)), (63, (false, ccloneDoubt)), (64, (false, ccloneTxn))] eqsPbV) (envOf_ok (fun p hp => (by simp only [List.mem_cons, List.not_mem_nil, or_false] at hp; rcases hp with rfl | rfl | rfl | rfl; exact hcloneItem; exact hcloneLock; exact hcloneDoubt; exact hcloneTxn)) (by kernel_rfl)) pownR_S (fun x => fun ky9 st9 => look [] ky9) Tryd.func22 (by kernel_rfl) (by kernel_rfl) pownR_p [] [.agg 0 vAnsR] pownR_f (fun x => pownR_VC x.1.1.1 x.1.1.2.1 x.1.1.2.2.1 x.1.1.2.2.2.1 x.1.1.2.2.2.2.1 x.1.1.2.2.2.2.2.1 x.1.1.2.2.2.2.2.2.1 x.1.2.1) (fun x => by kernel_rfl) (fun x hp => h x.1.1.1 x.1.1.2.1 x.1.1.2.2.1 x.1.1.2.2.2.1 x.1.1.2.2.2.2.1 x.1.1.2.2.2.2.2.1 x.1.1.2.2.2.2.2.2.1 x.1.2.1 hp)

def sameInts_VC (l : (List ND)) (m : (List ND)) : Prop :=
  bif pNe (pInt (pLen l)) (pInt (pLen m)) then (Bool.false, ()) = (sameIntsF l m, ()) else sameIntsInv l m ((0 : Int), ()) ∧ ∀ (y : kden Bool.false tI × PUnit), sameIntsInv l m y → bif pLt y.1 (pInt (pLen l)) then pIn y.1 (pLen l) ∧ pIn y.1
 (pLen m) ∧ bif pNe (pGet tyN l (pNat y.1)).1 (pGet tyN m (pNat y.1)).1 then (Bool.false, ()) = (sameIntsF l m, ()) else sameIntsInv l m (pAdd IntKind.i64 y.1 (1 : Int), ()) ∧ Nat.le (Nat.succ (sameIntsMu l m (pAdd IntKind.i64 y.1 (1 : Int),
 ()))) (sameIntsMu l m y) else (Bool.true, ()) = (sameIntsF l m, ())
set_option maxRecDepth 100000 in
theorem sameInts_meets  (h : ∀ (l : (List ND)) (m : (List ND)), (∀ p ∈ sameInts_p ⟨(l, m, ()), ()⟩, p) → sameInts_VC l m) : Mt 46 csameInts :=
  meets_vc (E := envOf Tryd.prog [] eqsPbV) (envOf_ok (fun p hp => by cases hp) (by kernel_rfl)) sameInts_S (fun x => fun ky9 st9 => look [(4, (⟨[.slot 5 false tI], sameIntsInv x.1.1 x.1.2.1, sameIntsMu x.1.1 x.1.2.1⟩ : Ann))] ky9) Tryd.func46 (by kernel_rfl) (by kernel_rfl) sameInts_p [] [.slot 0 false .bool] sameInts_f (fun x => sameInts_VC x.1.1 x.1.2.1) (fun x => by kernel_rfl) (fun x hp => h x.1.1 x.1.2.1 hp)

def sameRecord_VC (xk : Int) (xs : Int) (xn : Int) (xy : Int) (xv : Int) (xq : Int) (xw : Bool) (xl : (List ND)) (zk : Int) (zs : Int) (zn : Int) (zy : Int) (zv : Int) (zq : Int) (zw : Bool) (zl : (List ND)) : Prop :=
  bif pEq xk zk then bif pAndB (pEq xs zs) (pEq xn zn) then bif pEq xy zy then bif pEq xv zv then bif pEq xq zq then bif pBeq xw zw then Nat.le (Nat.succ (pLen xl)) 4611686018427387904 ∧ (sameIntsF xl zl, ()) = (sameRecF (xk, xs, xn, xy, xv,
 xq, xw, xl, ()) (zk, zs, zn, zy, zv, zq, zw, zl, ()), ()) else (Bool.false, ()) = (sameRecF (xk, xs, xn, xy, xv, xq, xw, xl, ()) (zk, zs, zn, zy, zv, zq, zw, zl, ()), ()) else (Bool.false, ()) = (sameRecF (xk, xs, xn, xy, xv, xq, xw, xl,
 ()) (zk, zs, zn, zy, zv, zq, zw, zl, ()), ()) else (Bool.false, ()) = (sameRecF (xk, xs, xn, xy, xv, xq, xw, xl, ()) (zk, zs, zn, zy, zv, zq, zw, zl, ()), ()) else (Bool.false, ()) = (sameRecF (xk, xs, xn, xy, xv, xq, xw, xl, ()) (zk, zs,
 zn, zy, zv, zq, zw, zl, ()), ()) else (Bool.false, ()) = (sameRecF (xk, xs, xn, xy, xv, xq, xw, xl, ()) (zk, zs, zn, zy, zv, zq, zw, zl, ()), ()) else (Bool.false, ()) = (sameRecF (xk, xs, xn, xy, xv, xq, xw, xl, ()) (zk, zs, zn, zy, zv,
 zq, zw, zl, ()), ())
set_option maxRecDepth 100000 in
theorem sameRecord_meets (hsameInts : Mt 46 csameInts) (h : ∀ (xk : Int) (xs : Int) (xn : Int) (xy : Int) (xv : Int) (xq : Int) (xw : Bool) (xl : (List ND)) (zk : Int) (zs : Int) (zn : Int) (zy : Int) (zv : Int) (zq : Int) (zw : Bool) (zl : (List ND)), (∀ p ∈ sameRecord_p ⟨((xk, xs, xn, xy, xv, xq, xw, xl, ()), (zk, zs, zn, zy, zv, zq, zw, zl, ()), ()), ()⟩, p) → sameRecord_VC xk xs xn xy xv xq xw xl zk zs zn zy zv zq zw zl) : Mt 75 csameRecord :=
  meets_vc (E := envOf Tryd.prog [(46, (false, csameInts))] eqsPbV) (envOf_ok (fun p hp => (by simp only [List.mem_cons, List.not_mem_nil, or_false] at hp; rcases hp with rfl; exact hsameInts)) (by kernel_rfl)) sameRecord_S (fun x => fun ky9 st9 => look [] ky9) Tryd.func75 (by kernel_rfl) (by kernel_rfl) sameRecord_p [] [.slot 0 false .bool] sameRecord_f (fun x => sameRecord_VC x.1.1.1 x.1.1.2.1 x.1.1.2.2.1 x.1.1.2.2.2.1 x.1.1.2.2.2.2.1 x.1.1.2.2.2.2.2.1 x.1.1.2.2.2.2.2.2.1 x.1.1.2.2.2.2.2.2.2.1 x.1.2.1.1 x.1.2.1.2.1 x.1.2.1.2.2.1 x.1.2.1.2.2.2.1 x.1.2.1.2.2.2.2.1 x.1.2.1.2.2.2.2.2.1 x.1.2.1.2.2.2.2.2.2.1 x.1.2.1.2.2.2.2.2.2.2.1) (fun x => by kernel_rfl) (fun x hp => h x.1.1.1 x.1.1.2.1 x.1.1.2.2.1 x.1.1.2.2.2.1 x.1.1.2.2.2.2.1 x.1.1.2.2.2.2.2.1 x.1.1.2.2.2.2.2.2.1 x.1.1.2.2.2.2.2.2.2.1 x.1.2.1.1 x.1.2.1.2.1 x.1.2.1.2.2.1 x.1.2.1.2.2.2.1 x.1.2.1.2.2.2.2.1 x.1.2.1.2.2.2.2.2.1 x.1.2.1.2.2.2.2.2.2.1 x.1.2.1.2.2.2.2.2.2.2.1 hp)

def sameRecords_VC (l : (List RecD)) (m : (List RecD)) : Prop :=
  bif pNe (pInt (pLen l)) (pInt (pLen m)) then (Bool.false, ()) = (sameRecsF l m, ()) else sameRecordsInv l m ((0 : Int), ()) ∧ ∀ (y : kden Bool.false tI × PUnit), sameRecordsInv l m y → bif pLt y.1 (pInt (pLen l)) then pIn y.1 (pLen l) ∧ pIn
 y.1 (pLen m) ∧ Nat.le (Nat.succ (pLen (pGet tyRec l (pNat y.1)).2.2.2.2.2.2.2.1)) 4611686018427387904 ∧ bif pNot (sameRecF (pGet tyRec l (pNat y.1)) (pGet tyRec m (pNat y.1))) then (Bool.false, ()) = (sameRecsF l m, ()) else sameRecordsInv
 l m (pAdd IntKind.i64 y.1 (1 : Int), ()) ∧ Nat.le (Nat.succ (sameRecordsMu l m (pAdd IntKind.i64 y.1 (1 : Int), ()))) (sameRecordsMu l m y) else (Bool.true, ()) = (sameRecsF l m, ())
set_option maxRecDepth 100000 in
theorem sameRecords_meets (hsameRecord : Mt 75 csameRecord) (h : ∀ (l : (List RecD)) (m : (List RecD)), (∀ p ∈ sameRecords_p ⟨(l, m, ()), ()⟩, p) → sameRecords_VC l m) : Mt 34 csameRecords :=
  meets_vc (E := envOf Tryd.prog [(75, (false, csameRecord))] eqsPbV) (envOf_ok (fun p hp => (by simp only [List.mem_cons, List.not_mem_nil, or_false] at hp; rcases hp with rfl; exact hsameRecord)) (by kernel_rfl)) sameRecords_S (fun x => fun ky9 st9 => look [(4, (⟨[.slot 5 false tI], sameRecordsInv x.1.1 x.1.2.1, sameRecordsMu x.1.1 x.1.2.1⟩ : Ann))] ky9) Tryd.func34 (by kernel_rfl) (by kernel_rfl) sameRecords_p [] [.slot 0 false .bool] sameRecords_f (fun x => sameRecords_VC x.1.1 x.1.2.1) (fun x => by kernel_rfl) (fun x hp => h x.1.1 x.1.2.1 hp)

def sameAnsw_VC (ai : (List ItemD)) (al : (List LockD)) (ad : (List DoubtD)) (ao : (List TxnD)) (am : (List MsgD)) (ar : (List RecD)) (an : (List NoteD)) (bi : (List ItemD)) (bl : (List LockD)) (bd : (List DoubtD)) (bo : (List TxnD)) (bm : (List MsgD)) (br : (List RecD)) (bn : (List NoteD)) : Prop :=
  Nat.le (Nat.succ (pLen ai)) 4611686018427387904 ∧ Nat.le (Nat.succ (pLen al)) 4611686018427387904 ∧ Nat.le (Nat.succ (pLen ad)) 4611686018427387904 ∧ Nat.le (Nat.succ (pLen ao)) 4611686018427387904 ∧ bif sameStoF (ai, al, ad, ao, ()) (bi,
 bl, bd, bo, ()) then Nat.le (Nat.succ (pLen am)) 4611686018427387904 ∧ bif sameMsgsF am bm then Nat.le (Nat.succ (pLen ar)) 4611686018427387904 ∧ (∀ (q : RecD), List.Mem q ar → Nat.le (Nat.succ (pLen q.2.2.2.2.2.2.2.1)) 4611686018427387904)
 ∧ bif sameRecsF ar br then Nat.le (Nat.succ (pLen an)) 4611686018427387904 ∧ (sameNotesF an bn, ()) = (sameAnswF (ai, al, ad, ao, am, ar, an, ()) (bi, bl, bd, bo, bm, br, bn, ()), ()) else (Bool.false, ()) = (sameAnswF (ai, al, ad, ao, am,
 ar, an, ()) (bi, bl, bd, bo, bm, br, bn, ()), ()) else (Bool.false, ()) = (sameAnswF (ai, al, ad, ao, am, ar, an, ()) (bi, bl, bd, bo, bm, br, bn, ()), ()) else (Bool.false, ()) = (sameAnswF (ai, al, ad, ao, am, ar, an, ()) (bi, bl, bd, bo,
 bm, br, bn, ()), ())
set_option maxRecDepth 100000 in
theorem sameAnsw_meets (hsameStore : Mt 12 csameStore) (hsameMsgs : Mt 33 csameMsgs) (hsameRecords : Mt 34 csameRecords) (hsameNotes : Mt 9 csameNotes) (h : ∀ (ai : (List ItemD)) (al : (List LockD)) (ad : (List DoubtD)) (ao : (List TxnD)) (am : (List MsgD)) (ar : (List RecD)) (an : (List NoteD)) (bi : (List ItemD)) (bl : (List LockD)) (bd : (List DoubtD)) (bo : (List TxnD)) (bm : (List MsgD)) (br : (List RecD)) (bn : (List NoteD)), (∀ p ∈ sameAnsw_p ⟨((ai, al, ad, ao, am, ar, an, ()), (bi, bl, bd, bo, bm, br, bn, ()), ()), ()⟩, p) → sameAnsw_VC ai al ad ao am ar an bi bl bd bo bm br bn) : Mt 8 csameAnsw :=
  meets_vc (E := envOf Tryd.prog [(12, (false, csameStore)), (33, (false, csameMsgs)), (34, (false, csameRecords)), (9, (false, csameNotes))] eqsPbV) (envOf_ok (fun p hp => (by simp only [List.mem_cons, List.not_mem_nil, or_false] at hp; rcases hp with rfl | rfl | rfl | rfl; exact hsameStore; exact hsameMsgs; exact hsameRecords; exact hsameNotes)) (by kernel_rfl)) sameAnsw_S (fun x => fun ky9 st9 => look [] ky9) Tryd.func8 (by kernel_rfl) (by kernel_rfl) sameAnsw_p [] [.slot 0 false .bool] sameAnsw_f (fun x => sameAnsw_VC x.1.1.1 x.1.1.2.1 x.1.1.2.2.1 x.1.1.2.2.2.1 x.1.1.2.2.2.2.1 x.1.1.2.2.2.2.2.1 x.1.1.2.2.2.2.2.2.1 x.1.2.1.1 x.1.2.1.2.1 x.1.2.1.2.2.1 x.1.2.1.2.2.2.1 x.1.2.1.2.2.2.2.1 x.1.2.1.2.2.2.2.2.1 x.1.2.1.2.2.2.2.2.2.1) (fun x => by kernel_rfl) (fun x hp => h x.1.1.1 x.1.1.2.1 x.1.1.2.2.1 x.1.1.2.2.2.1 x.1.1.2.2.2.2.1 x.1.1.2.2.2.2.2.1 x.1.1.2.2.2.2.2.2.1 x.1.2.1.1 x.1.2.1.2.1 x.1.2.1.2.2.1 x.1.2.1.2.2.2.1 x.1.2.1.2.2.2.2.1 x.1.2.1.2.2.2.2.2.1 x.1.2.1.2.2.2.2.2.2.1 hp)

end Go.Proofs.YtkhnakdmkhidbaaDoor

/- Contracts, and what the evaluator says, as plain propositions: SvN. Printed by vc.py. -/
namespace Go.Proofs.YtkhnakdmkhidbaaDoor
open Go.RowKit Go.ChangeShapes Go.WideShapes Go.Deep

def citem : Ctr := shCtr ⟨[pSto, .one (.rd tI)], []⟩ (fun x => [pLen x.1.1.1 < 4611686018427387904, pLen x.1.1.2.1 < 4611686018427387904, pLen x.1.1.2.2.1 < 4611686018427387904, pLen x.1.1.2.2.2.1 < 4611686018427387904, itemsF x.1.1.1 = true]) [] [.agg 0 [(false, tI), (false, tI), (false, tI)]] (fun x => (itemF x.1.1.1 x.1.2.1, ()))
def citemOf : Ctr := shCtr ⟨[pSto, .one (.rd tI)], []⟩ (fun x => [pLen x.1.1.1 < 4611686018427387904, pLen x.1.1.2.1 < 4611686018427387904, pLen x.1.1.2.2.1 < 4611686018427387904, pLen x.1.1.2.2.2.1 < 4611686018427387904]) [] [.agg 0 [(false, tI), (false, tI), (false, tI)]] (fun x => (itemF x.1.1.1 x.1.2.1, ()))
def clock1 : Ctr := shCtr ⟨[(.agg [.rd tI, .rd tI, .rd tI, .rd .bool, .rd tI, .rd tI]), .one (.lit (.pt 0 0)), .one (.lit (.pt 1 0))], [.box [.rd tI, .rd tI], .box [.rd tI]]⟩ (fun _ => []) [] [.slot 0 false .bool] (fun x => (lkIs x.1.1 x.2.1.1 x.2.1.2.1 x.2.2.1.1, ()))
def cindexLk : Ctr := shCtr ⟨[.one (.rd (.sl tyLock)), .one (.lit (.fn 108 [(0, 0), (1, 0)]))], [.box [.rd tI, .rd tI], .box [.rd tI]]⟩ (fun x => [pLen x.1.1 < 4611686018427387904]) [] [.slot 0 false tI] (fun x => (idxLkF x.1.1 x.2.1.1 x.2.1.2.1 x.2.2.1.1, ()))
def clock : Ctr := shCtr ⟨[pSto, pTxn, .one (.rd tI)], []⟩ (fun x => [pLen x.1.1.1 < 4611686018427387904, pLen x.1.1.2.1 < 4611686018427387904, pLen x.1.1.2.2.1 < 4611686018427387904, pLen x.1.1.2.2.2.1 < 4611686018427387904]) [] [.slot 0 false tI] (fun x => (idxLkF x.1.1.2.1 x.1.2.1.1 x.1.2.1.2.1 x.1.2.2.1, ()))
def clockOf : Ctr := shCtr ⟨[pSto, pTxn, .one (.rd tI)], []⟩ (fun x => [pLen x.1.1.1 < 4611686018427387904, pLen x.1.1.2.1 < 4611686018427387904, pLen x.1.1.2.2.1 < 4611686018427387904, pLen x.1.1.2.2.2.1 < 4611686018427387904]) [] [.slot 0 false tI] (fun x => (idxLkF x.1.1.2.1 x.1.2.1.1 x.1.2.1.2.1 x.1.2.2.1, ()))
def cbusy1 : Ctr := shCtr ⟨[(.agg [.rd tI, .rd tI, .rd tI, .rd .bool, .rd tI, .rd tI]), .one (.lit (.pt 0 0)), .one (.lit (.pt 1 0)), .one (.lit (.pt 2 0))], [.box [.rd tI], .box [.rd tI, .rd tI], .box [.rd .bool]]⟩ (fun _ => []) [] [.slot 0 false .bool] (fun x => (busyIs x.1.1 x.2.2.1.1 x.2.2.1.2.1 x.2.1.1 x.2.2.2.1.1, ()))
def cindexBu : Ctr := shCtr ⟨[.one (.rd (.sl tyLock)), .one (.lit (.fn 110 [(0, 0), (1, 0), (2, 0)]))], [.box [.rd tI], .box [.rd tI, .rd tI], .box [.rd .bool]]⟩ (fun x => [pLen x.1.1 < 4611686018427387904]) [] [.slot 0 false tI] (fun x => (idxBusyF x.1.1 x.2.2.1.1 x.2.2.1.2.1 x.2.1.1 x.2.2.2.1.1, ()))
def ccontainsBu : Ctr := shCtr ⟨[.one (.rd (.sl tyLock)), .one (.lit (.fn 110 [(0, 0), (1, 0), (2, 0)]))], [.box [.rd tI], .box [.rd tI, .rd tI], .box [.rd .bool]]⟩ (fun x => [pLen x.1.1 < 4611686018427387904]) [] [.slot 0 false .bool] (fun x => (pGe (idxBusyF x.1.1 x.2.2.1.1 x.2.2.1.2.1 x.2.1.1 x.2.2.2.1.1) 0, ()))
def cbusy : Ctr := shCtr ⟨[pSto, pTxn, .one (.rd tI), .one (.rd .bool)], []⟩ (fun x => [pLen x.1.1.1 < 4611686018427387904, pLen x.1.1.2.1 < 4611686018427387904, pLen x.1.1.2.2.1 < 4611686018427387904, pLen x.1.1.2.2.2.1 < 4611686018427387904]) [] [.slot 0 false .bool] (fun x => (pGe (idxBusyF x.1.1.2.1 x.1.2.1.1 x.1.2.1.2.1 x.1.2.2.1 x.1.2.2.2.1) 0, ()))
def cothers : Ctr := shCtr ⟨[pSto, pTxn, .one (.rd tI)], []⟩ (fun x => [pLen x.1.1.1 < 4611686018427387904, pLen x.1.1.2.1 < 4611686018427387904, pLen x.1.1.2.2.1 < 4611686018427387904, pLen x.1.1.2.2.2.1 < 4611686018427387904]) [] [.slot 0 false tI, .slot 1 false tI] (fun x => (othA x.1.1.2.1 x.1.2.1.1 x.1.2.1.2.1 x.1.2.2.1, othW x.1.1.2.1 x.1.2.1.1 x.1.2.1.2.1 x.1.2.2.1, ()))
def chand : Ctr := shCtr ⟨[.one (.lit (.pt 0 0)), pTxn], [.box [.own 1, .own 2, .own 3, .own 4], .row tyItem, .row tyLock, .row tyDoubt, .row tyTxn]⟩ (fun x => [pLen x.2.2.1 < 4611686018427387904, pLen x.2.2.2.1 < 4611686018427387904, pLen x.2.2.2.2.1 < 4611686018427387904, pLen x.2.2.2.2.2.1 < 4611686018427387904, pRoom (pPlus (pLen x.2.2.2.2.1) 1) 24]) [1, 2, 3, 4] [.box 0 vSto] (fun x => ((x.2.2.1, x.2.2.2.1, handF x.2.2.2.2.1 x.1.2.1.1 x.1.2.1.2.1, x.2.2.2.2.2.1, ()), ()))

def item_VC (si : (List ItemD)) (sl : (List LockD)) (sd : (List DoubtD)) (so : (List TxnD)) (k : Int) : Prop :=
  Nat.le (Nat.succ (pLen si)) 4611686018427387904 ∧ sortF si = Bool.true ∧ bif pGe (idxKeyF si k) (0 : Int) then pIn (posF si k) (pLen si) ∧ (((pGet tyItem si (pNat (posF si k))).1, (pGet tyItem si (pNat (posF si
    k))).2.1, (pGet tyItem si (pNat (posF si k))).2.2.1, ()), ()) = (itemF si k, ()) else ((k, (0 : Int), (0 : Int), ()), ()) = (itemF si k, ())
set_option maxRecDepth 100000 in
theorem item_meets (hat : Meets Tryd.prog (fun _ => none) 91 cat) (h : ∀ (si : (List ItemD)) (sl : (List LockD)) (sd : (List DoubtD)) (so : (List TxnD)) (k : Int), (∀ p ∈ (fun x => [pLen x.1.1.1 < 4611686018427387904, pLen x.1.1.2.1 < 4611686018427387904, pLen x.1.1.2.2.1 < 4611686018427387904, pLen x.1.1.2.2.2.1 < 4611686018427387904, itemsF x.1.1.1 = true] : Shape.den ⟨[pSto, .one (.rd tI)], []⟩ → List Prop) ⟨((si, sl, sd, so, ()), k, ()), ()⟩, p) → item_VC si sl sd so k) : Meets Tryd.prog (fun _ => none) 85 citem :=
  meets_vc (E := envOf Tryd.prog [(91, (false, cat))] [28, 103, 105, 107]) (envOf_ok (fun p hp => (by simp only [List.mem_cons, List.not_mem_nil, or_false] at hp; rcases hp with rfl; exact hat)) (by kernel_rfl)) ⟨[pSto, .one (.rd tI)], []⟩ (fun x => fun kk ss => look [] kk) Tryd.func85 (by kernel_rfl) (by kernel_rfl) (fun x => [pLen x.1.1.1 < 4611686018427387904, pLen x.1.1.2.1 < 4611686018427387904, pLen x.1.1.2.2.1 < 4611686018427387904, pLen x.1.1.2.2.2.1 < 4611686018427387904, itemsF x.1.1.1 = true]) [] [.agg 0 [(false, tI), (false, tI), (false, tI)]] (fun x => (itemF x.1.1.1 x.1.2.1, ())) (fun x => item_VC x.1.1.1 x.1.1.2.1 x.1.1.2.2.1 x.1.1.2.2.2.1 x.1.2.1) (fun x => by kernel_rfl) (fun x hp => h x.1.1.1 x.1.1.2.1 x.1.1.2.2.1 x.1.1.2.2.2.1 x.1.2.1 hp)

def itemOf_VC (si : (List ItemD)) (sl : (List LockD)) (sd : (List DoubtD)) (so : (List TxnD)) (k : Int) : Prop :=
  itemOfInv si sl sd so k ((0 : Int), ()) ∧ ∀ (y : kden Bool.false tI × PUnit), itemOfInv si sl sd so k y → bif pLt y.1 (pInt (pLen si)) then pIn y.1 (pLen si) ∧ bif pEq (pGet tyItem si (pNat y.1)).1 k then pIn y.1 (pLen
    si) ∧ (((pGet tyItem si (pNat y.1)).1, (pGet tyItem si (pNat y.1)).2.1, (pGet tyItem si (pNat y.1)).2.2.1, ()), ()) = (itemF si k, ()) else itemOfInv si sl sd so k (pAdd IntKind.i64 y.1 (1 : Int), ()) ∧ Nat.le (Nat.succ
    (itemOfMu si sl sd so k (pAdd IntKind.i64 y.1 (1 : Int), ()))) (itemOfMu si sl sd so k y) else ((k, (0 : Int), (0 : Int), ()), ()) = (itemF si k, ())
set_option maxRecDepth 100000 in
theorem itemOf_meets  (h : ∀ (si : (List ItemD)) (sl : (List LockD)) (sd : (List DoubtD)) (so : (List TxnD)) (k : Int), (∀ p ∈ (fun x => [pLen x.1.1.1 < 4611686018427387904, pLen x.1.1.2.1 < 4611686018427387904, pLen x.1.1.2.2.1 < 4611686018427387904, pLen x.1.1.2.2.2.1 < 4611686018427387904] : Shape.den ⟨[pSto, .one (.rd tI)], []⟩ → List Prop) ⟨((si, sl, sd, so, ()), k, ()), ()⟩, p) → itemOf_VC si sl sd so k) : Meets Tryd.prog (fun _ => none) 69 citemOf :=
  meets_vc (E := envOf Tryd.prog [] [28, 103, 105, 107]) (envOf_ok (fun p hp => by cases hp) (by kernel_rfl)) ⟨[pSto, .one (.rd tI)], []⟩ (fun x => fun kk ss => look [(2, (⟨[.slot 5 false tI], itemOfInv x.1.1.1 x.1.1.2.1 x.1.1.2.2.1 x.1.1.2.2.2.1 x.1.2.1, itemOfMu x.1.1.1 x.1.1.2.1 x.1.1.2.2.1 x.1.1.2.2.2.1 x.1.2.1⟩ : Ann))] kk) Tryd.func69 (by kernel_rfl) (by kernel_rfl) (fun x => [pLen x.1.1.1 < 4611686018427387904, pLen x.1.1.2.1 < 4611686018427387904, pLen x.1.1.2.2.1 < 4611686018427387904, pLen x.1.1.2.2.2.1 < 4611686018427387904]) [] [.agg 0 [(false, tI), (false, tI), (false, tI)]] (fun x => (itemF x.1.1.1 x.1.2.1, ())) (fun x => itemOf_VC x.1.1.1 x.1.1.2.1 x.1.1.2.2.1 x.1.1.2.2.2.1 x.1.2.1) (fun x => by kernel_rfl) (fun x hp => h x.1.1.1 x.1.1.2.1 x.1.1.2.2.1 x.1.1.2.2.2.1 x.1.2.1 hp)

def lock1_VC (xs : Int) (xn : Int) (xk : Int) (xw : Bool) (xv : Int) (xq : Int) (a : Int) (b : Int) (c : Int) : Prop :=
  bif pAndB (pEq xs a) (pEq xn b) then (pEq xk c, ()) = (lkIs (xs, xn, xk, xw, xv, xq, ()) a b c, ()) else (Bool.false, ()) = (lkIs (xs, xn, xk, xw, xv, xq, ()) a b c, ())
set_option maxRecDepth 100000 in
theorem lock1_meets  (h : ∀ (xs : Int) (xn : Int) (xk : Int) (xw : Bool) (xv : Int) (xq : Int) (a : Int) (b : Int) (c : Int), lock1_VC xs xn xk xw xv xq a b c) : Meets Tryd.prog (fun _ => none) 108 clock1 :=
  meets_vc (E := envOf Tryd.prog [] [28, 103, 105, 107]) (envOf_ok (fun p hp => by cases hp) (by kernel_rfl)) ⟨[(.agg [.rd tI, .rd tI, .rd tI, .rd .bool, .rd tI, .rd tI]), .one (.lit (.pt 0 0)), .one (.lit (.pt 1 0))], [.box [.rd tI, .rd tI], .box [.rd tI]]⟩ (fun x => fun kk ss => look [] kk) Tryd.func108 (by kernel_rfl) (by kernel_rfl) (fun _ => []) [] [.slot 0 false .bool] (fun x => (lkIs x.1.1 x.2.1.1 x.2.1.2.1 x.2.2.1.1, ())) (fun x => lock1_VC x.1.1.1 x.1.1.2.1 x.1.1.2.2.1 x.1.1.2.2.2.1 x.1.1.2.2.2.2.1 x.1.1.2.2.2.2.2.1 x.2.1.1 x.2.1.2.1 x.2.2.1.1) (fun x => by kernel_rfl) (fun x _ => h x.1.1.1 x.1.1.2.1 x.1.1.2.2.1 x.1.1.2.2.2.1 x.1.1.2.2.2.2.1 x.1.1.2.2.2.2.2.1 x.2.1.1 x.2.1.2.1 x.2.2.1.1)

def indexLk_VC (l : (List LockD)) (a : Int) (b : Int) (c : Int) : Prop :=
  indexLkInv l a b c ((0 : Int), ()) ∧ ∀ (y : kden Bool.false tI × PUnit), indexLkInv l a b c y → bif pLt y.1 (pInt (pLen l)) then pIn y.1 (pLen l) ∧ bif lkIs ((pGet tyLock l (pNat y.1)).1, (pGet tyLock l (pNat y.1)).2.1,
    (pGet tyLock l (pNat y.1)).2.2.1, (pGet tyLock l (pNat y.1)).2.2.2.1, (pGet tyLock l (pNat y.1)).2.2.2.2.1, (pGet tyLock l (pNat y.1)).2.2.2.2.2.1, ()) a b c then (y.1, ()) = (idxLkF l a b c, ()) else indexLkInv l a b c
    (pAdd IntKind.i64 y.1 (1 : Int), ()) ∧ Nat.le (Nat.succ (indexLkMu l a b c (pAdd IntKind.i64 y.1 (1 : Int), ()))) (indexLkMu l a b c y) else ((-1 : Int), ()) = (idxLkF l a b c, ())
set_option maxRecDepth 100000 in
theorem indexLk_meets (hlock1 : Meets Tryd.prog (fun _ => none) 108 clock1) (h : ∀ (l : (List LockD)) (a : Int) (b : Int) (c : Int), (∀ p ∈ (fun x => [pLen x.1.1 < 4611686018427387904] : Shape.den ⟨[.one (.rd (.sl tyLock)), .one (.lit (.fn 108 [(0, 0), (1, 0)]))], [.box [.rd tI, .rd tI], .box [.rd tI]]⟩ → List Prop) ⟨(l, (), ()), ((a, b, ()), (c, ()), ())⟩, p) → indexLk_VC l a b c) : Meets Tryd.prog (fun _ => none) 107 cindexLk :=
  meets_vc (E := envOf Tryd.prog [(108, (false, clock1))] [28, 103, 105, 107]) (envOf_ok (fun p hp => (by simp only [List.mem_cons, List.not_mem_nil, or_false] at hp; rcases hp with rfl; exact hlock1)) (by kernel_rfl)) ⟨[.one (.rd (.sl tyLock)), .one (.lit (.fn 108 [(0, 0), (1, 0)]))], [.box [.rd tI, .rd tI], .box [.rd tI]]⟩ (fun x => fun kk ss => look [(2, (⟨[.slot 8 false tI], indexLkInv x.1.1 x.2.1.1 x.2.1.2.1 x.2.2.1.1, indexLkMu x.1.1 x.2.1.1 x.2.1.2.1 x.2.2.1.1⟩ : Ann))] kk) Tryd.func107 (by kernel_rfl) (by kernel_rfl) (fun x => [pLen x.1.1 < 4611686018427387904]) [] [.slot 0 false tI] (fun x => (idxLkF x.1.1 x.2.1.1 x.2.1.2.1 x.2.2.1.1, ())) (fun x => indexLk_VC x.1.1 x.2.1.1 x.2.1.2.1 x.2.2.1.1) (fun x => by kernel_rfl) (fun x hp => h x.1.1 x.2.1.1 x.2.1.2.1 x.2.2.1.1 hp)

def lock_VC (si : (List ItemD)) (sl : (List LockD)) (sd : (List DoubtD)) (so : (List TxnD)) (ts : Int) (tn : Int) (k : Int) : Prop :=
  Nat.le (Nat.succ (pLen sl)) 4611686018427387904 ∧ (idxLkF sl ts tn k, ()) = (idxLkF sl ts tn k, ())
set_option maxRecDepth 100000 in
theorem lock_meets (hindexLk : Meets Tryd.prog (fun _ => none) 107 cindexLk) (h : ∀ (si : (List ItemD)) (sl : (List LockD)) (sd : (List DoubtD)) (so : (List TxnD)) (ts : Int) (tn : Int) (k : Int), (∀ p ∈ (fun x => [pLen x.1.1.1 < 4611686018427387904, pLen x.1.1.2.1 < 4611686018427387904, pLen x.1.1.2.2.1 < 4611686018427387904, pLen x.1.1.2.2.2.1 < 4611686018427387904] : Shape.den ⟨[pSto, pTxn, .one (.rd tI)], []⟩ → List Prop) ⟨((si, sl, sd, so, ()), (ts, tn, ()), k, ()), ()⟩, p) → lock_VC si sl sd so ts tn k) : Meets Tryd.prog (fun _ => none) 86 clock :=
  meets_vc (E := envOf Tryd.prog [(107, (false, cindexLk))] [28, 103, 105, 107]) (envOf_ok (fun p hp => (by simp only [List.mem_cons, List.not_mem_nil, or_false] at hp; rcases hp with rfl; exact hindexLk)) (by kernel_rfl)) ⟨[pSto, pTxn, .one (.rd tI)], []⟩ (fun x => fun kk ss => look [] kk) Tryd.func86 (by kernel_rfl) (by kernel_rfl) (fun x => [pLen x.1.1.1 < 4611686018427387904, pLen x.1.1.2.1 < 4611686018427387904, pLen x.1.1.2.2.1 < 4611686018427387904, pLen x.1.1.2.2.2.1 < 4611686018427387904]) [] [.slot 0 false tI] (fun x => (idxLkF x.1.1.2.1 x.1.2.1.1 x.1.2.1.2.1 x.1.2.2.1, ())) (fun x => lock_VC x.1.1.1 x.1.1.2.1 x.1.1.2.2.1 x.1.1.2.2.2.1 x.1.2.1.1 x.1.2.1.2.1 x.1.2.2.1) (fun x => by kernel_rfl) (fun x hp => h x.1.1.1 x.1.1.2.1 x.1.1.2.2.1 x.1.1.2.2.2.1 x.1.2.1.1 x.1.2.1.2.1 x.1.2.2.1 hp)

def lockOf_VC (si : (List ItemD)) (sl : (List LockD)) (sd : (List DoubtD)) (so : (List TxnD)) (ts : Int) (tn : Int) (k : Int) : Prop :=
  lockOfInv si sl sd so ts tn k ((0 : Int), ()) ∧ ∀ (y : kden Bool.false tI × PUnit), lockOfInv si sl sd so ts tn k y → bif pLt y.1 (pInt (pLen sl)) then pIn y.1 (pLen sl) ∧ bif pAndB (pEq (pGet tyLock sl (pNat y.1)).1 ts)
    (pEq (pGet tyLock sl (pNat y.1)).2.1 tn) then pIn y.1 (pLen sl) ∧ bif pEq (pGet tyLock sl (pNat y.1)).2.2.1 k then (y.1, ()) = (idxLkF sl ts tn k, ()) else lockOfInv si sl sd so ts tn k (pAdd IntKind.i64 y.1 (1 : Int),
    ()) ∧ Nat.le (Nat.succ (lockOfMu si sl sd so ts tn k (pAdd IntKind.i64 y.1 (1 : Int), ()))) (lockOfMu si sl sd so ts tn k y) else lockOfInv si sl sd so ts tn k (pAdd IntKind.i64 y.1 (1 : Int), ()) ∧ Nat.le (Nat.succ
    (lockOfMu si sl sd so ts tn k (pAdd IntKind.i64 y.1 (1 : Int), ()))) (lockOfMu si sl sd so ts tn k y) else ((-1 : Int), ()) = (idxLkF sl ts tn k, ())
set_option maxRecDepth 100000 in
theorem lockOf_meets  (h : ∀ (si : (List ItemD)) (sl : (List LockD)) (sd : (List DoubtD)) (so : (List TxnD)) (ts : Int) (tn : Int) (k : Int), (∀ p ∈ (fun x => [pLen x.1.1.1 < 4611686018427387904, pLen x.1.1.2.1 < 4611686018427387904, pLen x.1.1.2.2.1 < 4611686018427387904, pLen x.1.1.2.2.2.1 < 4611686018427387904] : Shape.den ⟨[pSto, pTxn, .one (.rd tI)], []⟩ → List Prop) ⟨((si, sl, sd, so, ()), (ts, tn, ()), k, ()), ()⟩, p) → lockOf_VC si sl sd so ts tn k) : Meets Tryd.prog (fun _ => none) 70 clockOf :=
  meets_vc (E := envOf Tryd.prog [] [28, 103, 105, 107]) (envOf_ok (fun p hp => by cases hp) (by kernel_rfl)) ⟨[pSto, pTxn, .one (.rd tI)], []⟩ (fun x => fun kk ss => look [(2, (⟨[.slot 7 false tI], lockOfInv x.1.1.1 x.1.1.2.1 x.1.1.2.2.1 x.1.1.2.2.2.1 x.1.2.1.1 x.1.2.1.2.1 x.1.2.2.1, lockOfMu x.1.1.1 x.1.1.2.1 x.1.1.2.2.1 x.1.1.2.2.2.1 x.1.2.1.1 x.1.2.1.2.1 x.1.2.2.1⟩ : Ann))] kk) Tryd.func70 (by kernel_rfl) (by kernel_rfl) (fun x => [pLen x.1.1.1 < 4611686018427387904, pLen x.1.1.2.1 < 4611686018427387904, pLen x.1.1.2.2.1 < 4611686018427387904, pLen x.1.1.2.2.2.1 < 4611686018427387904]) [] [.slot 0 false tI] (fun x => (idxLkF x.1.1.2.1 x.1.2.1.1 x.1.2.1.2.1 x.1.2.2.1, ())) (fun x => lockOf_VC x.1.1.1 x.1.1.2.1 x.1.1.2.2.1 x.1.1.2.2.2.1 x.1.2.1.1 x.1.2.1.2.1 x.1.2.2.1) (fun x => by kernel_rfl) (fun x hp => h x.1.1.1 x.1.1.2.1 x.1.1.2.2.1 x.1.1.2.2.2.1 x.1.2.1.1 x.1.2.1.2.1 x.1.2.2.1 hp)

def busy1_VC (xs : Int) (xn : Int) (xk : Int) (xw : Bool) (xv : Int) (xq : Int) (c : Int) (a : Int) (b : Int) (g : Bool) : Prop :=
  bif pEq xk c then bif pNot (pAndB (pEq xs a) (pEq xn b)) then bif g then (Bool.true, ()) = (busyIs (xs, xn, xk, xw, xv, xq, ()) a b c g, ()) else (xw, ()) = (busyIs (xs, xn, xk, xw, xv, xq, ()) a b c g, ()) else
    (Bool.false, ()) = (busyIs (xs, xn, xk, xw, xv, xq, ()) a b c g, ()) else (Bool.false, ()) = (busyIs (xs, xn, xk, xw, xv, xq, ()) a b c g, ())
set_option maxRecDepth 100000 in
theorem busy1_meets  (h : ∀ (xs : Int) (xn : Int) (xk : Int) (xw : Bool) (xv : Int) (xq : Int) (c : Int) (a : Int) (b : Int) (g : Bool), busy1_VC xs xn xk xw xv xq c a b g) : Meets Tryd.prog (fun _ => none) 110 cbusy1 :=
  meets_vc (E := envOf Tryd.prog [] [28, 103, 105, 107]) (envOf_ok (fun p hp => by cases hp) (by kernel_rfl)) ⟨[(.agg [.rd tI, .rd tI, .rd tI, .rd .bool, .rd tI, .rd tI]), .one (.lit (.pt 0 0)), .one (.lit (.pt 1 0)), .one (.lit (.pt 2 0))], [.box [.rd tI], .box [.rd tI, .rd tI], .box [.rd .bool]]⟩ (fun x => fun kk ss => look [] kk) Tryd.func110 (by kernel_rfl) (by kernel_rfl) (fun _ => []) [] [.slot 0 false .bool] (fun x => (busyIs x.1.1 x.2.2.1.1 x.2.2.1.2.1 x.2.1.1 x.2.2.2.1.1, ())) (fun x => busy1_VC x.1.1.1 x.1.1.2.1 x.1.1.2.2.1 x.1.1.2.2.2.1 x.1.1.2.2.2.2.1 x.1.1.2.2.2.2.2.1 x.2.1.1 x.2.2.1.1 x.2.2.1.2.1 x.2.2.2.1.1) (fun x => by kernel_rfl) (fun x _ => h x.1.1.1 x.1.1.2.1 x.1.1.2.2.1 x.1.1.2.2.2.1 x.1.1.2.2.2.2.1 x.1.1.2.2.2.2.2.1 x.2.1.1 x.2.2.1.1 x.2.2.1.2.1 x.2.2.2.1.1)

def indexBu_VC (l : (List LockD)) (c : Int) (a : Int) (b : Int) (g : Bool) : Prop :=
  indexBuInv l c a b g ((0 : Int), ()) ∧ ∀ (y : kden Bool.false tI × PUnit), indexBuInv l c a b g y → bif pLt y.1 (pInt (pLen l)) then pIn y.1 (pLen l) ∧ bif busyIs ((pGet tyLock l (pNat y.1)).1, (pGet tyLock l (pNat
    y.1)).2.1, (pGet tyLock l (pNat y.1)).2.2.1, (pGet tyLock l (pNat y.1)).2.2.2.1, (pGet tyLock l (pNat y.1)).2.2.2.2.1, (pGet tyLock l (pNat y.1)).2.2.2.2.2.1, ()) a b c g then (y.1, ()) = (idxBusyF l a b c g, ()) else
    indexBuInv l c a b g (pAdd IntKind.i64 y.1 (1 : Int), ()) ∧ Nat.le (Nat.succ (indexBuMu l c a b g (pAdd IntKind.i64 y.1 (1 : Int), ()))) (indexBuMu l c a b g y) else ((-1 : Int), ()) = (idxBusyF l a b c g, ())
set_option maxRecDepth 100000 in
theorem indexBu_meets (hbusy1 : Meets Tryd.prog (fun _ => none) 110 cbusy1) (h : ∀ (l : (List LockD)) (c : Int) (a : Int) (b : Int) (g : Bool), (∀ p ∈ (fun x => [pLen x.1.1 < 4611686018427387904] : Shape.den ⟨[.one (.rd (.sl tyLock)), .one (.lit (.fn 110 [(0, 0), (1, 0), (2, 0)]))], [.box [.rd tI], .box [.rd tI, .rd tI], .box [.rd .bool]]⟩ → List Prop) ⟨(l, (), ()), ((c, ()), (a, b, ()), (g, ()), ())⟩, p) → indexBu_VC l c a b g) : Meets Tryd.prog (fun _ => none) 107 cindexBu :=
  meets_vc (E := envOf Tryd.prog [(110, (false, cbusy1))] [28, 103, 105, 107]) (envOf_ok (fun p hp => (by simp only [List.mem_cons, List.not_mem_nil, or_false] at hp; rcases hp with rfl; exact hbusy1)) (by kernel_rfl)) ⟨[.one (.rd (.sl tyLock)), .one (.lit (.fn 110 [(0, 0), (1, 0), (2, 0)]))], [.box [.rd tI], .box [.rd tI, .rd tI], .box [.rd .bool]]⟩ (fun x => fun kk ss => look [(2, (⟨[.slot 8 false tI], indexBuInv x.1.1 x.2.1.1 x.2.2.1.1 x.2.2.1.2.1 x.2.2.2.1.1, indexBuMu x.1.1 x.2.1.1 x.2.2.1.1 x.2.2.1.2.1 x.2.2.2.1.1⟩ : Ann))] kk) Tryd.func107 (by kernel_rfl) (by kernel_rfl) (fun x => [pLen x.1.1 < 4611686018427387904]) [] [.slot 0 false tI] (fun x => (idxBusyF x.1.1 x.2.2.1.1 x.2.2.1.2.1 x.2.1.1 x.2.2.2.1.1, ())) (fun x => indexBu_VC x.1.1 x.2.1.1 x.2.2.1.1 x.2.2.1.2.1 x.2.2.2.1.1) (fun x => by kernel_rfl) (fun x hp => h x.1.1 x.2.1.1 x.2.2.1.1 x.2.2.1.2.1 x.2.2.2.1.1 hp)

def containsBu_VC (l : (List LockD)) (c : Int) (a : Int) (b : Int) (g : Bool) : Prop :=
  Nat.le (Nat.succ (pLen l)) 4611686018427387904 ∧ (pGe (idxBusyF l a b c g) (0 : Int), ()) = (pGe (idxBusyF l a b c g) (0 : Int), ())
set_option maxRecDepth 100000 in
theorem containsBu_meets (hindexBu : Meets Tryd.prog (fun _ => none) 107 cindexBu) (h : ∀ (l : (List LockD)) (c : Int) (a : Int) (b : Int) (g : Bool), (∀ p ∈ (fun x => [pLen x.1.1 < 4611686018427387904] : Shape.den ⟨[.one (.rd (.sl tyLock)), .one (.lit (.fn 110 [(0, 0), (1, 0), (2, 0)]))], [.box [.rd tI], .box [.rd tI, .rd tI], .box [.rd .bool]]⟩ → List Prop) ⟨(l, (), ()), ((c, ()), (a, b, ()), (g, ()), ())⟩, p) → containsBu_VC l c a b g) : Meets Tryd.prog (fun _ => none) 104 ccontainsBu :=
  meets_vc (E := envOf Tryd.prog [(107, (false, cindexBu))] [28, 103, 105, 107]) (envOf_ok (fun p hp => (by simp only [List.mem_cons, List.not_mem_nil, or_false] at hp; rcases hp with rfl; exact hindexBu)) (by kernel_rfl)) ⟨[.one (.rd (.sl tyLock)), .one (.lit (.fn 110 [(0, 0), (1, 0), (2, 0)]))], [.box [.rd tI], .box [.rd tI, .rd tI], .box [.rd .bool]]⟩ (fun x => fun kk ss => look [] kk) Tryd.func104 (by kernel_rfl) (by kernel_rfl) (fun x => [pLen x.1.1 < 4611686018427387904]) [] [.slot 0 false .bool] (fun x => (pGe (idxBusyF x.1.1 x.2.2.1.1 x.2.2.1.2.1 x.2.1.1 x.2.2.2.1.1) 0, ())) (fun x => containsBu_VC x.1.1 x.2.1.1 x.2.2.1.1 x.2.2.1.2.1 x.2.2.2.1.1) (fun x => by kernel_rfl) (fun x hp => h x.1.1 x.2.1.1 x.2.2.1.1 x.2.2.1.2.1 x.2.2.2.1.1 hp)

def busy_VC (si : (List ItemD)) (sl : (List LockD)) (sd : (List DoubtD)) (so : (List TxnD)) (ts : Int) (tn : Int) (k : Int) (g : Bool) : Prop :=
  Nat.le (Nat.succ (pLen sl)) 4611686018427387904 ∧ (pGe (idxBusyF sl ts tn k g) (0 : Int), ()) = (pGe (idxBusyF sl ts tn k g) (0 : Int), ())
set_option maxRecDepth 100000 in
theorem busy_meets (hcontainsBu : Meets Tryd.prog (fun _ => none) 104 ccontainsBu) (h : ∀ (si : (List ItemD)) (sl : (List LockD)) (sd : (List DoubtD)) (so : (List TxnD)) (ts : Int) (tn : Int) (k : Int) (g : Bool), (∀ p ∈ (fun x => [pLen x.1.1.1 < 4611686018427387904, pLen x.1.1.2.1 < 4611686018427387904, pLen x.1.1.2.2.1 < 4611686018427387904, pLen x.1.1.2.2.2.1 < 4611686018427387904] : Shape.den ⟨[pSto, pTxn, .one (.rd tI), .one (.rd .bool)], []⟩ → List Prop) ⟨((si, sl, sd, so, ()), (ts, tn, ()), k, g, ()), ()⟩, p) → busy_VC si sl sd so ts tn k g) : Meets Tryd.prog (fun _ => none) 89 cbusy :=
  meets_vc (E := envOf Tryd.prog [(104, (false, ccontainsBu))] [28, 103, 105, 107]) (envOf_ok (fun p hp => (by simp only [List.mem_cons, List.not_mem_nil, or_false] at hp; rcases hp with rfl; exact hcontainsBu)) (by kernel_rfl)) ⟨[pSto, pTxn, .one (.rd tI), .one (.rd .bool)], []⟩ (fun x => fun kk ss => look [] kk) Tryd.func89 (by kernel_rfl) (by kernel_rfl) (fun x => [pLen x.1.1.1 < 4611686018427387904, pLen x.1.1.2.1 < 4611686018427387904, pLen x.1.1.2.2.1 < 4611686018427387904, pLen x.1.1.2.2.2.1 < 4611686018427387904]) [] [.slot 0 false .bool] (fun x => (pGe (idxBusyF x.1.1.2.1 x.1.2.1.1 x.1.2.1.2.1 x.1.2.2.1 x.1.2.2.2.1) 0, ())) (fun x => busy_VC x.1.1.1 x.1.1.2.1 x.1.1.2.2.1 x.1.1.2.2.2.1 x.1.2.1.1 x.1.2.1.2.1 x.1.2.2.1 x.1.2.2.2.1) (fun x => by kernel_rfl) (fun x hp => h x.1.1.1 x.1.1.2.1 x.1.1.2.2.1 x.1.1.2.2.2.1 x.1.2.1.1 x.1.2.1.2.1 x.1.2.2.1 x.1.2.2.2.1 hp)

def others_VC (si : (List ItemD)) (sl : (List LockD)) (sd : (List DoubtD)) (so : (List TxnD)) (ts : Int) (tn : Int) (k : Int) : Prop :=
  othInv si sl sd so ts tn k ((0 : Int), (0 : Int), (0 : Int), ()) ∧ ∀ (y : kden Bool.false tI × kden Bool.false tI × kden Bool.false tI × PUnit), othInv si sl sd so ts tn k y → bif pLt y.1 (pInt (pLen sl)) then pIn y.1
    (pLen sl) ∧ bif pEq (pGet tyLock sl (pNat y.1)).2.2.1 k then pIn y.1 (pLen sl) ∧ bif pNot (pAndB (pEq (pGet tyLock sl (pNat y.1)).1 ts) (pEq (pGet tyLock sl (pNat y.1)).2.1 tn)) then pIn y.1 (pLen sl) ∧ bif (pGet tyLock
    sl (pNat y.1)).2.2.2.1 then othInv si sl sd so ts tn k (pAdd IntKind.i64 y.1 (1 : Int), pAdd IntKind.i64 y.2.1 (1 : Int), pAdd IntKind.i64 y.2.2.1 (1 : Int), ()) ∧ Nat.le (Nat.succ (othMu si sl sd so ts tn k (pAdd
    IntKind.i64 y.1 (1 : Int), pAdd IntKind.i64 y.2.1 (1 : Int), pAdd IntKind.i64 y.2.2.1 (1 : Int), ()))) (othMu si sl sd so ts tn k y) else othInv si sl sd so ts tn k (pAdd IntKind.i64 y.1 (1 : Int), pAdd IntKind.i64 y.2.1
    (1 : Int), y.2.2.1, ()) ∧ Nat.le (Nat.succ (othMu si sl sd so ts tn k (pAdd IntKind.i64 y.1 (1 : Int), pAdd IntKind.i64 y.2.1 (1 : Int), y.2.2.1, ()))) (othMu si sl sd so ts tn k y) else othInv si sl sd so ts tn k (pAdd
    IntKind.i64 y.1 (1 : Int), y.2.1, y.2.2.1, ()) ∧ Nat.le (Nat.succ (othMu si sl sd so ts tn k (pAdd IntKind.i64 y.1 (1 : Int), y.2.1, y.2.2.1, ()))) (othMu si sl sd so ts tn k y) else othInv si sl sd so ts tn k (pAdd
    IntKind.i64 y.1 (1 : Int), y.2.1, y.2.2.1, ()) ∧ Nat.le (Nat.succ (othMu si sl sd so ts tn k (pAdd IntKind.i64 y.1 (1 : Int), y.2.1, y.2.2.1, ()))) (othMu si sl sd so ts tn k y) else (y.2.1, y.2.2.1, ()) = (othA sl ts tn
    k, othW sl ts tn k, ())
set_option maxRecDepth 100000 in
theorem others_meets  (h : ∀ (si : (List ItemD)) (sl : (List LockD)) (sd : (List DoubtD)) (so : (List TxnD)) (ts : Int) (tn : Int) (k : Int), (∀ p ∈ (fun x => [pLen x.1.1.1 < 4611686018427387904, pLen x.1.1.2.1 < 4611686018427387904, pLen x.1.1.2.2.1 < 4611686018427387904, pLen x.1.1.2.2.2.1 < 4611686018427387904] : Shape.den ⟨[pSto, pTxn, .one (.rd tI)], []⟩ → List Prop) ⟨((si, sl, sd, so, ()), (ts, tn, ()), k, ()), ()⟩, p) → others_VC si sl sd so ts tn k) : Meets Tryd.prog (fun _ => none) 71 cothers :=
  meets_vc (E := envOf Tryd.prog [] [28, 103, 105, 107]) (envOf_ok (fun p hp => by cases hp) (by kernel_rfl)) ⟨[pSto, pTxn, .one (.rd tI)], []⟩ (fun x => fun kk ss => look [(4, (⟨[.slot 10 false tI, .slot 8 false tI, .slot 9 false tI], othInv x.1.1.1 x.1.1.2.1 x.1.1.2.2.1 x.1.1.2.2.2.1 x.1.2.1.1 x.1.2.1.2.1 x.1.2.2.1, othMu x.1.1.1 x.1.1.2.1 x.1.1.2.2.1 x.1.1.2.2.2.1 x.1.2.1.1 x.1.2.1.2.1 x.1.2.2.1⟩ : Ann))] kk) Tryd.func71 (by kernel_rfl) (by kernel_rfl) (fun x => [pLen x.1.1.1 < 4611686018427387904, pLen x.1.1.2.1 < 4611686018427387904, pLen x.1.1.2.2.1 < 4611686018427387904, pLen x.1.1.2.2.2.1 < 4611686018427387904]) [] [.slot 0 false tI, .slot 1 false tI] (fun x => (othA x.1.1.2.1 x.1.2.1.1 x.1.2.1.2.1 x.1.2.2.1, othW x.1.1.2.1 x.1.2.1.1 x.1.2.1.2.1 x.1.2.2.1, ())) (fun x => others_VC x.1.1.1 x.1.1.2.1 x.1.1.2.2.1 x.1.1.2.2.2.1 x.1.2.1.1 x.1.2.1.2.1 x.1.2.2.1) (fun x => by kernel_rfl) (fun x hp => h x.1.1.1 x.1.1.2.1 x.1.1.2.2.1 x.1.1.2.2.2.1 x.1.2.1.1 x.1.2.1.2.1 x.1.2.2.1 hp)

def hand_VC (a b : Int) (is : List ItemD) (ls : List LockD) (ds : List DoubtD) (os : List TxnD) : Prop :=
  Nat.le (Nat.succ (pLen is)) 4611686018427387904 ∧ Nat.le (Nat.succ (pLen ls)) 4611686018427387904 ∧ Nat.le (Nat.succ (pLen ds)) 4611686018427387904 ∧ Nat.le (Nat.succ (pLen os)) 4611686018427387904 ∧ bif pNot (pGe
    (idxDoubtF ds (a, b, ())) (0 : Int)) then pRoom (pPlus (pLen ds) (pLen [(a, b, (0 : Int), ())])) 24 ∧ ((is, ls, pApp ds [(a, b, (0 : Int), ())], os, ()), ()) = ((is, ls, handF ds a b, os, ()), ()) else ((is, ls, ds, os,
    ()), ()) = ((is, ls, handF ds a b, os, ()), ())
set_option maxRecDepth 100000 in
theorem hand_meets (hdoubted : Meets Tryd.prog (fun _ => none) 106 cdoubted) (h : ∀ (a b : Int) (is : List ItemD) (ls : List LockD) (ds : List DoubtD) (os : List TxnD), (∀ p ∈ (fun x => [pLen x.2.2.1 < 4611686018427387904, pLen x.2.2.2.1 < 4611686018427387904, pLen x.2.2.2.2.1 < 4611686018427387904, pLen x.2.2.2.2.2.1 < 4611686018427387904, pRoom (pPlus (pLen x.2.2.2.2.1) 1) 24] : Shape.den ⟨[.one (.lit (.pt 0 0)), pTxn], [.box [.own 1, .own 2, .own 3, .own 4], .row tyItem, .row tyLock, .row tyDoubt, .row tyTxn]⟩ → List Prop) ⟨((), (a, b, ()), ()), (((), (), (), (), ()), is, ls, ds, os, ())⟩, p) → hand_VC a b is ls ds os) : Meets Tryd.prog (fun _ => none) 90 chand :=
  meets_vc (E := envOf Tryd.prog [(106, (false, cdoubted))] [28, 103, 105, 107]) (envOf_ok (fun p hp => (by simp only [List.mem_cons, List.not_mem_nil, or_false] at hp; rcases hp with rfl; exact hdoubted)) (by kernel_rfl)) ⟨[.one (.lit (.pt 0 0)), pTxn], [.box [.own 1, .own 2, .own 3, .own 4], .row tyItem, .row tyLock, .row tyDoubt, .row tyTxn]⟩ (fun x => fun kk ss => look [] kk) Tryd.func90 (by kernel_rfl) (by kernel_rfl) (fun x => [pLen x.2.2.1 < 4611686018427387904, pLen x.2.2.2.1 < 4611686018427387904, pLen x.2.2.2.2.1 < 4611686018427387904, pLen x.2.2.2.2.2.1 < 4611686018427387904, pRoom (pPlus (pLen x.2.2.2.2.1) 1) 24]) [1, 2, 3, 4] [.box 0 vSto] (fun x => ((x.2.2.1, x.2.2.2.1, handF x.2.2.2.2.1 x.1.2.1.1 x.1.2.1.2.1, x.2.2.2.2.2.1, ()), ())) (fun x => hand_VC x.1.2.1.1 x.1.2.1.2.1 x.2.2.1 x.2.2.2.1 x.2.2.2.2.1 x.2.2.2.2.2.1) (fun x => by kernel_rfl) (fun x hp => h x.1.2.1.1 x.1.2.1.2.1 x.2.2.1 x.2.2.2.1 x.2.2.2.2.1 x.2.2.2.2.2.1 hp)

end Go.Proofs.YtkhnakdmkhidbaaDoor

/- Contracts, and what the evaluator says, as plain propositions: SvD. Printed by vc.py. -/
namespace Go.Proofs.YtkhnakdmkhidbaaDoor
open Go.RowKit Go.ChangeShapes Go.WideShapes Go.Deep

def cRead : Ctr := shCtr ⟨[pSto, pTxn, .one (.rd tI)], []⟩ (fun x => [pLen x.1.1.1 < 4611686018427387904, pLen x.1.1.2.1 < 4611686018427387904, pLen x.1.1.2.2.1 < 4611686018427387904, pLen x.1.1.2.2.2.1 < 4611686018427387904, pRoom (pLen x.1.1.1) 24, pRoom (pLen x.1.1.2.1) 48, pRoom (pLen x.1.1.2.2.1) 24, pRoom (pLen x.1.1.2.2.2.1) 16]) [] [.agg 0 vSto, .slot 1 false tI, .slot 2 false tI, .slot 3 false tI] (fun x => (readS x.1.1 x.1.2.1 x.1.2.2.1, readV x.1.1 x.1.2.1 x.1.2.2.1, readN x.1.1 x.1.2.1 x.1.2.2.1, readE x.1.1 x.1.2.1 x.1.2.2.1, ()))
def cReadOf : Ctr := shCtr ⟨[pSto, pTxn, .one (.rd tI)], []⟩ (fun x => [pLen x.1.1.1 < 4611686018427387904, pLen x.1.1.2.1 < 4611686018427387904, pLen x.1.1.2.2.1 < 4611686018427387904, pLen x.1.1.2.2.2.1 < 4611686018427387904, pRoom (pLen x.1.1.1) 24, pRoom (pLen x.1.1.2.1) 48, pRoom (pLen x.1.1.2.2.1) 24, pRoom (pLen x.1.1.2.2.2.1) 16]) [] [.agg 0 vSto, .slot 1 false tI, .slot 2 false tI, .slot 3 false tI] (fun x => (readS x.1.1 x.1.2.1 x.1.2.2.1, readV x.1.1 x.1.2.1 x.1.2.2.1, readN x.1.1 x.1.2.1 x.1.2.2.1, readE x.1.1 x.1.2.1 x.1.2.2.1, ()))

def Read_VC (si : (List ItemD)) (sl : (List LockD)) (sd : (List DoubtD)) (so : (List TxnD)) (ts : Int) (tn : Int) (k : Int) : Prop :=
  Nat.le (Nat.succ (pLen si)) 4611686018427387904 ∧ Nat.le (Nat.succ (pLen sl)) 4611686018427387904 ∧ Nat.le (Nat.succ (pLen sd)) 4611686018427387904 ∧ Nat.le (Nat.succ (pLen so)) 4611686018427387904 ∧ bif pNe (askE (si,
    sl, sd, so, ()) (ts, tn, ()) k) (0 : Int) then (([], [], [], [], ()), (0 : Int), (0 : Int), askE (si, sl, sd, so, ()) (ts, tn, ()) k, ()) = (readS (si, sl, sd, so, ()) (ts, tn, ()) k, readV (si, sl, sd, so, ()) (ts, tn,
    ()) k, readN (si, sl, sd, so, ()) (ts, tn, ()) k, readE (si, sl, sd, so, ()) (ts, tn, ()) k, ()) else Nat.le (Nat.succ (pLen si)) 4611686018427387904 ∧ Nat.le (Nat.succ (pLen sl)) 4611686018427387904 ∧ Nat.le (Nat.succ
    (pLen sd)) 4611686018427387904 ∧ Nat.le (Nat.succ (pLen so)) 4611686018427387904 ∧ itemsF si = Bool.true ∧ Nat.le (Nat.succ (pLen si)) 4611686018427387904 ∧ Nat.le (Nat.succ (pLen sl)) 4611686018427387904 ∧ Nat.le
    (Nat.succ (pLen sd)) 4611686018427387904 ∧ Nat.le (Nat.succ (pLen so)) 4611686018427387904 ∧ bif pGe (idxLkF sl ts tn k) (0 : Int) then pIn (idxLkF sl ts tn k) (pLen sl) ∧ bif (pGet tyLock sl (pNat (idxLkF sl ts tn
    k))).2.2.2.1 then pRoom (pLen si) 24 ∧ pRoom (pLen sl) 48 ∧ pRoom (pLen sd) 24 ∧ pRoom (pLen so) 16 ∧ pIn (idxLkF sl ts tn k) (pLen sl) ∧ ((si, sl, sd, so, ()), (pGet tyLock sl (pNat (idxLkF sl ts tn k))).2.2.2.2.1,
    (itemF si k).2.2.1, (0 : Int), ()) = (readS (si, sl, sd, so, ()) (ts, tn, ()) k, readV (si, sl, sd, so, ()) (ts, tn, ()) k, readN (si, sl, sd, so, ()) (ts, tn, ()) k, readE (si, sl, sd, so, ()) (ts, tn, ()) k, ()) else
    pRoom (pLen si) 24 ∧ pRoom (pLen sl) 48 ∧ pRoom (pLen sd) 24 ∧ pRoom (pLen so) 16 ∧ ((si, sl, sd, so, ()), (itemF si k).2.1, (itemF si k).2.2.1, (0 : Int), ()) = (readS (si, sl, sd, so, ()) (ts, tn, ()) k, readV (si, sl,
    sd, so, ()) (ts, tn, ()) k, readN (si, sl, sd, so, ()) (ts, tn, ()) k, readE (si, sl, sd, so, ()) (ts, tn, ()) k, ()) else Nat.le (Nat.succ (pLen so)) 4611686018427387904 ∧ bif pGe (idxTxnF so (ts, tn, ())) (0 : Int)
    then (([], [], [], [], ()), (0 : Int), (0 : Int), (13 : Int), ()) = (readS (si, sl, sd, so, ()) (ts, tn, ()) k, readV (si, sl, sd, so, ()) (ts, tn, ()) k, readN (si, sl, sd, so, ()) (ts, tn, ()) k, readE (si, sl, sd, so,
    ()) (ts, tn, ()) k, ()) else Nat.le (Nat.succ (pLen si)) 4611686018427387904 ∧ Nat.le (Nat.succ (pLen sl)) 4611686018427387904 ∧ Nat.le (Nat.succ (pLen sd)) 4611686018427387904 ∧ Nat.le (Nat.succ (pLen so))
    4611686018427387904 ∧ bif pGe (idxBusyF sl ts tn k Bool.false) (0 : Int) then (([], [], [], [], ()), (0 : Int), (0 : Int), (11 : Int), ()) = (readS (si, sl, sd, so, ()) (ts, tn, ()) k, readV (si, sl, sd, so, ()) (ts, tn,
    ()) k, readN (si, sl, sd, so, ()) (ts, tn, ()) k, readE (si, sl, sd, so, ()) (ts, tn, ()) k, ()) else bif pEq (pInt (pLen sl)) (24 : Int) then (([], [], [], [], ()), (0 : Int), (0 : Int), (8 : Int), ()) = (readS (si, sl,
    sd, so, ()) (ts, tn, ()) k, readV (si, sl, sd, so, ()) (ts, tn, ()) k, readN (si, sl, sd, so, ()) (ts, tn, ()) k, readE (si, sl, sd, so, ()) (ts, tn, ()) k, ()) else pRoom (pLen si) 24 ∧ pRoom (pLen sl) 48 ∧ pRoom (pLen
    sd) 24 ∧ pRoom (pLen so) 16 ∧ pRoom (pPlus (pLen sl) (pLen [(ts, tn, k, Bool.false, (0 : Int), (0 : Int), ())])) 48 ∧ Nat.le (Nat.succ (pLen si)) 4611686018427387904 ∧ Nat.le (Nat.succ (pLen (pApp sl [(ts, tn, k,
    Bool.false, (0 : Int), (0 : Int), ())]))) 4611686018427387904 ∧ Nat.le (Nat.succ (pLen sd)) 4611686018427387904 ∧ Nat.le (Nat.succ (pLen so)) 4611686018427387904 ∧ pRoom (pPlus (pLen sd) 1) 24 ∧ ((si, pApp sl [(ts, tn,
    k, Bool.false, (0 : Int), (0 : Int), ())], handF sd ts tn, so, ()), (itemF si k).2.1, (itemF si k).2.2.1, (0 : Int), ()) = (readS (si, sl, sd, so, ()) (ts, tn, ()) k, readV (si, sl, sd, so, ()) (ts, tn, ()) k, readN (si,
    sl, sd, so, ()) (ts, tn, ()) k, readE (si, sl, sd, so, ()) (ts, tn, ()) k, ())
set_option maxRecDepth 100000 in
theorem Read_meets (hcall : Meets Tryd.prog (fun _ => none) 84 ccall) (hitem : Meets Tryd.prog (fun _ => none) 85 citem) (hlock : Meets Tryd.prog (fun _ => none) 86 clock) (hown : Meets Tryd.prog (fun _ => none) 87 cown) (hContains : Meets Tryd.prog (fun _ => none) 88 cContains) (hbusy : Meets Tryd.prog (fun _ => none) 89 cbusy) (hhand : Meets Tryd.prog (fun _ => none) 90 chand) (h : ∀ (si : (List ItemD)) (sl : (List LockD)) (sd : (List DoubtD)) (so : (List TxnD)) (ts : Int) (tn : Int) (k : Int), (∀ p ∈ (fun x => [pLen x.1.1.1 < 4611686018427387904, pLen x.1.1.2.1 < 4611686018427387904, pLen x.1.1.2.2.1 < 4611686018427387904, pLen x.1.1.2.2.2.1 < 4611686018427387904, pRoom (pLen x.1.1.1) 24, pRoom (pLen x.1.1.2.1) 48, pRoom (pLen x.1.1.2.2.1) 24, pRoom (pLen x.1.1.2.2.2.1) 16] : Shape.den ⟨[pSto, pTxn, .one (.rd tI)], []⟩ → List Prop) ⟨((si, sl, sd, so, ()), (ts, tn, ()), k, ()), ()⟩, p) → Read_VC si sl sd so ts tn k) : Meets Tryd.prog (fun _ => none) 54 cRead :=
  meets_vc (E := envOf Tryd.prog [(84, (false, ccall)), (85, (false, citem)), (86, (false, clock)), (87, (false, cown)), (88, (false, cContains)), (89, (false, cbusy)), (90, (false, chand))] [28, 103, 105, 107]) (envOf_ok (fun p hp => (by simp only [List.mem_cons, List.not_mem_nil, or_false] at hp; rcases hp with rfl | rfl | rfl | rfl | rfl | rfl | rfl; exact hcall; exact hitem; exact hlock; exact hown; exact hContains; exact hbusy; exact hhand)) (by kernel_rfl)) ⟨[pSto, pTxn, .one (.rd tI)], []⟩ (fun x => fun kk ss => look [] kk) Tryd.func54 (by kernel_rfl) (by kernel_rfl) (fun x => [pLen x.1.1.1 < 4611686018427387904, pLen x.1.1.2.1 < 4611686018427387904, pLen x.1.1.2.2.1 < 4611686018427387904, pLen x.1.1.2.2.2.1 < 4611686018427387904, pRoom (pLen x.1.1.1) 24, pRoom (pLen x.1.1.2.1) 48, pRoom (pLen x.1.1.2.2.1) 24, pRoom (pLen x.1.1.2.2.2.1) 16]) [] [.agg 0 vSto, .slot 1 false tI, .slot 2 false tI, .slot 3 false tI] (fun x => (readS x.1.1 x.1.2.1 x.1.2.2.1, readV x.1.1 x.1.2.1 x.1.2.2.1, readN x.1.1 x.1.2.1 x.1.2.2.1, readE x.1.1 x.1.2.1 x.1.2.2.1, ())) (fun x => Read_VC x.1.1.1 x.1.1.2.1 x.1.1.2.2.1 x.1.1.2.2.2.1 x.1.2.1.1 x.1.2.1.2.1 x.1.2.2.1) (fun x => by kernel_rfl) (fun x hp => h x.1.1.1 x.1.1.2.1 x.1.1.2.2.1 x.1.1.2.2.2.1 x.1.2.1.1 x.1.2.1.2.1 x.1.2.2.1 hp)

def ReadOf_VC (si : (List ItemD)) (sl : (List LockD)) (sd : (List DoubtD)) (so : (List TxnD)) (ts : Int) (tn : Int) (k : Int) : Prop :=
  Nat.le (Nat.succ (pLen si)) 4611686018427387904 ∧ Nat.le (Nat.succ (pLen sl)) 4611686018427387904 ∧ Nat.le (Nat.succ (pLen sd)) 4611686018427387904 ∧ Nat.le (Nat.succ (pLen so)) 4611686018427387904 ∧ bif pNe (askE (si,
    sl, sd, so, ()) (ts, tn, ()) k) (0 : Int) then (([], [], [], [], ()), (0 : Int), (0 : Int), askE (si, sl, sd, so, ()) (ts, tn, ()) k, ()) = (readS (si, sl, sd, so, ()) (ts, tn, ()) k, readV (si, sl, sd, so, ()) (ts, tn,
    ()) k, readN (si, sl, sd, so, ()) (ts, tn, ()) k, readE (si, sl, sd, so, ()) (ts, tn, ()) k, ()) else pRoom (pLen si) 24 ∧ pRoom (pLen sl) 48 ∧ pRoom (pLen sd) 24 ∧ pRoom (pLen so) 16 ∧ Nat.le (Nat.succ (pLen si))
    4611686018427387904 ∧ Nat.le (Nat.succ (pLen sl)) 4611686018427387904 ∧ Nat.le (Nat.succ (pLen sd)) 4611686018427387904 ∧ Nat.le (Nat.succ (pLen so)) 4611686018427387904 ∧ Nat.le (Nat.succ (pLen si)) 4611686018427387904
    ∧ Nat.le (Nat.succ (pLen sl)) 4611686018427387904 ∧ Nat.le (Nat.succ (pLen sd)) 4611686018427387904 ∧ Nat.le (Nat.succ (pLen so)) 4611686018427387904 ∧ bif pGe (idxLkF sl ts tn k) (0 : Int) then pIn (idxLkF sl ts tn k)
    (pLen sl) ∧ bif (pGet tyLock sl (pNat (idxLkF sl ts tn k))).2.2.2.1 then pIn (idxLkF sl ts tn k) (pLen sl) ∧ ((si, sl, sd, so, ()), (pGet tyLock sl (pNat (idxLkF sl ts tn k))).2.2.2.2.1, (itemF si k).2.2.1, (0 : Int),
    ()) = (readS (si, sl, sd, so, ()) (ts, tn, ()) k, readV (si, sl, sd, so, ()) (ts, tn, ()) k, readN (si, sl, sd, so, ()) (ts, tn, ()) k, readE (si, sl, sd, so, ()) (ts, tn, ()) k, ()) else bif pLt (idxLkF sl ts tn k) (0 :
    Int) then Nat.le (Nat.succ (pLen si)) 4611686018427387904 ∧ Nat.le (Nat.succ (pLen sl)) 4611686018427387904 ∧ Nat.le (Nat.succ (pLen sd)) 4611686018427387904 ∧ Nat.le (Nat.succ (pLen so)) 4611686018427387904 ∧ Nat.le
    (Nat.succ (pLen si)) 4611686018427387904 ∧ Nat.le (Nat.succ (pLen sl)) 4611686018427387904 ∧ Nat.le (Nat.succ (pLen sd)) 4611686018427387904 ∧ Nat.le (Nat.succ (pLen so)) 4611686018427387904 ∧ bif pGe (idxTxnF so (ts,
    tn, ())) (0 : Int) then (([], [], [], [], ()), (0 : Int), (0 : Int), (13 : Int), ()) = (readS (si, sl, sd, so, ()) (ts, tn, ()) k, readV (si, sl, sd, so, ()) (ts, tn, ()) k, readN (si, sl, sd, so, ()) (ts, tn, ()) k,
    readE (si, sl, sd, so, ()) (ts, tn, ()) k, ()) else bif pGt (othW sl ts tn k) (0 : Int) then (([], [], [], [], ()), (0 : Int), (0 : Int), (11 : Int), ()) = (readS (si, sl, sd, so, ()) (ts, tn, ()) k, readV (si, sl, sd,
    so, ()) (ts, tn, ()) k, readN (si, sl, sd, so, ()) (ts, tn, ()) k, readE (si, sl, sd, so, ()) (ts, tn, ()) k, ()) else bif pGe (pInt (pLen sl)) (24 : Int) then (([], [], [], [], ()), (0 : Int), (0 : Int), (8 : Int), ())
    = (readS (si, sl, sd, so, ()) (ts, tn, ()) k, readV (si, sl, sd, so, ()) (ts, tn, ()) k, readN (si, sl, sd, so, ()) (ts, tn, ()) k, readE (si, sl, sd, so, ()) (ts, tn, ()) k, ()) else pRoom (pPlus (pLen sl) (pLen [(ts,
    tn, k, Bool.false, (0 : Int), (0 : Int), ())])) 48 ∧ Nat.le (Nat.succ (pLen si)) 4611686018427387904 ∧ Nat.le (Nat.succ (pLen sl)) 4611686018427387904 ∧ Nat.le (Nat.succ (pLen sd)) 4611686018427387904 ∧ Nat.le (Nat.succ
    (pLen so)) 4611686018427387904 ∧ bif pLt (idxDoubtF sd (ts, tn, ())) (0 : Int) then pRoom (pPlus (pLen sd) (pLen [(ts, tn, (0 : Int), ())])) 24 ∧ ((si, pApp sl [(ts, tn, k, Bool.false, (0 : Int), (0 : Int), ())], pApp sd
    [(ts, tn, (0 : Int), ())], so, ()), (itemF si k).2.1, (itemF si k).2.2.1, (0 : Int), ()) = (readS (si, sl, sd, so, ()) (ts, tn, ()) k, readV (si, sl, sd, so, ()) (ts, tn, ()) k, readN (si, sl, sd, so, ()) (ts, tn, ()) k,
    readE (si, sl, sd, so, ()) (ts, tn, ()) k, ()) else ((si, pApp sl [(ts, tn, k, Bool.false, (0 : Int), (0 : Int), ())], sd, so, ()), (itemF si k).2.1, (itemF si k).2.2.1, (0 : Int), ()) = (readS (si, sl, sd, so, ()) (ts,
    tn, ()) k, readV (si, sl, sd, so, ()) (ts, tn, ()) k, readN (si, sl, sd, so, ()) (ts, tn, ()) k, readE (si, sl, sd, so, ()) (ts, tn, ()) k, ()) else ((si, sl, sd, so, ()), (itemF si k).2.1, (itemF si k).2.2.1, (0 : Int),
    ()) = (readS (si, sl, sd, so, ()) (ts, tn, ()) k, readV (si, sl, sd, so, ()) (ts, tn, ()) k, readN (si, sl, sd, so, ()) (ts, tn, ()) k, readE (si, sl, sd, so, ()) (ts, tn, ()) k, ()) else bif pLt (idxLkF sl ts tn k) (0 :
    Int) then Nat.le (Nat.succ (pLen si)) 4611686018427387904 ∧ Nat.le (Nat.succ (pLen sl)) 4611686018427387904 ∧ Nat.le (Nat.succ (pLen sd)) 4611686018427387904 ∧ Nat.le (Nat.succ (pLen so)) 4611686018427387904 ∧ Nat.le
    (Nat.succ (pLen si)) 4611686018427387904 ∧ Nat.le (Nat.succ (pLen sl)) 4611686018427387904 ∧ Nat.le (Nat.succ (pLen sd)) 4611686018427387904 ∧ Nat.le (Nat.succ (pLen so)) 4611686018427387904 ∧ bif pGe (idxTxnF so (ts,
    tn, ())) (0 : Int) then (([], [], [], [], ()), (0 : Int), (0 : Int), (13 : Int), ()) = (readS (si, sl, sd, so, ()) (ts, tn, ()) k, readV (si, sl, sd, so, ()) (ts, tn, ()) k, readN (si, sl, sd, so, ()) (ts, tn, ()) k,
    readE (si, sl, sd, so, ()) (ts, tn, ()) k, ()) else bif pGt (othW sl ts tn k) (0 : Int) then (([], [], [], [], ()), (0 : Int), (0 : Int), (11 : Int), ()) = (readS (si, sl, sd, so, ()) (ts, tn, ()) k, readV (si, sl, sd,
    so, ()) (ts, tn, ()) k, readN (si, sl, sd, so, ()) (ts, tn, ()) k, readE (si, sl, sd, so, ()) (ts, tn, ()) k, ()) else bif pGe (pInt (pLen sl)) (24 : Int) then (([], [], [], [], ()), (0 : Int), (0 : Int), (8 : Int), ())
    = (readS (si, sl, sd, so, ()) (ts, tn, ()) k, readV (si, sl, sd, so, ()) (ts, tn, ()) k, readN (si, sl, sd, so, ()) (ts, tn, ()) k, readE (si, sl, sd, so, ()) (ts, tn, ()) k, ()) else pRoom (pPlus (pLen sl) (pLen [(ts,
    tn, k, Bool.false, (0 : Int), (0 : Int), ())])) 48 ∧ Nat.le (Nat.succ (pLen si)) 4611686018427387904 ∧ Nat.le (Nat.succ (pLen sl)) 4611686018427387904 ∧ Nat.le (Nat.succ (pLen sd)) 4611686018427387904 ∧ Nat.le (Nat.succ
    (pLen so)) 4611686018427387904 ∧ bif pLt (idxDoubtF sd (ts, tn, ())) (0 : Int) then pRoom (pPlus (pLen sd) (pLen [(ts, tn, (0 : Int), ())])) 24 ∧ ((si, pApp sl [(ts, tn, k, Bool.false, (0 : Int), (0 : Int), ())], pApp sd
    [(ts, tn, (0 : Int), ())], so, ()), (itemF si k).2.1, (itemF si k).2.2.1, (0 : Int), ()) = (readS (si, sl, sd, so, ()) (ts, tn, ()) k, readV (si, sl, sd, so, ()) (ts, tn, ()) k, readN (si, sl, sd, so, ()) (ts, tn, ()) k,
    readE (si, sl, sd, so, ()) (ts, tn, ()) k, ()) else ((si, pApp sl [(ts, tn, k, Bool.false, (0 : Int), (0 : Int), ())], sd, so, ()), (itemF si k).2.1, (itemF si k).2.2.1, (0 : Int), ()) = (readS (si, sl, sd, so, ()) (ts,
    tn, ()) k, readV (si, sl, sd, so, ()) (ts, tn, ()) k, readN (si, sl, sd, so, ()) (ts, tn, ()) k, readE (si, sl, sd, so, ()) (ts, tn, ()) k, ()) else ((si, sl, sd, so, ()), (itemF si k).2.1, (itemF si k).2.2.1, (0 : Int),
    ()) = (readS (si, sl, sd, so, ()) (ts, tn, ()) k, readV (si, sl, sd, so, ()) (ts, tn, ()) k, readN (si, sl, sd, so, ()) (ts, tn, ()) k, readE (si, sl, sd, so, ()) (ts, tn, ()) k, ())
set_option maxRecDepth 100000 in
theorem ReadOf_meets (haskFault : Meets Tryd.prog (fun _ => none) 68 caskFault) (hStoreCopy : Meets Tryd.prog (fun _ => none) 26 cStoreCopy) (hitemOf : Meets Tryd.prog (fun _ => none) 69 citemOf) (hlockOf : Meets Tryd.prog (fun _ => none) 70 clockOf) (hothers : Meets Tryd.prog (fun _ => none) 71 cothers) (hisOver : Meets Tryd.prog (fun _ => none) 72 cisOver) (hdoubtOf : Meets Tryd.prog (fun _ => none) 73 cdoubtOf) (h : ∀ (si : (List ItemD)) (sl : (List LockD)) (sd : (List DoubtD)) (so : (List TxnD)) (ts : Int) (tn : Int) (k : Int), (∀ p ∈ (fun x => [pLen x.1.1.1 < 4611686018427387904, pLen x.1.1.2.1 < 4611686018427387904, pLen x.1.1.2.2.1 < 4611686018427387904, pLen x.1.1.2.2.2.1 < 4611686018427387904, pRoom (pLen x.1.1.1) 24, pRoom (pLen x.1.1.2.1) 48, pRoom (pLen x.1.1.2.2.1) 24, pRoom (pLen x.1.1.2.2.2.1) 16] : Shape.den ⟨[pSto, pTxn, .one (.rd tI)], []⟩ → List Prop) ⟨((si, sl, sd, so, ()), (ts, tn, ()), k, ()), ()⟩, p) → ReadOf_VC si sl sd so ts tn k) : Meets Tryd.prog (fun _ => none) 27 cReadOf :=
  meets_vc (E := envOf Tryd.prog [(68, (false, caskFault)), (26, (false, cStoreCopy)), (69, (false, citemOf)), (70, (false, clockOf)), (71, (false, cothers)), (72, (false, cisOver)), (73, (false, cdoubtOf))] [28, 103, 105, 107]) (envOf_ok (fun p hp => (by simp only [List.mem_cons, List.not_mem_nil, or_false] at hp; rcases hp with rfl | rfl | rfl | rfl | rfl | rfl | rfl; exact haskFault; exact hStoreCopy; exact hitemOf; exact hlockOf; exact hothers; exact hisOver; exact hdoubtOf)) (by kernel_rfl)) ⟨[pSto, pTxn, .one (.rd tI)], []⟩ (fun x => fun kk ss => look [] kk) Tryd.func27 (by kernel_rfl) (by kernel_rfl) (fun x => [pLen x.1.1.1 < 4611686018427387904, pLen x.1.1.2.1 < 4611686018427387904, pLen x.1.1.2.2.1 < 4611686018427387904, pLen x.1.1.2.2.2.1 < 4611686018427387904, pRoom (pLen x.1.1.1) 24, pRoom (pLen x.1.1.2.1) 48, pRoom (pLen x.1.1.2.2.1) 24, pRoom (pLen x.1.1.2.2.2.1) 16]) [] [.agg 0 vSto, .slot 1 false tI, .slot 2 false tI, .slot 3 false tI] (fun x => (readS x.1.1 x.1.2.1 x.1.2.2.1, readV x.1.1 x.1.2.1 x.1.2.2.1, readN x.1.1 x.1.2.1 x.1.2.2.1, readE x.1.1 x.1.2.1 x.1.2.2.1, ())) (fun x => ReadOf_VC x.1.1.1 x.1.1.2.1 x.1.1.2.2.1 x.1.1.2.2.2.1 x.1.2.1.1 x.1.2.1.2.1 x.1.2.2.1) (fun x => by kernel_rfl) (fun x hp => h x.1.1.1 x.1.1.2.1 x.1.1.2.2.1 x.1.1.2.2.2.1 x.1.2.1.1 x.1.2.1.2.1 x.1.2.2.1 hp)

end Go.Proofs.YtkhnakdmkhidbaaDoor
