/- Reading a key: functions of the store meet their contracts. No condition. -/
import Derived.Test.YtoalcmpjfnlkdaaSvE
import Derived.Test.YtoalcmpjfnlkdaaSmF
namespace Go.Proofs.Ytoalcmpjfnlkdaa
open Go.RowKit

/-- whoever is in doubt has a lock, and is there once -/
theorem doubts_few {is : List ItemD} {ls : List LockD} {ds : List DoubtD} {os : List TxnD} (h : stoF (is, ls, ds, os, ()) = true) : ds.length ≤ ls.length ∧ ls.length ≤ 24 ∧ itemsF is = true := by
  rw [stoF_eq, doubtsF_eq, locksF_eq] at h
  simp only [Bool.and_eq_true] at h
  obtain ⟨⟨hi, hd, _⟩, _, hl⟩ := h
  have hn : ((List.range ds.length).map fun i => ((pGet tyDoubt ds i).1, (pGet tyDoubt ds i).2.1)).Nodup := by
    unfold List.Nodup
    rw [List.pairwise_map]
    refine List.pairwise_lt_range.imp_of_mem fun {a b} ha hb hab => ?_
    have h1 := allUpto_iff.1 hd b (by simpa using hb)
    rw [doubtOkAt_eq] at h1
    simp only [Bool.and_eq_true] at h1
    have h2 := allUpto_iff.1 h1.2 a hab
    intro e
    simp only [Prod.mk.injEq] at e
    simp only [sameD, pAndB, pEq, e.1, e.2, beq_self_eq_true, Bool.and_self, Bool.not_true, Bool.false_eq_true] at h2
  have hs : ((List.range ds.length).map fun i => ((pGet tyDoubt ds i).1, (pGet tyDoubt ds i).2.1)) ⊆ ((List.range ls.length).map fun i => ((pGet tyLock ls i).1, (pGet tyLock ls i).2.1)) := by
    intro x hx
    obtain ⟨i, hi, rfl⟩ := List.mem_map.1 hx
    have h1 := allUpto_iff.1 hd i (by simpa using hi)
    rw [doubtOkAt_eq] at h1
    simp only [Bool.and_eq_true] at h1
    have h2 := h1.1.2
    unfold idxLockF at h2
    rw [idxOf_ge] at h2
    obtain ⟨j, hj, h3⟩ := anyUpto_iff.1 h2
    simp only [lockIsF, pEq, Bool.and_eq_true, beq_iff_eq] at h3
    exact List.mem_map.2 ⟨j, by simpa using hj, by simp only [h3.1, h3.2]⟩
  refine ⟨by simpa using hn.length_le_of_subset hs, ?_, hi⟩
  have hl' : (ls.length : Int) ≤ 24 := of_decide_eq_true hl
  omega

theorem ask_ok {s : StoD} {t : TxnD} {k : Int} (h : pNe (askE s t k) 0 = false) : stoF s = true := by
  cases hs : stoF s with
  | true => rfl
  | false => rw [askE_eq, hs] at h; cases h
theorem idxLk_in {l : List LockD} {a b c : Int} (h : pGe (idxLkF l a b c) 0 = true) : pIn (idxLkF l a b c) (pLen l) := by
  unfold idxLkF at *
  have hg := h
  rw [idxOf_ge] at hg
  unfold idxOf at *
  cases hq : (List.range l.length).find? (fun j => lkIs (pGet tyLock l j) a b c) with
  | some j => exact pIn_coe.2 (show j < l.length by simpa using List.mem_of_find?_eq_some hq)
  | none => rw [hq] at h; cases h

theorem readE_eq (is : List ItemD) (ls : List LockD) (ds : List DoubtD) (os : List TxnD) (a b k : Int) : readE (is, ls, ds, os, ()) (a, b, ()) k =
  cond (pEq (askE (is, ls, ds, os, ()) (a, b, ()) k) 0) (cond (pGe (idxLkF ls a b k) 0) 0 (cond (pGe (idxTxnF os (a, b, ())) 0) 13 (cond (pGe (idxBusyF ls a b k false) 0) 11 (cond (pGe (pInt ls.length) 24) 8 0)))) (askE (is, ls, ds, os, ()) (a, b, ()) k) := rfl
theorem read_err {s : StoD} {t : TxnD} {k n : Int} (h : readE s t k = n) (hn : pEq n 0 = false) : (([], [], [], [], ()), (0 : Int), (0 : Int), n, ()) = (readS s t k, readV s t k, readN s t k, readE s t k, ()) := by
  unfold readS readV readN; rw [h, hn]; rfl
theorem read_all {is : List ItemD} {ls : List LockD} {ds : List DoubtD} {os : List TxnD} {a b k : Int} (h : readE (is, ls, ds, os, ()) (a, b, ()) k = 0) :
    (readS (is, ls, ds, os, ()) (a, b, ()) k, readV (is, ls, ds, os, ()) (a, b, ()) k, readN (is, ls, ds, os, ()) (a, b, ()) k, readE (is, ls, ds, os, ()) (a, b, ()) k, ()) =
    (cond (pGe (idxLkF ls a b k) 0) (is, ls, ds, os, ()) (is, pApp ls [(a, b, k, false, 0, 0, ())], handF ds a b, os, ()), cond (pGe (idxLkF ls a b k) 0 && (pGet tyLock ls (pNat (idxLkF ls a b k))).2.2.2.1) (pGet tyLock ls (pNat (idxLkF ls a b k))).2.2.2.2.1 (itemF is k).2.1, (itemF is k).2.2.1, (0 : Int), ()) := by
  unfold readS readV readN; rw [h]; rfl
theorem room_more {α : Type} {l : List α} {n b : Nat} {x : α} (h : l.length < n) (hb : n * b ≤ 140737488351232) : pRoom (pPlus (pLen l) (pLen [x])) b := by
  unfold pRoom pPlus pLen
  exact Nat.le_trans (Nat.mul_le_mul_right b (show l.length + 1 ≤ n by omega)) hb

theorem Read_ok : Meets Try.prog (fun _ => none) 27 cRead := Read_meets scall_ok item_ok lock_ok own_ok Contains_ok busy_ok hand_ok fun si sl sd so ts tn k hp => by
  have l1 : si.length < 4611686018427387904 := hp (pLen si < 4611686018427387904) (by simp)
  have l2 : sl.length < 4611686018427387904 := hp (pLen sl < 4611686018427387904) (by simp)
  have l3 : sd.length < 4611686018427387904 := hp (pLen sd < 4611686018427387904) (by simp)
  have l4 : so.length < 4611686018427387904 := hp (pLen so < 4611686018427387904) (by simp)
  have r1 : pRoom (pLen si) 24 := hp (pRoom (pLen si) 24) (by simp)
  have r2 : pRoom (pLen sl) 48 := hp (pRoom (pLen sl) 48) (by simp)
  have r3 : pRoom (pLen sd) 24 := hp (pRoom (pLen sd) 24) (by simp)
  have r4 : pRoom (pLen so) 16 := hp (pRoom (pLen so) 16) (by simp)
  clear hp
  unfold Read_VC
  refine ⟨l1, l2, l3, l4, bif_ok (fun h => ?_) fun ha => ?_⟩
  · exact read_err (by rw [readE_eq]; clear l1 l2 l3 l4; grind [pLt, pLe, pGt, pGe, pEq, pNe, pNot, pAndB, pBeq, pInt, pLen, inF, pIn, pTo, pNat]) (by simpa [pNe, pEq] using h)
  obtain ⟨f1, f2, f3⟩ := doubts_few (ask_ok ha)
  have hin := @idxLk_in sl ts tn k
  have ha0 : pEq (askE (si, sl, sd, so, ()) (ts, tn, ()) k) 0 = true := by simpa [pNe, pEq] using ha
  refine ⟨l1, l2, l3, l4, f3, l1, l2, l3, l4, bif_ok (fun hk => ⟨hin hk, bif_ok (fun hw => ⟨r1, r2, r3, r4, hin hk, ?_⟩) fun hw => ⟨r1, r2, r3, r4, ?_⟩⟩) fun hk => ⟨l4, bif_ok (fun ho => ?_) fun ho => ⟨l1, l2, l3, l4, bif_ok (fun hb => ?_) fun hb => bif_ok (fun hf => ?_) fun hf => ?_⟩⟩⟩
  · rw [read_all (by rw [readE_eq, ha0, hk]; rfl), hk, hw]; rfl
  · rw [read_all (by rw [readE_eq, ha0, hk]; rfl), hk, hw]; rfl
  · exact read_err (by rw [readE_eq, ha0, hk, ho]; rfl) rfl
  · exact read_err (by rw [readE_eq, ha0, hk, ho, hb]; rfl) rfl
  · have hf' : pGe (pInt sl.length) 24 = true := by simp only [pEq, pLen, beq_iff_eq] at hf; simp only [pGe, decide_eq_true_eq]; omega
    exact read_err (by rw [readE_eq, ha0, hk, ho, hb, hf']; rfl) rfl
  · have hf0 : pInt (pLen sl) ≠ 24 := by simpa [pEq] using hf
    have hf1 : sl.length < 24 := by have : (sl.length : Int) ≠ 24 := hf0; omega
    have hf' : pGe (pInt sl.length) 24 = false := decide_eq_false (by show ¬ ((sl.length : Int) ≥ 24); omega)
    refine ⟨r1, r2, r3, r4, room_more hf1 (by decide), l1, ?_, l3, l4, (show (sd.length + 1) * 24 ≤ 140737488351232 by omega), ?_⟩
    · show (pApp sl _).length < _
      unfold pApp; simp only [List.length_append, List.length_cons, List.length_nil]; omega
    · rw [read_all (by rw [readE_eq, ha0, hk, ho, hb, hf']; rfl), hk]; rfl

theorem doubt_neg {l : List DoubtD} {t : TxnD} : pLt (idxDoubtF l t) 0 = !pGe (idxDoubtF l t) 0 := by
  rw [Bool.eq_iff_iff]; simp only [pLt, pGe, decide_eq_true_eq, Bool.not_eq_true', decide_eq_false_iff_not]; omega
theorem lk_neg {l : List LockD} {a b c : Int} : pLt (idxLkF l a b c) 0 = !pGe (idxLkF l a b c) 0 := by
  rw [Bool.eq_iff_iff]; simp only [pLt, pGe, decide_eq_true_eq, Bool.not_eq_true', decide_eq_false_iff_not]; omega
theorem ReadOf_ok : Meets Try.prog (fun _ => none) 28 cReadOf := ReadOf_meets askFault_ok StoreCopy_ok itemOf_ok lockOf_ok others_ok isOver_ok doubtOf_ok fun si sl sd so ts tn k hp => by
  have l1 : si.length < 4611686018427387904 := hp (pLen si < 4611686018427387904) (by simp)
  have l2 : sl.length < 4611686018427387904 := hp (pLen sl < 4611686018427387904) (by simp)
  have l3 : sd.length < 4611686018427387904 := hp (pLen sd < 4611686018427387904) (by simp)
  have l4 : so.length < 4611686018427387904 := hp (pLen so < 4611686018427387904) (by simp)
  have r1 : pRoom (pLen si) 24 := hp (pRoom (pLen si) 24) (by simp)
  have r2 : pRoom (pLen sl) 48 := hp (pRoom (pLen sl) 48) (by simp)
  have r3 : pRoom (pLen sd) 24 := hp (pRoom (pLen sd) 24) (by simp)
  have r4 : pRoom (pLen so) 16 := hp (pRoom (pLen so) 16) (by simp)
  clear hp
  unfold ReadOf_VC
  rw [busy_write, doubt_neg, lk_neg]
  refine ⟨l1, l2, l3, l4, bif_ok (fun h => ?_) fun ha => ?_⟩
  · exact read_err (by rw [readE_eq]; clear l1 l2 l3 l4; grind [pLt, pLe, pGt, pGe, pEq, pNe, pNot, pAndB, pBeq, pInt, pLen, inF, pIn, pTo, pNat]) (by simpa [pNe, pEq] using h)
  obtain ⟨f1, f2, f3⟩ := doubts_few (ask_ok ha)
  have hin := @idxLk_in sl ts tn k
  have ha0 : pEq (askE (si, sl, sd, so, ()) (ts, tn, ()) k) 0 = true := by simpa [pNe, pEq] using ha
  have hroom : pGe (pInt sl.length) 24 = false → sl.length < 24 := fun h => by have h' : ¬ ((sl.length : Int) ≥ 24) := of_decide_eq_false h; omega
  cases hk : pGe (idxLkF sl ts tn k) 0
  · simp only [hk, Bool.not_false, cond_true, cond_false]
    (repeat' (first | refine bif_ok (fun h => ?_) (fun h => ?_) | with_reducible refine And.intro ?_ ?_ | fail))
    all_goals first
      | assumption
      | exact read_err (by rw [readE_eq, ha0, hk]; rw [pLen] at *; grind [pLt, pLe, pGt, pGe, pEq, pNe, pNot, pAndB, pBeq, pInt, pLen, inF, pIn, pTo, pNat]) rfl
      | exact room_more (hroom (by assumption)) (by decide)
      | exact room_more (Nat.lt_of_le_of_lt f1 (hroom (by assumption))) (by decide)
      | skip
    all_goals
      rw [read_all (by rw [readE_eq, ha0, hk]; rw [pLen] at *; grind [pLt, pLe, pGt, pGe, pEq, pNe, pNot, pAndB, pBeq, pInt, pLen, inF, pIn, pTo, pNat]), hk, handF_eq]
      simp only [Bool.not_eq_true', Bool.not_eq_false', cond_false, Bool.false_and] at *
    · rw [show pGe (idxDoubtF sd (ts, tn, ())) 0 = false by assumption]; rfl
    · rw [show pGe (idxDoubtF sd (ts, tn, ())) 0 = true by assumption]; rfl
  · simp only [hk, Bool.not_true, cond_true, cond_false]
    have hI := hin hk
    have hE : readE (si, sl, sd, so, ()) (ts, tn, ()) k = 0 := by rw [readE_eq, ha0, hk]; rfl
    (repeat' (first | refine bif_ok (fun h => ?_) (fun h => ?_) | with_reducible refine And.intro ?_ ?_ | fail))
    all_goals first
      | assumption
      | (rw [read_all hE, hk]; simp only [cond_true, Bool.true_and]; rw [show (pGet tyLock sl (pNat (idxLkF sl ts tn k))).2.2.2.1 = true by assumption]; rfl)
      | (rw [read_all hE, hk]; simp only [cond_true, Bool.true_and]; rw [show (pGet tyLock sl (pNat (idxLkF sl ts tn k))).2.2.2.1 = false by assumption]; rfl)

theorem hand_len (l : List DoubtD) (a b : Int) : (handF l a b).length ≤ l.length + 1 := by
  unfold handF pApp
  cases pGe (idxDoubtF l (a, b, ())) 0 <;> simp
theorem readS_len (is : List ItemD) (ls : List LockD) (ds : List DoubtD) (os : List TxnD) (t : TxnD) (k : Int) :
    (readS (is, ls, ds, os, ()) t k).1.length ≤ is.length + 1 ∧ (readS (is, ls, ds, os, ()) t k).2.1.length ≤ ls.length + 1 ∧ (readS (is, ls, ds, os, ()) t k).2.2.1.length ≤ ds.length + 1 ∧ (readS (is, ls, ds, os, ()) t k).2.2.2.1.length ≤ os.length + 1 := by
  unfold readS
  cases pEq (readE (is, ls, ds, os, ()) t k) 0 with
  | false => exact ⟨Nat.zero_le _, Nat.zero_le _, Nat.zero_le _, Nat.zero_le _⟩
  | true =>
    cases pGe (idxLkF ls t.1 t.2.1 k) 0 with
    | true => exact ⟨Nat.le_succ _, Nat.le_succ _, Nat.le_succ _, Nat.le_succ _⟩
    | false => exact ⟨Nat.le_succ _, (by show (pApp ls _).length ≤ _; unfold pApp; simp), hand_len _ _ _, Nat.le_succ _⟩
theorem lt62s {n m b : Nat} (h : n * b ≤ 140737488351232) (hb : 1 ≤ b) (hm : m ≤ n + 1) : m < 4611686018427387904 := by
  have := Nat.mul_le_mul_left n hb
  omega

end Go.Proofs.Ytoalcmpjfnlkdaa
