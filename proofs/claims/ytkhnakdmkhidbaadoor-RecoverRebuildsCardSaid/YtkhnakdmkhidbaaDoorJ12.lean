/- Contracts, and what the evaluator says, as plain propositions: RdV. Printed by vc.py. -/
import Derived.Test.YtkhnakdmkhidbaaDoorJ11
import Derived.Test.YtkhnakdmkhidbaaDoorJ5
import Derived.Test.YtkhnakdmkhidbaaDoorJ10
import Derived.Test.YtkhnakdmkhidbaaDoorJ1
import Derived.Test.YtkhnakdmkhidbaaDoorJ2

/- What comes back from a tape: a record is taken in. No condition. -/
namespace Go.Proofs.YtkhnakdmkhidbaaDoor
open Go.RowKit

theorem dmgR_same {r : RecD} {x : NoteD} (h : hitR r x = false) : dmgR r x = x := by unfold dmgR; rw [h]; rfl
theorem dmgR_hit {r : RecD} {x : NoteD} (h : hitR r x = true) : dmgR r x = (x.1, x.2.1, x.2.2.1, true, ()) := by unfold dmgR; rw [h]; rfl
theorem damRK_len {r : RecD} {ns : List NoteD} {k : Nat} (h : k ≤ ns.length) : (damRK r ns k).length = ns.length := by
  unfold damRK; simp only [List.length_append, List.length_map, List.length_take, List.length_drop]; omega
theorem damRK_get {r : RecD} {ns : List NoteD} {k : Nat} (h : k < ns.length) : pGet tyNote (damRK r ns k) k = pGet tyNote ns k := by
  unfold pGet damRK
  rw [List.getD_eq_getElem?_getD, List.getD_eq_getElem?_getD, List.getElem?_append_right (by simp only [List.length_map, List.length_take]; omega)]
  simp only [List.length_map, List.length_take, List.getElem?_drop]
  rw [show k + (k - min k ns.length) = k from by omega]
theorem damRK_set {r : RecD} {ns : List NoteD} {k : Nat} (h : k < ns.length) : pSet (damRK r ns k) k (dmgR r (pGet tyNote ns k)) = damRK r ns (k + 1) := by
  unfold pSet damRK
  have hl : ((ns.take k).map (dmgR r)).length = k := by simp only [List.length_map, List.length_take]; omega
  rw [List.set_append_right _ _ (by omega), hl, Nat.sub_self, List.take_succ_eq_append_getElem h, List.map_append, List.append_assoc, List.drop_eq_getElem_cons h, pGet_lt (t := tyNote) h]
  rfl
theorem damRK_skip {r : RecD} {ns : List NoteD} {k : Nat} (h : k < ns.length) (hn : hitR r (pGet tyNote ns k) = false) : damRK r ns k = damRK r ns (k + 1) := by
  rw [← damRK_set h, dmgR_same hn]
  unfold pSet
  have e : (damRK r ns k)[k]? = some (pGet tyNote ns k) := by
    have hl : k < (damRK r ns k).length := by rw [damRK_len (Nat.le_of_lt h)]; exact h
    rw [List.getElem?_eq_getElem hl, ← pGet_lt (t := tyNote) hl, damRK_get h]
  obtain ⟨hl, e2⟩ := List.getElem?_eq_some_iff.1 e
  rw [← e2, List.set_getElem_self]
theorem damRK_all (r : RecD) (ns : List NoteD) : damRK r ns ns.length = ns.map (dmgR r) := by
  unfold damRK
  rw [List.take_length, List.drop_length, List.append_nil]
theorem endM_ns {me : Int} {m : MemD} {t : TxnD} {g : Bool} : (endM me m t g).2.2.2.2 = m.2.2.2.2 := by
  unfold endM; cases pEq (endE (mSto m) t) 0 <;> rfl

set_option maxHeartbeats 4000000 in
theorem mone_ok : Meets Tryd.prog (fun _ => none) 37 cmone := mone_meets WriteW_ok mend_ok mcomm_ok delDJ_ok fun rk rs rn ry rv ra rd rl me is ls ds os nx js ns hp => by
  have hm : MemOk (is, ls, ds, os, nx, js, ns, ()) := hp (MemOk (is, ls, ds, os, nx, js, ns, ())) (by simp)
  have hn : inF rn 1 1048576 = true := hp (inF rn 1 1048576 = true) (by simp)
  have hl : rl.length < 1000000 := hp (pLen rl < 1000000) (by simp)
  clear hp
  have hs : StoOk (is, ls, ds, os, ()) := small_ok hm.1
  have hnl : ns.length < 1759218604441 := hm.2.2
  have j6 : js.length ≤ 6 := hm.2.1.1
  have hE : (endM me (is, ls, ds, os, nx, js, ns, ()) (rs, rn, ()) rd).2.2.2.2 = (nx, js, ns, ()) := endM_ns
  have hE2 : (endM me (is, ls, ds, os, nx, js, ns, ()) (rs, rn, ()) rd).2.2.2.2.2.2.1 = ns := congrArg (·.2.2.1) hE
  unfold mone_VC mone_t0 mone_v0 mone_v1
  refine bif_ok (fun k1 => ⟨hs, bif_ok (fun e => ?_) fun e => ?_⟩) fun k1 => bif_ok (fun k2 => ⟨hs, ?_, fun y hy => ?_⟩) fun k2 => bif_ok (fun k6 => ⟨hs, ?_, ?_⟩) fun k6 =>
    bif_ok (fun k3 => ⟨hm, hn, hl, ?_⟩) fun k3 => bif_ok (fun k4 => ⟨by show js.length < _; omega, ?_⟩) fun k4 => bif_ok (fun k5 => bif_ok (fun e => ?_) fun e => ?_) fun k5 => ?_
  · have e2 : (stepM me (is, ls, ds, os, nx, js, ns, ()) (rk, rs, rn, ry, rv, ra, rd, rl, ())) = withS (is, ls, ds, os, nx, js, ns, ()) (writeS (is, ls, ds, os, ()) (rs, rn, ()) ry rv ra) := by
      unfold stepM
      rw [show pEq ((rk, rs, rn, ry, rv, ra, rd, rl, ()) : RecD).1 1 = true from k1, cond_true, show pEq (writeE (mSto (is, ls, ds, os, nx, js, ns, ())) (rTxn (rk, rs, rn, ry, rv, ra, rd, rl, ())) ry rv ra) 0 = true from e]; rfl
    rw [e2]; rfl
  · have e2 : (stepM me (is, ls, ds, os, nx, js, ns, ()) (rk, rs, rn, ry, rv, ra, rd, rl, ())) = (is, ls, ds, os, nx, js, ns, ()) := by
      unfold stepM
      rw [show pEq ((rk, rs, rn, ry, rv, ra, rd, rl, ()) : RecD).1 1 = true from k1, cond_true, show pEq (writeE (mSto (is, ls, ds, os, nx, js, ns, ())) (rTxn (rk, rs, rn, ry, rv, ra, rd, rl, ())) ry rv ra) 0 = false from e]; rfl
    rw [e2]
  · rw [hE2]; exact ⟨0, rfl, Nat.zero_le _⟩
  · obtain ⟨k, rfl, hk⟩ := hy
    rw [hE2]
    by_cases hkn : k < ns.length
    · rw [bif_true (by simp [pLt_coe, pLen, hkn])]
      dsimp only
      rw [pNat_coe, damRK_get hkn]
      have hb : k < 4611686018427387904 := by omega
      have hin : pIn (k : Int) (pLen (damRK (rk, rs, rn, ry, rv, ra, rd, rl, ()) ns k)) := by
        unfold pLen; rw [damRK_len hk]; exact pIn_coe.2 hkn
      have nx' : ∀ A : List NoteD, A = damRK (rk, rs, rn, ry, rv, ra, rd, rl, ()) ns (k + 1) → moneInv rk rs rn ry rv ra rd rl me is ls ds os nx js ns (pAdd .i64 (k : Int) 1, A, ()) := fun A e => ⟨k + 1, by rw [pAdd1 hb, e], hkn⟩
      refine ⟨hin, bif_ok (fun a => bif_ok (fun b => ⟨hin, nx' _ ?_, mu_step hkn hb⟩) fun b => ⟨nx' _ (damRK_skip hkn ?_), mu_step hkn hb⟩) fun a => ⟨nx' _ (damRK_skip hkn ?_), mu_step hkn hb⟩⟩
      · rw [← damRK_set hkn, dmgR_hit]
        show (pAndB (pEq _ rs) (pEq _ rn) && pNot (pBeq _ rd)) = true
        rw [a, b]; rfl
      · show (pAndB (pEq _ rs) (pEq _ rn) && pNot (pBeq _ rd)) = false
        rw [b, Bool.and_false]
      · show (pAndB (pEq _ rs) (pEq _ rn) && pNot (pBeq _ rd)) = false
        rw [a, Bool.false_and]
    · obtain rfl : k = ns.length := by omega
      rw [bif_false (by simp [pLt_coe, pLen])]
      dsimp only
      have e2 : (stepM me (is, ls, ds, os, nx, js, ns, ()) (rk, rs, rn, ry, rv, ra, rd, rl, ())) = withNs (endM me (is, ls, ds, os, nx, js, ns, ()) (rs, rn, ()) rd) (ns.map (dmgR (rk, rs, rn, ry, rv, ra, rd, rl, ()))) := by
        unfold stepM
        rw [show pEq ((rk, rs, rn, ry, rv, ra, rd, rl, ()) : RecD).1 1 = false from k1, cond_false, show pEq ((rk, rs, rn, ry, rv, ra, rd, rl, ()) : RecD).1 2 = true from k2]; rfl
      rw [e2, damRK_all]; rfl
  · rw [hE2]; show (ns.length + 1) * 24 ≤ 140737488351232; omega
  · rw [hE2]
    have e2 : (stepM me (is, ls, ds, os, nx, js, ns, ()) (rk, rs, rn, ry, rv, ra, rd, rl, ())) = withNs (endM me (is, ls, ds, os, nx, js, ns, ()) (rs, rn, ()) rd) (pApp ns [(rs, rn, rd, false, ())]) := by
      unfold stepM
      rw [show pEq ((rk, rs, rn, ry, rv, ra, rd, rl, ()) : RecD).1 1 = false from k1, cond_false, show pEq ((rk, rs, rn, ry, rv, ra, rd, rl, ()) : RecD).1 2 = false from k2, cond_false, show pEq ((rk, rs, rn, ry, rv, ra, rd, rl, ()) : RecD).1 6 = true from k6]; rfl
    rw [e2]; rfl
  all_goals
    have e0 : (stepM me (is, ls, ds, os, nx, js, ns, ()) (rk, rs, rn, ry, rv, ra, rd, rl, ())) = cond (pEq rk 3) (commM me (is, ls, ds, os, nx, js, ns, ()) (rk, rs, rn, ry, rv, ra, rd, rl, ())) (cond (pEq rk 4) (withJ (is, ls, ds, os, nx, js, ns, ()) (delJ js rs rn me)) (cond (pEq rk 5) (cond (pEq rs me) (withX (is, ls, ds, os, nx, js, ns, ()) (pMax nx (pAdd .i64 rn 1))) (is, ls, ds, os, nx, js, ns, ())) (is, ls, ds, os, nx, js, ns, ()))) := by
      unfold stepM
      rw [show pEq ((rk, rs, rn, ry, rv, ra, rd, rl, ()) : RecD).1 1 = false from k1, cond_false, show pEq ((rk, rs, rn, ry, rv, ra, rd, rl, ()) : RecD).1 2 = false from k2, cond_false, show pEq ((rk, rs, rn, ry, rv, ra, rd, rl, ()) : RecD).1 6 = false from k6]; rfl
  · rw [e0, k3]; rfl
  · rw [e0, k3, k4]; rfl
  · rw [e0, k3, k4, k5, e]; rfl
  · rw [e0, k3, k4, k5, e]; rfl
  · rw [e0, k3, k4, k5]; rfl


end Go.Proofs.YtkhnakdmkhidbaaDoor

/- What comes back from a tape: what is small stays small, jobs stay in order. No condition. -/
namespace Go.Proofs.YtkhnakdmkhidbaaDoor
open Go.RowKit

theorem sortJ_iff {l : List JobD} : sortJ l = true ↔ l.Pairwise fun a b => a.1 < b.1 := by
  constructor
  · intro h
    rw [List.pairwise_iff_getElem]
    intro i j hi hj hij
    have := jobs_up h hij hj
    rw [pGet_lt (t := tyJob) hi, pGet_lt (t := tyJob) hj] at this
    simpa [pLt] using this
  · intro h
    rw [List.pairwise_iff_getElem] at h
    unfold sortJ
    rw [allUpto_iff]
    intro j hj
    by_cases h0 : j = 0
    · rw [h0]; rfl
    · have := h (j - 1) j (by omega) hj (by omega)
      rw [pGet_lt (t := tyJob) hj, pGet_lt (t := tyJob) (show j - 1 < l.length by omega)]
      simp only [Bool.or_eq_true, decide_eq_true_eq, pLt]
      exact .inr this
theorem least (l : List JobD) (k : Int) : ∀ n, n ≤ l.length → (∀ m, m < n → pGe (pGet tyJob l m).1 k = false) ∨ ∃ i, i < n ∧ (∀ m, m < i → pGe (pGet tyJob l m).1 k = false) ∧ pGe (pGet tyJob l i).1 k = true
  | 0, _ => .inl fun m hm => absurd hm (by omega)
  | n + 1, hn => by
    rcases least l k n (by omega) with h | ⟨i, h1, h2, h3⟩
    · cases hq : pGe (pGet tyJob l n).1 k with
      | true => exact .inr ⟨n, by omega, h, hq⟩
      | false =>
        refine .inl fun m hm => ?_
        rcases Nat.lt_succ_iff_lt_or_eq.1 hm with h1 | h1
        · exact h m h1
        · rw [h1]; exact hq
    · exact .inr ⟨i, by omega, h2, h3⟩
theorem posJ_is (l : List JobD) (k : Int) : ∃ i : Nat, posJ l k = (i : Int) ∧ i ≤ l.length ∧ (∀ m, m < i → pGe (pGet tyJob l m).1 k = false) ∧ (i < l.length → pGe (pGet tyJob l i).1 k = true) := by
  rcases least l k l.length (Nat.le_refl _) with h | ⟨i, h1, h2, h3⟩
  · exact ⟨l.length, posJ_at (Nat.le_refl _) h (fun h => absurd h (by omega)), Nat.le_refl _, h, fun h => absurd h (by omega)⟩
  · exact ⟨i, posJ_at (by omega) h2 (fun _ => h3), by omega, h2, fun _ => h3⟩
theorem ins_sort {l : List JobD} {x : JobD} (hs : l.Pairwise fun a b => a.1 < b.1) (hk : pGe (idxKeyJ l x.1) 0 = false) : (pIns l (pNat (posJ l x.1)) x).Pairwise fun a b => a.1 < b.1 := by
  obtain ⟨i, hi, hil, h1, h2⟩ := posJ_is l x.1
  rw [hi, pNat_coe]
  unfold pIns
  have ha : anyUpto (keyAtJ l x.1) l.length = false := by rw [← idxOf_ge]; exact hk
  have hne : ∀ j (hj : j < l.length), l[j].1 ≠ x.1 := fun j hj he => by
    have : anyUpto (keyAtJ l x.1) l.length = true := anyUpto_iff.2 ⟨j, hj, by unfold keyAtJ; rw [pGet_lt (t := tyJob) hj]; simp [pEq, he]⟩
    rw [ha] at this; cases this
  have hlow : ∀ j (hj : j < l.length), j < i → l[j].1 < x.1 := fun j hj hji => by
    have := h1 j hji
    rw [pGet_lt (t := tyJob) hj] at this
    simp only [pGe, decide_eq_false_iff_not] at this
    omega
  have hhi : ∀ j (hj : j < l.length), i ≤ j → x.1 < l[j].1 := fun j hj hji => by
    have hi' : i < l.length := by omega
    have h3 := h2 hi'
    rw [pGet_lt (t := tyJob) hi'] at h3
    simp only [pGe, decide_eq_true_eq] at h3
    have h4 := hne i hi'
    by_cases he : i = j
    · subst he; omega
    · have := List.pairwise_iff_getElem.1 hs i j hi' hj (by omega)
      omega
  rw [List.pairwise_append]
  refine ⟨hs.sublist (List.take_sublist _ _), ?_, ?_⟩
  · rw [List.pairwise_cons]
    refine ⟨fun b hb => ?_, hs.sublist (List.drop_sublist _ _)⟩
    obtain ⟨j, hj, rfl⟩ := List.getElem_of_mem hb
    rw [List.getElem_drop]
    exact hhi _ _ (by omega)
  · intro a ha2 b hb
    obtain ⟨j, hj, rfl⟩ := List.getElem_of_mem ha2
    rw [List.getElem_take]
    rw [List.length_take] at hj
    have hja := hlow j (by omega) (by omega)
    rcases List.mem_cons.1 hb with hb | hb
    · rw [hb]; exact hja
    · obtain ⟨q, hq, rfl⟩ := List.getElem_of_mem hb
      rw [List.getElem_drop]
      rw [List.length_drop] at hq
      have := hhi (i + q) (by omega) (by omega)
      omega
theorem ins_len {α : Type} (l : List α) {i : Nat} (x : α) (h : i ≤ l.length) : (pIns l i x).length = l.length + 1 := by
  unfold pIns
  simp only [List.length_append, List.length_take, List.length_cons, List.length_drop]; omega
theorem ins_mem {α : Type} {l : List α} {i : Nat} {x y : α} (h : y ∈ pIns l i x) : y = x ∨ y ∈ l := by
  unfold pIns at h
  rcases List.mem_append.1 h with h | h
  · exact .inr (List.mem_of_mem_take h)
  · rcases List.mem_cons.1 h with h | h
    · exact .inl h
    · exact .inr (List.mem_of_mem_drop h)

/-- jobs that may be there -/
def JobsOk (js : List JobD) : Prop := js.length ≤ 6 ∧ sortJ js = true ∧ JobsIn js
def MemK (n : Nat) (m : MemD) : Prop := SmallS (mSto m) ∧ JobsOk m.2.2.2.2.2.1 ∧ m.2.2.2.2.2.2.1.length ≤ n
theorem MemK.ok {n : Nat} {m : MemD} (h : MemK n m) (hn : n < 1759218604441) : MemOk m := ⟨h.1, h.2.1, by have := h.2.2; omega⟩
theorem few_small {s : StoD} (h : FewS s) : SmallS s := h
theorem memK_zero : MemK 0 mem0 := ⟨⟨by decide, by decide, by decide, by decide⟩, ⟨by decide, by rfl, fun q hq => by cases hq⟩, by decide⟩
theorem askE_sto {s : StoD} {t : TxnD} {k : Int} (h : pEq (askE s t k) 0 = true) : stoF s = true := by
  unfold askE at h
  cases hs : stoF s with
  | true => rfl
  | false => rw [hs] at h; cases h
theorem writeE_sto {s : StoD} {t : TxnD} {k v a : Int} (h : pEq (writeE s t k v a) 0 = true) : stoF s = true := by
  cases he : pEq (askE s t k) 0 with
  | true => exact askE_sto he
  | false => unfold writeE at h; rw [he, cond_false] at h; rw [h] at he; cases he
theorem endM_k {me : Int} {m : MemD} {t : TxnD} {g : Bool} (h : SmallS (mSto m)) : SmallS (mSto (endM me m t g)) := by
  unfold endM
  cases he : pEq (endE (mSto m) t) 0 with
  | false => exact h
  | true => exact few_small (few_end (askE_sto (k := 0) he) t g)
theorem commM_k {me : Int} {m : MemD} {r : RecD} (h : JobsOk m.2.2.2.2.2.1) (hr : inF r.2.2.1 1 1048576 = true) : JobsOk (commM me m r).2.2.2.2.2.1 := by
  unfold commM
  cases he : noComm me m r with
  | true => exact h
  | false =>
    unfold noComm at he
    simp only [Bool.or_eq_false_iff] at he
    obtain ⟨h1, _, _, _, h5⟩ := he
    obtain ⟨a, b, c⟩ := h
    show JobsOk (pIns m.2.2.2.2.2.1 (pNat (posJ m.2.2.2.2.2.1 (jobOf r).1)) (jobOf r))
    refine ⟨?_, sortJ_iff.2 (ins_sort (sortJ_iff.1 b) h1), fun q hq => ?_⟩
    · obtain ⟨i, hi, hil, _⟩ := posJ_is m.2.2.2.2.2.1 (jobOf r).1
      rw [hi, pNat_coe, ins_len _ _ hil]
      simp only [pEq, pInt, beq_eq_false_iff_ne] at h5
      omega
    · rcases ins_mem hq with rfl | hq
      · exact hr
      · exact c q hq
theorem delJ_k {js : List JobD} (h : JobsOk js) (rs rn me : Int) : JobsOk (delJ js rs rn me) := by
  obtain ⟨a, b, c⟩ := h
  refine ⟨Nat.le_trans (List.length_filter_le _ _) a, sortJ_iff.2 ((sortJ_iff.1 b).filter _), fun q hq => c q (List.mem_filter.1 hq).1⟩
theorem stepM_k {n : Nat} {me : Int} {m : MemD} {r : RecD} (h : MemK n m) (hr : inF r.2.2.1 1 1048576 = true) : MemK (n + 1) (stepM me m r) := by
  obtain ⟨h1, h2, h3⟩ := h
  have h4 : m.2.2.2.2.2.2.1.length ≤ n + 1 := by omega
  have hE : ∀ g, (endM me m (rTxn r) g).2.2.2.2 = m.2.2.2.2 := fun g => endM_ns
  unfold stepM
  cases k1 : pEq r.1 1 with
  | true =>
    simp only [cond_true]
    cases he : pEq (writeE (mSto m) (rTxn r) r.2.2.2.1 r.2.2.2.2.1 r.2.2.2.2.2.1) 0 with
    | true => exact ⟨few_small (few_write (writeE_sto he) _ _ _ _), h2, h4⟩
    | false => exact ⟨h1, h2, h4⟩
  | false =>
    simp only [cond_false]
    cases k2 : pEq r.1 2 with
    | true =>
      simp only [cond_true]
      refine ⟨endM_k (me := me) (t := rTxn r) (g := r.2.2.2.2.2.2.1) h1, ?_, ?_⟩
      · show JobsOk (endM me m (rTxn r) r.2.2.2.2.2.2.1).2.2.2.2.2.1
        rw [hE]; exact h2
      · show (m.2.2.2.2.2.2.1.map (dmgR r)).length ≤ n + 1
        rw [List.length_map]; exact h4
    | false =>
      simp only [cond_false]
      cases k6 : pEq r.1 6 with
      | true =>
        simp only [cond_true]
        refine ⟨endM_k (me := me) (t := rTxn r) (g := r.2.2.2.2.2.2.1) h1, ?_, ?_⟩
        · show JobsOk (endM me m (rTxn r) r.2.2.2.2.2.2.1).2.2.2.2.2.1
          rw [hE]; exact h2
        · show (m.2.2.2.2.2.2.1 ++ [_]).length ≤ n + 1
          rw [List.length_append]; show m.2.2.2.2.2.2.1.length + 1 ≤ n + 1; omega
      | false =>
        simp only [cond_false]
        cases k3 : pEq r.1 3 with
        | true =>
          simp only [cond_true]
          refine ⟨?_, commM_k h2 hr, ?_⟩
          · unfold commM; cases noComm me m r <;> exact h1
          · unfold commM; cases noComm me m r <;> exact h4
        | false =>
          simp only [cond_false]
          cases k4 : pEq r.1 4 with
          | true => exact ⟨h1, delJ_k h2 _ _ _, h4⟩
          | false =>
            simp only [cond_false]
            cases k5 : pEq r.1 5 with
            | true => simp only [cond_true]; cases pEq r.2.1 me <;> exact ⟨h1, h2, h4⟩
            | false => exact ⟨h1, h2, h4⟩
theorem memK_succ {me : Int} {l : List RecD} {k : Nat} (h : k < l.length) : memK me l (k + 1) = stepM me (memK me l k) (pGet tyRec l k) := by
  unfold memK
  rw [List.take_succ_eq_append_getElem h, List.foldl_append, pGet_lt (t := tyRec) h]
  rfl
theorem memK_k {me : Int} {l : List RecD} (hr : ∀ j, j < l.length → inF (pGet tyRec l j).2.2.1 1 1048576 = true) : ∀ k, k ≤ l.length → MemK k (memK me l k)
  | 0, _ => memK_zero
  | k + 1, h => by rw [memK_succ (by omega)]; exact stepM_k (memK_k hr k (by omega)) (hr k (by omega))

/-- a record that may be has few sites, and a number -/
theorem sites_up {cn : Int} {l : List ND} (h : allUpto (siteAt cn l) l.length = true) : ∀ j, j < l.length → (j : Int) ≤ (pGet tyN l j).1 ∧ (pGet tyN l j).1 < cn
  | 0, hj => by
    have := allUpto_iff.1 h 0 hj
    unfold siteAt at this
    simp only [Bool.and_eq_true, pLe, pLt, decide_eq_true_eq] at this
    exact ⟨this.1.1, this.1.2⟩
  | j + 1, hj => by
    have h1 := allUpto_iff.1 h (j + 1) hj
    have h2 := sites_up h j (by omega)
    unfold siteAt at h1
    simp only [Bool.and_eq_true, Bool.or_eq_true, pLe, pLt, decide_eq_true_eq, Nat.add_sub_cancel] at h1
    obtain ⟨⟨_, h3⟩, h4⟩ := h1
    rcases h4 with h4 | h4
    · omega
    · exact ⟨by omega, h3⟩
theorem cfg_n {c : CfgD} (h : pEq (cfgF c) 0 = true) : 1 ≤ c.1 ∧ c.1 ≤ 4 := by
  unfold cfgF at h
  cases h1 : inF c.1 1 4 with
  | false => rw [h1] at h; cases h
  | true => exact inF_iff.1 h1
theorem rec_ok {c : CfgD} {r : RecD} (h : pEq (recF c r) 0 = true) : inF r.2.2.1 1 1048576 = true ∧ pLen r.2.2.2.2.2.2.2.1 < 1000000 := by
  unfold recF at h
  cases hc : pEq (cfgF c) 0 with
  | false => rw [hc, cond_false] at h; rw [h] at hc; cases hc
  | true =>
    rw [hc, cond_true] at h
    cases hk : inF r.1 1 6 with
    | false => rw [hk] at h; cases h
    | true =>
      rw [hk, cond_true] at h
      cases hr : recRange c r with
      | false => rw [hr] at h; cases h
      | true =>
        unfold recRange at hr
        simp only [Bool.and_eq_true] at hr
        obtain ⟨⟨⟨⟨h1, _⟩, _⟩, _⟩, h5⟩ := hr
        have hc4 := cfg_n hc
        refine ⟨?_, ?_⟩
        · unfold wtxF at h1
          simp only [Bool.and_eq_true] at h1
          first | exact h1.2 | exact h1.2.2
        · show r.2.2.2.2.2.2.2.1.length < 1000000
          by_cases h0 : r.2.2.2.2.2.2.2.1.length = 0
          · omega
          · have h8 := sites_up h5 (r.2.2.2.2.2.2.2.1.length - 1) (by omega)
            have h9 : ((r.2.2.2.2.2.2.2.1.length - 1 : Nat) : Int) < c.1 := Int.lt_of_le_of_lt h8.1 h8.2
            clear h8
            omega


end Go.Proofs.YtkhnakdmkhidbaaDoor

/- Contracts, and what the evaluator says, as plain propositions: PdV. Printed by vc.py. -/
namespace Go.Proofs.YtkhnakdmkhidbaaDoor
open Go.RowKit Go.ChangeShapes Go.WideShapes Go.Deep

end Go.Proofs.YtkhnakdmkhidbaaDoor

/- Messages: the checks meet their contracts. No condition. -/
namespace Go.Proofs.YtkhnakdmkhidbaaDoor
open Go.RowKit

theorem wtxn_ok : Meets Tryd.prog (fun _ => none) 48 cwtxn := wtxn_meets fun cn cl cp ts tn => by
  unfold wtxn_VC
  (repeat' (first | refine bif_ok (fun h => ?_) (fun h => ?_) | refine And.intro ?_ ?_ | fail))
  all_goals (refine leafE ?_; simp only [wtxF]; grind [pLt, pLe, pGt, pGe, pEq, pNe, pNot, pAndB, pBeq, pInt, pLen, inF, pIn, pTo, pNat])
theorem wkey_ok : Meets Tryd.prog (fun _ => none) 49 cwkey := wkey_meets fun a => by
  unfold wkey_VC
  (repeat' (first | refine bif_ok (fun h => ?_) (fun h => ?_) | refine And.intro ?_ ?_ | fail))
  all_goals (refine leafE ?_; grind [pLt, pLe, pGt, pGe, pEq, pNe, pNot, pAndB, pBeq, pInt, pLen, inF, pIn, pTo, pNat])
theorem wvalue_ok : Meets Tryd.prog (fun _ => none) 50 cwvalue := wvalue_meets fun a => by
  unfold wvalue_VC
  (repeat' (first | refine bif_ok (fun h => ?_) (fun h => ?_) | refine And.intro ?_ ?_ | fail))
  all_goals (refine leafE ?_; grind [pLt, pLe, pGt, pGe, pEq, pNe, pNot, pAndB, pBeq, pInt, pLen, inF, pIn, pTo, pNat])
theorem wask_ok : Meets Tryd.prog (fun _ => none) 51 cwask := wask_meets fun a => by
  unfold wask_VC
  (repeat' (first | refine bif_ok (fun h => ?_) (fun h => ?_) | refine And.intro ?_ ?_ | fail))
  all_goals (refine leafE ?_; grind [pLt, pLe, pGt, pGe, pEq, pNe, pNot, pAndB, pBeq, pInt, pLen, inF, pIn, pTo, pNat])
theorem txnMay_ok : Meets Tryd.prog (fun _ => none) 67 ctxnMay := txnMay_meets In_ok fun cn cl cp ts tn hp => by
  have h4 : inF cn 1 4 = true := hp _ List.mem_cons_self
  have h5 := inF_iff.1 h4
  unfold txnMay_VC
  rw [pSubI_in (a := cn) (b := 1) (by omega)]
  (repeat' (first | refine bif_ok (fun h => ?_) (fun h => ?_) | refine And.intro ?_ ?_ | fail))
  all_goals (refine leafE ?_; simp only [wtxF]; grind [pLt, pLe, pGt, pGe, pEq, pNe, pNot, pAndB, pBeq, pInt, pLen, inF, pIn, pTo, pNat])

end Go.Proofs.YtkhnakdmkhidbaaDoor

/- Contracts, and what the evaluator says, as plain propositions: RcV. Printed by vc.py. -/
namespace Go.Proofs.YtkhnakdmkhidbaaDoor
open Go.RowKit Go.ChangeShapes Go.WideShapes Go.Deep

abbrev RecordFault_S : Shape := ⟨[pCfg, pRec], []⟩
abbrev RecordFault_f : Shape.den RecordFault_S → denVars [.slot 0 false tI] := fun x => (recF x.1.1 x.1.2.1, ())
abbrev RecordFault_p : Shape.den RecordFault_S → List Prop := fun x => [pLen x.1.1.2.1 < 4611686018427387904, pLen x.1.2.1.2.2.2.2.2.2.2.1 < 4611686018427387904]
def cRecordFault : Ctr := shCtr RecordFault_S RecordFault_p [] [.slot 0 false tI] RecordFault_f
abbrev eqsRxV : List TypeId := [28, 103, 105, 107, 65, 31, 57, 139]

abbrev RecordFault_t1 (cn : Int) (cl : (List LabD)) (cp : Int) (rk : Int) (rs : Int) (rn : Int) (ry : Int) (rv : Int) (ra : Int) (rd : Bool) (rl : (List ND)) : Prop := bif pNe rk (3 : Int) then bif pGt (pInt (pLen rl)) (0 : Int) then ((4 : Int), ()) = (recF (cn, cl, cp, ()) (rk, rs, rn, ry, rv, ra, rd, rl, ()), ()) else ((0 : Int), ()) = (recF (cn, cl, cp, ()) (rk, rs, rn, ry, rv, ra, rd, rl, ()), ())
 else ((0 : Int), ()) = (recF (cn, cl, cp, ()) (rk, rs, rn, ry, rv, ra, rd, rl, ()), ())
abbrev RecordFault_t0 (cn : Int) (cl : (List LabD)) (cp : Int) (rk : Int) (rs : Int) (rn : Int) (ry : Int) (rv : Int) (ra : Int) (rd : Bool) (rl : (List ND)) : Prop := bif pNe rk (2 : Int) then bif pNe rk (6 : Int) then bif rd then ((4 : Int), ()) = (recF (cn, cl, cp, ()) (rk, rs, rn, ry, rv, ra, rd, rl, ()), ()) else RecordFault_t1 cn cl cp rk rs rn ry rv ra rd rl else RecordFault_t1 cn cl cp rk rs rn ry
 rv ra rd rl else RecordFault_t1 cn cl cp rk rs rn ry rv ra rd rl

def RecordFault_VC (cn : Int) (cl : (List LabD)) (cp : Int) (rk : Int) (rs : Int) (rn : Int) (ry : Int) (rv : Int) (ra : Int) (rd : Bool) (rl : (List ND)) : Prop :=
  Nat.le (Nat.succ (pLen cl)) 4611686018427387904 ∧ bif pNe (cfgF (cn, cl, cp, ())) (0 : Int) then (cfgF (cn, cl, cp, ()), ()) = (recF (cn, cl, cp, ()) (rk, rs, rn, ry, rv, ra, rd, rl, ()), ()) else bif pNot (inF rk (1 : Int) (6 : Int)) then
 ((3 : Int), ()) = (recF (cn, cl, cp, ()) (rk, rs, rn, ry, rv, ra, rd, rl, ()), ()) else inF cn (1 : Int) (4 : Int) = Bool.true ∧ bif pNot (wtxF (cn, cl, cp, ()) rs rn) then ((2 : Int), ()) = (recF (cn, cl, cp, ()) (rk, rs, rn, ry, rv, ra,
 rd, rl, ()), ()) else bif pNot (inF ry (0 : Int) (7 : Int)) then ((2 : Int), ()) = (recF (cn, cl, cp, ()) (rk, rs, rn, ry, rv, ra, rd, rl, ()), ()) else bif pNot (inF rv (0 : Int) (1073741824 : Int)) then ((2 : Int), ()) = (recF (cn, cl,
 cp, ()) (rk, rs, rn, ry, rv, ra, rd, rl, ()), ()) else bif pNot (inF ra (0 : Int) (1048576 : Int)) then ((2 : Int), ()) = (recF (cn, cl, cp, ()) (rk, rs, rn, ry, rv, ra, rd, rl, ()), ()) else recSInv cn cl cp rk rs rn ry rv ra rd rl ((0 :
 Int), ()) ∧ ∀ (y : kden Bool.false tI × PUnit), recSInv cn cl cp rk rs rn ry rv ra rd rl y → bif pLt y.1 (pInt (pLen rl)) then pIn y.1 (pLen rl) ∧ bif pNot (inF (pGet tyN rl (pNat y.1)).1 (0 : Int) (pSubI IntKind.i64 cn (1 : Int))) then ((2
 : Int), ()) = (recF (cn, cl, cp, ()) (rk, rs, rn, ry, rv, ra, rd, rl, ()), ()) else bif pGt y.1 (0 : Int) then pIn y.1 (pLen rl) ∧ pIn (pSubI IntKind.i64 y.1 (1 : Int)) (pLen rl) ∧ bif pLe (pGet tyN rl (pNat y.1)).1 (pGet tyN rl (pNat
 (pSubI IntKind.i64 y.1 (1 : Int)))).1 then ((2 : Int), ()) = (recF (cn, cl, cp, ()) (rk, rs, rn, ry, rv, ra, rd, rl, ()), ()) else recSInv cn cl cp rk rs rn ry rv ra rd rl (pAdd IntKind.i64 y.1 (1 : Int), ()) ∧ Nat.le (Nat.succ (recSMu cn
 cl cp rk rs rn ry rv ra rd rl (pAdd IntKind.i64 y.1 (1 : Int), ()))) (recSMu cn cl cp rk rs rn ry rv ra rd rl y) else recSInv cn cl cp rk rs rn ry rv ra rd rl (pAdd IntKind.i64 y.1 (1 : Int), ()) ∧ Nat.le (Nat.succ (recSMu cn cl cp rk rs rn
 ry rv ra rd rl (pAdd IntKind.i64 y.1 (1 : Int), ()))) (recSMu cn cl cp rk rs rn ry rv ra rd rl y) else bif pNe rk (1 : Int) then bif pNe ry (0 : Int) then ((4 : Int), ()) = (recF (cn, cl, cp, ()) (rk, rs, rn, ry, rv, ra, rd, rl, ()), ())
 else bif pNe rv (0 : Int) then ((4 : Int), ()) = (recF (cn, cl, cp, ()) (rk, rs, rn, ry, rv, ra, rd, rl, ()), ()) else bif pNe ra (0 : Int) then ((4 : Int), ()) = (recF (cn, cl, cp, ()) (rk, rs, rn, ry, rv, ra, rd, rl, ()), ()) else
 RecordFault_t0 cn cl cp rk rs rn ry rv ra rd rl else RecordFault_t0 cn cl cp rk rs rn ry rv ra rd rl
set_option maxRecDepth 100000 in
theorem RecordFault_meets (hcFault : Mt 38 ccFault) (hIn : Mt 39 cIn) (htxnMay : Mt 67 ctxnMay) (h : ∀ (cn : Int) (cl : (List LabD)) (cp : Int) (rk : Int) (rs : Int) (rn : Int) (ry : Int) (rv : Int) (ra : Int) (rd : Bool) (rl : (List ND)), (∀ p ∈ RecordFault_p ⟨((cn, cl, cp, ()), (rk, rs, rn, ry, rv, ra, rd, rl, ()), ()), ()⟩, p) → RecordFault_VC cn cl cp rk rs rn ry rv ra rd rl) : Mt 40 cRecordFault :=
  meets_vc (E := envOf Tryd.prog [(38, (false, ccFault)), (39, (false, cIn)), (67, (false, ctxnMay))] eqsRxV) (envOf_ok (fun p hp => (by simp only [List.mem_cons, List.not_mem_nil, or_false] at hp; rcases hp with rfl | rfl | rfl; exact hcFault; exact hIn; exact htxnMay)) (by kernel_rfl)) RecordFault_S (fun x => fun ky9 st9 => look [(9, (⟨[.slot 6 false tI], recSInv x.1.1.1 x.1.1.2.1 x.1.1.2.2.1 x.1.2.1.1 x.1.2.1.2.1 x.1.2.1.2.2.1 x.1.2.1.2.2.2.1 x.1.2.1.2.2.2.2.1 x.1.2.1.2.2.2.2.2.1 x.1.2.1.2.2.2.2.2.2.1 x.1.2.1.2.2.2.2.2.2.2.1, recSMu x.1.1.1 x.1.1.2.1 x.1.1.2.2.1 x.1.2.1.1 x.1.2.1.2.1 x.1.2.1.2.2.1 x.1.2.1.2.2.2.1 x.1.2.1.2.2.2.2.1 x.1.2.1.2.2.2.2.2.1 x.1.2.1.2.2.2.2.2.2.1 x.1.2.1.2.2.2.2.2.2.2.1⟩ : Ann))] ky9) Tryd.func40 (by kernel_rfl) (by kernel_rfl) RecordFault_p [] [.slot 0 false tI] RecordFault_f (fun x => RecordFault_VC x.1.1.1 x.1.1.2.1 x.1.1.2.2.1 x.1.2.1.1 x.1.2.1.2.1 x.1.2.1.2.2.1 x.1.2.1.2.2.2.1 x.1.2.1.2.2.2.2.1 x.1.2.1.2.2.2.2.2.1 x.1.2.1.2.2.2.2.2.2.1 x.1.2.1.2.2.2.2.2.2.2.1) (fun x => by kernel_rfl) (fun x hp => h x.1.1.1 x.1.1.2.1 x.1.1.2.2.1 x.1.2.1.1 x.1.2.1.2.1 x.1.2.1.2.2.1 x.1.2.1.2.2.2.1 x.1.2.1.2.2.2.2.1 x.1.2.1.2.2.2.2.2.1 x.1.2.1.2.2.2.2.2.2.1 x.1.2.1.2.2.2.2.2.2.2.1 hp)


end Go.Proofs.YtkhnakdmkhidbaaDoor

/- Records: the document's check meets its contract. No condition. -/
namespace Go.Proofs.YtkhnakdmkhidbaaDoor
open Go.RowKit

theorem recF_cfg {c : CfgD} {r : RecD} (h : pNe (cfgF c) 0 = true) : recF c r = cfgF c := by
  unfold recF; rw [show pEq (cfgF c) 0 = false by simpa [pNe, pEq] using h]; rfl
theorem recF_eq (cn : Int) (cl : List LabD) (cp rk rs rn ry rv ra : Int) (rd : Bool) (rl : List ND) (r1 r2 r3 r4 r5 r6 r7 r8 : Bool) (hc : pNe (cfgF (cn, cl, cp, ())) 0 = false) (hr : pGet tyParts recordsT (pNat rk) = (r1, r2, r3, r4, r5, r6, r7, r8, ())) :
    recF (cn, cl, cp, ()) (rk, rs, rn, ry, rv, ra, rd, rl, ()) = cond (inF rk 1 6) (cond (wtxF (cn, cl, cp, ()) rs rn && inF ry 0 7 && inF rv 0 1073741824 && inF ra 0 1048576 && allUpto (siteAt cn rl) rl.length)
      (cond ((r2 || pEq ry 0) && (r3 || pEq rv 0) && (r5 || pEq ra 0) && (r6 || !rd) && (r8 || pEq (pInt rl.length) 0)) 0 4) 2) 3 := by
  unfold recF recForm
  rw [show pEq (cfgF (cn, cl, cp, ())) 0 = true by simpa [pNe, pEq] using hc]
  simp only [hr, cond_true]
  rfl

theorem rrow1 : pGet tyParts recordsT (pNat 1) = (false, true, true, false, true, false, false, false, ()) := rfl
theorem rrow2 : pGet tyParts recordsT (pNat 2) = (false, false, false, false, false, true, false, false, ()) := rfl
theorem rrow3 : pGet tyParts recordsT (pNat 3) = (false, false, false, false, false, false, false, true, ()) := rfl
theorem rrow4 : pGet tyParts recordsT (pNat 4) = (false, false, false, false, false, false, false, false, ()) := rfl
theorem rrow5 : pGet tyParts recordsT (pNat 5) = (false, false, false, false, false, false, false, false, ()) := rfl
theorem rrow6 : pGet tyParts recordsT (pNat 6) = (false, false, false, false, false, true, false, false, ()) := rfl

theorem gt0_len {α : Type} (l : List α) : pGt (pInt (pLen l)) 0 = !(pEq (pInt l.length) 0) := by
  cases l with
  | nil => rfl
  | cons x l =>
    have h1 : pGt (pInt (pLen (x :: l))) 0 = true := decide_eq_true (show ((l.length + 1 : Nat) : Int) > 0 by omega)
    have h2 : pEq (pInt (x :: l).length) 0 = false := by
      unfold pEq pInt
      rw [beq_eq_false_iff_ne]
      exact fun h => absurd (show ((l.length + 1 : Nat) : Int) = 0 from h) (by omega)
    rw [h1, h2]; rfl
theorem siteAt_ref {cn : Int} {rl : List ND} {k : Nat} (hk : k < 4611686018427387904) (hc : 1 ≤ cn ∧ cn ≤ 4) : siteAt cn rl k = (inF (pGet tyN rl k).1 0 (cn - 1) && !(pGt (k : Int) 0 && pLe (pGet tyN rl k).1 (pGet tyN rl (k - 1)).1)) := by
  unfold siteAt
  rw [Bool.eq_iff_iff]
  simp only [inF, pLe, pLt, pGt, Bool.and_eq_true, Bool.or_eq_true, Bool.not_eq_true', Bool.and_eq_false_iff, decide_eq_true_eq, decide_eq_false_iff_not]
  constructor
  · rintro ⟨⟨h1, h2⟩, h3⟩
    refine ⟨by omega, ?_⟩
    rcases h3 with h3 | h3
    · left; omega
    · right; omega
  · rintro ⟨h1, h2⟩
    refine ⟨by omega, ?_⟩
    rcases h2 with h2 | h2
    · left; omega
    · right; omega

set_option maxHeartbeats 4000000 in
theorem RecordFault_ok : Meets Tryd.prog (fun _ => none) 40 cRecordFault := RecordFault_meets cFault_ok In_ok txnMay_ok fun cn cl cp rk rs rn ry rv ra rd rl hp => by
  have hl : cl.length < 4611686018427387904 := (hp _ List.mem_cons_self)
  have hr : rl.length < 4611686018427387904 := (hp _ (List.mem_cons_of_mem _ List.mem_cons_self))
  clear hp
  unfold RecordFault_VC RecordFault_t0 RecordFault_t1
  refine ⟨hl, bif_ok (fun h => ?_) fun hc => ?_⟩
  · rw [recF_cfg h]
  have h4 := cfgF_sites4 hc
  have hc4 := inF_iff.1 h4
  simp only at hc4
  rw [pSubI_in (a := cn) (b := 1) (by omega)]
  refine bif_ok (fun h => ?_) fun hk => ?_
  · refine leafE ?_
    rw [recF_eq cn cl cp rk rs rn ry rv ra rd rl _ _ _ _ _ _ _ _ hc rfl, show inF rk 1 6 = false by simpa [pNot] using h]; rfl
  have hk : inF rk 1 6 = true := by simpa [pNot] using hk
  have hk6 : rk = 1 ∨ rk = 2 ∨ rk = 3 ∨ rk = 4 ∨ rk = 5 ∨ rk = 6 := by rw [inF_iff] at hk; omega
  refine ⟨h4, ?_⟩
  rw [gt0_len]
  generalize hA : allUpto (siteAt cn rl) rl.length = A
  rcases hk6 with rfl | rfl | rfl | rfl | rfl | rfl
  · have hM := recF_eq cn cl cp 1 rs rn ry rv ra rd rl _ _ _ _ _ _ _ _ hc rrow1
    rw [hk, cond_true, hA] at hM
    simp only [Bool.true_or, Bool.false_or, Bool.true_and, Bool.and_true] at hM
    refine bif_ok (fun h => ?_) fun h1 => ?_
    · refine leafE ?_; rw [hM]; grind [pLt, pLe, pGt, pGe, pEq, pNe, pNot, pAndB, pBeq, pInt, pLen, inF, pIn, pTo, pNat]
    refine bif_ok (fun h => ?_) fun h2 => ?_
    · refine leafE ?_; rw [hM]; grind [pLt, pLe, pGt, pGe, pEq, pNe, pNot, pAndB, pBeq, pInt, pLen, inF, pIn, pTo, pNat]
    refine bif_ok (fun h => ?_) fun h3 => ?_
    · refine leafE ?_; rw [hM]; grind [pLt, pLe, pGt, pGe, pEq, pNe, pNot, pAndB, pBeq, pInt, pLen, inF, pIn, pTo, pNat]
    refine bif_ok (fun h => ?_) fun h5 => ?_
    · refine leafE ?_; rw [hM]; grind [pLt, pLe, pGt, pGe, pEq, pNe, pNot, pAndB, pBeq, pInt, pLen, inF, pIn, pTo, pNat]
    refine ⟨UpInv.start, fun y hy => ?_⟩
    rcases UpInv.round hr hy with ⟨k, rfl, hkl, hb, _, hF, hT⟩ | ⟨rfl, hT⟩
    · simp only [pNat_coe]
      rw [bif_true (by simp [pLt_coe, pLen, hkl])]
      rw [hA] at hF
      have hs := siteAt_ref (rl := rl) hb hc4
      have bad : siteAt cn rl k = false → ((2 : Int), ()) = (recF (cn, cl, cp, ()) (1, rs, rn, ry, rv, ra, rd, rl, ()), ()) := fun h => by rw [hM, hF h, Bool.and_false]; rfl
      refine ⟨pIn_coe.2 hkl, bif_ok (fun h => ?_) fun h => ?_⟩
      · refine bad ?_
        rw [hs, show inF _ 0 (cn - 1) = false by simpa [pNot] using h]; rfl
      have g1 : inF (pGet tyN rl k).1 0 (cn - 1) = true := by simpa [pNot] using h
      rw [g1, Bool.true_and] at hs
      refine bif_ok (fun h => ?_) fun h => ?_
      · have hk0 : 0 < k := by have h0 : (0 : Int) < (k : Int) := by simpa [pGt] using h
                               exact Int.natCast_pos.1 h0
        rw [pSub1 hb hk0, pNat_coe]
        refine ⟨pIn_coe.2 hkl, pIn_coe.2 (Nat.lt_of_le_of_lt (Nat.sub_le _ _) hkl), bif_ok (fun h' => ?_) fun h' => ?_⟩
        · refine bad ?_
          rw [hs, h]
          rw [show pLe (pGet tyN rl k).1 (pGet tyN rl (k - 1)).1 = true from h']; rfl
        · refine hT ?_
          rw [hs, h]
          rw [show pLe (pGet tyN rl k).1 (pGet tyN rl (k - 1)).1 = false from h']; rfl
      · refine hT ?_
        rw [hs, h]; rfl
    · rw [bif_false (by simp [pLt_coe, pLen])]
      rw [hA] at hT
      subst hT
      clear hA hy
      (repeat' (first | refine bif_ok (fun h => ?_) (fun h => ?_) | refine And.intro ?_ ?_ | fail))
      all_goals first
        | (refine leafE ?_; rw [hM]; grind [pLt, pLe, pGt, pGe, pEq, pNe, pNot, pAndB, pBeq, pInt, pLen, inF, pIn, pTo, pNat])
        | skip
  · have hM := recF_eq cn cl cp 2 rs rn ry rv ra rd rl _ _ _ _ _ _ _ _ hc rrow2
    rw [hk, cond_true, hA] at hM
    simp only [Bool.true_or, Bool.false_or, Bool.true_and, Bool.and_true] at hM
    refine bif_ok (fun h => ?_) fun h1 => ?_
    · refine leafE ?_; rw [hM]; grind [pLt, pLe, pGt, pGe, pEq, pNe, pNot, pAndB, pBeq, pInt, pLen, inF, pIn, pTo, pNat]
    refine bif_ok (fun h => ?_) fun h2 => ?_
    · refine leafE ?_; rw [hM]; grind [pLt, pLe, pGt, pGe, pEq, pNe, pNot, pAndB, pBeq, pInt, pLen, inF, pIn, pTo, pNat]
    refine bif_ok (fun h => ?_) fun h3 => ?_
    · refine leafE ?_; rw [hM]; grind [pLt, pLe, pGt, pGe, pEq, pNe, pNot, pAndB, pBeq, pInt, pLen, inF, pIn, pTo, pNat]
    refine bif_ok (fun h => ?_) fun h5 => ?_
    · refine leafE ?_; rw [hM]; grind [pLt, pLe, pGt, pGe, pEq, pNe, pNot, pAndB, pBeq, pInt, pLen, inF, pIn, pTo, pNat]
    refine ⟨UpInv.start, fun y hy => ?_⟩
    rcases UpInv.round hr hy with ⟨k, rfl, hkl, hb, _, hF, hT⟩ | ⟨rfl, hT⟩
    · simp only [pNat_coe]
      rw [bif_true (by simp [pLt_coe, pLen, hkl])]
      rw [hA] at hF
      have hs := siteAt_ref (rl := rl) hb hc4
      have bad : siteAt cn rl k = false → ((2 : Int), ()) = (recF (cn, cl, cp, ()) (2, rs, rn, ry, rv, ra, rd, rl, ()), ()) := fun h => by rw [hM, hF h, Bool.and_false]; rfl
      refine ⟨pIn_coe.2 hkl, bif_ok (fun h => ?_) fun h => ?_⟩
      · refine bad ?_
        rw [hs, show inF _ 0 (cn - 1) = false by simpa [pNot] using h]; rfl
      have g1 : inF (pGet tyN rl k).1 0 (cn - 1) = true := by simpa [pNot] using h
      rw [g1, Bool.true_and] at hs
      refine bif_ok (fun h => ?_) fun h => ?_
      · have hk0 : 0 < k := by have h0 : (0 : Int) < (k : Int) := by simpa [pGt] using h
                               exact Int.natCast_pos.1 h0
        rw [pSub1 hb hk0, pNat_coe]
        refine ⟨pIn_coe.2 hkl, pIn_coe.2 (Nat.lt_of_le_of_lt (Nat.sub_le _ _) hkl), bif_ok (fun h' => ?_) fun h' => ?_⟩
        · refine bad ?_
          rw [hs, h]
          rw [show pLe (pGet tyN rl k).1 (pGet tyN rl (k - 1)).1 = true from h']; rfl
        · refine hT ?_
          rw [hs, h]
          rw [show pLe (pGet tyN rl k).1 (pGet tyN rl (k - 1)).1 = false from h']; rfl
      · refine hT ?_
        rw [hs, h]; rfl
    · rw [bif_false (by simp [pLt_coe, pLen])]
      rw [hA] at hT
      subst hT
      clear hA hy
      (repeat' (first | refine bif_ok (fun h => ?_) (fun h => ?_) | refine And.intro ?_ ?_ | fail))
      all_goals first
        | (refine leafE ?_; rw [hM]; grind [pLt, pLe, pGt, pGe, pEq, pNe, pNot, pAndB, pBeq, pInt, pLen, inF, pIn, pTo, pNat])
        | skip
  · have hM := recF_eq cn cl cp 3 rs rn ry rv ra rd rl _ _ _ _ _ _ _ _ hc rrow3
    rw [hk, cond_true, hA] at hM
    simp only [Bool.true_or, Bool.false_or, Bool.true_and, Bool.and_true] at hM
    refine bif_ok (fun h => ?_) fun h1 => ?_
    · refine leafE ?_; rw [hM]; grind [pLt, pLe, pGt, pGe, pEq, pNe, pNot, pAndB, pBeq, pInt, pLen, inF, pIn, pTo, pNat]
    refine bif_ok (fun h => ?_) fun h2 => ?_
    · refine leafE ?_; rw [hM]; grind [pLt, pLe, pGt, pGe, pEq, pNe, pNot, pAndB, pBeq, pInt, pLen, inF, pIn, pTo, pNat]
    refine bif_ok (fun h => ?_) fun h3 => ?_
    · refine leafE ?_; rw [hM]; grind [pLt, pLe, pGt, pGe, pEq, pNe, pNot, pAndB, pBeq, pInt, pLen, inF, pIn, pTo, pNat]
    refine bif_ok (fun h => ?_) fun h5 => ?_
    · refine leafE ?_; rw [hM]; grind [pLt, pLe, pGt, pGe, pEq, pNe, pNot, pAndB, pBeq, pInt, pLen, inF, pIn, pTo, pNat]
    refine ⟨UpInv.start, fun y hy => ?_⟩
    rcases UpInv.round hr hy with ⟨k, rfl, hkl, hb, _, hF, hT⟩ | ⟨rfl, hT⟩
    · simp only [pNat_coe]
      rw [bif_true (by simp [pLt_coe, pLen, hkl])]
      rw [hA] at hF
      have hs := siteAt_ref (rl := rl) hb hc4
      have bad : siteAt cn rl k = false → ((2 : Int), ()) = (recF (cn, cl, cp, ()) (3, rs, rn, ry, rv, ra, rd, rl, ()), ()) := fun h => by rw [hM, hF h, Bool.and_false]; rfl
      refine ⟨pIn_coe.2 hkl, bif_ok (fun h => ?_) fun h => ?_⟩
      · refine bad ?_
        rw [hs, show inF _ 0 (cn - 1) = false by simpa [pNot] using h]; rfl
      have g1 : inF (pGet tyN rl k).1 0 (cn - 1) = true := by simpa [pNot] using h
      rw [g1, Bool.true_and] at hs
      refine bif_ok (fun h => ?_) fun h => ?_
      · have hk0 : 0 < k := by have h0 : (0 : Int) < (k : Int) := by simpa [pGt] using h
                               exact Int.natCast_pos.1 h0
        rw [pSub1 hb hk0, pNat_coe]
        refine ⟨pIn_coe.2 hkl, pIn_coe.2 (Nat.lt_of_le_of_lt (Nat.sub_le _ _) hkl), bif_ok (fun h' => ?_) fun h' => ?_⟩
        · refine bad ?_
          rw [hs, h]
          rw [show pLe (pGet tyN rl k).1 (pGet tyN rl (k - 1)).1 = true from h']; rfl
        · refine hT ?_
          rw [hs, h]
          rw [show pLe (pGet tyN rl k).1 (pGet tyN rl (k - 1)).1 = false from h']; rfl
      · refine hT ?_
        rw [hs, h]; rfl
    · rw [bif_false (by simp [pLt_coe, pLen])]
      rw [hA] at hT
      subst hT
      clear hA hy
      (repeat' (first | refine bif_ok (fun h => ?_) (fun h => ?_) | refine And.intro ?_ ?_ | fail))
      all_goals first
        | (refine leafE ?_; rw [hM]; grind [pLt, pLe, pGt, pGe, pEq, pNe, pNot, pAndB, pBeq, pInt, pLen, inF, pIn, pTo, pNat])
        | skip
  · have hM := recF_eq cn cl cp 4 rs rn ry rv ra rd rl _ _ _ _ _ _ _ _ hc rrow4
    rw [hk, cond_true, hA] at hM
    simp only [Bool.true_or, Bool.false_or, Bool.true_and, Bool.and_true] at hM
    refine bif_ok (fun h => ?_) fun h1 => ?_
    · refine leafE ?_; rw [hM]; grind [pLt, pLe, pGt, pGe, pEq, pNe, pNot, pAndB, pBeq, pInt, pLen, inF, pIn, pTo, pNat]
    refine bif_ok (fun h => ?_) fun h2 => ?_
    · refine leafE ?_; rw [hM]; grind [pLt, pLe, pGt, pGe, pEq, pNe, pNot, pAndB, pBeq, pInt, pLen, inF, pIn, pTo, pNat]
    refine bif_ok (fun h => ?_) fun h3 => ?_
    · refine leafE ?_; rw [hM]; grind [pLt, pLe, pGt, pGe, pEq, pNe, pNot, pAndB, pBeq, pInt, pLen, inF, pIn, pTo, pNat]
    refine bif_ok (fun h => ?_) fun h5 => ?_
    · refine leafE ?_; rw [hM]; grind [pLt, pLe, pGt, pGe, pEq, pNe, pNot, pAndB, pBeq, pInt, pLen, inF, pIn, pTo, pNat]
    refine ⟨UpInv.start, fun y hy => ?_⟩
    rcases UpInv.round hr hy with ⟨k, rfl, hkl, hb, _, hF, hT⟩ | ⟨rfl, hT⟩
    · simp only [pNat_coe]
      rw [bif_true (by simp [pLt_coe, pLen, hkl])]
      rw [hA] at hF
      have hs := siteAt_ref (rl := rl) hb hc4
      have bad : siteAt cn rl k = false → ((2 : Int), ()) = (recF (cn, cl, cp, ()) (4, rs, rn, ry, rv, ra, rd, rl, ()), ()) := fun h => by rw [hM, hF h, Bool.and_false]; rfl
      refine ⟨pIn_coe.2 hkl, bif_ok (fun h => ?_) fun h => ?_⟩
      · refine bad ?_
        rw [hs, show inF _ 0 (cn - 1) = false by simpa [pNot] using h]; rfl
      have g1 : inF (pGet tyN rl k).1 0 (cn - 1) = true := by simpa [pNot] using h
      rw [g1, Bool.true_and] at hs
      refine bif_ok (fun h => ?_) fun h => ?_
      · have hk0 : 0 < k := by have h0 : (0 : Int) < (k : Int) := by simpa [pGt] using h
                               exact Int.natCast_pos.1 h0
        rw [pSub1 hb hk0, pNat_coe]
        refine ⟨pIn_coe.2 hkl, pIn_coe.2 (Nat.lt_of_le_of_lt (Nat.sub_le _ _) hkl), bif_ok (fun h' => ?_) fun h' => ?_⟩
        · refine bad ?_
          rw [hs, h]
          rw [show pLe (pGet tyN rl k).1 (pGet tyN rl (k - 1)).1 = true from h']; rfl
        · refine hT ?_
          rw [hs, h]
          rw [show pLe (pGet tyN rl k).1 (pGet tyN rl (k - 1)).1 = false from h']; rfl
      · refine hT ?_
        rw [hs, h]; rfl
    · rw [bif_false (by simp [pLt_coe, pLen])]
      rw [hA] at hT
      subst hT
      clear hA hy
      (repeat' (first | refine bif_ok (fun h => ?_) (fun h => ?_) | refine And.intro ?_ ?_ | fail))
      all_goals first
        | (refine leafE ?_; rw [hM]; grind [pLt, pLe, pGt, pGe, pEq, pNe, pNot, pAndB, pBeq, pInt, pLen, inF, pIn, pTo, pNat])
        | skip
  · have hM := recF_eq cn cl cp 5 rs rn ry rv ra rd rl _ _ _ _ _ _ _ _ hc rrow5
    rw [hk, cond_true, hA] at hM
    simp only [Bool.true_or, Bool.false_or, Bool.true_and, Bool.and_true] at hM
    refine bif_ok (fun h => ?_) fun h1 => ?_
    · refine leafE ?_; rw [hM]; grind [pLt, pLe, pGt, pGe, pEq, pNe, pNot, pAndB, pBeq, pInt, pLen, inF, pIn, pTo, pNat]
    refine bif_ok (fun h => ?_) fun h2 => ?_
    · refine leafE ?_; rw [hM]; grind [pLt, pLe, pGt, pGe, pEq, pNe, pNot, pAndB, pBeq, pInt, pLen, inF, pIn, pTo, pNat]
    refine bif_ok (fun h => ?_) fun h3 => ?_
    · refine leafE ?_; rw [hM]; grind [pLt, pLe, pGt, pGe, pEq, pNe, pNot, pAndB, pBeq, pInt, pLen, inF, pIn, pTo, pNat]
    refine bif_ok (fun h => ?_) fun h5 => ?_
    · refine leafE ?_; rw [hM]; grind [pLt, pLe, pGt, pGe, pEq, pNe, pNot, pAndB, pBeq, pInt, pLen, inF, pIn, pTo, pNat]
    refine ⟨UpInv.start, fun y hy => ?_⟩
    rcases UpInv.round hr hy with ⟨k, rfl, hkl, hb, _, hF, hT⟩ | ⟨rfl, hT⟩
    · simp only [pNat_coe]
      rw [bif_true (by simp [pLt_coe, pLen, hkl])]
      rw [hA] at hF
      have hs := siteAt_ref (rl := rl) hb hc4
      have bad : siteAt cn rl k = false → ((2 : Int), ()) = (recF (cn, cl, cp, ()) (5, rs, rn, ry, rv, ra, rd, rl, ()), ()) := fun h => by rw [hM, hF h, Bool.and_false]; rfl
      refine ⟨pIn_coe.2 hkl, bif_ok (fun h => ?_) fun h => ?_⟩
      · refine bad ?_
        rw [hs, show inF _ 0 (cn - 1) = false by simpa [pNot] using h]; rfl
      have g1 : inF (pGet tyN rl k).1 0 (cn - 1) = true := by simpa [pNot] using h
      rw [g1, Bool.true_and] at hs
      refine bif_ok (fun h => ?_) fun h => ?_
      · have hk0 : 0 < k := by have h0 : (0 : Int) < (k : Int) := by simpa [pGt] using h
                               exact Int.natCast_pos.1 h0
        rw [pSub1 hb hk0, pNat_coe]
        refine ⟨pIn_coe.2 hkl, pIn_coe.2 (Nat.lt_of_le_of_lt (Nat.sub_le _ _) hkl), bif_ok (fun h' => ?_) fun h' => ?_⟩
        · refine bad ?_
          rw [hs, h]
          rw [show pLe (pGet tyN rl k).1 (pGet tyN rl (k - 1)).1 = true from h']; rfl
        · refine hT ?_
          rw [hs, h]
          rw [show pLe (pGet tyN rl k).1 (pGet tyN rl (k - 1)).1 = false from h']; rfl
      · refine hT ?_
        rw [hs, h]; rfl
    · rw [bif_false (by simp [pLt_coe, pLen])]
      rw [hA] at hT
      subst hT
      clear hA hy
      (repeat' (first | refine bif_ok (fun h => ?_) (fun h => ?_) | refine And.intro ?_ ?_ | fail))
      all_goals first
        | (refine leafE ?_; rw [hM]; grind [pLt, pLe, pGt, pGe, pEq, pNe, pNot, pAndB, pBeq, pInt, pLen, inF, pIn, pTo, pNat])
        | skip
  · have hM := recF_eq cn cl cp 6 rs rn ry rv ra rd rl _ _ _ _ _ _ _ _ hc rrow6
    rw [hk, cond_true, hA] at hM
    simp only [Bool.true_or, Bool.false_or, Bool.true_and, Bool.and_true] at hM
    refine bif_ok (fun h => ?_) fun h1 => ?_
    · refine leafE ?_; rw [hM]; grind [pLt, pLe, pGt, pGe, pEq, pNe, pNot, pAndB, pBeq, pInt, pLen, inF, pIn, pTo, pNat]
    refine bif_ok (fun h => ?_) fun h2 => ?_
    · refine leafE ?_; rw [hM]; grind [pLt, pLe, pGt, pGe, pEq, pNe, pNot, pAndB, pBeq, pInt, pLen, inF, pIn, pTo, pNat]
    refine bif_ok (fun h => ?_) fun h3 => ?_
    · refine leafE ?_; rw [hM]; grind [pLt, pLe, pGt, pGe, pEq, pNe, pNot, pAndB, pBeq, pInt, pLen, inF, pIn, pTo, pNat]
    refine bif_ok (fun h => ?_) fun h5 => ?_
    · refine leafE ?_; rw [hM]; grind [pLt, pLe, pGt, pGe, pEq, pNe, pNot, pAndB, pBeq, pInt, pLen, inF, pIn, pTo, pNat]
    refine ⟨UpInv.start, fun y hy => ?_⟩
    rcases UpInv.round hr hy with ⟨k, rfl, hkl, hb, _, hF, hT⟩ | ⟨rfl, hT⟩
    · simp only [pNat_coe]
      rw [bif_true (by simp [pLt_coe, pLen, hkl])]
      rw [hA] at hF
      have hs := siteAt_ref (rl := rl) hb hc4
      have bad : siteAt cn rl k = false → ((2 : Int), ()) = (recF (cn, cl, cp, ()) (6, rs, rn, ry, rv, ra, rd, rl, ()), ()) := fun h => by rw [hM, hF h, Bool.and_false]; rfl
      refine ⟨pIn_coe.2 hkl, bif_ok (fun h => ?_) fun h => ?_⟩
      · refine bad ?_
        rw [hs, show inF _ 0 (cn - 1) = false by simpa [pNot] using h]; rfl
      have g1 : inF (pGet tyN rl k).1 0 (cn - 1) = true := by simpa [pNot] using h
      rw [g1, Bool.true_and] at hs
      refine bif_ok (fun h => ?_) fun h => ?_
      · have hk0 : 0 < k := by have h0 : (0 : Int) < (k : Int) := by simpa [pGt] using h
                               exact Int.natCast_pos.1 h0
        rw [pSub1 hb hk0, pNat_coe]
        refine ⟨pIn_coe.2 hkl, pIn_coe.2 (Nat.lt_of_le_of_lt (Nat.sub_le _ _) hkl), bif_ok (fun h' => ?_) fun h' => ?_⟩
        · refine bad ?_
          rw [hs, h]
          rw [show pLe (pGet tyN rl k).1 (pGet tyN rl (k - 1)).1 = true from h']; rfl
        · refine hT ?_
          rw [hs, h]
          rw [show pLe (pGet tyN rl k).1 (pGet tyN rl (k - 1)).1 = false from h']; rfl
      · refine hT ?_
        rw [hs, h]; rfl
    · rw [bif_false (by simp [pLt_coe, pLen])]
      rw [hA] at hT
      subst hT
      clear hA hy
      (repeat' (first | refine bif_ok (fun h => ?_) (fun h => ?_) | refine And.intro ?_ ?_ | fail))
      all_goals first
        | (refine leafE ?_; rw [hM]; grind [pLt, pLe, pGt, pGe, pEq, pNe, pNot, pAndB, pBeq, pInt, pLen, inF, pIn, pTo, pNat])
        | skip


end Go.Proofs.YtkhnakdmkhidbaaDoor

/- Contracts, and what the evaluator says, as plain propositions: RdV. Printed by vc.py. -/
namespace Go.Proofs.YtkhnakdmkhidbaaDoor
open Go.RowKit Go.ChangeShapes Go.WideShapes Go.Deep

abbrev CheckRecord_S : Shape := ⟨[pCfg, pRec], []⟩
abbrev CheckRecord_f : Shape.den CheckRecord_S → denVars [.slot 0 false tI] := fun x => (recF x.1.1 x.1.2.1, ())
abbrev CheckRecord_p : Shape.den CheckRecord_S → List Prop := fun x => [pLen x.1.1.2.1 < 4611686018427387904, pLen x.1.2.1.2.2.2.2.2.2.2.1 < 4611686018427387904]
def cCheckRecord : Ctr := shCtr CheckRecord_S CheckRecord_p [] [.slot 0 false tI] CheckRecord_f
abbrev eqsRyV : List TypeId := [28, 103, 105, 107, 65, 31, 57, 139]

abbrev CheckRecord_t3 (cn : Int) (cl : (List LabD)) (cp : Int) (rk : Int) (rs : Int) (rn : Int) (ry : Int) (rv : Int) (ra : Int) (rd : Bool) (rl : (List ND)) : Prop := bif pNot (pGet tyParts recordsT (pNat rk)).2.2.2.2.2.2.2.1 then bif pGt (pInt (pLen rl)) (0 : Int) then ((4 : Int), ()) = (recF (cn, cl, cp, ()) (rk, rs, rn, ry, rv, ra, rd, rl, ()), ()) else ((0 : Int), ()) = (recF (cn, cl, cp, ()) (rk,
 rs, rn, ry, rv, ra, rd, rl, ()), ()) else ((0 : Int), ()) = (recF (cn, cl, cp, ()) (rk, rs, rn, ry, rv, ra, rd, rl, ()), ())
abbrev CheckRecord_t2 (cn : Int) (cl : (List LabD)) (cp : Int) (rk : Int) (rs : Int) (rn : Int) (ry : Int) (rv : Int) (ra : Int) (rd : Bool) (rl : (List ND)) : Prop := bif pNot (pGet tyParts recordsT (pNat rk)).2.2.2.2.2.1 then bif rd then ((4 : Int), ()) = (recF (cn, cl, cp, ()) (rk, rs, rn, ry, rv, ra, rd, rl, ()), ()) else CheckRecord_t3 cn cl cp rk rs rn ry rv ra rd rl else CheckRecord_t3 cn cl cp rk
 rs rn ry rv ra rd rl
abbrev CheckRecord_t1 (cn : Int) (cl : (List LabD)) (cp : Int) (rk : Int) (rs : Int) (rn : Int) (ry : Int) (rv : Int) (ra : Int) (rd : Bool) (rl : (List ND)) : Prop := bif pNot (pGet tyParts recordsT (pNat rk)).2.2.2.2.1 then bif pNe ra (0 : Int) then ((4 : Int), ()) = (recF (cn, cl, cp, ()) (rk, rs, rn, ry, rv, ra, rd, rl, ()), ()) else CheckRecord_t2 cn cl cp rk rs rn ry rv ra rd rl else CheckRecord_t2
 cn cl cp rk rs rn ry rv ra rd rl
abbrev CheckRecord_t0 (cn : Int) (cl : (List LabD)) (cp : Int) (rk : Int) (rs : Int) (rn : Int) (ry : Int) (rv : Int) (ra : Int) (rd : Bool) (rl : (List ND)) : Prop := bif pNot (pGet tyParts recordsT (pNat rk)).2.2.1 then bif pNe rv (0 : Int) then ((4 : Int), ()) = (recF (cn, cl, cp, ()) (rk, rs, rn, ry, rv, ra, rd, rl, ()), ()) else CheckRecord_t1 cn cl cp rk rs rn ry rv ra rd rl else CheckRecord_t1 cn
 cl cp rk rs rn ry rv ra rd rl

def CheckRecord_VC (cn : Int) (cl : (List LabD)) (cp : Int) (rk : Int) (rs : Int) (rn : Int) (ry : Int) (rv : Int) (ra : Int) (rd : Bool) (rl : (List ND)) : Prop :=
  Nat.le (Nat.succ (pLen cl)) 4611686018427387904 ∧ bif pNe (cfgF (cn, cl, cp, ())) (0 : Int) then (cfgF (cn, cl, cp, ()), ()) = (recF (cn, cl, cp, ()) (rk, rs, rn, ry, rv, ra, rd, rl, ()), ()) else bif pLt rk (1 : Int) then ((3 : Int), ()) =
 (recF (cn, cl, cp, ()) (rk, rs, rn, ry, rv, ra, rd, rl, ()), ()) else bif pGt rk (6 : Int) then ((3 : Int), ()) = (recF (cn, cl, cp, ()) (rk, rs, rn, ry, rv, ra, rd, rl, ()), ()) else bif pNot (wtxF (cn, cl, cp, ()) rs rn) then ((2 : Int),
 ()) = (recF (cn, cl, cp, ()) (rk, rs, rn, ry, rv, ra, rd, rl, ()), ()) else bif pNot (inF ry (0 : Int) (7 : Int)) then ((2 : Int), ()) = (recF (cn, cl, cp, ()) (rk, rs, rn, ry, rv, ra, rd, rl, ()), ()) else bif pNot (inF rv (0 : Int)
 (1073741824 : Int)) then ((2 : Int), ()) = (recF (cn, cl, cp, ()) (rk, rs, rn, ry, rv, ra, rd, rl, ()), ()) else bif pNot (inF ra (0 : Int) (1048576 : Int)) then ((2 : Int), ()) = (recF (cn, cl, cp, ()) (rk, rs, rn, ry, rv, ra, rd, rl, ()),
 ()) else recSInv cn cl cp rk rs rn ry rv ra rd rl ((0 : Int), ()) ∧ ∀ (y : kden Bool.false tI × PUnit), recSInv cn cl cp rk rs rn ry rv ra rd rl y → bif pLt y.1 (pInt (pLen rl)) then pIn y.1 (pLen rl) ∧ bif pLt (pGet tyN rl (pNat y.1)).1 (0
 : Int) then ((2 : Int), ()) = (recF (cn, cl, cp, ()) (rk, rs, rn, ry, rv, ra, rd, rl, ()), ()) else bif pGe (pGet tyN rl (pNat y.1)).1 cn then ((2 : Int), ()) = (recF (cn, cl, cp, ()) (rk, rs, rn, ry, rv, ra, rd, rl, ()), ()) else bif pGt
 y.1 (0 : Int) then pIn (pSubI IntKind.i64 y.1 (1 : Int)) (pLen rl) ∧ bif pGe (pGet tyN rl (pNat (pSubI IntKind.i64 y.1 (1 : Int)))).1 (pGet tyN rl (pNat y.1)).1 then ((2 : Int), ()) = (recF (cn, cl, cp, ()) (rk, rs, rn, ry, rv, ra, rd, rl,
 ()), ()) else recSInv cn cl cp rk rs rn ry rv ra rd rl (pAdd IntKind.i64 y.1 (1 : Int), ()) ∧ Nat.le (Nat.succ (recSMu cn cl cp rk rs rn ry rv ra rd rl (pAdd IntKind.i64 y.1 (1 : Int), ()))) (recSMu cn cl cp rk rs rn ry rv ra rd rl y) else
 recSInv cn cl cp rk rs rn ry rv ra rd rl (pAdd IntKind.i64 y.1 (1 : Int), ()) ∧ Nat.le (Nat.succ (recSMu cn cl cp rk rs rn ry rv ra rd rl (pAdd IntKind.i64 y.1 (1 : Int), ()))) (recSMu cn cl cp rk rs rn ry rv ra rd rl y) else pIn rk 7 ∧ bif
 pNot (pGet tyParts recordsT (pNat rk)).2.1 then bif pNe ry (0 : Int) then ((4 : Int), ()) = (recF (cn, cl, cp, ()) (rk, rs, rn, ry, rv, ra, rd, rl, ()), ()) else CheckRecord_t0 cn cl cp rk rs rn ry rv ra rd rl else CheckRecord_t0 cn cl cp
 rk rs rn ry rv ra rd rl
set_option maxRecDepth 100000 in
theorem CheckRecord_meets (hlCheck : MtG tabsR 35 clCheck) (hwtxn : MtG tabsR 48 cwtxn) (hwkey : MtG tabsR 49 cwkey) (hwvalue : MtG tabsR 50 cwvalue) (hwask : MtG tabsR 51 cwask) (h : ∀ (cn : Int) (cl : (List LabD)) (cp : Int) (rk : Int) (rs : Int) (rn : Int) (ry : Int) (rv : Int) (ra : Int) (rd : Bool) (rl : (List ND)), (∀ p ∈ CheckRecord_p ⟨((cn, cl, cp, ()), (rk, rs, rn, ry, rv, ra, rd, rl, ()), ()), ()⟩, p) → CheckRecord_VC cn cl cp rk rs rn ry rv ra rd rl) : MtG tabsR 36 cCheckRecord :=
  meets_vc (E := envOfG Tryd.prog tabsR [(35, (false, clCheck)), (48, (false, cwtxn)), (49, (false, cwkey)), (50, (false, cwvalue)), (51, (false, cwask))] eqsRyV) (envOfG_ok (fun p hp => (by simp only [List.mem_cons, List.not_mem_nil, or_false] at hp; rcases hp with rfl | rfl | rfl | rfl | rfl; exact hlCheck; exact hwtxn; exact hwkey; exact hwvalue; exact hwask)) (by kernel_rfl)) CheckRecord_S (fun x => fun ky9 st9 => look [(9, (⟨[.slot 48 false tI], recSInv x.1.1.1 x.1.1.2.1 x.1.1.2.2.1 x.1.2.1.1 x.1.2.1.2.1 x.1.2.1.2.2.1 x.1.2.1.2.2.2.1 x.1.2.1.2.2.2.2.1 x.1.2.1.2.2.2.2.2.1 x.1.2.1.2.2.2.2.2.2.1 x.1.2.1.2.2.2.2.2.2.2.1, recSMu x.1.1.1 x.1.1.2.1 x.1.1.2.2.1 x.1.2.1.1 x.1.2.1.2.1 x.1.2.1.2.2.1 x.1.2.1.2.2.2.1 x.1.2.1.2.2.2.2.1 x.1.2.1.2.2.2.2.2.1 x.1.2.1.2.2.2.2.2.2.1 x.1.2.1.2.2.2.2.2.2.2.1⟩ : Ann))] ky9) Tryd.func36 (by kernel_rfl) (by kernel_rfl) CheckRecord_p [] [.slot 0 false tI] CheckRecord_f (fun x => CheckRecord_VC x.1.1.1 x.1.1.2.1 x.1.1.2.2.1 x.1.2.1.1 x.1.2.1.2.1 x.1.2.1.2.2.1 x.1.2.1.2.2.2.1 x.1.2.1.2.2.2.2.1 x.1.2.1.2.2.2.2.2.1 x.1.2.1.2.2.2.2.2.2.1 x.1.2.1.2.2.2.2.2.2.2.1) (fun x => by kernel_rfl) (fun x hp => h x.1.1.1 x.1.1.2.1 x.1.1.2.2.1 x.1.2.1.1 x.1.2.1.2.1 x.1.2.1.2.2.1 x.1.2.1.2.2.2.1 x.1.2.1.2.2.2.2.1 x.1.2.1.2.2.2.2.2.1 x.1.2.1.2.2.2.2.2.2.1 x.1.2.1.2.2.2.2.2.2.2.1 hp)


end Go.Proofs.YtkhnakdmkhidbaaDoor
