/- The law RecoverRebuilds: for every input it returns true and turns nothing. No condition. -/
import Derived.Test.YtkhnakdmkhidbaaDoorJ13
import Derived.Test.YtkhnakdmkhidbaaDoorJ5
import Derived.Test.YtkhnakdmkhidbaaDoorFacts

/- What comes back from a tape: the reference builds the same. No condition. -/
namespace Go.Proofs.YtkhnakdmkhidbaaDoor
open Go.RowKit

/- one more job in its place, as the walk goes -/
theorem insK_far {js : List JobD} {x : JobD} {p j : Nat} (h : p < j) (hj : j < js.length) : pApp (insK js p x j) [pGet tyJob js j] = insK js p x (j + 1) := by
  unfold insK pApp
  rw [decide_eq_true h, decide_eq_true (show p < j + 1 by omega), cond_true, cond_true, List.append_assoc, List.cons_append, List.take_succ_eq_append_getElem hj,
    List.drop_append_of_le_length (by rw [List.length_take]; omega), pGet_lt (t := tyJob) hj]
theorem insK_low {js : List JobD} {x : JobD} {p j : Nat} (h : j < p) (hj : j < js.length) : pApp (insK js p x j) [pGet tyJob js j] = insK js p x (j + 1) := by
  unfold insK pApp
  rw [decide_eq_false (show ¬ p < j by omega), decide_eq_false (show ¬ p < j + 1 by omega), cond_false, cond_false, List.take_succ_eq_append_getElem hj, pGet_lt (t := tyJob) hj]
theorem insK_at {js : List JobD} {x : JobD} {j : Nat} (hj : j < js.length) : pApp (pApp (insK js j x j) [x]) [pGet tyJob js j] = insK js j x (j + 1) := by
  unfold insK pApp
  rw [decide_eq_false (show ¬ j < j by omega), decide_eq_true (show j < j + 1 by omega), cond_false, cond_true, List.take_succ_eq_append_getElem hj,
    List.drop_append_of_le_length (by rw [List.length_take]; omega), pGet_lt (t := tyJob) hj, List.drop_eq_nil_of_le (by rw [List.length_take]; omega), List.append_assoc]
  rfl
theorem insK_end {js : List JobD} {x : JobD} {p : Nat} (h : p < js.length) : insK js p x js.length = pIns js p x := by
  unfold insK pIns
  rw [decide_eq_true h, cond_true, List.take_length]
theorem insK_last {js : List JobD} {x : JobD} : pApp (insK js js.length x js.length) [x] = pIns js js.length x := by
  unfold insK pIns pApp
  rw [decide_eq_false (by omega), cond_false, List.drop_length]
theorem insK_len {js : List JobD} {x : JobD} {p j : Nat} (hj : j ≤ js.length) (hp : p ≤ js.length) : (insK js p x j).length ≤ js.length + 1 := by
  unfold insK
  cases decide (p < j)
  · rw [cond_false, List.length_take]; omega
  · rw [cond_true, List.length_append, List.length_cons, List.length_drop, List.length_take, List.length_take]; omega

/- a job out -/
theorem withoutK_low {l : List JobD} {i : Nat} : ∀ k, k ≤ i → k ≤ l.length → withoutK l (i : Int) k = l.take k
  | 0, _, _ => rfl
  | k + 1, h, hl => by
    rw [withoutK_succ, withoutK_low k (by omega) (by omega), show pEq (k : Int) (i : Int) = false by simp [pEq]; omega, cond_false, List.take_succ_eq_append_getElem (by omega), pGet_lt (t := tyJob) (by omega)]
theorem withoutK_high {l : List JobD} {i : Nat} (hi : i < l.length) : ∀ k, i + 1 + k ≤ l.length → withoutK l (i : Int) (i + 1 + k) = l.take i ++ (l.take (i + 1 + k)).drop (i + 1)
  | 0, _ => by
    rw [Nat.add_zero, withoutK_succ, withoutK_low i (Nat.le_refl _) (by omega), show pEq (i : Int) (i : Int) = true by simp [pEq], cond_true, List.drop_eq_nil_of_le (by rw [List.length_take]; omega), List.append_nil]
  | k + 1, h => by
    rw [show i + 1 + (k + 1) = (i + 1 + k) + 1 from rfl, withoutK_succ, withoutK_high hi k (by omega), show pEq ((i + 1 + k : Nat) : Int) (i : Int) = false by simp [pEq]; omega, cond_false,
      List.take_succ_eq_append_getElem (show i + 1 + k < l.length by omega), pGet_lt (t := tyJob) (show i + 1 + k < l.length by omega), List.drop_append_of_le_length (by rw [List.length_take]; omega), List.append_assoc]
theorem without_is {l : List JobD} {i : Nat} (hi : i < l.length) : withoutF l (i : Int) = l.take i ++ l.drop (i + 1) := by
  unfold withoutF
  have := withoutK_high hi (l.length - (i + 1)) (by omega)
  rw [show i + 1 + (l.length - (i + 1)) = l.length by omega, List.take_length] at this
  exact this
theorem del_at {l : List JobD} (hs : l.Pairwise fun a b => a.1 < b.1) {rs rn me : Int} {i : Nat} (hi : i < l.length) (hr : pEq rs me = true) (hk : keyAtJ l rn i = true) : delJ l rs rn me = l.take i ++ l.drop (i + 1) := by
  have hk' : l[i].1 = rn := by unfold keyAtJ at hk; rw [pGet_lt (t := tyJob) hi] at hk; simpa [pEq] using hk
  have e : l = l.take i ++ l[i] :: l.drop (i + 1) := by rw [← List.drop_eq_getElem_cons hi, List.take_append_drop]
  have h1 : (l.take i).filter (fun x => !isDJ x rs rn me) = l.take i := by
    rw [List.filter_eq_self]
    intro a ha
    obtain ⟨j, hj, rfl⟩ := List.getElem_of_mem ha
    rw [List.length_take] at hj
    have := List.pairwise_iff_getElem.1 hs j i (by omega) hi (by omega)
    rw [List.getElem_take]
    have : pEq rn l[j].1 = false := by simp only [pEq, beq_eq_false_iff_ne]; omega
    unfold isDJ pAndB; rw [this, Bool.and_false]; rfl
  have h2 : (l.drop (i + 1)).filter (fun x => !isDJ x rs rn me) = l.drop (i + 1) := by
    rw [List.filter_eq_self]
    intro a ha
    obtain ⟨j, hj, rfl⟩ := List.getElem_of_mem ha
    rw [List.length_drop] at hj
    have := List.pairwise_iff_getElem.1 hs i (i + 1 + j) hi (by omega) (by omega)
    rw [List.getElem_drop]
    have : pEq rn l[i + 1 + j].1 = false := by simp only [pEq, beq_eq_false_iff_ne]; omega
    unfold isDJ pAndB; rw [this, Bool.and_false]; rfl
  have h3 : isDJ l[i] rs rn me = true := by unfold isDJ pAndB; rw [hr, show pEq rn l[i].1 = true by simp [pEq, hk']]; rfl
  show l.filter (fun x => !isDJ x rs rn me) = _
  conv => lhs; rw [e]
  rw [List.filter_append, List.filter_cons, h1, h2, h3]; rfl
theorem del_none {l : List JobD} {rs rn me : Int} (h : pEq rs me = false ∨ pGe (idxKeyJ l rn) 0 = false) : delJ l rs rn me = l := by
  unfold delJ
  rw [List.filter_eq_self]
  intro a ha
  rcases h with h | h
  · unfold isDJ pAndB; rw [h, Bool.false_and]; rfl
  · obtain ⟨j, hj, rfl⟩ := List.getElem_of_mem ha
    have : pEq rn l[j].1 = false := by
      have h2 : anyUpto (keyAtJ l rn) l.length = false := by rw [← idxOf_ge]; exact h
      cases hq : pEq rn l[j].1 with
      | false => rfl
      | true =>
        have : anyUpto (keyAtJ l rn) l.length = true := anyUpto_iff.2 ⟨j, hj, by unfold keyAtJ; rw [pGet_lt (t := tyJob) hj]; simp only [pEq, beq_iff_eq] at hq ⊢; exact hq.symm⟩
        rw [h2] at this; cases this
    unfold isDJ pAndB; rw [this, Bool.and_false]; rfl

/- what is wrong -/
theorem inF_me {cn me : Int} (h1 : 1 ≤ cn) (h4 : cn ≤ 4) : inF me 0 (pSubI .i64 cn 1) = (pLe 0 me && pLt me cn) := by
  have e : pSubI .i64 cn 1 = cn - 1 := by
    obtain ⟨k, rfl⟩ : ∃ k : Nat, cn = (k : Int) := ⟨cn.toNat, by omega⟩
    rw [pSub1 (by omega) (by omega)]; omega
  rw [e]
  cases h : (pLe 0 me && pLt me cn) with
  | true =>
    simp only [Bool.and_eq_true, pLe, pLt, decide_eq_true_eq] at h
    exact inF_iff.2 ⟨h.1, by omega⟩
  | false =>
    rw [inF_not]
    intro ⟨a, b⟩
    have : (pLe 0 me && pLt me cn) = true := by simp only [Bool.and_eq_true, pLe, pLt, decide_eq_true_eq]; exact ⟨a, by omega⟩
    rw [this] at h; cases h
theorem eq_of {a b : Int} (h : pEq a b = true) : a = b := by simpa [pEq] using h
theorem rebE_E0 {c : CfgD} {me : Int} {l : List RecD} : rebE c me l = cond (pEq (rebE0 c me) 0) (firstE (recAt c l) l.length) (rebE0 c me) := by
  unfold rebE rebE0
  cases h : pEq (cfgF c) 0 with
  | false => rw [cond_false, cond_false, h]; rfl
  | true =>
    have := cfg_n h
    rw [cond_true, cond_true, inF_me this.1 this.2]
    cases (pLe 0 me && pLt me c.1) <;> rfl
theorem recs_end {c : CfgD} {me : Int} {l : List RecD} {k : Nat} {e : Int} (hk : k ≤ l.length)
    (h : (k = 0 ∧ e = rebE0 c me) ∨ (pEq (rebE0 c me) 0 = true ∧ 0 < k ∧ e = recAt c l (k - 1) ∧ ∀ j, j < k - 1 → pEq (recAt c l j) 0 = true)) (hq : k = l.length ∨ pEq e 0 = false) :
    rebE c me l = e ∧ (pEq e 0 = true → ∀ j, j < l.length → pEq (recAt c l j) 0 = true) := by
  rw [rebE_E0]
  rcases h with ⟨h1, h2⟩ | ⟨h1, h2, h3, h4⟩
  · rw [← h2]
    cases he : pEq e 0 with
    | false => exact ⟨rfl, fun h => absurd h (by simp)⟩
    | true =>
      have hl : l.length = 0 := by rcases hq with hq | hq; omega; rw [he] at hq; cases hq
      refine ⟨?_, fun _ j hj => absurd hj (by omega)⟩
      rw [cond_true, hl, eq_of he]; rfl
  · rw [h1, cond_true]
    cases he : pEq e 0 with
    | false => exact ⟨by rw [h3]; exact firstE_hit (by omega) h4 (by rw [← h3]; exact he), fun h => absurd h (by simp)⟩
    | true =>
      have hl : k = l.length := by rcases hq with hq | hq; exact hq; rw [he] at hq; cases hq
      have hall : ∀ j, j < l.length → pEq (recAt c l j) 0 = true := fun j hj => by
        by_cases hj2 : j = k - 1
        · rw [hj2, ← h3]; exact he
        · exact h4 j (by omega)
      exact ⟨by rw [firstE_none hall, eq_of he], fun _ => hall⟩

section
variable {cn : Int} {cl : List LabD} {cp me : Int} {l : List RecD}
/-- where the second walk stands -/
abbrev rebY (me : Int) (l : List RecD) (k : Nat) : Int × List NoteD × (List ItemD × List LockD × List DoubtD × List TxnD × Unit) × (Int × List JobD × Unit) × Unit := ((k : Int), mNotes (memK me l k), mSto (memK me l k), mDesk (memK me l k), ())
theorem rebD_go {k : Nat} (hk : k < l.length) (hb : k < 4611686018427387904) (m' : MemD) (h : stepM me (memK me l k) (pGet tyRec l k) = m') :
    rebDInv cn cl cp me l (pAdd .i64 (k : Int) 1, mNotes m', mSto m', mDesk m', ()) ∧ Nat.le (Nat.succ (rebDMu cn cl cp me l (pAdd .i64 (k : Int) 1, mNotes m', mSto m', mDesk m', ()))) (rebDMu cn cl cp me l (rebY me l k)) := by
  subst h
  refine ⟨⟨k + 1, ?_, hk⟩, mu_step hk hb⟩
  rw [pAdd1 hb, memK_succ hk]
theorem endM_yes {me : Int} {m : MemD} {t : TxnD} {g : Bool} (h : pEq (endE (mSto m) t) 0 = true) : endM me m t g = withS m (endS (mSto m) t g) := by unfold endM; rw [h]; rfl
theorem endM_no {me : Int} {m : MemD} {t : TxnD} {g : Bool} (h : pEq (endE (mSto m) t) 0 = false) : endM me m t g = m := by unfold endM; rw [h]; rfl
theorem step1y {m : MemD} {r : RecD} (h : pEq r.1 1 = true) (e : pEq (writeE (mSto m) (rTxn r) r.2.2.2.1 r.2.2.2.2.1 r.2.2.2.2.2.1) 0 = true) : stepM me m r = withS m (writeS (mSto m) (rTxn r) r.2.2.2.1 r.2.2.2.2.1 r.2.2.2.2.2.1) := by
  unfold stepM; rw [h, e]; rfl
theorem step1n {m : MemD} {r : RecD} (h : pEq r.1 1 = true) (e : pEq (writeE (mSto m) (rTxn r) r.2.2.2.1 r.2.2.2.2.1 r.2.2.2.2.2.1) 0 = false) : stepM me m r = m := by
  unfold stepM; rw [h, e]; rfl
theorem step2 {m : MemD} {r : RecD} (h1 : pEq r.1 1 = false) (h : pEq r.1 2 = true) : stepM me m r = withNs (endM me m (rTxn r) r.2.2.2.2.2.2.1) (m.2.2.2.2.2.2.1.map (dmgR r)) := by
  unfold stepM; rw [h1, h]; rfl
theorem step6 {m : MemD} {r : RecD} (h1 : pEq r.1 1 = false) (h2 : pEq r.1 2 = false) (h : pEq r.1 6 = true) : stepM me m r = withNs (endM me m (rTxn r) r.2.2.2.2.2.2.1) (pApp m.2.2.2.2.2.2.1 [(r.2.1, r.2.2.1, r.2.2.2.2.2.2.1, false, ())]) := by
  unfold stepM; rw [h1, h2, h]; rfl
theorem stepR {m : MemD} {r : RecD} (h1 : pEq r.1 1 = false) (h2 : pEq r.1 2 = false) (h6 : pEq r.1 6 = false) : stepM me m r = cond (pEq r.1 3) (commM me m r) (cond (pEq r.1 4) (withJ m (delJ m.2.2.2.2.2.1 r.2.1 r.2.2.1 me)) (cond (pEq r.1 5) (cond (pEq r.2.1 me) (withX m (pMax m.2.2.2.2.1 (pAdd .i64 r.2.2.1 1))) m) m)) := by
  unfold stepM; rw [h1, h2, h6]; rfl
theorem no6 {r : RecD} (h : pEq r.1 2 = true) : pEq r.1 6 = false := by simp only [pEq, beq_iff_eq, beq_eq_false_iff_ne] at *; omega

theorem reb_t6 {k : Nat} (hk : k < l.length) (hb : k < 4611686018427387904) (hm : MemOk (memK me l k)) (h1 : pEq (pGet tyRec l k).1 1 = false)
    (h26 : pEq (pGet tyRec l k).1 2 = true ∨ (pEq (pGet tyRec l k).1 2 = false ∧ pEq (pGet tyRec l k).1 6 = true)) : RebuiltOf_t6 cn cl cp me l (rebY me l k) := by
  have hF : ∀ y, rebFInv cn cl cp me l (k : Int) y ↔ ∃ j : Nat, y = ((j : Int), damRK (pGet tyRec l k) (mNotes (memK me l k)) j, ()) ∧ j ≤ (mNotes (memK me l k)).length ∧ (pEq (pGet tyRec l k).1 2 = true ∨ j = 0) := fun y => by
    unfold rebFInv; rw [pNat_coe]
  have hMu : ∀ y, rebFMu cn cl cp me l (k : Int) y = (mNotes (memK me l k)).length - y.1.toNat := fun y => by unfold rebFMu; rw [pNat_coe]
  have hn : (mNotes (memK me l k)).length < 1759218604441 := hm.2.2
  have go := rebD_go (cn := cn) (cl := cl) (cp := cp) (me := me) hk hb
  have inner : ∀ j, j < (mNotes (memK me l k)).length → pEq (pGet tyRec l k).1 2 = true → RebuiltOf_t7 cn cl cp me l (rebY me l k) ((j : Int), damRK (pGet tyRec l k) (mNotes (memK me l k)) j, ()) := by
    intro j hj h2
    unfold RebuiltOf_t7 RebuiltOf_t8
    dsimp only
    rw [pNat_coe, pNat_coe, damRK_get hj]
    have hb2 : j < 4611686018427387904 := by omega
    have hin : pIn (j : Int) (pLen (damRK (pGet tyRec l k) (mNotes (memK me l k)) j)) := by
      unfold pLen; rw [damRK_len (Nat.le_of_lt hj)]; exact pIn_coe.2 hj
    have nx' : ∀ A : List NoteD, A = damRK (pGet tyRec l k) (mNotes (memK me l k)) (j + 1) → rebFInv cn cl cp me l (k : Int) (pAdd .i64 (j : Int) 1, A, ()) ∧ Nat.le (Nat.succ (rebFMu cn cl cp me l (k : Int) (pAdd .i64 (j : Int) 1, A, ()))) (rebFMu cn cl cp me l (k : Int) ((j : Int), damRK (pGet tyRec l k) (mNotes (memK me l k)) j, ())) :=
      fun A e => ⟨(hF _).2 ⟨j + 1, by rw [pAdd1 hb2, e], hj, .inl h2⟩, by rw [hMu, hMu]; exact mu_step hj hb2⟩
    refine ⟨hin, bif_ok (fun a => ⟨hin, bif_ok (fun b => ⟨hin, nx' _ ?_⟩) fun b => nx' _ (damRK_skip hj ?_)⟩) fun a => nx' _ (damRK_skip hj ?_)⟩
    · rw [← damRK_set hj, dmgR_hit]
      show (pAndB (pEq _ _) (pEq _ _) && pNot (pBeq _ _)) = true
      rw [a, b]; rfl
    · show (pAndB (pEq _ _) (pEq _ _) && pNot (pBeq _ _)) = false
      rw [b, Bool.and_false]
    · show (pAndB (pEq _ _) (pEq _ _) && pNot (pBeq _ _)) = false
      rw [a, Bool.false_and]
  have room : pRoom (pPlus (pLen (mNotes (memK me l k))) 1) 24 := by show ((mNotes (memK me l k)).length + 1) * 24 ≤ 140737488351232; omega
  have dam0 : damRK (pGet tyRec l k) (mNotes (memK me l k)) 0 = mNotes (memK me l k) := rfl
  unfold RebuiltOf_t6
  refine ⟨small_ok hm.1, bif_ok (fun e => ⟨(hF _).2 ⟨0, rfl, Nat.zero_le _, .inr rfl⟩, fun y1 hy1 => ?_⟩) fun e => ⟨(hF _).2 ⟨0, rfl, Nat.zero_le _, .inr rfl⟩, fun y1 hy1 => ?_⟩⟩
  all_goals
    dsimp only at e hy1
    rw [pNat_coe] at e
    obtain ⟨j, rfl, hj, hc⟩ := (hF _).1 hy1
  · have e : pEq (endE (mSto (memK me l k)) (rTxn (pGet tyRec l k))) 0 = true := e
    have out : (pEq (pGet tyRec l k).1 2 = true → j = (mNotes (memK me l k)).length) → RebuiltOf_t9 cn cl cp me l (rebY me l k) ((j : Int), damRK (pGet tyRec l k) (mNotes (memK me l k)) j, ()) := by
      intro hq
      unfold RebuiltOf_t9
      dsimp only
      rw [pNat_coe]
      refine bif_ok (fun k6 => ?_) fun k6 => ?_
      · have k2 : pEq (pGet tyRec l k).1 2 = false := by
          cases q : pEq (pGet tyRec l k).1 2 with
          | false => rfl
          | true => rw [no6 q] at k6; cases k6
        obtain rfl : j = 0 := by rcases hc with hc | hc; rw [k2] at hc; cases hc; exact hc
        rw [dam0]
        exact ⟨room, go (withNs (withS (memK me l k) (endS (mSto (memK me l k)) (rTxn (pGet tyRec l k)) (pGet tyRec l k).2.2.2.2.2.2.1)) (pApp (mNotes (memK me l k)) [((pGet tyRec l k).2.1, (pGet tyRec l k).2.2.1, (pGet tyRec l k).2.2.2.2.2.2.1, false, ())])) (by rw [step6 h1 k2 k6, endM_yes e]; rfl)⟩
      · have k2 : pEq (pGet tyRec l k).1 2 = true := by rcases h26 with h | ⟨_, h⟩; exact h; rw [k6] at h; cases h
        rw [hq k2, damRK_all]
        exact go (withNs (withS (memK me l k) (endS (mSto (memK me l k)) (rTxn (pGet tyRec l k)) (pGet tyRec l k).2.2.2.2.2.2.1)) ((mNotes (memK me l k)).map (dmgR (pGet tyRec l k)))) (by rw [step2 h1 k2, endM_yes e]; rfl)
    refine bif_ok (fun a => bif_ok (fun b => ?_) fun b => out fun h => ?_) fun a => out fun h => ?_
    · dsimp only at a b
      rw [pNat_coe] at b
      refine inner j ?_ b
      unfold pLen at a; rw [damRK_len hj, pLt_coe] at a; simpa using a
    · dsimp only at b
      rw [pNat_coe, h] at b; cases b
    · dsimp only at a
      unfold pLen at a; rw [damRK_len hj, pLt_coe] at a
      have : ¬ j < (mNotes (memK me l k)).length := by simpa using a
      omega
  · have e : pEq (endE (mSto (memK me l k)) (rTxn (pGet tyRec l k))) 0 = false := e
    have out : (pEq (pGet tyRec l k).1 2 = true → j = (mNotes (memK me l k)).length) → RebuiltOf_t10 cn cl cp me l (rebY me l k) ((j : Int), damRK (pGet tyRec l k) (mNotes (memK me l k)) j, ()) := by
      intro hq
      unfold RebuiltOf_t10
      dsimp only
      rw [pNat_coe]
      refine bif_ok (fun k6 => ?_) fun k6 => ?_
      · have k2 : pEq (pGet tyRec l k).1 2 = false := by
          cases q : pEq (pGet tyRec l k).1 2 with
          | false => rfl
          | true => rw [no6 q] at k6; cases k6
        obtain rfl : j = 0 := by rcases hc with hc | hc; rw [k2] at hc; cases hc; exact hc
        rw [dam0]
        exact ⟨room, go (withNs (memK me l k) (pApp (mNotes (memK me l k)) [((pGet tyRec l k).2.1, (pGet tyRec l k).2.2.1, (pGet tyRec l k).2.2.2.2.2.2.1, false, ())])) (by rw [step6 h1 k2 k6, endM_no e]; rfl)⟩
      · have k2 : pEq (pGet tyRec l k).1 2 = true := by rcases h26 with h | ⟨_, h⟩; exact h; rw [k6] at h; cases h
        rw [hq k2, damRK_all]
        exact go (withNs (memK me l k) ((mNotes (memK me l k)).map (dmgR (pGet tyRec l k)))) (by rw [step2 h1 k2, endM_no e]; rfl)
    refine bif_ok (fun a => bif_ok (fun b => ?_) fun b => out fun h => ?_) fun a => out fun h => ?_
    · dsimp only at a b
      rw [pNat_coe] at b
      refine inner j ?_ b
      unfold pLen at a; rw [damRK_len hj, pLt_coe] at a; simpa using a
    · dsimp only at b
      rw [pNat_coe, h] at b; cases b
    · dsimp only at a
      unfold pLen at a; rw [damRK_len hj, pLt_coe] at a
      have : ¬ j < (mNotes (memK me l k)).length := by simpa using a
      omega

theorem reb_t11 {k : Nat} (hk : k < l.length) (hb : k < 4611686018427387904) (hm : MemOk (memK me l k)) (hr : inF (pGet tyRec l k).2.2.1 1 1048576 = true) (hs : pLen (pGet tyRec l k).2.2.2.2.2.2.2.1 < 1000000)
    (h1 : pEq (pGet tyRec l k).1 1 = false) (h2 : pEq (pGet tyRec l k).1 2 = false) (h6 : pEq (pGet tyRec l k).1 6 = false) (hkd : inF (pGet tyRec l k).1 1 6 = true) : RebuiltOf_t11 cn cl cp me l (rebY me l k) := by
  have go := rebD_go (cn := cn) (cl := cl) (cp := cp) (me := me) hk hb
  have stay : stepM me (memK me l k) (pGet tyRec l k) = memK me l k → RebuiltOf_t5 cn cl cp me l (rebY me l k) := go (memK me l k)
  have eR := stepR (me := me) (m := memK me l k) h1 h2 h6
  have j6 : (mJobs (memK me l k)).length ≤ 6 := hm.2.1.1
  have hrn := inF_iff.1 hr
  have nc : noComm me (memK me l k) (pGet tyRec l k) = (pGe (idxKeyJ (mJobs (memK me l k)) (pGet tyRec l k).2.2.1) 0 || (pNe (pGet tyRec l k).2.1 me || (pGe (pGet tyRec l k).2.2.1 (mNext (memK me l k)) || (pEq (pInt (pLen (pGet tyRec l k).2.2.2.2.2.2.2.1)) 0 || pEq (pInt (pLen (mJobs (memK me l k)))) 6)))) := rfl
  unfold RebuiltOf_t11
  dsimp only
  rw [pNat_coe]
  refine bif_ok (fun k3 => ?_) fun k3 => bif_ok (fun k4 => ⟨by show (mJobs (memK me l k)).length < _; omega, bif_ok (fun a => bif_ok (fun b => ?_) fun b => ?_) fun a => ?_⟩) fun k4 => bif_ok (fun a => bif_ok (fun b => ?_) fun b => ?_) fun a => ?_
  · have no : noComm me (memK me l k) (pGet tyRec l k) = true → RebuiltOf_t5 cn cl cp me l (rebY me l k) := fun h => stay (by rw [eR, k3]; unfold commM; rw [h]; rfl)
    have b6 : pEq (pInt (pLen (mJobs (memK me l k)))) 6 = pGe (pInt (pLen (mJobs (memK me l k)))) 6 := by
      unfold pEq pGe pInt pLen
      rw [Bool.eq_iff_iff]; simp only [beq_iff_eq, decide_eq_true_eq]; omega
    refine bif_ok (fun a => no (by rw [nc, a]; simp)) fun a => bif_ok (fun b => no (by rw [nc, show pGe (pGet tyRec l k).2.2.1 (mNext (memK me l k)) = true from b]; simp)) fun b => bif_ok (fun c => no (by rw [nc, c]; simp)) fun c =>
      bif_ok (fun d => no (by rw [nc, b6, show pGe (pInt (pLen (mJobs (memK me l k)))) 6 = true from d]; simp)) fun d =>
      ⟨by show (mJobs (memK me l k)).length < _; omega, bif_ok (fun f => no (by rw [nc, show pGe (idxKeyJ (mJobs (memK me l k)) (pGet tyRec l k).2.2.1) 0 = true from f]; simp)) fun f => ⟨?_, ?_, fun y1 hy1 => ?_⟩⟩
    · show (pGet tyRec l k).2.2.2.2.2.2.2.1.length * 8 ≤ 140737488351232
      have : (pGet tyRec l k).2.2.2.2.2.2.2.1.length < 1000000 := hs
      omega
    · refine ⟨0, ?_, Nat.zero_le _⟩
      rw [show decide (insP (mJobs (memK me l (pNat (k : Int)))) (pGet tyRec l (pNat (k : Int))) < 0) = false by simp]
      unfold insK
      rw [show decide (insP (mJobs (memK me l (pNat (k : Int)))) (pGet tyRec l (pNat (k : Int))) < 0) = false by simp]; rfl
    · have f' : pGe (idxKeyJ (mJobs (memK me l k)) (pGet tyRec l k).2.2.1) 0 = false := f
      have d' : pGe (pInt (pLen (mJobs (memK me l k)))) 6 = false := d
      have e2 : stepM me (memK me l k) (pGet tyRec l k) = withJ (memK me l k) (pIns (mJobs (memK me l k)) (pNat (posJ (mJobs (memK me l k)) (pGet tyRec l k).2.2.1)) (jobOf (pGet tyRec l k))) := by
        rw [eR, k3, cond_true]; unfold commM
        rw [nc, f', a, show pGe (pGet tyRec l k).2.2.1 (mNext (memK me l k)) = false from b, c, b6, d']; rfl
      obtain ⟨p, hp, hpl, hlo, hhi⟩ := posJ_is (mJobs (memK me l k)) (pGet tyRec l k).2.2.1
      rw [hp, pNat_coe] at e2
      have eP : insP (mJobs (memK me l k)) (pGet tyRec l k) = p := by unfold insP; rw [hp, pNat_coe]
      have hG : ∀ y, rebGInv cn cl cp me l (k : Int) y ↔ ∃ j : Nat, y = ((j : Int), decide (p < j), insK (mJobs (memK me l k)) p (jobOf (pGet tyRec l k)) j, ()) ∧ j ≤ (mJobs (memK me l k)).length := fun y => by
        unfold rebGInv; rw [pNat_coe, eP]
      have hMu : ∀ y, rebGMu cn cl cp me l (k : Int) y = (mJobs (memK me l k)).length - y.1.toNat := fun y => by unfold rebGMu; rw [pNat_coe]
      obtain ⟨j, rfl, hj⟩ := (hG _).1 hy1
      have hb2 : j < 4611686018427387904 := by omega
      have il := insK_len (x := jobOf (pGet tyRec l k)) hj hpl
      have room : ∀ n : Nat, n ≤ 9 → pRoom n 80 := fun n h => by show n * 80 ≤ 140737488351232; omega
      have step : ∀ (A : List JobD) (B : Bool), j < (mJobs (memK me l k)).length → B = decide (p < j + 1) → A = insK (mJobs (memK me l k)) p (jobOf (pGet tyRec l k)) (j + 1) → rebGInv cn cl cp me l (k : Int) (pAdd .i64 (j : Int) 1, B, A, ()) ∧
          Nat.le (Nat.succ (rebGMu cn cl cp me l (k : Int) (pAdd .i64 (j : Int) 1, B, A, ()))) (rebGMu cn cl cp me l (k : Int) ((j : Int), decide (p < j), insK (mJobs (memK me l k)) p (jobOf (pGet tyRec l k)) j, ())) := fun A B hjl eB eA =>
        ⟨(hG _).2 ⟨j + 1, by rw [pAdd1 hb2, eA, eB], hjl⟩, by rw [hMu, hMu]; exact mu_step hjl hb2⟩
      have r1 : pRoom (pPlus (pLen (insK (mJobs (memK me l k)) p (jobOf (pGet tyRec l k)) j)) 1) 80 := room _ (by show (insK (mJobs (memK me l k)) p (jobOf (pGet tyRec l k)) j).length + 1 ≤ 9; omega)
      dsimp only
      by_cases hjl : j < (mJobs (memK me l k)).length
      · have hne : pEq (pGet tyJob (mJobs (memK me l k)) j).1 (pGet tyRec l k).2.2.1 = false := by
          cases h : pEq (pGet tyJob (mJobs (memK me l k)) j).1 (pGet tyRec l k).2.2.1 with
          | false => rfl
          | true =>
          have h2 : anyUpto (keyAtJ (mJobs (memK me l k)) (pGet tyRec l k).2.2.1) (mJobs (memK me l k)).length = false := by rw [← idxOf_ge]; exact f'
          have : anyUpto (keyAtJ (mJobs (memK me l k)) (pGet tyRec l k).2.2.1) (mJobs (memK me l k)).length = true := anyUpto_iff.2 ⟨j, hjl, h⟩
          rw [h2] at this; cases this
        have far : (decide (p < j) = true ∨ j < p) → RebuiltOf_t12 cn cl cp me l (rebY me l k) ((j : Int), decide (p < j), insK (mJobs (memK me l k)) p (jobOf (pGet tyRec l k)) j, ()) := fun h => by
          unfold RebuiltOf_t12
          dsimp only
          rw [pNat_coe]
          refine ⟨pIn_coe.2 hjl, r1, ?_⟩
          rcases h with h | h
          · have h' : p < j := of_decide_eq_true h
            exact step _ _ hjl (by rw [decide_eq_true h', decide_eq_true (show p < j + 1 by omega)]) (insK_far h' hjl)
          · exact step _ _ hjl (by rw [decide_eq_false (show ¬ p < j by omega), decide_eq_false (show ¬ p < j + 1 by omega)]) (insK_low h hjl)
        rw [bif_true (show pLt (j : Int) (pInt (pLen (mDesk (memK me l k)).2.1)) = true by rw [pLt_coe]; exact decide_eq_true hjl), pNat_coe]
        refine ⟨pIn_coe.2 hjl, bif_ok (fun g => bif_ok (fun q => ?_) fun q => far (.inl (by simpa [pNot] using q))) fun g => far (.inr ?_)⟩
        · have hpj : p = j := by
            have q' : ¬ p < j := by simpa [pNot] using q
            by_cases hjp : j < p
            · have := hlo j hjp
              simp only [pGe, decide_eq_false_iff_not] at this
              have g' : pGt (pGet tyJob (mJobs (memK me l k)) j).1 (pGet tyRec l k).2.2.1 = true := g
              simp only [pGt, decide_eq_true_eq] at g'
              omega
            · omega
          subst hpj
          refine ⟨r1, pIn_coe.2 hjl, room _ ?_, step _ _ hjl (by simp) (insK_at hjl)⟩
          show (insK (mJobs (memK me l k)) p (jobOf (pGet tyRec l k)) p ++ [_]).length + 1 ≤ 9
          rw [List.length_append]; show (insK (mJobs (memK me l k)) p (jobOf (pGet tyRec l k)) p).length + 1 + 1 ≤ 9; omega
        · by_cases hjp : j < p
          · exact hjp
          · have h3 := hhi (by omega)
            have g' : pGt (pGet tyJob (mJobs (memK me l k)) j).1 (pGet tyRec l k).2.2.1 = false := g
            simp only [pGt, pGe, decide_eq_true_eq, decide_eq_false_iff_not] at g' h3
            by_cases hpj : p = j
            · subst hpj
              simp only [pEq, beq_eq_false_iff_ne] at hne
              omega
            · have := List.pairwise_iff_getElem.1 (sortJ_iff.1 hm.2.1.2.1) p j (by show p < (mJobs (memK me l k)).length; omega) hjl (by omega)
              rw [pGet_lt (t := tyJob) (show p < (mJobs (memK me l k)).length by omega)] at h3
              rw [pGet_lt (t := tyJob) hjl] at g'
              have h5 : (mJobs (memK me l k))[p].1 < (mJobs (memK me l k))[j].1 := this
              omega
      · obtain rfl : j = (mJobs (memK me l k)).length := by omega
        rw [bif_false (show pLt ((mJobs (memK me l k)).length : Int) (pInt (pLen (mDesk (memK me l k)).2.1)) = false by rw [pLt_coe]; exact decide_eq_false (by show ¬ (mJobs (memK me l k)).length < (mJobs (memK me l k)).length; omega))]
        refine bif_ok (fun q => ⟨r1, ?_⟩) fun q => ?_
        · have hpl2 : p = (mJobs (memK me l k)).length := by
            have q' : ¬ p < (mJobs (memK me l k)).length := by simpa [pNot] using q
            omega
          rw [hpl2] at e2 ⊢
          rw [← insK_last] at e2
          exact go _ e2
        · have q' : p < (mJobs (memK me l k)).length := by simpa [pNot] using q
          rw [← insK_end q'] at e2
          exact go _ e2
  · have b' : pGe (idxKeyJ (mJobs (memK me l k)) (pGet tyRec l k).2.2.1) 0 = true := b
    refine ⟨by show (mJobs (memK me l k)).length < 1000; omega, ?_⟩
    rcases idxOf_cases (p := keyAtJ (mJobs (memK me l k)) (pGet tyRec l k).2.2.1) (n := (mJobs (memK me l k)).length) with ⟨q1, q2⟩ | ⟨i, q1, hi, q3, q4⟩
    · rw [show idxKeyJ (mJobs (memK me l k)) (pGet tyRec l k).2.2.1 = -1 from q1] at b'; cases b'
    · have e3 : withoutF (mJobs (memK me l k)) (idxKeyJ (mJobs (memK me l k)) (pGet tyRec l k).2.2.1) = delJ (mJobs (memK me l k)) (pGet tyRec l k).2.1 (pGet tyRec l k).2.2.1 me := by
        rw [show idxKeyJ (mJobs (memK me l k)) (pGet tyRec l k).2.2.1 = (i : Int) from q1, without_is hi, del_at (l := mJobs (memK me l k)) (rn := (pGet tyRec l k).2.2.1) (sortJ_iff.1 hm.2.1.2.1) hi a (by first | exact q3 | exact q4)]
      exact go (withJ (memK me l k) (withoutF (mJobs (memK me l k)) (idxKeyJ (mJobs (memK me l k)) (pGet tyRec l k).2.2.1))) (by rw [e3, eR, k3, k4]; rfl)
  · exact stay (by rw [eR, k3, k4, show delJ (memK me l k).2.2.2.2.2.1 (pGet tyRec l k).2.1 (pGet tyRec l k).2.2.1 me = mJobs (memK me l k) from del_none (.inr b)]; rfl)
  · exact stay (by rw [eR, k3, k4, show delJ (memK me l k).2.2.2.2.2.1 (pGet tyRec l k).2.1 (pGet tyRec l k).2.2.1 me = mJobs (memK me l k) from del_none (.inl a)]; rfl)
  all_goals
    have k5 : pEq (pGet tyRec l k).1 5 = true := by
      have := inF_iff.1 hkd
      simp only [pEq, beq_iff_eq, beq_eq_false_iff_ne] at *
      omega
  · have e3 : pMax (mNext (memK me l k)) (pAdd .i64 (pGet tyRec l k).2.2.1 1) = pAdd .i64 (pGet tyRec l k).2.2.1 1 := by
      obtain ⟨n, hn⟩ : ∃ n : Nat, (pGet tyRec l k).2.2.1 = (n : Int) := ⟨(pGet tyRec l k).2.2.1.toNat, (Int.toNat_of_nonneg (Int.le_trans (by decide) hrn.1)).symm⟩
      have b' : pGe (pGet tyRec l k).2.2.1 (mNext (memK me l k)) = true := b
      rw [hn] at b' hrn ⊢
      rw [pAdd1 (by omega)]
      simp only [pGe, decide_eq_true_eq] at b'
      unfold pMax; rw [if_pos (by omega)]
    exact go (withX (memK me l k) (pAdd .i64 (pGet tyRec l k).2.2.1 1)) (by rw [eR, k3, k4, k5, a]; show withX _ (pMax (mNext (memK me l k)) _) = _; rw [e3])
  · have e3 : pMax (mNext (memK me l k)) (pAdd .i64 (pGet tyRec l k).2.2.1 1) = mNext (memK me l k) := by
      obtain ⟨n, hn⟩ : ∃ n : Nat, (pGet tyRec l k).2.2.1 = (n : Int) := ⟨(pGet tyRec l k).2.2.1.toNat, (Int.toNat_of_nonneg (Int.le_trans (by decide) hrn.1)).symm⟩
      have b' : pGe (pGet tyRec l k).2.2.1 (mNext (memK me l k)) = false := b
      rw [hn] at b' hrn ⊢
      rw [pAdd1 (by omega)]
      simp only [pGe, decide_eq_false_iff_not] at b'
      unfold pMax; rw [if_neg (by omega)]
    exact stay (by rw [eR, k3, k4, k5, a]; show withX _ (pMax (mNext (memK me l k)) _) = _; rw [e3]; rfl)
  · exact stay (by rw [eR, k3, k4, k5, a]; rfl)
end

theorem RebuiltOf_ok : Meets Tryd.prog tabsR 11 cRebuiltOf := RebuiltOf_meets cFault_ok.any In_ok.any RecordFault_ok.any WriteOfW_ok.any EndOfW_ok.any jobAt_ok.any intsCopyF_ok.any without_ok.any fun cn cl cp me l hp => by
  have hc : cl.length < 4611686018427387904 := hp (pLen cl < 4611686018427387904) (by simp)
  have hl : l.length < 4611686018427387904 := hp (pLen l < 4611686018427387904) (by simp)
  have hr : RecsOk l := hp (RecsOk l) (by simp)
  clear hp
  have err : ∀ {e : Int}, rebE (cn, cl, cp, ()) me l = e → pEq e 0 = false → (([], [], [], [], ()), ((0 : Int), [], ()), [], e, ()) = RebuiltOf_v0 cn cl cp me l := by
    intro e he h0
    unfold RebuiltOf_v0
    rw [rebM_no (by rw [he]; exact h0), he]; rfl
  have ne : ∀ {e : Int}, pNe e 0 = true → pEq e 0 = false := fun h => by simpa [pNe, pEq] using h
  have ne2 : ∀ {e : Int}, pNe e 0 = false → pEq e 0 = true := fun h => by simpa [pNe, pEq] using h
  have t4 : ∀ (k : Nat) (e : Int), k ≤ l.length → ((k = 0 ∧ e = rebE0 (cn, cl, cp, ()) me) ∨ (pEq (rebE0 (cn, cl, cp, ()) me) 0 = true ∧ 0 < k ∧ e = recAt (cn, cl, cp, ()) l (k - 1) ∧ ∀ j, j < k - 1 → pEq (recAt (cn, cl, cp, ()) l j) 0 = true)) →
      (k = l.length ∨ pEq e 0 = false) → RebuiltOf_t4 cn cl cp me l ((k : Int), e, ()) := by
    intro k e hk h hq
    obtain ⟨e1, e2⟩ := recs_end hk h hq
    unfold RebuiltOf_t4
    refine bif_ok (fun a => err e1 (ne a)) fun a => ?_
    have a' : pEq e 0 = true := ne2 a
    have hall := e2 a'
    have hok := allOk hall
    rw [eq_of a'] at e1
    refine ⟨⟨0, rfl, Nat.zero_le _⟩, fun y hy => ?_⟩
    obtain ⟨k, rfl, hk⟩ := hy
    have hb : k < 4611686018427387904 := by omega
    dsimp only
    by_cases hkn : k < l.length
    · have hm : MemOk (memK me l k) := (memK_k (fun j hj => (hok j hj).1) k hk).ok (by have := hr.1; omega)
      have hkd := recAt_kind (hall k hkn)
      have go := rebD_go (cn := cn) (cl := cl) (cp := cp) (me := me) hkn hb
      rw [bif_true (by simp [pLt_coe, pLen, hkn]), pNat_coe]
      refine ⟨pIn_coe.2 hkn, bif_ok (fun h1 => ⟨small_ok hm.1, bif_ok (fun w => ?_) fun w => ?_⟩) fun h1 => bif_ok (fun h2 => bif_ok (fun _ => ?_) fun h => ?_) fun h2 => bif_ok (fun h6 => ?_) fun h6 => ?_⟩
      · exact go _ (step1y h1 w)
      · exact go (memK me l k) (step1n h1 w)
      · exact reb_t6 hkn hb hm h1 (.inl h2)
      · rw [h2] at h; cases h
      · exact reb_t6 hkn hb hm h1 (.inr ⟨h2, h6⟩)
      · exact reb_t11 hkn hb hm (hok k hkn).1 (hok k hkn).2 h1 h2 h6 hkd
    · obtain rfl : k = l.length := by omega
      rw [bif_false (by simp [pLt_coe, pLen])]
      show _ = RebuiltOf_v0 cn cl cp me l
      unfold RebuiltOf_v0
      rw [e1, rebM_zero e1]; rfl
  have t3 : cfgF (cn, cl, cp, ()) = rebE0 (cn, cl, cp, ()) me → RebuiltOf_t3 cn cl cp me l := by
    intro hz
    unfold RebuiltOf_t3
    refine ⟨⟨0, _, rfl, Nat.zero_le _, .inl ⟨rfl, hz⟩⟩, fun y hy => ?_⟩
    obtain ⟨k, e, rfl, hk, h⟩ := hy
    have hb : k < 4611686018427387904 := by omega
    refine bif_ok (fun a => bif_ok (fun b => ?_) fun b => t4 k e hk h (.inr b)) fun a => t4 k e hk h (.inl ?_)
    · have hkn : k < l.length := by dsimp only at a; rw [pLt_coe] at a; exact of_decide_eq_true a
      have b' : pEq e 0 = true := b
      have hk9 := hr.2 (pGet tyRec l k) (by rw [pGet_lt (t := tyRec) hkn]; exact List.getElem_mem hkn)
      unfold RebuiltOf_t0
      dsimp only
      rw [pNat_coe]
      refine ⟨pIn_coe.2 hkn, hc, hk9, ⟨k + 1, recAt (cn, cl, cp, ()) l k, by rw [pAdd1 hb]; rfl, hkn, .inr ⟨?_, by omega, rfl, fun j hj => ?_⟩⟩, mu_step hkn hb⟩
      · rcases h with ⟨_, h⟩ | ⟨h, _⟩
        · rw [← h]; exact b'
        · exact h
      · rcases h with ⟨h, _⟩ | ⟨_, h2, h3, h4⟩
        · omega
        · by_cases hj2 : j = k - 1
          · rw [hj2, ← h3]; exact b'
          · exact h4 j (by omega)
    · dsimp only at a; rw [pLt_coe] at a
      have : ¬ k < l.length := of_decide_eq_false a
      omega
  unfold RebuiltOf_VC RebuiltOf_t3 RebuiltOf_t4 RebuiltOf_t11 RebuiltOf_t12 RebuiltOf_t6 RebuiltOf_t10 RebuiltOf_t9 RebuiltOf_t7 RebuiltOf_t8 RebuiltOf_t5 RebuiltOf_t1 RebuiltOf_t2 RebuiltOf_t0 RebuiltOf_v0
  refine ⟨hc, bif_ok (fun h0 => bif_ok (fun b => ?_) fun b => t3 ?_) fun h0 => t3 ?_⟩
  · have hz : rebE0 (cn, cl, cp, ()) me = 2 := by unfold rebE0; rw [h0, cond_true]; show cond (pNot (inF me 0 (pSubI .i64 cn 1))) 2 0 = 2; rw [b]; rfl
    refine ⟨⟨0, 2, rfl, Nat.zero_le _, .inl ⟨rfl, hz.symm⟩⟩, fun y hy => ?_⟩
    obtain ⟨k, e, rfl, hk, h⟩ := hy
    have he : e = 2 := by
      rcases h with ⟨_, h⟩ | ⟨h, _⟩
      · rw [h, hz]
      · rw [hz] at h; cases h
    subst he
    have hE : rebE (cn, cl, cp, ()) me l = 2 := by rw [rebE_E0, hz]; rfl
    have t1 : RebuiltOf_t1 cn cl cp me l ((k : Int), 2, ()) := by unfold RebuiltOf_t1; exact err hE rfl
    exact bif_ok (fun _ => t1) fun _ => t1
  · unfold rebE0; rw [h0, cond_true, show inF me 0 (pSubI .i64 ((cn, cl, cp, ()) : CfgD).1 1) = true by simpa [pNot] using b]; exact eq_of h0
  · unfold rebE0; rw [h0]; rfl


end Go.Proofs.YtkhnakdmkhidbaaDoor

/- What comes back from a tape: what the law says of it. No condition. -/
namespace Go.Proofs.YtkhnakdmkhidbaaDoor
open Go.RowKit

/-- jobs whose lists are short -/
def JobsSm (js : List JobD) : Prop := ∀ q ∈ js, q.2.2.1.length < 1000000 ∧ q.2.2.2.1.length < 1000000
theorem stepM_sm {me : Int} {m : MemD} {r : RecD} (h : JobsSm (mJobs m)) (hr : pLen r.2.2.2.2.2.2.2.1 < 1000000) : JobsSm (mJobs (stepM me m r)) := by
  have hE : ∀ g ns, mJobs (withNs (endM me m (rTxn r) g) ns) = mJobs m := fun g ns => congrArg (·.2.1) (endM_ns (me := me) (m := m) (t := rTxn r) (g := g))
  have hr' : r.2.2.2.2.2.2.2.1.length < 1000000 := hr
  cases k1 : pEq r.1 1 with
  | true =>
    cases he : pEq (writeE (mSto m) (rTxn r) r.2.2.2.1 r.2.2.2.2.1 r.2.2.2.2.2.1) 0 with
    | true => rw [step1y k1 he]; exact h
    | false => rw [step1n k1 he]; exact h
  | false =>
    cases k2 : pEq r.1 2 with
    | true => rw [step2 k1 k2, hE]; exact h
    | false =>
      cases k6 : pEq r.1 6 with
      | true => rw [step6 k1 k2 k6, hE]; exact h
      | false =>
        rw [stepR k1 k2 k6]
        cases pEq r.1 3 with
        | true =>
          rw [cond_true]; unfold commM
          cases noComm me m r with
          | true => exact h
          | false =>
            intro q hq
            rcases ins_mem (l := mJobs m) hq with rfl | hq
            · exact ⟨by show 0 < 1000000; decide, hr'⟩
            · exact h q hq
        | false =>
          rw [cond_false]
          cases pEq r.1 4 with
          | true => exact fun q hq => h q (List.mem_filter.1 hq).1
          | false =>
            rw [cond_false]
            cases pEq r.1 5 with
            | true => rw [cond_true]; cases pEq r.2.1 me <;> exact h
            | false => exact h
theorem memK_sm {me : Int} {l : List RecD} (hr : ∀ j, j < l.length → pLen (pGet tyRec l j).2.2.2.2.2.2.2.1 < 1000000) : ∀ k, k ≤ l.length → JobsSm (mJobs (memK me l k))
  | 0, _ => fun q hq => by cases hq
  | k + 1, h => by rw [memK_succ (by omega)]; exact stepM_sm (memK_sm hr k (by omega)) (hr k (by omega))
theorem firstE_all {e : Nat → Int} {n : Nat} (h : pEq (firstE e n) 0 = true) : ∀ j, j < n → pEq (e j) 0 = true := by
  intro j
  induction j using Nat.strongRecOn with
  | ind j ih =>
    intro hj
    cases hq : pEq (e j) 0 with
    | true => rfl
    | false => rw [firstE_hit hj (fun i hi => ih i hi (by omega)) hq, hq] at h; cases h
theorem rebM_ok {c : CfgD} {me : Int} {l : List RecD} (hl : l.length < 1759218604441) : MemOk (rebM c me l) ∧ JobsSm (mJobs (rebM c me l)) := by
  cases he : pEq (rebE c me l) 0 with
  | false =>
    rw [rebM_no he]
    exact ⟨⟨⟨by decide, by decide, by decide, by decide⟩, ⟨by decide, by rfl, fun q hq => by cases hq⟩, by decide⟩, fun q hq => by cases hq⟩
  | true =>
    rw [rebM_zero (eq_of he)]
    rw [rebE_E0] at he
    cases h0 : pEq (rebE0 c me) 0 with
    | false => rw [h0, cond_false, h0] at he; cases he
    | true =>
      rw [h0, cond_true] at he
      have hok := allOk (firstE_all he)
      exact ⟨(memK_k (fun j hj => (hok j hj).1) l.length (Nat.le_refl _)).ok hl, memK_sm (fun j hj => (hok j hj).2) l.length (Nat.le_refl _)⟩
theorem sameTasks_refl (l : List TaskD) : sameTasksF l l = true := by
  unfold sameTasksF
  rw [allUpto_true fun j _ => by simp [eqTaskAt, eqTask, pAndB, pEq, pBeq]]
  simp
theorem sameDesk_refl (a : DeskD) : sameDeskF a a = true := by
  unfold sameDeskF
  rw [allUpto_true fun j _ => by simp [eqJobAt, sameJobF, pNe, pNot, sameTasks_refl, sameInts_refl]]
  simp [pEq]
theorem rebuilds_vc (cn : Int) (cl : List LabD) (cp me : Int) (l : List RecD) (h1 : cl.length < 4611686018427387904) (h2 : l.length * 80 ≤ 140737488351232) (h3 : ∀ q ∈ l, pLen q.2.2.2.2.2.2.2.1 < 4611686018427387904) : RecoverRebuilds_VC cn cl cp me l := by
  have hl : l.length < 4611686018427387904 := by omega
  have hr : RecsOk l := ⟨by omega, h3⟩
  obtain ⟨⟨⟨a1, a2, a3, a4⟩, ⟨a5, _, _⟩, a6⟩, a7⟩ := rebM_ok (c := (cn, cl, cp, ())) (me := me) (l := l) (by omega)
  have a1 : (rebM (cn, cl, cp, ()) me l).1.length ≤ 32 := a1
  have a2 : (rebM (cn, cl, cp, ()) me l).2.1.length ≤ 25 := a2
  have a3 : (rebM (cn, cl, cp, ()) me l).2.2.1.length ≤ 25 := a3
  have a4 : (rebM (cn, cl, cp, ()) me l).2.2.2.1.length ≤ 4194305 := a4
  have le62 : ∀ {a b : Nat}, a ≤ b → b < 4611686018427387904 → a < 4611686018427387904 := fun h g => Nat.lt_of_le_of_lt h g
  have lt62 : ∀ {a b : Nat}, a < b → b < 4611686018427387904 → a < 4611686018427387904 := fun h g => Nat.lt_trans h g
  unfold RecoverRebuilds_VC
  rw [show pApp [] l = l from rfl, show pEq (rebE (cn, cl, cp, ()) me l) (rebE (cn, cl, cp, ()) me l) = true by simp [pEq], cond_true, sameSto_refl, cond_true, sameDesk_refl, cond_true, sameNotes_refl]
  refine ⟨?_, h1, hl, hr, h1, hl, hr, le62 a1 (by decide), le62 a2 (by decide), le62 a3 (by decide), le62 a4 (by decide), le62 a5 (by decide), fun q hq => ?_, lt62 a6 (by decide), rfl⟩
  · show (0 + l.length) * 80 ≤ 140737488351232
    rw [Nat.zero_add]; exact h2
  · have := a7 q hq
    exact ⟨lt62 this.1 (by decide), lt62 this.2 (by decide)⟩


end Go.Proofs.YtkhnakdmkhidbaaDoor

/- The law RecoverRebuilds: for every input it returns true and turns nothing. No condition. -/
namespace Go.Proofs.YtkhnakdmkhidbaaDoor
open Go.RowKit Go.ChangeShapes Go.WideShapes Go.ChangeAt Go.Deep

def bools0 : List (List Bool) := [[false, false, false, false, false, false, false, false], [false, true, true, false, true, false, false, false], [false, false, false, false, false, true, false, false], [false, false, false, false, false, false, false, true], [false, false, false, false, false, false, false, false], [false, false, false, false, false, false, false, false], [false, false, false, false, false, true, false, false]]
theorem table0 {W : World} (hc : ∀ i j r b, i < 7 → j < 8 → bools0[i]? = some r → r[j]? = some b → W.cell? ⟨1, i * 8 + j, none⟩ = some (.bool b)) : GlobR W (fun b => b < W.heap.size) 1 (.rows tyParts recordsT) := by
  have h0 := hc 0 0 _ _ (by decide) (by decide) rfl rfl
  refine glob_rows (cell_lt h0) (bools0.map fun r => r.map .bool) (fun i hi => ?_) fun i us j u hi hj => ?_
  · have hi : i < 7 := hi
    match i, hi with
    | 0, _ => exact ⟨_, rfl, ⟨[_], _, rfl, rfl, ⟨[_], _, rfl, rfl, ⟨[_], _, rfl, rfl, ⟨[_], _, rfl, rfl, ⟨[_], _, rfl, rfl, ⟨[_], _, rfl, rfl, ⟨[_], _, rfl, rfl, ⟨[_], _, rfl, rfl, rfl⟩⟩⟩⟩⟩⟩⟩⟩⟩
    | 1, _ => exact ⟨_, rfl, ⟨[_], _, rfl, rfl, ⟨[_], _, rfl, rfl, ⟨[_], _, rfl, rfl, ⟨[_], _, rfl, rfl, ⟨[_], _, rfl, rfl, ⟨[_], _, rfl, rfl, ⟨[_], _, rfl, rfl, ⟨[_], _, rfl, rfl, rfl⟩⟩⟩⟩⟩⟩⟩⟩⟩
    | 2, _ => exact ⟨_, rfl, ⟨[_], _, rfl, rfl, ⟨[_], _, rfl, rfl, ⟨[_], _, rfl, rfl, ⟨[_], _, rfl, rfl, ⟨[_], _, rfl, rfl, ⟨[_], _, rfl, rfl, ⟨[_], _, rfl, rfl, ⟨[_], _, rfl, rfl, rfl⟩⟩⟩⟩⟩⟩⟩⟩⟩
    | 3, _ => exact ⟨_, rfl, ⟨[_], _, rfl, rfl, ⟨[_], _, rfl, rfl, ⟨[_], _, rfl, rfl, ⟨[_], _, rfl, rfl, ⟨[_], _, rfl, rfl, ⟨[_], _, rfl, rfl, ⟨[_], _, rfl, rfl, ⟨[_], _, rfl, rfl, rfl⟩⟩⟩⟩⟩⟩⟩⟩⟩
    | 4, _ => exact ⟨_, rfl, ⟨[_], _, rfl, rfl, ⟨[_], _, rfl, rfl, ⟨[_], _, rfl, rfl, ⟨[_], _, rfl, rfl, ⟨[_], _, rfl, rfl, ⟨[_], _, rfl, rfl, ⟨[_], _, rfl, rfl, ⟨[_], _, rfl, rfl, rfl⟩⟩⟩⟩⟩⟩⟩⟩⟩
    | 5, _ => exact ⟨_, rfl, ⟨[_], _, rfl, rfl, ⟨[_], _, rfl, rfl, ⟨[_], _, rfl, rfl, ⟨[_], _, rfl, rfl, ⟨[_], _, rfl, rfl, ⟨[_], _, rfl, rfl, ⟨[_], _, rfl, rfl, ⟨[_], _, rfl, rfl, rfl⟩⟩⟩⟩⟩⟩⟩⟩⟩
    | 6, _ => exact ⟨_, rfl, ⟨[_], _, rfl, rfl, ⟨[_], _, rfl, rfl, ⟨[_], _, rfl, rfl, ⟨[_], _, rfl, rfl, ⟨[_], _, rfl, rfl, ⟨[_], _, rfl, rfl, ⟨[_], _, rfl, rfl, ⟨[_], _, rfl, rfl, rfl⟩⟩⟩⟩⟩⟩⟩⟩⟩
  · rw [List.getElem?_map] at hi
    cases hr : bools0[i]? with
    | none => rw [hr] at hi; cases hi
    | some r =>
      rw [hr] at hi
      simp only [Option.map_some, Option.some.injEq] at hi
      subst hi
      rw [List.getElem?_map] at hj
      cases hb : r[j]? with
      | none => rw [hb] at hj; cases hj
      | some b =>
        rw [hb] at hj
        simp only [Option.map_some, Option.some.injEq] at hj
        subst hj
        have hi : i < 7 := (List.getElem?_eq_some_iff.1 hr).1
        have h8 : ∀ r ∈ bools0, r.length = 8 := by decide
        have hj : j < 8 := by
          have := (List.getElem?_eq_some_iff.1 hb).1
          rw [h8 r (List.mem_of_getElem? hr)] at this; exact this
        exact hc i j r b hi hj hr hb
theorem laid0 {W : World} {cs : Array Value} {p : List MemPlace} {base fuel : Nat} {sp : Nat → Bool} {held : Bool} (hvar : W.var? Tryd.prog "reredos/wire.records" = some cs)
    (hd : DataW.trod (fun _ => ()) Tryd.prog W base sp held fuel 134 cs.toList = some (.agg (bools0.map fun r => .agg (r.map fun b => .lit (.bool b))), p)) : GlobR W (fun b => b < W.heap.size) 1 (.rows tyParts recordsT) := by
  have hc := cells_of_rows (m := 8) (eb := 4) (rows := bools0) Tryd.underlying134 Tryd.underlying115 (by kernel_rfl) Tryd.underlying4 (by kernel_rfl) (by decide) hd
  refine table0 fun i j r b hi hj hr hb => ?_
  have := hc i j r b hi hj hr hb
  have h2 := World.var?_cell (show Tryd.prog.globalNamed "reredos/wire.records" = some 1 by kernel_rfl) hvar (i * 8 + j)
  rw [h2]
  simpa using this

set_option maxRecDepth 100000 in
theorem laidTabs {W : World} (h : laidMetH Tryd.prog Rows.recoverRebuildsRow.laid W) : TabsR W := by
  obtain ⟨ps, ⟨g0, t0, cs0, fu0, p0, q0, hg0, ht0, hvar0, hd0, _, _⟩, _⟩ := h
  obtain rfl := Option.some.inj ((show Tryd.prog.globalNamed "reredos/wire.records" = some 1 by kernel_rfl).symm.trans hg0)
  obtain rfl := Option.some.inj ((show (Tryd.prog.globals[1]?).map (·.type) = some 134 by kernel_rfl).symm.trans ht0)
  have G0 := laid0 hvar0 hd0
  intro g gl hgl
  unfold tabsR at hgl
  rw [look_cons] at hgl
  split at hgl
  · rename_i h; subst h; cases hgl; exact G0
  cases hgl

noncomputable def laidWorld_ (os : Os) : World :=
  { World.holding Tryd.prog os ⟨#[], #[], []⟩ with heap := ((World.holding Tryd.prog os ⟨#[], #[], []⟩).heap.modify 1 fun
      | .cells _ t frozen => .cells #[.bool false, .bool false, .bool false, .bool false, .bool false, .bool false, .bool false, .bool false, .bool false, .bool true, .bool true, .bool false, .bool true, .bool false, .bool false, .bool false, .bool false, .bool false, .bool false, .bool false, .bool false, .bool true, .bool false, .bool false, .bool false, .bool false, .bool false, .bool false, .bool false, .bool false, .bool false, .bool true, .bool false, .bool false, .bool false, .bool false, .bool false, .bool false, .bool false, .bool false, .bool false, .bool false, .bool false, .bool false, .bool false, .bool false, .bool false, .bool false, .bool false, .bool false, .bool false, .bool false, .bool false, .bool true, .bool false, .bool false] t frozen
      | o => o) }
def wit : Array Value := #[.agg #[.int .i64 0, .slice none 0 0, .int .i64 0], .int .i64 0, .slice none 0 0]
theorem laid_met_ (os : Os) : laidMet Tryd.prog Rows.recoverRebuildsRow.laid ((laidWorld_ os).forCall (fun _ _ => 0) ⟨#[], wit, []⟩).memory :=
  laidMet_of_run' 8 (by kernel_rfl) (by kernel_rfl)
theorem reads_ (os : Os) {H : Type} (enc : TypeId × Value → H) : ∃ places, DataW.whole enc Tryd.prog ((laidWorld_ os).forCall (fun _ _ => 0) ⟨#[], wit, []⟩).memory Tryd.f4.params.toList Rows.recoverRebuildsSpec.vars false wit.toList 8 = some ([.agg [.lit (.int .i64 0), .nil, .lit (.int .i64 0)], .lit (.int .i64 0), .nil], [], places) :=
  ⟨[], by kernel_rfl⟩

set_option maxRecDepth 100000 in
theorem recoverRebuilds_lifted (os : Os) (started : os.Started) (H : Type) (enc : TypeId × Value → H) (F : Stop.Interp) :
    ReturnsInHanded {} Tryd.checked os 4 .any ((OpenSpec.ofChange Rows.recoverRebuildsSpec).preRow enc Tryd.prog Tryd.f4 Rows.recoverRebuildsRow.domain false Rows.recoverRebuildsRow.laid) (((OpenSpec.ofChange Rows.recoverRebuildsSpec).at F).post enc Tryd.prog Tryd.f4 false true false false) := by
  obtain ⟨places, hx⟩ := reads_ os enc
  refine lift_card started _ _ Rows.recoverRebuildsSpec Rows.recoverRebuildsRow.laid Tryd.func4 (by kernel_rfl) rfl rfl (by kernel_rfl) ?_
    (witness_row_at (enc := enc) (C := Tryd.checked) false (laidWorld_ os) wit rfl (by kernel_rfl) (by kernel_rfl) (by kernel_rfl)
      (OpenSpec.preRow_of_cond 8 hx (by kernel_rfl) (fun k hk => by cases hk) (by kernel_rfl) (laid_met_ os))) ?_
  · intro ds hds
    match ds, hds with
    | [_, _, _], _ => rfl
  · intro W base args ds p hA hval hlt hsz hL
    refine RecoverRebuilds_walk Rebuild_ok RebuiltOf_ok sameStore_ok.any sameDesk_ok.any sameNotes_ok.any (fun x h => ?_) W base args ds p hA hval hlt hsz (laidTabs hL)
    have c1 : x.1.2.1.length * 16 ≤ 140737488351232 := h.1.2.1.1
    have c2 : x.2.2.1.1.length * 80 ≤ 140737488351232 := h.2.2.1.1
    refine rebuilds_vc _ _ _ _ _ (lt62 c1 (by decide)) c2 fun q hq => ?_
    have c3 : q.2.2.2.2.2.2.2.1.length * 8 ≤ 140737488351232 := (h.2.2.1.2 q hq).2.2.2.2.2.2.1.1
    exact lt62 c3 (by decide)

set_option maxRecDepth 100000 in
set_option maxHeartbeats 4000000 in
theorem recoverRebuilds_closed : joinedFacts Tryd.prog 4 Tryd.f4 (OpenSpec.ofChange Rows.recoverRebuildsSpec).bare Rows.recoverRebuildsRow = true := by
  unfold joinedFacts
  exact and_b (and_b (and_b (and_b (and_b (and_b (and_b (and_b (and_b (and_b (and_b (and_b (and_b (and_b (and_b (and_b (and_b (and_b (and_b (and_b (and_b (and_b (and_b (and_b (and_b (and_b (and_b (and_b (and_b (and_b (and_b ((by kernel_rfl)) Tryd.laidOut) pg_mapsRowed) (by kernel_rfl)) (by kernel_rfl)) (by kernel_rfl)) pg_stops) (by kernel_rfl)) pg_stopKnobs) (by kernel_rfl)) (by kernel_rfl)) (by kernel_rfl)) (by kernel_rfl)) (by kernel_rfl)) (by kernel_rfl)) (by kernel_rfl)) (by kernel_rfl)) (by kernel_rfl)) (by kernel_rfl)) (by kernel_rfl)) (by kernel_rfl)) (by kernel_rfl)) pg_plainKeys) (by kernel_rfl)) pg_stopsHeard) pg_mayEnter) pg_lifted) pg_make) (by kernel_rfl)) (by kernel_rfl)) (by kernel_rfl)) (by kernel_rfl)

theorem recoverRebuilds_said : Rows.RecoverRebuildsSaid :=
  OpenClaim.holds_of_cond 4 Tryd.f4 rfl rfl rfl rfl rfl rfl rfl ⟨rfl, rfl, rfl, rfl, rfl⟩ rfl rfl rfl rfl rfl (by kernel_rfl) Tryd.func4 recoverRebuilds_closed
    (of_decide_eq_true (by kernel_rfl)) (by unfold Func.isWrapper; rw [if_neg (of_decide_eq_false (by kernel_rfl))]; exact ⟨rfl, rfl⟩)
    (fun os started H enc _ F => by rw [OpenClaim.pre_eq_preRow]; exact recoverRebuilds_lifted os started H enc F)

theorem recoverRebuilds_stand : Tryd.f4.params.all (fun t => !Tryd.pinned.checked.prog.wantsStandIn t) = true := by kernel_rfl
theorem recoverRebuilds_plain (f : FuncId) (fn : Func) (hf : Tryd.pinned.checked.prog.funcNamed "reredos/reredoslaw.RecoverRebuilds" = some f) (hfn : Tryd.pinned.checked.prog.funcs[f]? = some fn) :
    false = Tryd.pinned.checked.prog.looks [] ∧ ∀ (j : Nat) t, fn.params[j]? = some t → Tryd.pinned.checked.prog.wantsStandIn t = false := by
  obtain rfl : f = 4 := Option.some.inj ((show Tryd.prog.funcNamed "reredos/reredoslaw.RecoverRebuilds" = some 4 by kernel_rfl).symm.trans hf) |>.symm
  obtain rfl : fn = Tryd.f4 := (Option.some.inj (Tryd.func4.symm.trans hfn)).symm
  refine ⟨pg_looks, fun j t ht => ?_⟩
  have h := Array.all_eq_true_iff_forall_mem.1 recoverRebuilds_stand t (Array.mem_of_getElem? ht)
  simpa using h
theorem recoverRebuilds_wf : Rows.recoverRebuildsRow.wfByText (OpenSpec.ofChange Rows.recoverRebuildsSpec) = true := by kernel_rfl
theorem recoverRebuilds_goes : false = Rows.recoverRebuildsRow.goesBy Tryd.pinned.checked.prog := by kernel_rfl

/-- RecoverRebuilds: the statement. -/
theorem recoverRebuilds_holds : Rows.RecoverRebuildsCardSaid :=
  Claim7.holds_tied_plain_at .later [] _ _ _ _ recoverRebuilds_said (fun _ h => by cases h) recoverRebuilds_wf (fun _ h => by cases h) recoverRebuilds_row_tie rfl ⟨rfl, rfl⟩ pg_main rfl recoverRebuilds_plain recoverRebuilds_goes


end Go.Proofs.YtkhnakdmkhidbaaDoor
