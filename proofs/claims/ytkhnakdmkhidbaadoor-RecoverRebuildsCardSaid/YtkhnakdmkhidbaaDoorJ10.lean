/- Sites' answers: functions meet their contracts. No condition. -/
import Derived.Test.YtkhnakdmkhidbaaDoorJ4
import Derived.Test.YtkhnakdmkhidbaaDoorJ9
import Derived.Test.YtkhnakdmkhidbaaDoorJ2
import Derived.Test.YtkhnakdmkhidbaaDoorJ5

/- A transaction that ends: functions meet their contracts. No condition. -/
namespace Go.Proofs.YtkhnakdmkhidbaaDoor
open Go.RowKit

/- slices.Insert -/
theorem insA_ok : Meets Tryd.prog (fun _ => none) 92 cinsA := insA_meets fun l i v hp => by
  have h1 : i = pInt (pLen l) := (hp _ List.mem_cons_self)
  have h2 : v.length = 1 := (hp _ (List.mem_cons_of_mem _ List.mem_cons_self))
  have h3 : pRoom (pPlus (pLen l) 1) 24 := (hp _ (List.mem_cons_of_mem _ (List.mem_cons_of_mem _ List.mem_cons_self)))
  clear hp
  subst h1
  match v, h2 with
  | [x], _ =>
  unfold insA_VC
  refine ⟨⟨Int.natCast_nonneg _, Int.le_refl _⟩, ?_⟩
  rw [bif_false (show pEq (pInt (pLen [x])) 0 = false by rfl), bif_true (show pEq (pInt (pLen l)) (pInt (pLen l)) = true by simp [pEq])]
  refine ⟨h3, congrArg (·, ()) ?_⟩
  show l ++ [x] = pIns l (pNat (pInt l.length)) x
  rw [show pNat (pInt l.length) = l.length from pNat_coe _]
  unfold pIns
  rw [List.take_length, List.drop_length]
def insPr : Bool → Shape.den ⟨[.one (.own 0), .one (.rd tI), .one (.own 1)], [.row tyItem, .row tyItem]⟩ → List Prop
  | true, x => [x.1.2.1 = pInt (pLen x.2.1), pLen x.2.2.1 = 1, pRoom (pPlus (pLen x.2.1) 1) 24]
  | false, x => [pIn x.1.2.1 (pLen x.2.1), pLen x.2.2.1 = 1, pRoom (pPlus (pLen x.2.1) 1) 24]
theorem insI_ok : Meets Tryd.prog (fun _ => none) 92 cinsI := by
  refine meets_split insPr true (fun i => ?_) fun x hp => ?_
  · cases i with
    | true => exact insA_ok
    | false => exact meets_ins (t := tyItem) Tryd.func92 (by kernel_rfl) (by kernel_rfl) (by decide) insI_walk
  · have h1 : pTo x.1.2.1 (pLen x.2.1) := (hp _ List.mem_cons_self)
    have h2 : pLen x.2.2.1 = 1 := (hp _ (List.mem_cons_of_mem _ List.mem_cons_self))
    have h3 : pRoom (pPlus (pLen x.2.1) 1) 24 := (hp _ (List.mem_cons_of_mem _ (List.mem_cons_of_mem _ List.mem_cons_self)))
    have key : ∀ i : Int, pTo i (pLen x.2.1) → i = pInt (pLen x.2.1) ∨ pIn i (pLen x.2.1) := fun i h => by
      obtain ⟨a, b⟩ := h
      rcases Int.lt_or_eq_of_le b with c | c
      · exact .inr ⟨a, c⟩
      · exact .inl c
    rcases key _ h1 with h | h
    · refine ⟨true, fun p hq => ?_⟩
      simp only [insPr, List.mem_cons, List.not_mem_nil, or_false] at hq
      rcases hq with rfl | rfl | rfl
      · exact h
      · exact h2
      · exact h3
    · refine ⟨false, fun p hq => ?_⟩
      simp only [insPr, List.mem_cons, List.not_mem_nil, or_false] at hq
      rcases hq with rfl | rfl | rfl
      · exact h
      · exact h2
      · exact h3

/- rows of items by their keys -/
def keyI (l : List ItemD) (j : Nat) : Int := (pGet tyItem l j).1
theorem keyI_eq {l : List ItemD} {j : Nat} (h : j < l.length) : keyI l j = l[j].1 := congrArg (fun z : ItemD => z.1) (pGet_lt (t := tyItem) h)
def SortP (l : List ItemD) : Prop := l.Pairwise fun a b => (a.1 : Int) < b.1
theorem sort_iff {l : List ItemD} : sortF l = true ↔ SortP l := by
  refine ⟨fun h => List.pairwise_iff_getElem.2 fun i j hi hj hij => ?_, fun h => allUpto_true fun j hj => ?_⟩
  · have h2 : keyI l i < keyI l j := of_decide_eq_true (items_up h hij hj)
    rw [keyI_eq hi, keyI_eq hj] at h2
    exact h2
  · show (decide (j = 0) || pLt (keyI l (j - 1)) (keyI l j)) = true
    by_cases h0 : j = 0
    · simp [h0]
    · have := (List.pairwise_iff_getElem.1 h) (j - 1) j (by omega) hj (by omega)
      rw [keyI_eq (by omega), keyI_eq hj]
      simp only [Bool.or_eq_true]
      exact .inr (decide_eq_true this)
theorem pos_at (l : List ItemD) (k : Int) : ∃ p : Nat, p ≤ l.length ∧ (∀ m, m < p → keyI l m < k) ∧ (p < l.length → k ≤ keyI l p) ∧ posF l k = (p : Int) := by
  have hx : ∃ p : Nat, p ≤ l.length ∧ (∀ m, m < p → keyI l m < k) ∧ (p < l.length → k ≤ keyI l p) := by
    cases hq : (List.range l.length).find? (fun j => decide (k ≤ keyI l j)) with
    | none =>
      rw [List.find?_eq_none] at hq
      refine ⟨l.length, Nat.le_refl _, fun m hm => ?_, fun h => absurd h (Nat.lt_irrefl _)⟩
      have := hq m (by simpa using hm)
      simp only [decide_eq_true_eq] at this
      omega
    | some i =>
      rw [List.find?_range_eq_some] at hq
      obtain ⟨h1, h2, h3⟩ := hq
      refine ⟨i, by have := List.mem_range.1 h2; omega, fun m hm => ?_, fun _ => of_decide_eq_true h1⟩
      have := h3 m hm
      simp only [Bool.not_eq_true', decide_eq_false_iff_not] at this
      omega
  obtain ⟨p, hp, h1, h2⟩ := hx
  refine ⟨p, hp, h1, h2, posF_at hp (fun m hm => ?_) fun h => ?_⟩
  · exact decide_eq_false (by have := h1 m hm; show ¬ keyI l m ≥ k; omega)
  · exact decide_eq_true (show keyI l p ≥ k from h2 h)
theorem idx_at {l : List ItemD} {k : Int} (hs : sortF l = true) {p : Nat} (hp : p ≤ l.length) (h1 : ∀ m, m < p → keyI l m < k) (h2 : p < l.length → k ≤ keyI l p) :
    pGe (idxKeyF l k) 0 = (decide (p < l.length) && pEq (keyI l p) k) := by
  rw [idxKey_at hs hp (fun m hm => decide_eq_false (by have := h1 m hm; show ¬ keyI l m ≥ k; omega)) fun h => decide_eq_true (show keyI l p ≥ k from h2 h)]
  show pGe (cond (decide (p < l.length) && pEq (keyI l p) k) (p : Int) (-1)) 0 = _
  cases (decide (p < l.length) && pEq (keyI l p) k)
  · rfl
  · exact decide_eq_true (Int.natCast_nonneg p)

theorem withK_succ (l : List ItemD) (k v : Int) (j : Nat) : withK l k v (j + 1) = cond (pEq (keyI l j) k) (pApp (withK l k v j).1 [(k, v, pAdd .i64 (pGet tyItem l j).2.2.1 1, ())], true)
      (cond (pGt (keyI l j) k && !(withK l k v j).2) (pApp (pApp (withK l k v j).1 [(k, v, 1, ())]) [pGet tyItem l j], true) (pApp (withK l k v j).1 [pGet tyItem l j], (withK l k v j).2)) := rfl
theorem take_next {l : List ItemD} {j : Nat} (h : j < l.length) : l.take (j + 1) = l.take j ++ [pGet tyItem l j] := by
  rw [List.take_succ_eq_append_getElem h]
  exact congrArg (fun z : ItemD => l.take j ++ [z]) (pGet_lt (t := tyItem) h).symm
theorem with_low {l : List ItemD} {k v : Int} {p : Nat} (hp : p ≤ l.length) (h1 : ∀ m, m < p → keyI l m < k) : ∀ j, j ≤ p → withK l k v j = (l.take j, false)
  | 0, _ => rfl
  | j + 1, hj => by
    have hk := h1 j (by omega)
    rw [withK_succ, with_low hp h1 j (by omega), take_next (show j < l.length by omega),
      show pEq (keyI l j) k = false by simp only [pEq, beq_eq_false_iff_ne]; omega, show pGt (keyI l j) k = false from decide_eq_false (by omega)]
    rfl
theorem with_after {l : List ItemD} {k v : Int} {q : Nat} {A : List ItemD} (h0 : withK l k v q = (A, true)) (h1 : ∀ j, q ≤ j → j < l.length → k < keyI l j) : ∀ d, q + d ≤ l.length → withK l k v (q + d) = (A ++ (l.take (q + d)).drop q, true)
  | 0, hd => by
    rw [Nat.add_zero, h0, List.drop_of_length_le (by rw [List.length_take]; omega), List.append_nil]
  | d + 1, hd => by
    have hk := h1 (q + d) (by omega) (by omega)
    rw [← Nat.add_assoc, withK_succ, with_after h0 h1 d (by omega), take_next (show q + d < l.length by omega),
      show pEq (keyI l (q + d)) k = false by simp only [pEq, beq_eq_false_iff_ne]; omega, List.drop_append_of_le_length (by rw [List.length_take]; omega), ← List.append_assoc]
    show cond (pGt _ _ && !true) _ _ = _
    rw [Bool.not_true, Bool.and_false]
    rfl
theorem keys_after {l : List ItemD} {p : Nat} (hs : SortP l) {j : Nat} (hpj : p < j) (hj : j < l.length) : keyI l p < keyI l j := by
  rw [keyI_eq (by omega), keyI_eq hj]
  exact (List.pairwise_iff_getElem.1 hs) p j (by omega) hj hpj
theorem with_hit {l : List ItemD} {k v : Int} {p : Nat} (hs : SortP l) (hp : p < l.length) (h1 : ∀ m, m < p → keyI l m < k) (h2 : keyI l p = k) : withF l k v = pSet l p (k, v, pAdd .i64 (pGet tyItem l p).2.2.1 1, ()) := by
  have e1 : withK l k v (p + 1) = (l.take p ++ [(k, v, pAdd .i64 (pGet tyItem l p).2.2.1 1, ())], true) := by
    rw [withK_succ, with_low (Nat.le_of_lt hp) h1 p (Nat.le_refl _), show pEq (keyI l p) k = true by simp [pEq, h2]]
    rfl
  have e2 := with_after e1 (fun j hj hl => by have := keys_after hs (show p < j by omega) hl; omega) (l.length - (p + 1)) (by omega)
  rw [show p + 1 + (l.length - (p + 1)) = l.length by omega, List.take_length] at e2
  unfold withF pSet
  rw [e2, List.set_eq_take_append_cons_drop, if_pos hp]
  show (l.take p ++ [_]) ++ l.drop (p + 1) = _
  rw [List.append_assoc]; rfl
theorem with_miss {l : List ItemD} {k v : Int} {p : Nat} (hs : SortP l) (hp : p ≤ l.length) (h1 : ∀ m, m < p → keyI l m < k) (h2 : p < l.length → k < keyI l p) : withF l k v = pIns l p (k, v, 1, ()) := by
  by_cases hl : p < l.length
  · have hk := h2 hl
    have e1 : withK l k v (p + 1) = (l.take p ++ [(k, v, 1, ())] ++ [pGet tyItem l p], true) := by
      rw [withK_succ, with_low (Nat.le_of_lt hl) h1 p (Nat.le_refl _), show pEq (keyI l p) k = false by simp only [pEq, beq_eq_false_iff_ne]; omega, show pGt (keyI l p) k = true from decide_eq_true hk]
      rfl
    have e2 := with_after e1 (fun j hj hl => by have := keys_after hs (show p < j by omega) hl; omega) (l.length - (p + 1)) (by omega)
    rw [show p + 1 + (l.length - (p + 1)) = l.length by omega, List.take_length] at e2
    unfold withF pIns
    rw [e2, List.drop_eq_getElem_cons hl]
    show (l.take p ++ [_] ++ [pGet tyItem l p]) ++ l.drop (p + 1) = _
    have e3 : (pGet tyItem l p : ItemD) = l[p] := pGet_lt (t := tyItem) hl
    rw [e3, List.append_assoc, List.append_assoc]; rfl
  · have : p = l.length := by omega
    subst this
    unfold withF pIns
    rw [with_low (Nat.le_refl _) h1 _ (Nat.le_refl _), List.take_length, List.drop_length]
    rfl
theorem sort_set {l : List ItemD} {p : Nat} {x : ItemD} (hs : SortP l) (hp : p < l.length) (hx : x.1 = keyI l p) : SortP (l.set p x) := by
  refine List.pairwise_iff_getElem.2 fun i j hi hj hij => ?_
  have hi' : i < l.length := by simpa using hi
  have hj' : j < l.length := by simpa using hj
  have key : ∀ q (hq : q < (l.set p x).length) (hq' : q < l.length), ((l.set p x)[q]).1 = l[q].1 := fun q hq hq' => by
    rw [List.getElem_set]
    split
    · rename_i e; subst e; rw [hx, keyI_eq hq']
    · rfl
  rw [key i hi hi', key j hj hj']
  exact (List.pairwise_iff_getElem.1 hs) i j hi' hj' hij
theorem sort_ins {l : List ItemD} {p : Nat} {x : ItemD} (hs : SortP l) (hp : p ≤ l.length) (h1 : ∀ m, m < p → keyI l m < x.1) (h2 : p < l.length → x.1 < keyI l p) : SortP (pIns l p x) := by
  have hlow : ∀ a ∈ l.take p, (a.1 : Int) < x.1 := fun a ha => by
    obtain ⟨j, hj, rfl⟩ := List.getElem_of_mem ha
    have hjp : j < p ∧ j < l.length := by rw [List.length_take] at hj; omega
    have := h1 j hjp.1
    rw [keyI_eq hjp.2] at this
    simpa using this
  have hhigh : ∀ b ∈ l.drop p, (x.1 : Int) < b.1 := fun b hb => by
    obtain ⟨j, hj, rfl⟩ := List.getElem_of_mem hb
    have hjl : p + j < l.length := by rw [List.length_drop] at hj; omega
    have hp2 := h2 (by omega)
    have : keyI l p ≤ keyI l (p + j) := by
      by_cases h0 : j = 0
      · subst h0; exact Int.le_refl _
      · exact Int.le_of_lt (keys_after hs (by omega) hjl)
    rw [keyI_eq hjl] at this
    simp only [List.getElem_drop]
    omega
  refine List.pairwise_append.2 ⟨List.Pairwise.sublist (List.take_sublist _ _) hs, List.pairwise_cons.2 ⟨hhigh, List.Pairwise.sublist (List.drop_sublist _ _) hs⟩, fun a ha b hb => ?_⟩
  rcases List.mem_cons.1 hb with rfl | hb
  · exact hlow a ha
  · exact Int.lt_trans (hlow a ha) (hhigh b hb)
theorem with_all (l : List ItemD) (k v : Int) (hs : SortP l) : SortP (withF l k v) ∧ (withF l k v).length ≤ l.length + 1 := by
  obtain ⟨p, hp, h1, h2, _⟩ := pos_at l k
  by_cases hh : p < l.length ∧ keyI l p = k
  · rw [with_hit hs hh.1 h1 hh.2]
    unfold pSet
    exact ⟨sort_set hs hh.1 hh.2.symm, by rw [List.length_set]; omega⟩
  · have h3 : p < l.length → k < keyI l p := fun h => by
      have := h2 h
      have : keyI l p ≠ k := fun e => hh ⟨h, e⟩
      omega
    rw [with_miss hs hp h1 h3]
    exact ⟨sort_ins hs hp h1 h3, Nat.le_of_eq (pIns_len hp)⟩
theorem endI_all {is : List ItemD} {ls : List LockD} {a b : Int} {g : Bool} (hs : SortP is) : ∀ k, SortP (endI is ls a b g k) ∧ (endI is ls a b g k).length ≤ is.length + k
  | 0 => ⟨hs, Nat.le_refl _⟩
  | k + 1 => by
    obtain ⟨h1, h2⟩ := endI_all hs k
    show SortP (cond _ (withF (endI is ls a b g k) _ _) (endI is ls a b g k)) ∧ (cond _ (withF (endI is ls a b g k) _ _) (endI is ls a b g k)).length ≤ _
    cases (isTL a b (pGet tyLock ls k) && ((pGet tyLock ls k).2.2.2.1 && g))
    · exact ⟨h1, by show (endI is ls a b g k).length ≤ _; omega⟩
    · obtain ⟨h3, h4⟩ := with_all (endI is ls a b g k) (pGet tyLock ls k).2.2.1 (pGet tyLock ls k).2.2.2.2.1 h1
      exact ⟨h3, Nat.le_trans h4 (by omega)⟩

/- what is written to an item that is there, or was just put in -/
def bumpF (M : List ItemD) (p : Nat) (V : Int) : List ItemD :=
  pSet (pSet M p ((pGet tyItem M p).1, V, (pGet tyItem M p).2.2.1, ())) p ((pGet tyItem (pSet M p ((pGet tyItem M p).1, V, (pGet tyItem M p).2.2.1, ())) p).1, (pGet tyItem (pSet M p ((pGet tyItem M p).1, V, (pGet tyItem M p).2.2.1, ())) p).2.1,
    pAdd .i64 (pGet tyItem (pSet M p ((pGet tyItem M p).1, V, (pGet tyItem M p).2.2.1, ())) p).2.2.1 1, ())
theorem bump_eq {M : List ItemD} {p : Nat} {V : Int} (h : p < M.length) : bumpF M p V = pSet M p ((pGet tyItem M p).1, V, pAdd .i64 (pGet tyItem M p).2.2.1 1, ()) := by
  unfold bumpF
  rw [pGet_set (t := tyItem) h]
  exact pSet_set
theorem ins_get {l : List ItemD} {p : Nat} {x : ItemD} (h : p ≤ l.length) : pGet tyItem (pIns l p x) p = x := by
  have hl : p < (pIns l p x).length := by rw [pIns_len h]; omega
  rw [pGet_lt (t := tyItem) hl]
  rcases pIns_get h hl with ⟨h1, _⟩ | ⟨_, h2⟩ | ⟨h1, _⟩
  · omega
  · exact h2
  · omega
theorem ins_set {l : List ItemD} {p : Nat} {x y : ItemD} (h : p ≤ l.length) : pSet (pIns l p x) p y = pIns l p y := by
  unfold pSet pIns
  rw [List.set_append_right _ _ (by rw [List.length_take]; omega)]
  have : p - (l.take p).length = 0 := by rw [List.length_take]; omega
  rw [this]; rfl

theorem end1_ok : Meets Tryd.prog (fun _ => none) 94 cend1 := end1_meets fun xs xn xk xw xv xq a b => rfl
theorem end2_ok : Meets Tryd.prog (fun _ => none) 96 cend2 := end2_meets fun xs xn xg a b => rfl
theorem indexTL_ok : Meets Tryd.prog (fun _ => none) 107 cindexTL := indexTL_meets end1_ok fun l a b hp => by
  have hl : l.length < 4611686018427387904 := hp _ List.mem_cons_self
  refine ⟨UpInv.start, fun y hy => ?_⟩
  rcases FindInv.round hl hy with ⟨k, rfl, hk, hb, hT, hF⟩ | ⟨rfl, hT⟩
  · rw [bif_true (by simp [pLt_coe, pLen, hk]), pNat_coe]
    refine ⟨pIn_coe.2 hk, bif_ok (fun h => ?_) fun h => hF h⟩
    exact congrArg (·, ()) (hT h).symm
  · rw [bif_false (by simp [pLt_coe, pLen])]
    exact congrArg (·, ()) hT.symm
theorem indexTD_ok : Meets Tryd.prog (fun _ => none) 116 cindexTD := indexTD_meets end2_ok fun l a b hp => by
  have hl : l.length < 4611686018427387904 := hp _ List.mem_cons_self
  refine ⟨UpInv.start, fun y hy => ?_⟩
  rcases FindInv.round hl hy with ⟨k, rfl, hk, hb, hT, hF⟩ | ⟨rfl, hT⟩
  · rw [bif_true (by simp [pLt_coe, pLen, hk]), pNat_coe]
    refine ⟨pIn_coe.2 hk, bif_ok (fun h => ?_) fun h => hF h⟩
    exact congrArg (·, ()) (hT h).symm
  · rw [bif_false (by simp [pLt_coe, pLen])]
    exact congrArg (·, ()) hT.symm
theorem delTL_ok : Meets Tryd.prog (fun _ => none) 93 cdelTL := delTL_meets end1_ok indexTL_ok fun ls a b hp => by
  have hl : ls.length < 4611686018427387904 := hp _ List.mem_cons_self
  clear hp
  unfold delTL_VC
  refine ⟨hl, ?_⟩
  rcases idxOf_cases (p := fun j => isTL a b (pGet tyLock ls j)) (n := ls.length) with ⟨h1, h2⟩ | ⟨i, h1, hi, h3, h4⟩
  · rw [show idxTL ls a b = -1 from h1, bif_true (by rfl)]
    exact congrArg (·, ()) (keep_all (t := tyLock) h2).symm
  · rw [show idxTL ls a b = (i : Int) from h1, bif_false (by simp [pEq] <;> omega)]
    refine ⟨DelAt.start (t := tyLock) hi (by omega) h4 h3, fun y hy => ?_⟩
    obtain ⟨q, j, zs, rfl, haj, hj, hzl, ht, hd⟩ := hy
    dsimp only
    have hzl' : zs.length = ls.length := hzl
    rw [show pLen zs = ls.length from hzl]
    by_cases hjn : j < ls.length
    · rw [bif_true (by simp [pLt_coe, hjn]), pNat_coe, pNat_coe, lock_eta, DelAt.at (t := tyLock) hjn hzl hd]
      obtain ⟨s1, s2⟩ := DelAt.step (t := tyLock) (p := isTL a b) haj hjn (by omega) hzl ht hd
      refine ⟨pIn_coe.2 hjn, bif_ok (fun h => ⟨pIn_coe.2 (by omega), s1 (by simpa [isTL, pNot] using h), mu_step hjn (by omega)⟩) fun h => ⟨s2 (by simpa [isTL, pNot] using h), mu_step hjn (by omega)⟩⟩
    · obtain rfl : j = ls.length := by omega
      rw [bif_false (by simp [pLt_coe]), pNat_coe]
      refine ⟨pTo_coe.2 (by omega), haj, pTo_coe.2 (by show q ≤ (pClr zs q _).length; rw [clr_len (by omega)]; omega), congrArg (·, ()) (DelAt.done (t := tyLock) haj hzl ht)⟩
theorem delTD_ok : Meets Tryd.prog (fun _ => none) 95 cdelTD := delTD_meets end2_ok indexTD_ok fun ds a b hp => by
  have hl : ds.length < 4611686018427387904 := hp _ List.mem_cons_self
  clear hp
  unfold delTD_VC
  refine ⟨hl, ?_⟩
  rcases idxOf_cases (p := fun j => isTD a b (pGet tyDoubt ds j)) (n := ds.length) with ⟨h1, h2⟩ | ⟨i, h1, hi, h3, h4⟩
  · rw [show idxTD ds a b = -1 from h1, bif_true (by rfl)]
    exact congrArg (·, ()) (keep_all (t := tyDoubt) h2).symm
  · rw [show idxTD ds a b = (i : Int) from h1, bif_false (by simp [pEq] <;> omega)]
    refine ⟨DelAt.start (t := tyDoubt) hi (by omega) h4 h3, fun y hy => ?_⟩
    obtain ⟨q, j, zs, rfl, haj, hj, hzl, ht, hd⟩ := hy
    dsimp only
    have hzl' : zs.length = ds.length := hzl
    rw [show pLen zs = ds.length from hzl]
    by_cases hjn : j < ds.length
    · rw [bif_true (by simp [pLt_coe, hjn]), pNat_coe, pNat_coe, doubt_eta, DelAt.at (t := tyDoubt) hjn hzl hd]
      obtain ⟨s1, s2⟩ := DelAt.step (t := tyDoubt) (p := isTD a b) haj hjn (by omega) hzl ht hd
      refine ⟨pIn_coe.2 hjn, bif_ok (fun h => ⟨pIn_coe.2 (by omega), s1 (by simpa [isTD, pNot] using h), mu_step hjn (by omega)⟩) fun h => ⟨s2 (by simpa [isTD, pNot] using h), mu_step hjn (by omega)⟩⟩
    · obtain rfl : j = ds.length := by omega
      rw [bif_false (by simp [pLt_coe]), pNat_coe]
      refine ⟨pTo_coe.2 (by omega), haj, pTo_coe.2 (by show q ≤ (pClr zs q _).length; rw [clr_len (by omega)]; omega), congrArg (·, ()) (DelAt.done (t := tyDoubt) haj hzl ht)⟩

theorem withK_len {l : List ItemD} {k v : Int} : ∀ j, (withK l k v j).1.length ≤ 2 * j
  | 0 => Nat.le_refl _
  | j + 1 => by
    have := withK_len (l := l) (k := k) (v := v) j
    rw [withK_succ]
    unfold pApp
    cases pEq (keyI l j) k <;> cases (pGt (keyI l j) k && !(withK l k v j).2) <;> simp only [cond_true, cond_false, List.length_append, List.length_cons, List.length_nil] <;> omega
theorem withItem_ok : Meets Tryd.prog (fun _ => none) 74 cwithItem := withItem_meets fun l k v hp => by
  have hl : l.length < 1000000 := (hp _ List.mem_cons_self)
  clear hp
  unfold withItem_VC
  refine ⟨⟨0, rfl, Nat.zero_le _⟩, fun y hy => ?_⟩
  obtain ⟨j, rfl, hj⟩ := hy
  have hlen := withK_len (l := l) (k := k) (v := v) j
  have room : ∀ (A : List ItemD) (x : ItemD), A.length ≤ 2 * j + 1 → pRoom (pPlus (pLen A) (pLen [x])) 24 := fun A x h => by
    show (A.length + 1) * 24 ≤ 140737488351232
    omega
  by_cases hk : j < l.length
  · rw [bif_true (by simp [pLt_coe, pLen, hk])]
    dsimp only
    rw [pNat_coe]
    have hb : j < 4611686018427387904 := by omega
    have hin := pIn_coe.2 hk
    refine ⟨hin, bif_ok (fun h => ⟨hin, room _ _ (by omega), ⟨j + 1, ?_, hk⟩, mu_step hk hb⟩) fun h => ⟨hin, bif_ok (fun h2 => bif_ok (fun h3 => ⟨room _ _ (by omega), hin, room _ _ ?_, ⟨j + 1, ?_, hk⟩, mu_step hk hb⟩) fun h3 => ⟨hin, room _ _ (by omega), ⟨j + 1, ?_, hk⟩, mu_step hk hb⟩) fun h2 => ⟨hin, room _ _ (by omega), ⟨j + 1, ?_, hk⟩, mu_step hk hb⟩⟩⟩
    · rw [pAdd1 hb, withK_succ, show pEq (keyI l j) k = true from h]; rfl
    · unfold pApp; rw [List.length_append]; simp only [List.length_cons, List.length_nil]; omega
    · rw [pAdd1 hb, withK_succ, show pEq (keyI l j) k = false from h, show pGt (keyI l j) k = true from h2, show (withK l k v j).2 = false by simpa [pNot] using h3]; rfl
    · rw [pAdd1 hb, withK_succ, show pEq (keyI l j) k = false from h, show pGt (keyI l j) k = true from h2, show (withK l k v j).2 = true by simpa [pNot] using h3]; rfl
    · rw [pAdd1 hb, withK_succ, show pEq (keyI l j) k = false from h, show pGt (keyI l j) k = false from h2]; rfl
  · obtain rfl : j = l.length := by omega
    rw [bif_false (by simp [pLt_coe, pLen])]
    dsimp only
    refine bif_ok (fun h => ⟨room _ _ (by omega), ?_⟩) fun h => ?_
    · unfold withF
      rw [show (withK l k v l.length).2 = false by simpa [pNot] using h]; rfl
    · unfold withF
      rw [show (withK l k v l.length).2 = true by simpa [pNot] using h]; rfl

theorem end_no {s : StoD} {t : TxnD} {g : Bool} (h : pNe (askE s t 0) 0 = true) : endS s t g = noSto ∧ endE s t = askE s t 0 := by
  have h1 : pEq (askE s t 0) 0 = false := by simpa [pNe, pEq] using h
  refine ⟨?_, rfl⟩
  unfold endS endE; rw [h1]; rfl
theorem end_ok {s : StoD} {t : TxnD} {g : Bool} (h : pNe (askE s t 0) 0 = false) : endS s t g = (endI s.1 s.2.1 t.1 t.2.1 g s.2.1.length, noTL s.2.1 t.1 t.2.1, noTD s.2.2.1 t.1 t.2.1, overF s.2.2.2.1 t.1 t.2.1, ()) ∧ endE s t = 0 := by
  have h0 : askE s t 0 = 0 := by simpa [pNe] using h
  have h1 : pEq (askE s t 0) 0 = true := by simpa [pNe, pEq] using h
  refine ⟨?_, h0⟩
  unfold endS endE; rw [h1]; rfl
theorem ask_sto {s : StoD} {t : TxnD} {k : Int} (h : pNe (askE s t k) 0 = false) : stoF s = true := by
  rw [askE_eq] at h
  cases hs : stoF s with
  | true => rfl
  | false => rw [hs] at h; cases h
theorem inF_le {x a b : Int} (h : inF x a b = true) : a ≤ x ∧ x ≤ b := by
  unfold inF at h
  rw [Bool.and_eq_true] at h
  exact ⟨of_decide_eq_true h.1, of_decide_eq_true h.2⟩
theorem items_few {l : List ItemD} (h : itemsF l = true) : l.length ≤ 8 := by
  have hs := sort_iff.1 (sort_of h)
  have up : ∀ j, j < l.length → (j : Int) ≤ keyI l j ∧ keyI l j < 8 := by
    intro j
    induction j with
    | zero =>
      intro hj
      have h1 := allUpto_iff.1 h 0 hj
      rw [itemOk_eq] at h1
      simp only [Bool.and_eq_true] at h1
      have h2 := inF_le h1.1.1.1
      have h3 : (0 : Int) ≤ keyI l 0 ∧ keyI l 0 ≤ 7 := h2
      omega
    | succ j ih =>
      intro hj
      have h1 := allUpto_iff.1 h (j + 1) hj
      rw [itemOk_eq] at h1
      simp only [Bool.and_eq_true] at h1
      have h2 := inF_le h1.1.1.1
      have h3 : (0 : Int) ≤ keyI l (j + 1) ∧ keyI l (j + 1) ≤ 7 := h2
      have h4 := keys_after hs (show j < j + 1 by omega) hj
      have := ih (by omega)
      omega
  rcases Nat.lt_or_ge 8 l.length with h8 | h8
  · have := up 8 h8; omega
  · exact h8
theorem pigeon : ∀ (M : Nat) (L : List Nat), L.Nodup → (∀ x ∈ L, x < M) → L.length ≤ M
  | 0, L, _, h => by
    cases L with
    | nil => exact Nat.le_refl _
    | cons a r => exact absurd (h a List.mem_cons_self) (Nat.not_lt_zero _)
  | M + 1, L, hn, h => by
    by_cases hm : M ∈ L
    · have h1 := pigeon M (L.erase M) (hn.erase M) fun x hx => by
        have h2 := (hn.mem_erase_iff).1 hx
        have := h x h2.2
        have := h2.1
        omega
      rw [List.length_erase_of_mem hm] at h1
      omega
    · have := pigeon M L hn fun x hx => by
        have := h x hx
        have : x ≠ M := fun e => hm (e ▸ hx)
        omega
      omega
def siI (os : List TxnD) (j : Nat) : Int := (pGet tyTxn os j).1
def nuI (os : List TxnD) (j : Nat) : Int := (pGet tyTxn os j).2.1
theorem siI_eq {os : List TxnD} {j : Nat} (h : j < os.length) : siI os j = os[j].1 := congrArg (fun z : TxnD => z.1) (pGet_lt (t := tyTxn) h)
theorem nuI_eq {os : List TxnD} {j : Nat} (h : j < os.length) : nuI os j = os[j].2.1 := congrArg (fun z : TxnD => z.2.1) (pGet_lt (t := tyTxn) h)
/-- different numbers of transactions are so many at most -/
theorem over_few {is : List ItemD} {ls : List LockD} {ds : List DoubtD} {os : List TxnD} (h : stoF (is, ls, ds, os, ()) = true) : os.length ≤ 4194304 := by
  rw [stoF_eq, doubtsF_eq] at h
  simp only [Bool.and_eq_true] at h
  have hov := h.1.2.2
  have hj : ∀ j, j < os.length → (0 ≤ siI os j ∧ siI os j ≤ 3) ∧ (1 ≤ nuI os j ∧ nuI os j ≤ 1048576) ∧ ∀ i, i < j → ¬ (siI os i = siI os j ∧ nuI os i = nuI os j) := fun j hj => by
    have h1 := allUpto_iff.1 hov j hj
    rw [overOkAt_eq, Bool.and_eq_true] at h1
    obtain ⟨h2, h3⟩ := h1
    unfold txnF at h2
    rw [Bool.and_eq_true] at h2
    refine ⟨inF_le h2.1, inF_le h2.2, fun i hi he => ?_⟩
    have h4 := allUpto_iff.1 h3 i hi
    have h5 : pAndB (pEq (siI os i) (siI os j)) (pEq (nuI os i) (nuI os j)) = false := by
      have h6 : (!pAndB (pEq (siI os i) (siI os j)) (pEq (nuI os i) (nuI os j))) = true := h4
      simpa using h6
    rw [he.1, he.2] at h5
    simp [pAndB, pEq] at h5
  have hL := pigeon 4194304 (os.map fun t => (t.1 * 1048576 + (t.2.1 - 1)).toNat) (List.pairwise_iff_getElem.2 fun i j hi hj' hij => by
    have hi2 : i < os.length := by simpa using hi
    have hj2 : j < os.length := by simpa using hj'
    obtain ⟨a1, a2, _⟩ := hj i hi2
    obtain ⟨b1, b2, b3⟩ := hj j hj2
    have b4 := b3 i hij
    rw [List.getElem_map, List.getElem_map]
    rw [siI_eq hi2, nuI_eq hi2] at *
    rw [siI_eq hj2, nuI_eq hj2] at *
    intro e
    apply b4
    omega) fun x hx => by
    obtain ⟨t, ht, rfl⟩ := List.mem_map.1 hx
    obtain ⟨j, hj1, rfl⟩ := List.getElem_of_mem ht
    obtain ⟨a1, a2, _⟩ := hj j hj1
    rw [siI_eq hj1] at a1
    rw [nuI_eq hj1] at a2
    omega
  rwa [List.length_map] at hL
theorem endI_succ (is : List ItemD) (ls : List LockD) (a b : Int) (g : Bool) (j : Nat) : endI is ls a b g (j + 1) = cond (isTL a b (pGet tyLock ls j) && ((pGet tyLock ls j).2.2.2.1 && g)) (withF (endI is ls a b g j) (pGet tyLock ls j).2.2.1 (pGet tyLock ls j).2.2.2.2.1) (endI is ls a b g j) := rfl


set_option maxHeartbeats 4000000 in
theorem End_ok : Meets Tryd.prog (fun _ => none) 60 cEnd := End_meets scall_ok own_ok at_ok insI_ok delTL_ok delTD_ok Contains_ok fun si sl sd so ts tn g hp => by
  have l1 : si.length < 4611686018427387904 := (hp _ List.mem_cons_self)
  have l2 : sl.length < 4611686018427387904 := (hp _ (List.mem_cons_of_mem _ List.mem_cons_self))
  have l3 : sd.length < 4611686018427387904 := (hp _ (List.mem_cons_of_mem _ (List.mem_cons_of_mem _ List.mem_cons_self)))
  have l4 : so.length < 4611686018427387904 := (hp _ (List.mem_cons_of_mem _ (List.mem_cons_of_mem _ (List.mem_cons_of_mem _ List.mem_cons_self))))
  have r1 : pRoom (pLen si) 24 := (hp _ (List.mem_cons_of_mem _ (List.mem_cons_of_mem _ (List.mem_cons_of_mem _ (List.mem_cons_of_mem _ List.mem_cons_self)))))
  have r2 : pRoom (pLen sl) 48 := (hp _ (List.mem_cons_of_mem _ (List.mem_cons_of_mem _ (List.mem_cons_of_mem _ (List.mem_cons_of_mem _ (List.mem_cons_of_mem _ List.mem_cons_self))))))
  have r3 : pRoom (pLen sd) 24 := (hp _ (List.mem_cons_of_mem _ (List.mem_cons_of_mem _ (List.mem_cons_of_mem _ (List.mem_cons_of_mem _ (List.mem_cons_of_mem _ (List.mem_cons_of_mem _ List.mem_cons_self)))))))
  have r4 : pRoom (pLen so) 16 := (hp _ (List.mem_cons_of_mem _ (List.mem_cons_of_mem _ (List.mem_cons_of_mem _ (List.mem_cons_of_mem _ (List.mem_cons_of_mem _ (List.mem_cons_of_mem _ (List.mem_cons_of_mem _ List.mem_cons_self))))))))
  clear hp
  unfold End_VC
  refine ⟨l1, l2, l3, l4, bif_ok (fun h => ?_) fun h => ⟨r1, r2, r3, r4, ⟨0, rfl, Nat.zero_le _⟩, fun y hy => ?_⟩⟩
  · obtain ⟨e1, e2⟩ := end_no (g := g) h
    rw [e1, e2]
    rfl
  have hsto := ask_sto h
  obtain ⟨hd1, hl24, his⟩ := doubts_few hsto
  have hi8 := items_few his
  have hsort := sort_iff.1 (sort_of his)
  obtain ⟨k, rfl, hk⟩ := hy
  dsimp only
  by_cases hkn : k < sl.length
  · rw [bif_true (by simp [pLt_coe, pLen, hkn])]
    rw [pNat_coe]
    have hb : k < 4611686018427387904 := by omega
    obtain ⟨hS, hlen⟩ := endI_all (ls := sl) (a := ts) (b := tn) (g := g) hsort k
    have hsf := sort_iff.2 hS
    have goon : ∀ (hc : (isTL ts tn (pGet tyLock sl k) && ((pGet tyLock sl k).2.2.2.1 && g)) = false), endAInv si sl sd so ts tn g (pAdd .i64 (k : Int) 1, (endI si sl ts tn g k, sl, sd, so, ()), ()) ∧ Nat.le (Nat.succ (endAMu si sl sd so ts tn g (pAdd .i64 (k : Int) 1, (endI si sl ts tn g k, sl, sd, so, ()), ()))) (endAMu si sl sd so ts tn g ((k : Int), (endI si sl ts tn g k, sl, sd, so, ()), ())) := fun hc =>
      ⟨⟨k + 1, by rw [pAdd1 hb, endI_succ, hc]; rfl, hkn⟩, mu_step hkn hb⟩
    refine ⟨pIn_coe.2 hkn, bif_ok (fun h2 => goon ?_) fun h2 => bif_ok (fun h3 => goon ?_) fun h3 => bif_ok (fun h4 => goon ?_) fun h4 => ?_⟩
    · have h2' : pNot (isTL ts tn (pGet tyLock sl k)) = true := h2
      have : isTL ts tn (pGet tyLock sl k) = false := by simpa [pNot] using h2'
      rw [this]; rfl
    · have : (pGet tyLock sl k).2.2.2.1 = false := by simpa [pNot] using h3
      rw [this, Bool.false_and, Bool.and_false]
    · have : g = false := by simpa [pNot] using h4
      rw [this, Bool.and_false, Bool.and_false]
    have h2' : pNot (isTL ts tn (pGet tyLock sl k)) = false := h2
    have c1 : isTL ts tn (pGet tyLock sl k) = true := by simpa [pNot] using h2'
    have c2 : (pGet tyLock sl k).2.2.2.1 = true := by simpa [pNot] using h3
    have c3 : g = true := by simpa [pNot] using h4
    have hnext : endI si sl ts tn g (k + 1) = withF (endI si sl ts tn g k) (pGet tyLock sl k).2.2.1 (pGet tyLock sl k).2.2.2.2.1 := by rw [endI_succ, c1, c2, c3]; rfl
    obtain ⟨p, hpl, p1, p2, hpos⟩ := pos_at (endI si sl ts tn g k) (pGet tyLock sl k).2.2.1
    have hidx := idx_at hsf hpl p1 p2
    rw [hpos, hidx, pNat_coe]
    have L62 : Nat.le (Nat.succ (pLen (endI si sl ts tn g k))) 4611686018427387904 := by show (endI si sl ts tn g k).length < _; omega
    refine ⟨L62, hsf, bif_ok (fun h5 => ?_) fun h5 => ?_⟩
    · -- a new item
      have hmiss : p < (endI si sl ts tn g k).length → ((pGet tyLock sl k).2.2.1 : Int) < keyI (endI si sl ts tn g k) p := fun hp => by
        have h6 : pEq (keyI (endI si sl ts tn g k) p) (pGet tyLock sl k).2.2.1 = false := by
          rw [decide_eq_true hp, Bool.true_and] at h5
          simpa [pNot] using h5
        have h7 := p2 hp
        have h8 : keyI (endI si sl ts tn g k) p ≠ (pGet tyLock sl k).2.2.1 := by simpa [pEq] using h6
        exact Int.lt_iff_le_and_ne.2 ⟨h7, fun e => h8 e.symm⟩
      rw [with_miss hS hpl p1 hmiss] at hnext
      have hins : ∀ x : ItemD, (pIns (endI si sl ts tn g k) p x).length = (endI si sl ts tn g k).length + 1 := fun x => pIns_len hpl
      have hin : ∀ x : ItemD, pIn (p : Int) (pLen (pIns (endI si sl ts tn g k) p x)) := fun x => pIn_coe.2 (by show p < (pIns (endI si sl ts tn g k) p x).length; rw [hins]; omega)
      have hin2 : ∀ x z : ItemD, pIn (p : Int) (pLen (pSet (pIns (endI si sl ts tn g k) p x) p z)) := fun x z => by rw [ins_set hpl]; exact hin z
      refine ⟨pTo_coe.2 hpl, rfl, ?_, hin _, hin2 _ _, hin2 _ _, ⟨k + 1, ?_, hkn⟩, mu_step hkn hb⟩
      · show ((endI si sl ts tn g k).length + 1) * 24 ≤ 140737488351232
        omega
      · rw [pAdd1 hb, hnext]
        have hp' : p < (pIns (endI si sl ts tn g k) p ((pGet tyLock sl k).2.2.1, (0 : Int), (0 : Int), ())).length := by rw [hins]; omega
        have e : bumpF (pIns (endI si sl ts tn g k) p ((pGet tyLock sl k).2.2.1, (0 : Int), (0 : Int), ())) p (pGet tyLock sl k).2.2.2.2.1 = pIns (endI si sl ts tn g k) p ((pGet tyLock sl k).2.2.1, (pGet tyLock sl k).2.2.2.2.1, 1, ()) := by
          rw [bump_eq hp', ins_get hpl]
          exact ins_set hpl
        exact congrArg (fun z : List ItemD => (((k + 1 : Nat) : Int), (z, sl, sd, so, ()), ())) e
    · -- an item that is there
      have h5' : (decide (p < (endI si sl ts tn g k).length) && pEq (keyI (endI si sl ts tn g k) p) (pGet tyLock sl k).2.2.1) = true := by simpa [pNot] using h5
      rw [Bool.and_eq_true, decide_eq_true_eq] at h5'
      obtain ⟨hp', h6⟩ := h5'
      have h6 : keyI (endI si sl ts tn g k) p = (pGet tyLock sl k).2.2.1 := by simpa [pEq] using h6
      rw [with_hit hS hp' p1 h6] at hnext
      have hin : pIn (p : Int) (pLen (endI si sl ts tn g k)) := pIn_coe.2 hp'
      have hin2 : ∀ z : ItemD, pIn (p : Int) (pLen (pSet (endI si sl ts tn g k) p z)) := fun z => pIn_coe.2 (by show p < (List.set _ _ _).length; rw [List.length_set]; exact hp')
      refine ⟨hin, hin2 _, hin2 _, ⟨k + 1, ?_, hkn⟩, mu_step hkn hb⟩
      rw [pAdd1 hb, hnext]
      have e : bumpF (endI si sl ts tn g k) p (pGet tyLock sl k).2.2.2.2.1 = pSet (endI si sl ts tn g k) p ((pGet tyLock sl k).2.2.1, (pGet tyLock sl k).2.2.2.2.1, pAdd .i64 (pGet tyItem (endI si sl ts tn g k) p).2.2.1 1, ()) := by
        rw [bump_eq hp']
        exact congrArg (fun z : Int => pSet (endI si sl ts tn g k) p (z, (pGet tyLock sl k).2.2.2.2.1, pAdd .i64 (pGet tyItem (endI si sl ts tn g k) p).2.2.1 1, ())) h6
      exact congrArg (fun z : List ItemD => (((k + 1 : Nat) : Int), (z, sl, sd, so, ()), ())) e
  · obtain rfl : k = sl.length := by omega
    rw [bif_false (by simp [pLt_coe, pLen])]
    obtain ⟨e1, e2⟩ := end_ok (g := g) h
    rw [e1, e2]
    have over : ∀ (ho : pGe (idxTxnF so (ts, tn, ())) 0 = false), overF so ts tn = pApp so [(ts, tn, ())] := fun ho => by unfold overF; rw [ho]; rfl
    have over2 : ∀ (ho : pGe (idxTxnF so (ts, tn, ())) 0 = true), overF so ts tn = so := fun ho => by unfold overF; rw [ho]; rfl
    refine ⟨l2, l3, l4, bif_ok (fun h5 => ⟨?_, ?_⟩) fun h5 => ?_⟩
    · have := over_few hsto
      show (so.length + 1) * 16 ≤ 140737488351232
      omega
    · rw [over (by simpa [pNot] using h5)]
    · rw [over2 (by simpa [pNot] using h5)]

set_option maxHeartbeats 4000000 in
theorem EndOf_ok : Meets Tryd.prog (fun _ => none) 32 cEndOf := EndOf_meets askFault_ok StoreCopy_ok isOver_ok withItem_ok fun si sl sd so ts tn g hp => by
  have l1 : si.length < 4611686018427387904 := (hp _ List.mem_cons_self)
  have l2 : sl.length < 4611686018427387904 := (hp _ (List.mem_cons_of_mem _ List.mem_cons_self))
  have l3 : sd.length < 4611686018427387904 := (hp _ (List.mem_cons_of_mem _ (List.mem_cons_of_mem _ List.mem_cons_self)))
  have l4 : so.length < 4611686018427387904 := (hp _ (List.mem_cons_of_mem _ (List.mem_cons_of_mem _ (List.mem_cons_of_mem _ List.mem_cons_self))))
  have r1 : pRoom (pLen si) 24 := (hp _ (List.mem_cons_of_mem _ (List.mem_cons_of_mem _ (List.mem_cons_of_mem _ (List.mem_cons_of_mem _ List.mem_cons_self)))))
  have r2 : pRoom (pLen sl) 48 := (hp _ (List.mem_cons_of_mem _ (List.mem_cons_of_mem _ (List.mem_cons_of_mem _ (List.mem_cons_of_mem _ (List.mem_cons_of_mem _ List.mem_cons_self))))))
  have r3 : pRoom (pLen sd) 24 := (hp _ (List.mem_cons_of_mem _ (List.mem_cons_of_mem _ (List.mem_cons_of_mem _ (List.mem_cons_of_mem _ (List.mem_cons_of_mem _ (List.mem_cons_of_mem _ List.mem_cons_self)))))))
  have r4 : pRoom (pLen so) 16 := (hp _ (List.mem_cons_of_mem _ (List.mem_cons_of_mem _ (List.mem_cons_of_mem _ (List.mem_cons_of_mem _ (List.mem_cons_of_mem _ (List.mem_cons_of_mem _ (List.mem_cons_of_mem _ List.mem_cons_self))))))))
  clear hp
  unfold EndOf_VC
  refine ⟨l1, l2, l3, l4, bif_ok (fun h => ?_) fun h => ⟨r1, r2, r3, r4, l1, l2, l3, l4, ?_⟩⟩
  · obtain ⟨e1, e2⟩ := end_no (g := g) h
    rw [e1, e2]
    rfl
  have hsto := ask_sto h
  obtain ⟨hd1, hl24, his⟩ := doubts_few hsto
  have hi8 := items_few his
  have hsort := sort_iff.1 (sort_of his)
  have hov := over_few hsto
  obtain ⟨e1, e2⟩ := end_ok (g := g) h
  have over : ∀ (ho : pGe (idxTxnF so (ts, tn, ())) 0 = false), overF so ts tn = pApp so [(ts, tn, ())] := fun ho => by unfold overF; rw [ho]; rfl
  have over2 : ∀ (ho : pGe (idxTxnF so (ts, tn, ())) 0 = true), overF so ts tn = so := fun ho => by unfold overF; rw [ho]; rfl
  have loopC : ∀ (y : kden Bool.false tI × denCells vSto × PUnit), endCInv si sl sd so ts tn g y → bif pLt y.1 (pInt (pLen sd)) then pIn y.1 (pLen sd) ∧ bif pNot (pAndB (pEq (pGet tyItem sd (pNat y.1)).1 ts) (pEq (pGet tyItem sd (pNat y.1)).2.1 tn)) then
      pIn y.1 (pLen sd) ∧ pRoom (pPlus (pLen y.2.1.2.2.1) (pLen [(pGet tyDoubt sd (pNat y.1))])) 24 ∧ endCInv si sl sd so ts tn g (pAdd .i64 y.1 (1 : Int), (y.2.1.1, y.2.1.2.1, pApp y.2.1.2.2.1 [(pGet tyDoubt sd (pNat y.1))], y.2.1.2.2.2.1, ()), ()) ∧
      Nat.le (Nat.succ (endCMu si sl sd so ts tn g (pAdd .i64 y.1 (1 : Int), (y.2.1.1, y.2.1.2.1, pApp y.2.1.2.2.1 [(pGet tyDoubt sd (pNat y.1))], y.2.1.2.2.2.1, ()), ()))) (endCMu si sl sd so ts tn g y) else
      endCInv si sl sd so ts tn g (pAdd .i64 y.1 (1 : Int), (y.2.1.1, y.2.1.2.1, y.2.1.2.2.1, y.2.1.2.2.2.1, ()), ()) ∧ Nat.le (Nat.succ (endCMu si sl sd so ts tn g (pAdd .i64 y.1 (1 : Int), (y.2.1.1, y.2.1.2.1, y.2.1.2.2.1, y.2.1.2.2.2.1, ()), ()))) (endCMu si sl sd so ts tn g y) else
      ((y.2.1.1, y.2.1.2.1, y.2.1.2.2.1, y.2.1.2.2.2.1, ()), (0 : Int), ()) = (endS (si, sl, sd, so, ()) (ts, tn, ()) g, endE (si, sl, sd, so, ()) (ts, tn, ()), ()) := fun y hy => by
    obtain ⟨k, rfl, hk⟩ := hy
    dsimp only
    by_cases hkn : k < sd.length
    · rw [bif_true (by simp [pLt_coe, pLen, hkn]), pNat_coe]
      have hb : k < 4611686018427387904 := by omega
      have hn : noTD (sd.take (k + 1)) ts tn = cond (isTD ts tn (pGet tyDoubt sd k)) (noTD (sd.take k) ts tn) (pApp (noTD (sd.take k) ts tn) [pGet tyDoubt sd k]) := filter_next (t := tyDoubt) hkn
      have hlen : (noTD (sd.take k) ts tn).length ≤ k := Nat.le_trans (List.length_filter_le _ _) (by simp only [List.length_take]; omega)
      refine ⟨pIn_coe.2 hkn, bif_ok (fun h2 => ⟨pIn_coe.2 hkn, ?_, ⟨k + 1, ?_, hkn⟩, mu_step hkn hb⟩) fun h2 => ⟨⟨k + 1, ?_, hkn⟩, mu_step hkn hb⟩⟩
      · show ((noTD (sd.take k) ts tn).length + 1) * 24 ≤ 140737488351232
        omega
      · have h3 : pNot (isTD ts tn (pGet tyDoubt sd k)) = true := h2
        rw [pAdd1 hb, hn, show isTD ts tn (pGet tyDoubt sd k) = false by simpa [pNot] using h3]; rfl
      · have h3 : pNot (isTD ts tn (pGet tyDoubt sd k)) = false := h2
        rw [pAdd1 hb, hn, show isTD ts tn (pGet tyDoubt sd k) = true by simpa [pNot] using h3]; rfl
    · obtain rfl : k = sd.length := by omega
      rw [bif_false (by simp [pLt_coe, pLen]), e1, e2, List.take_length]
  have loopB : ∀ (y : kden Bool.false tI × denCells vSto × PUnit), endBInv si sl sd so ts tn g y → pLt y.1 (pInt (pLen sl)) = true → pIn y.1 (pLen sl) ∧ Nat.le (Nat.succ (pLen y.2.1.1)) 1000000 ∧ pRoom (pPlus (pLen y.2.1.2.1) (pLen [(pGet tyLock sl (pNat y.1))])) 48 ∧
      ((isTL ts tn (pGet tyLock sl (pNat y.1)) = false → endBInv si sl sd so ts tn g (pAdd .i64 y.1 (1 : Int), (y.2.1.1, pApp y.2.1.2.1 [(pGet tyLock sl (pNat y.1))], y.2.1.2.2.1, y.2.1.2.2.2.1, ()), ())) ∧
       (isTL ts tn (pGet tyLock sl (pNat y.1)) = true → ((pGet tyLock sl (pNat y.1)).2.2.2.1 && g) = true → endBInv si sl sd so ts tn g (pAdd .i64 y.1 (1 : Int), (withF y.2.1.1 (pGet tyLock sl (pNat y.1)).2.2.1 (pGet tyLock sl (pNat y.1)).2.2.2.2.1, y.2.1.2.1, y.2.1.2.2.1, y.2.1.2.2.2.1, ()), ())) ∧
       (isTL ts tn (pGet tyLock sl (pNat y.1)) = true → ((pGet tyLock sl (pNat y.1)).2.2.2.1 && g) = false → endBInv si sl sd so ts tn g (pAdd .i64 y.1 (1 : Int), (y.2.1.1, y.2.1.2.1, y.2.1.2.2.1, y.2.1.2.2.2.1, ()), ()))) ∧
      ∀ z : denCells vSto, Nat.le (Nat.succ (endBMu si sl sd so ts tn g (pAdd .i64 y.1 (1 : Int), z, ()))) (endBMu si sl sd so ts tn g y) := fun y hy hlt => by
    obtain ⟨k, rfl, hk⟩ := hy
    have hkn : k < sl.length := by simpa [pLt_coe, pLen] using hlt
    dsimp only
    rw [pNat_coe]
    have hb : k < 4611686018427387904 := by omega
    obtain ⟨hS, hlen⟩ := endI_all (ls := sl) (a := ts) (b := tn) (g := g) hsort k
    have hn : noTL (sl.take (k + 1)) ts tn = cond (isTL ts tn (pGet tyLock sl k)) (noTL (sl.take k) ts tn) (pApp (noTL (sl.take k) ts tn) [pGet tyLock sl k]) := filter_next (t := tyLock) hkn
    have hlen2 : (noTL (sl.take k) ts tn).length ≤ k := Nat.le_trans (List.length_filter_le _ _) (by simp only [List.length_take]; omega)
    refine ⟨pIn_coe.2 hkn, ?_, ?_, ⟨fun h1 => ⟨k + 1, ?_, hkn⟩, fun h1 h2 => ⟨k + 1, ?_, hkn⟩, fun h1 h2 => ⟨k + 1, ?_, hkn⟩⟩, fun z => mu_step hkn hb⟩
    · show (endI si sl ts tn g k).length < 1000000; omega
    · show ((noTL (sl.take k) ts tn).length + 1) * 48 ≤ 140737488351232
      omega
    · rw [pAdd1 hb, hn, endI_succ, h1]; rfl
    · rw [pAdd1 hb, hn, endI_succ, h1, h2]; rfl
    · rw [pAdd1 hb, hn, endI_succ, h1, h2]; rfl
  have startC : ∀ (y : kden Bool.false tI × denCells vSto × PUnit), endBInv si sl sd so ts tn g y → pLt y.1 (pInt (pLen sl)) = false → endCInv si sl sd so ts tn g ((0 : Int), (y.2.1.1, y.2.1.2.1, y.2.1.2.2.1, y.2.1.2.2.2.1, ()), ()) := fun y hy hlt => by
    obtain ⟨k, rfl, hk⟩ := hy
    have hkn : ¬ k < sl.length := by simpa [pLt_coe, pLen] using hlt
    obtain rfl : k = sl.length := by omega
    exact ⟨0, by rw [List.take_length]; rfl, Nat.zero_le _⟩
  have ht : ∀ {b : Bool}, pNot b = true → b = false := fun {b} h => by cases b; rfl; cases h
  have hf : ∀ {b : Bool}, pNot b = false → b = true := fun {b} h => by cases b; cases h; rfl
  have room : pRoom (pPlus (pLen so) (pLen [(ts, tn, ())])) 16 := by show (so.length + 1) * 16 ≤ 140737488351232; omega
  refine bif_ok (fun h5 => ⟨room, ⟨0, by rw [over (ht h5)]; rfl, Nat.zero_le _⟩, fun y hy => ?_⟩) fun h5 => ⟨⟨0, by rw [over2 (hf h5)]; rfl, Nat.zero_le _⟩, fun y hy => ?_⟩
  all_goals
    refine bif_ok (fun h6 => ?_) fun h6 => ⟨startC y hy h6, loopC⟩
    obtain ⟨b1, b2, b3, ⟨b4, b5, b6⟩, b7⟩ := loopB y hy h6
    refine ⟨b1, bif_ok (fun h7 => ⟨b1, b3, b4 (ht h7), b7 _⟩) fun h7 => ⟨b1, bif_ok (fun h8 => bif_ok (fun h9 => ⟨b1, b1, b2, b5 (hf h7) ?_, b7 _⟩) fun h9 => ⟨b6 (hf h7) ?_, b7 _⟩) fun h8 => ⟨b6 (hf h7) ?_, b7 _⟩⟩⟩
    · rw [h8, h9]; rfl
    · rw [h9, Bool.and_false]
    · rw [h8, Bool.false_and]

theorem endS_len (is : List ItemD) (ls : List LockD) (ds : List DoubtD) (os : List TxnD) (t : TxnD) (g : Bool) :
    (endS (is, ls, ds, os, ()) t g).1.length ≤ is.length + ls.length ∧ (endS (is, ls, ds, os, ()) t g).2.1.length ≤ ls.length ∧ (endS (is, ls, ds, os, ()) t g).2.2.1.length ≤ ds.length ∧ (endS (is, ls, ds, os, ()) t g).2.2.2.1.length ≤ os.length + 1 := by
  cases h : pNe (askE (is, ls, ds, os, ()) t 0) 0 with
  | true => rw [(end_no (g := g) h).1]; exact ⟨Nat.zero_le _, Nat.zero_le _, Nat.zero_le _, Nat.zero_le _⟩
  | false =>
    rw [(end_ok (g := g) h).1]
    obtain ⟨_, _, his⟩ := doubts_few (ask_sto h)
    refine ⟨(endI_all (sort_iff.1 (sort_of his)) _).2, List.length_filter_le _ _, List.length_filter_le _ _, ?_⟩
    show (overF os t.1 t.2.1).length ≤ _
    unfold overF pApp
    cases pGe (idxTxnF os (t.1, t.2.1, ())) 0
    · show (os ++ [_]).length ≤ _
      rw [List.length_append]; exact Nat.le_refl _
    · exact Nat.le_succ _


end Go.Proofs.YtkhnakdmkhidbaaDoor

/- The configuration's checks meet their contracts. No condition. -/
namespace Go.Proofs.YtkhnakdmkhidbaaDoor
open Go.RowKit

theorem one_ok : Meets Tryd.prog (fun _ => none) 76 cone := one_meets fun a b => by
  unfold one_VC
  simp only [pGe, pLe, Bool.cond_eq_ite, decide_eq_true_eq, Prod.mk.injEq, eq_self, and_true, inF, labF]
  repeat' split
  all_goals (rw [Bool.eq_iff_iff]; simp only [Bool.and_eq_true, decide_eq_true_eq, Bool.false_eq_true]; constructor <;> intro h <;> first | omega | exact h.elim)

theorem cfgF_sites {c : CfgD} (h : inF c.1 1 4 = false) : cfgF c = 2 := by unfold cfgF; rw [h]; rfl
theorem cfgF_len {c : CfgD} (h1 : inF c.1 1 4 = true) (h : inF (pInt c.2.1.length) 1 6 = false) : cfgF c = 1 := by unfold cfgF; rw [h1, h]; rfl
theorem cfgF_first {c : CfgD} {n : Int} (h1 : inF c.1 1 4 = true) (h2 : inF (pInt c.2.1.length) 1 6 = true) (h : firstE (labE c.2.1) c.2.1.length = n) (hn : pEq n 0 = false) : cfgF c = n := by
  unfold cfgF; rw [h1, h2, h, hn]; rfl
theorem cfgF_end {c : CfgD} (h1 : inF c.1 1 4 = true) (h2 : inF (pInt c.2.1.length) 1 6 = true) (h : firstE (labE c.2.1) c.2.1.length = 0) : cfgF c = cond (inF c.2.2.1 1 1048576) 0 2 := by
  unfold cfgF; rw [h1, h2, h]; rfl
theorem inF_iff {x a b : Int} : inF x a b = true ↔ a ≤ x ∧ x ≤ b := by simp [inF, pLe]
theorem inF_not {x a b : Int} : inF x a b = false ↔ ¬ (a ≤ x ∧ x ≤ b) := by rw [← inF_iff]; simp

theorem labE_bad {l : List LabD} {k : Nat} (h : labF (pGet tyLab l k) = false) : labE l k = 2 := by unfold labE; rw [h]; rfl
theorem labE_ok {l : List LabD} {k : Nat} (h : labF (pGet tyLab l k) = true) : labE l k = cond (allUpto (fun i => !eqLabAt l i k) k) 0 7 := by unfold labE; rw [h]; rfl

/-- the loop over the labels, behind the first two tests -/
theorem cfg_round {c : CfgD} (h1 : inF c.1 1 4 = true) (h2 : inF (pInt c.2.1.length) 1 6 = true) {k : Nat} (hk : pEq (labE c.2.1 k) 0 = false → firstE (labE c.2.1) c.2.1.length = labE c.2.1 k)
    (h : labF (pGet tyLab c.2.1 k) = false) : ((2 : Int), ()) = (cfgF c, ()) := by
  rw [cfgF_first h1 h2 (n := 2) (by rw [hk (by rw [labE_bad h]; rfl), labE_bad h]) rfl]
theorem cfg_twice {c : CfgD} (h1 : inF c.1 1 4 = true) (h2 : inF (pInt c.2.1.length) 1 6 = true) {k : Nat} (hk : pEq (labE c.2.1 k) 0 = false → firstE (labE c.2.1) c.2.1.length = labE c.2.1 k)
    (h : labF (pGet tyLab c.2.1 k) = true) (ha : allUpto (fun i => !eqLabAt c.2.1 i k) k = false) : ((7 : Int), ()) = (cfgF c, ()) := by
  have e : labE c.2.1 k = 7 := by rw [labE_ok h, ha]; rfl
  rw [cfgF_first h1 h2 (n := 7) (by rw [hk (by rw [e]; rfl), e]) rfl]

theorem lB_start {cn : Int} {cl : List LabD} {cp : Int} {k : Nat} : lCheckBInv cn cl cp (k : Int) (0, ()) := UpInv.start
theorem lB_round {cn : Int} {cl : List LabD} {cp : Int} {k : Nat} {z : denVars [.slot 41 false tI]} (hk : k < 4611686018427387904) (h : lCheckBInv cn cl cp (k : Int) z) :
    (∃ i : Nat, z = ((i : Int), ()) ∧ i < k ∧ i < 4611686018427387904 ∧ (eqLabAt cl i k = true → allUpto (fun i => !eqLabAt cl i k) k = false) ∧
      (eqLabAt cl i k = false → lCheckBInv cn cl cp (k : Int) (pAdd .i64 (i : Int) 1, ()) ∧ Nat.le (Nat.succ (lCheckBMu cn cl cp (k : Int) (pAdd .i64 (i : Int) 1, ()))) (lCheckBMu cn cl cp (k : Int) ((i : Int), ())))) ∨
    (z = ((k : Int), ()) ∧ allUpto (fun i => !eqLabAt cl i k) k = true) := by
  unfold lCheckBInv lCheckBMu at *
  simp only [pNat_coe] at h ⊢
  rcases UpInv.round hk h with ⟨i, hz, hi, hib, _, hF, hT⟩ | h
  · exact .inl ⟨i, hz, hi, hib, fun h => hF (by simp [h]), fun h => hT (by simp [h])⟩
  · exact .inr h

theorem lCheck_ok : Meets Tryd.prog (fun _ => none) 35 clCheck := lCheck_meets one_ok fun cn cl cp hp => by
  have hl : cl.length < 4611686018427387904 := hp _ List.mem_cons_self
  unfold lCheck_VC
  simp only [pLen]
  cases hb1 : pLt cn 1
  case true => exact congrArg (·, ()) (cfgF_sites (by rw [inF_not]; simp only [pLt, decide_eq_true_eq] at hb1; omega)).symm
  cases hb2 : pGt cn 4
  case true => exact congrArg (·, ()) (cfgF_sites (by rw [inF_not]; simp only [pGt, decide_eq_true_eq] at hb2; simp only; omega)).symm
  have h1 : inF cn 1 4 = true := by rw [inF_iff]; simp only [pLt, pGt, decide_eq_false_iff_not] at hb1 hb2; omega
  cases hb3 : pLt (pInt cl.length) 1
  case true => exact congrArg (·, ()) (cfgF_len h1 (by rw [inF_not]; simp only [pLt, decide_eq_true_eq] at hb3; simp only; omega)).symm
  cases hb4 : pGt (pInt cl.length) 6
  case true => exact congrArg (·, ()) (cfgF_len h1 (by rw [inF_not]; simp only [pGt, decide_eq_true_eq] at hb4; simp only; omega)).symm
  have h2 : inF (pInt cl.length) 1 6 = true := by rw [inF_iff]; simp only [pLt, pGt, decide_eq_false_iff_not] at hb3 hb4; omega
  refine ⟨UpInv.start, fun y hy => ?_⟩
  rcases FirstInv.round hl hy with ⟨k, rfl, hk, hb, hF, hT⟩ | ⟨rfl, hT⟩
  · simp only [pLt_coe, pLen, hk, decide_true, cond_true, pIn_coe, pNat_coe, true_and]
    cases hlab : labF (pGet tyLab cl k)
    case false => exact cfg_round (c := (cn, cl, cp, ())) h1 h2 hF hlab
    refine ⟨by rw [pTo_coe]; omega, lB_start, fun z hz => ?_⟩
    rcases lB_round hb hz with ⟨i, rfl, hi, hib, hiF, hiT⟩ | ⟨rfl, hiT⟩
    · rw [pSub0_len (by omega), bif_true (show pLt (i : Int) (pInt k) = true from by simp [pLt_coe, hi])]
      refine ⟨pIn_coe.2 hi, ?_⟩
      rw [pNat_coe, pGet_sub0 hi]
      have e : pAndB (pEq (pGet tyLab cl i).1 (pGet tyLab cl k).1) (pEq (pGet tyLab cl i).2.1 (pGet tyLab cl k).2.1) = eqLabAt cl i k := rfl
      rw [e]
      cases hq : eqLabAt cl i k with
      | true => exact cfg_twice (c := (cn, cl, cp, ())) h1 h2 hF hlab (hiF hq)
      | false => exact hiT hq
    · rw [pSub0_len (by omega), bif_false (show pLt (k : Int) (pInt k) = false from by simp [pLt_coe])]
      exact hT (by rw [labE_ok hlab, hiT]; rfl)
  · simp only [pLt_coe, Nat.lt_irrefl, decide_false, cond_false]
    rw [cfgF_end (c := (cn, cl, cp, ())) h1 h2 hT]
    simp only [pLt, pGt, Bool.cond_eq_ite, decide_eq_true_eq, inF_iff]
    repeat' split
    all_goals first | rfl | (exfalso; omega)

theorem cFault_ok : Meets Tryd.prog (fun _ => none) 38 ccFault := cFault_meets In_ok fun cn cl cp hp => by
  have hl : cl.length < 4611686018427387904 := hp _ List.mem_cons_self
  unfold cFault_VC
  cases h1 : inF cn 1 4
  case false => exact congrArg (·, ()) (cfgF_sites h1).symm
  simp only [pLen]
  cases h2 : inF (pInt cl.length) 1 6
  case false => exact congrArg (·, ()) (cfgF_len h1 h2).symm
  refine ⟨UpInv.start, fun y hy => ?_⟩
  rcases FirstInv.round hl hy with ⟨k, rfl, hk, hb, hF, hT⟩ | ⟨rfl, hT⟩
  · simp only [pLt_coe, hk, decide_true, cond_true, pIn_coe, pNat_coe, true_and]
    cases ha : inF (pGet tyLab cl k).1 0 9
    case false => exact cfg_round (c := (cn, cl, cp, ())) h1 h2 hF (by unfold labF; rw [ha]; rfl)
    cases hc : inF (pGet tyLab cl k).2.1 0 15
    case false => exact cfg_round (c := (cn, cl, cp, ())) h1 h2 hF (by unfold labF; rw [ha, hc]; rfl)
    have hlab : labF (pGet tyLab cl k) = true := by unfold labF; rw [ha, hc]; rfl
    refine ⟨lB_start, fun z hz => ?_⟩
    rcases lB_round hb hz with ⟨i, rfl, hi, hib, hiF, hiT⟩ | ⟨rfl, hiT⟩
    · have hi2 : i < cl.length := by omega
      rw [bif_true (show pLt (i : Int) (k : Int) = true from by simp [pLt, hi])]
      refine ⟨pIn_coe.2 hi2, ?_⟩
      rw [pNat_coe]
      have e : pAndB (pEq (pGet tyLab cl i).1 (pGet tyLab cl k).1) (pEq (pGet tyLab cl i).2.1 (pGet tyLab cl k).2.1) = eqLabAt cl i k := rfl
      rw [e]
      cases hq : eqLabAt cl i k with
      | true => exact cfg_twice (c := (cn, cl, cp, ())) h1 h2 hF hlab (hiF hq)
      | false => exact hiT hq
    · rw [show pLt (k : Int) (k : Int) = false from by simp [pLt]]
      exact hT (by rw [labE_ok hlab, hiT]; rfl)
  · simp only [pLt_coe, Nat.lt_irrefl, decide_false, cond_false]
    rw [cfgF_end (c := (cn, cl, cp, ())) h1 h2 hT]
    cases inF cp 1 1048576 <;> rfl

theorem cfgF_sites4 {c : CfgD} (h : pNe (cfgF c) 0 = false) : inF c.1 1 4 = true := by
  cases hq : inF c.1 1 4
  · rw [cfgF_sites hq] at h; cases h
  · rfl


end Go.Proofs.YtkhnakdmkhidbaaDoor

/- Sites' answers: functions meet their contracts. No condition. -/
namespace Go.Proofs.YtkhnakdmkhidbaaDoor
open Go.RowKit

theorem room_le {n m b : Nat} (h : pRoom n b) (hm : m ≤ n) : pRoom m b := Nat.le_trans (Nat.mul_le_mul_right b hm) h
theorem sameInts_ok : Meets Tryd.prog (fun _ => none) 46 csameInts := sameInts_meets fun l m hp => by
  have hl : l.length < 4611686018427387904 := hp (pLen l < 4611686018427387904) (by simp)
  unfold sameInts_VC
  refine bif_ok (fun h => leafF fun q => ?_) fun h => ?_
  · unfold sameIntsF at q; simp only [Bool.and_eq_true, decide_eq_true_eq] at q
    have : pNe (pInt l.length) (pInt m.length) = true := h
    rw [q.1] at this; simp [pNe] at this
  have hn : l.length = m.length := by
    have : pNe (pInt l.length) (pInt m.length) = false := h
    simp only [pNe, pInt, bne_eq_false_iff_eq] at this; omega
  refine ⟨⟨hn, UpInv.start⟩, fun y ⟨_, hy⟩ => ?_⟩
  rcases UpInv.round hl hy with ⟨k, rfl, hk, hb, -, hF, hT⟩ | ⟨rfl, hT⟩
  · have hk2 : k < m.length := by omega
    rw [bif_true (by simp [pLt_coe, pLen, hk]), pNat_coe]
    refine ⟨pIn_coe.2 hk, pIn_coe.2 hk2, bif_ok (fun h => leafF fun q => ?_) fun h => ?_⟩
    · have h' : eqNAt l m k = false := by have h2 : (!eqNAt l m k) = true := h; simpa using h2
      unfold sameIntsF at q
      rw [hF h'] at q; simp at q
    · have h' : eqNAt l m k = true := by have h2 : (!eqNAt l m k) = false := h; simpa using h2
      exact ⟨⟨hn, (hT h').1⟩, (hT h').2⟩
  · rw [bif_false (by simp [pLt_coe, pLen])]
    refine leafT fun q => ?_
    unfold sameIntsF at q
    rw [hT] at q; simp [hn] at q

theorem sameNotes_ok : Meets Tryd.prog (fun _ => none) 9 csameNotes := sameNotes_meets fun l m hp => by
  have hl : l.length < 4611686018427387904 := hp _ List.mem_cons_self
  unfold sameNotes_VC
  refine bif_ok (fun h => leafF fun q => ?_) fun h => ?_
  · unfold sameNotesF at q; simp only [Bool.and_eq_true, decide_eq_true_eq] at q
    have : pNe (pInt l.length) (pInt m.length) = true := h
    rw [q.1] at this; simp [pNe] at this
  have hn : l.length = m.length := by
    have : pNe (pInt l.length) (pInt m.length) = false := h
    simp only [pNe, pInt, bne_eq_false_iff_eq] at this; omega
  refine ⟨⟨hn, UpInv.start⟩, fun y ⟨_, hy⟩ => ?_⟩
  rcases UpInv.round hl hy with ⟨k, rfl, hk, hb, -, hF, hT⟩ | ⟨rfl, hT⟩
  · have hk2 : k < m.length := by omega
    rw [bif_true (by simp [pLt_coe, pLen, hk]), pNat_coe]
    refine ⟨pIn_coe.2 hk, pIn_coe.2 hk2, bif_ok (fun h => leafF fun q => ?_) fun h => ?_⟩
    · have h' : eqNoteAt l m k = false := by have h2 : (!eqNoteAt l m k) = true := h; simpa using h2
      unfold sameNotesF at q
      rw [hF h'] at q; simp at q
    · have h' : eqNoteAt l m k = true := by have h2 : (!eqNoteAt l m k) = false := h; simpa using h2
      exact ⟨⟨hn, (hT h').1⟩, (hT h').2⟩
  · rw [bif_false (by simp [pLt_coe, pLen])]
    refine leafT fun q => ?_
    unfold sameNotesF at q
    rw [hT] at q; simp [hn] at q

theorem sameNotes_refl (l : List NoteD) : sameNotesF l l = true := by
  unfold sameNotesF
  rw [allUpto_true fun j _ => by simp [eqNoteAt, eqNote, pAndB, pEq, pBeq]]
  simp
theorem sameInts_refl (l : List ND) : sameIntsF l l = true := by
  unfold sameIntsF
  rw [allUpto_true fun j _ => by simp [eqNAt, pEq]]
  simp
end Go.Proofs.YtkhnakdmkhidbaaDoor
