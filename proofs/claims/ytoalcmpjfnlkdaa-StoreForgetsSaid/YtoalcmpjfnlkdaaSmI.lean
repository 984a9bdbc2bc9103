/- What is left of the store behind a crash: functions meet their contracts. No condition. -/
import Derived.Test.YtoalcmpjfnlkdaaSvG
import Derived.Test.YtoalcmpjfnlkdaaSmF
namespace Go.Proofs.Ytoalcmpjfnlkdaa
open Go.RowKit

/- a row from which some are taken away -/
theorem DelAt.start {t : Ty} {p : t.den → Bool} {xs : List t.den} {i : Nat} (hi : i < xs.length) (hb : i < 4611686018427387904) (hlow : ∀ j, j < i → p (pGet t xs j) = false) (hp : p (pGet t xs i) = true) :
    DelAt p xs (pAdd .i64 (i : Int) 1, (i : Int), xs, ()) := by
  refine ⟨i, i + 1, xs, by rw [pAdd1 hb], by omega, hi, rfl, ?_, rfl⟩
  rw [List.take_succ_eq_append_getElem hi, List.filter_append]
  have h1 : (xs.take i).filter (fun x => !p x) = xs.take i := by
    rw [List.filter_eq_self]
    intro x hx
    obtain ⟨j, hj, rfl⟩ := List.getElem_of_mem hx
    have hj' : j < i := by simp at hj; omega
    have := hlow j hj'
    rw [pGet_lt (by omega)] at this
    simp only [List.getElem_take, this, Bool.not_false]
  rw [h1, List.filter_cons_of_neg (by rw [pGet_lt hi] at hp; simp [hp])]
  simp
theorem DelAt.at {t : Ty} {xs zs : List t.den} {j : Nat} (hj : j < xs.length) (hl : zs.length = xs.length) (hd : zs.drop j = xs.drop j) : pGet t zs j = pGet t xs j := by
  have e : (zs.drop j)[0]? = (xs.drop j)[0]? := by rw [hd]
  rw [List.getElem?_drop, List.getElem?_drop, Nat.add_zero] at e
  unfold pGet
  rw [List.getD_eq_getElem?_getD, List.getD_eq_getElem?_getD, e]
theorem DelAt.step {t : Ty} {p : t.den → Bool} {xs zs : List t.den} {i j : Nat} (hij : i < j) (hj : j < xs.length) (hb : j < 4611686018427387904) (hl : zs.length = xs.length) (ht : zs.take i = (xs.take j).filter (fun x => !p x)) (hd : zs.drop j = xs.drop j) :
    (p (pGet t xs j) = false → DelAt p xs (pAdd .i64 (j : Int) 1, pAdd .i64 (i : Int) 1, pSet zs i (pGet t xs j), ())) ∧ (p (pGet t xs j) = true → DelAt p xs (pAdd .i64 (j : Int) 1, (i : Int), zs, ())) := by
  have hdr : ∀ l : List t.den, l.drop (j + 1) = (l.drop j).drop 1 := fun l => by rw [List.drop_drop]
  have htk : xs.take (j + 1) = xs.take j ++ [pGet t xs j] := by rw [List.take_succ_eq_append_getElem hj, pGet_lt hj]
  refine ⟨fun hp => ⟨i + 1, j + 1, _, by rw [pAdd1 hb, pAdd1 (by omega)], by omega, hj, by unfold pSet; simpa using hl, ?_, ?_⟩, fun hp => ⟨i, j + 1, zs, by rw [pAdd1 hb], by omega, hj, hl, ?_, by rw [hdr, hd, ← hdr]⟩⟩
  · rw [htk, List.filter_append, ← ht, List.filter_cons_of_pos (by simp [hp]), List.filter_nil]
    unfold pSet
    have hi : i < (zs.set i (pGet t xs j)).length := by simp; omega
    rw [List.take_succ_eq_append_getElem hi, List.getElem_set_self, List.take_set_of_le (Nat.le_refl i)]
  · unfold pSet
    rw [List.drop_set_of_lt (by omega), hdr, hd, ← hdr]
  · rw [htk, List.filter_append, ← ht, List.filter_cons_of_neg (by simp [hp])]
    simp
theorem DelAt.done {t : Ty} {p : t.den → Bool} {xs zs : List t.den} {i : Nat} {d : t.den} (hi : i < xs.length) (hl : zs.length = xs.length) (ht : zs.take i = (xs.take xs.length).filter (fun x => !p x)) : pSub (pClr zs i d) 0 i = xs.filter (fun x => !p x) := by
  unfold pSub pClr
  rw [List.drop_zero, List.take_append_of_le_length (by simp; omega), List.take_take, Nat.min_self, ht, List.take_length]
theorem clr_len {α : Type} {zs : List α} {i : Nat} {d : α} (hi : i ≤ zs.length) : (pClr zs i d).length = zs.length := by unfold pClr; simp; omega
theorem idxOf_cases {p : Nat → Bool} {n : Nat} : (idxOf p n = -1 ∧ ∀ j, j < n → p j = false) ∨ ∃ i : Nat, idxOf p n = (i : Int) ∧ i < n ∧ p i = true ∧ ∀ j, j < i → p j = false := by
  unfold idxOf
  cases hq : (List.range n).find? p with
  | none =>
    refine .inl ⟨rfl, fun j hj => ?_⟩
    rw [List.find?_eq_none] at hq
    simpa using hq j (by simpa using hj)
  | some i =>
    rw [List.find?_range_eq_some] at hq
    exact .inr ⟨i, rfl, by simpa using hq.2.1, hq.1, fun j hj => by simpa using hq.2.2 j hj⟩
theorem keep_all {t : Ty} {p : t.den → Bool} {xs : List t.den} (h : ∀ j, j < xs.length → p (pGet t xs j) = false) : xs.filter (fun x => !p x) = xs := by
  rw [List.filter_eq_self]
  intro x hx
  obtain ⟨j, hj, rfl⟩ := List.getElem_of_mem hx
  have := h j hj
  rw [pGet_lt hj] at this
  simp [this]

theorem forg1_ok : Meets Try.prog (fun _ => none) 44 cforg1 := forg1_meets fun xs xn xk xw xv xq => rfl
theorem indexW_ok : Meets Try.prog (fun _ => none) 69 cindexW := indexW_meets forg1_ok fun l hp => by
  have hl : l.length < 4611686018427387904 := hp _ List.mem_cons_self
  refine ⟨UpInv.start, fun y hy => ?_⟩
  rcases FindInv.round hl hy with ⟨k, rfl, hk, hb, hT, hF⟩ | ⟨rfl, hT⟩
  · rw [bif_true (by simp [pLt_coe, pLen, hk]), pNat_coe]
    refine ⟨pIn_coe.2 hk, bif_ok (fun h => ?_) fun h => hF h⟩
    exact congrArg (·, ()) (hT h).symm
  · rw [bif_false (by simp [pLt_coe, pLen])]
    exact congrArg (·, ()) hT.symm
theorem delW_ok : Meets Try.prog (fun _ => none) 43 cdelW := delW_meets forg1_ok indexW_ok fun ls hp => by
  have hl : ls.length < 4611686018427387904 := hp _ List.mem_cons_self
  clear hp
  unfold delW_VC
  refine ⟨hl, ?_⟩
  rcases idxOf_cases (p := fun j => wrDel (pGet tyLock ls j)) (n := ls.length) with ⟨h1, h2⟩ | ⟨i, h1, hi, h3, h4⟩
  · rw [show wrIdx ls = -1 from h1, bif_true (by rfl)]
    exact congrArg (·, ()) (keep_all (t := tyLock) h2).symm
  · rw [show wrIdx ls = (i : Int) from h1, bif_false (by simp [pEq] <;> omega)]
    refine ⟨DelAt.start (t := tyLock) hi (by omega) h4 h3, fun y hy => ?_⟩
    obtain ⟨a, j, zs, rfl, haj, hj, hzl, ht, hd⟩ := hy
    dsimp only
    have hzl' : zs.length = ls.length := hzl
    rw [show pLen zs = ls.length from hzl]
    by_cases hjn : j < ls.length
    · rw [bif_true (by simp [pLt_coe, hjn]), pNat_coe, pNat_coe, lock_eta, DelAt.at (t := tyLock) hjn hzl hd]
      obtain ⟨s1, s2⟩ := DelAt.step (t := tyLock) (p := wrDel) haj hjn (by omega) hzl ht hd
      refine ⟨pIn_coe.2 hjn, bif_ok (fun h => ⟨pIn_coe.2 (by omega), s1 (by simpa [wrDel, pNot] using h), mu_step hjn (by omega)⟩) fun h => ⟨s2 (by simpa [wrDel, pNot] using h), mu_step hjn (by omega)⟩⟩
    · obtain rfl : j = ls.length := by omega
      rw [bif_false (by simp [pLt_coe]), pNat_coe]
      refine ⟨pTo_coe.2 (by omega), haj, pTo_coe.2 (by show a ≤ (pClr zs a _).length; rw [clr_len (by omega)]; omega), congrArg (·, ()) (DelAt.done (t := tyLock) haj hzl ht)⟩

theorem forg21_ok : Meets Try.prog (fun _ => none) 48 cforg21 := forg21_meets fun xs xn xk xw xv xq a b g => rfl
theorem indexL_ok : Meets Try.prog (fun _ => none) 69 cindexL := indexL_meets forg21_ok fun l a b g hp => by
  have hl : l.length < 4611686018427387904 := hp _ List.mem_cons_self
  refine ⟨UpInv.start, fun y hy => ?_⟩
  rcases FindInv.round hl hy with ⟨k, rfl, hk, hb, hT, hF⟩ | ⟨rfl, hT⟩
  · rw [bif_true (by simp [pLt_coe, pLen, hk]), pNat_coe, lock_eta]
    refine ⟨pIn_coe.2 hk, bif_ok (fun h => ?_) fun h => hF h⟩
    exact congrArg (·, ()) (hT h).symm
  · rw [bif_false (by simp [pLt_coe, pLen])]
    exact congrArg (·, ()) hT.symm
theorem containsL_ok : Meets Try.prog (fun _ => none) 47 ccontainsL := containsL_meets indexL_ok fun l a b g hp => ⟨hp _ List.mem_cons_self, rfl⟩
theorem forg2_ok : Meets Try.prog (fun _ => none) 46 cforg2 := forg2_meets containsL_ok fun a b g is ls ds os hp => ⟨hp (pLen ls < 4611686018427387904) (by simp), rfl⟩
theorem doubt_eta (l : List DoubtD) (k : Nat) : ((pGet tyItem l k).1, (pGet tyItem l k).2.1, (pGet tyItem l k).2.2.1, ()) = pGet tyDoubt l k := rfl
theorem indexD_ok : Meets Try.prog (fun _ => none) 70 cindexD := indexD_meets forg2_ok fun ds is ls os hp => by
  have hl : ds.length < 4611686018427387904 := hp (pLen ds < 4611686018427387904) (by simp)
  have hs : ls.length < 4611686018427387904 := hp (pLen ls < 4611686018427387904) (by simp)
  refine ⟨UpInv.start, fun y hy => ?_⟩
  rcases FindInv.round hl hy with ⟨k, rfl, hk, hb, hT, hF⟩ | ⟨rfl, hT⟩
  · rw [bif_true (by simp [pLt_coe, pLen, hk]), pNat_coe, doubt_eta]
    refine ⟨pIn_coe.2 hk, hs, bif_ok (fun h => ?_) fun h => hF h⟩
    exact congrArg (·, ()) (hT h).symm
  · rw [bif_false (by simp [pLt_coe, pLen])]
    exact congrArg (·, ()) hT.symm
theorem delD_ok : Meets Try.prog (fun _ => none) 45 cdelD := delD_meets forg2_ok indexD_ok fun ds is ls os hp => by
  have hl : ds.length < 4611686018427387904 := hp (pLen ds < 4611686018427387904) (by simp)
  have hs : ls.length < 4611686018427387904 := hp (pLen ls < 4611686018427387904) (by simp)
  clear hp
  unfold delD_VC
  refine ⟨hl, hs, ?_⟩
  rcases idxOf_cases (p := fun j => inDel ls (pGet tyDoubt ds j)) (n := ds.length) with ⟨h1, h2⟩ | ⟨i, h1, hi, h3, h4⟩
  · rw [show inIdx ls ds = -1 from h1, bif_true (by rfl)]
    exact congrArg (·, ()) (keep_all (t := tyDoubt) h2).symm
  · rw [show inIdx ls ds = (i : Int) from h1, bif_false (by simp [pEq] <;> omega)]
    refine ⟨DelAt.start (t := tyDoubt) hi (by omega) h4 h3, fun y hy => ?_⟩
    obtain ⟨a, j, zs, rfl, haj, hj, hzl, ht, hd⟩ := hy
    dsimp only
    have hzl' : zs.length = ds.length := hzl
    rw [show pLen zs = ds.length from hzl]
    by_cases hjn : j < ds.length
    · rw [bif_true (by simp [pLt_coe, hjn]), pNat_coe, pNat_coe, doubt_eta, DelAt.at (t := tyDoubt) hjn hzl hd]
      obtain ⟨s1, s2⟩ := DelAt.step (t := tyDoubt) (p := inDel ls) haj hjn (by omega) hzl ht hd
      refine ⟨pIn_coe.2 hjn, hs, bif_ok (fun h => ⟨pIn_coe.2 (by omega), s1 (by simpa [inDel, pNot] using h), mu_step hjn (by omega)⟩) fun h => ⟨s2 (by simpa [inDel, pNot] using h), mu_step hjn (by omega)⟩⟩
    · obtain rfl : j = ds.length := by omega
      rw [bif_false (by simp [pLt_coe]), pNat_coe]
      refine ⟨pTo_coe.2 (by omega), haj, pTo_coe.2 (by show a ≤ (pClr zs a _).length; rw [clr_len (by omega)]; omega), congrArg (·, ()) (DelAt.done (t := tyDoubt) haj hzl ht)⟩

theorem WritesOf_ok : Meets Try.prog (fun _ => none) 15 cWritesOf := WritesOf_meets askFault_ok fun si sl sd so ts tn hp => by
  have l1 : si.length < 4611686018427387904 := hp (pLen si < 4611686018427387904) (by simp)
  have l2 : sl.length < 4611686018427387904 := hp (pLen sl < 4611686018427387904) (by simp)
  have l3 : sd.length < 4611686018427387904 := hp (pLen sd < 4611686018427387904) (by simp)
  have l4 : so.length < 4611686018427387904 := hp (pLen so < 4611686018427387904) (by simp)
  clear hp
  unfold WritesOf_VC
  refine ⟨l1, l2, l3, l4, bif_ok (fun h => ?_) fun h => ⟨⟨0, rfl, Nat.zero_le _⟩, fun y hy => ?_⟩⟩
  · rw [show pEq (askE (si, sl, sd, so, ()) (ts, tn, ()) 0) 0 = false by simpa [pNe, pEq] using h]; rfl
  obtain ⟨i, rfl, hi⟩ := hy
  by_cases hk : i < sl.length
  · rw [bif_true (by simp [pLt_coe, pLen, hk])]
    dsimp only
    rw [pNat_coe]
    have hc := cntTo_le (p := fun j => lockIsF (pGet tyLock sl j) (ts, tn, ()) && (pGet tyLock sl j).2.2.2.1) (k := i)
    have e : lockIsF (pGet tyLock sl i) (ts, tn, ()) = pAndB (pEq (pGet tyLock sl i).1 ts) (pEq (pGet tyLock sl i).2.1 tn) := rfl
    have nx : ∀ u : Int, u = ((cntTo (fun j => lockIsF (pGet tyLock sl j) (ts, tn, ()) && (pGet tyLock sl j).2.2.2.1) (i + 1) : Nat) : Int) → cntwInv si sl sd so ts tn (pAdd .i64 (i : Int) 1, u, ()) :=
      fun u hu => ⟨i + 1, by rw [pAdd1 (by omega), hu], hk⟩
    refine ⟨pIn_coe.2 hk, bif_ok (fun h1 => ⟨pIn_coe.2 hk, bif_ok (fun h2 => ⟨nx _ ?_, mu_step hk (by omega)⟩) fun h2 => ⟨nx _ ?_, mu_step hk (by omega)⟩⟩) fun h1 => ⟨nx _ ?_, mu_step hk (by omega)⟩⟩
    · rw [cntTo_succ, e, h1, h2, pAdd1 (by omega)]; rfl
    · rw [cntTo_succ, e, h1, h2]; rfl
    · rw [cntTo_succ, e, h1]; rfl
  · obtain rfl : i = sl.length := by omega
    rw [bif_false (by simp [pLt_coe, pLen])]
    have h0 : pEq (askE (si, sl, sd, so, ()) (ts, tn, ()) 0) 0 = true := by simpa [pNe, pEq] using h
    have h1 : askE (si, sl, sd, so, ()) (ts, tn, ()) 0 = 0 := by simpa [pEq] using h0
    rw [h1]; rfl

/- both ways of saying who stays in doubt -/
theorem any_mem {t : Ty} {q : t.den → Bool} {l : List t.den} : anyUpto (fun j => q (pGet t l j)) l.length = true ↔ ∃ x ∈ l, q x = true := by
  rw [anyUpto_iff]
  constructor
  · rintro ⟨j, hj, h⟩
    rw [pGet_lt hj] at h
    exact ⟨_, List.getElem_mem hj, h⟩
  · rintro ⟨x, hx, h⟩
    obtain ⟨j, hj, rfl⟩ := List.getElem_of_mem hx
    exact ⟨j, hj, by rw [pGet_lt hj]; exact h⟩
theorem hand_write (sl : List LockD) (d : DoubtD) : pGt (cntW sl d.1 d.2.1) 0 = !inDel (wrF sl) d := by
  have e1 : pGt (cntW sl d.1 d.2.1) 0 = anyUpto (fun j => (fun x : tyLock.den => lockIsF x (d.1, d.2.1, ()) && x.2.2.2.1) (pGet tyLock sl j)) sl.length := cntTo_any
  have e2 : (!inDel (wrF sl) d) = anyUpto (fun j => (fun x : tyLock.den => lockIsF x (d.1, d.2.1, ())) (pGet tyLock (wrF sl) j)) (wrF sl).length := by
    unfold inDel hasLk idxLockF
    rw [idxOf_ge]
    simp [pNot]
  rw [e1, e2, Bool.eq_iff_iff]
  refine (any_mem (t := tyLock) (q := fun x => lockIsF x (d.1, d.2.1, ()) && x.2.2.2.1) (l := sl)).trans (Iff.trans ?_ (any_mem (t := tyLock) (q := fun x => lockIsF x (d.1, d.2.1, ())) (l := wrF sl)).symm)
  constructor
  · rintro ⟨x, hx, h⟩
    simp only [Bool.and_eq_true] at h
    exact ⟨x, List.mem_filter.2 ⟨hx, by simp only [wrDel, pNot, Bool.not_not]; exact h.2⟩, h.1⟩
  · rintro ⟨x, hx, h⟩
    obtain ⟨h1, h2⟩ := List.mem_filter.1 hx
    refine ⟨x, h1, ?_⟩
    simp only [wrDel, pNot, Bool.not_not] at h2
    simp only [Bool.and_eq_true]
    exact ⟨h, h2⟩
theorem filter_next {t : Ty} {p : t.den → Bool} {l : List t.den} {k : Nat} (h : k < l.length) : (l.take (k + 1)).filter (fun x => !p x) = cond (p (pGet t l k)) ((l.take k).filter (fun x => !p x)) (pApp ((l.take k).filter (fun x => !p x)) [pGet t l k]) := by
  rw [List.take_succ_eq_append_getElem h, List.filter_append, pGet_lt h]
  cases hq : p (l[k]'h) with
  | true => rw [List.filter_cons_of_neg (by simp [hq])]; simp
  | false => rw [List.filter_cons_of_pos (by simp [hq])]; rfl

theorem forg_err {s : StoD} (h : stoF s = false) : (([], [], [], [], ()), (9 : Int), ()) = (forgS s, forgE s, ()) := by unfold forgS forgE; rw [h]; rfl
theorem forg_all {is : List ItemD} {ls : List LockD} {ds : List DoubtD} {os : List TxnD} {ms : List DoubtD} (h : stoF (is, ls, ds, os, ()) = true) (hm : ms = (inDF (wrF ls) ds).map zeroD) :
    ((is, wrF ls, ms, os, ()), (0 : Int), ()) = (forgS (is, ls, ds, os, ()), forgE (is, ls, ds, os, ()), ()) := by unfold forgS forgE; rw [h, hm]; rfl
theorem zero_len {l : List DoubtD} {k : Nat} (h : k ≤ l.length) : (zeroK l k).length = l.length := by
  unfold zeroK; simp only [List.length_append, List.length_map, List.length_take, List.length_drop]; omega
theorem zero_get {l : List DoubtD} {k : Nat} (h : k < l.length) : pGet tyDoubt (zeroK l k) k = pGet tyDoubt l k := by
  unfold pGet zeroK
  rw [List.getD_eq_getElem?_getD, List.getD_eq_getElem?_getD, List.getElem?_append_right (by simp only [List.length_map, List.length_take]; omega)]
  simp only [List.length_map, List.length_take, List.getElem?_drop]
  rw [show k + (k - min k l.length) = k from by omega]
theorem zero_set {l : List DoubtD} {k : Nat} (h : k < l.length) : pSet (zeroK l k) k (zeroD (pGet tyDoubt l k)) = zeroK l (k + 1) := by
  unfold pSet zeroK
  have hl : ((l.take k).map zeroD).length = k := by simp only [List.length_map, List.length_take]; omega
  rw [List.set_append_right _ _ (by omega), hl, Nat.sub_self, List.take_succ_eq_append_getElem h, List.map_append, List.append_assoc, List.drop_eq_getElem_cons h, pGet_lt (t := tyDoubt) h]
  rfl

theorem Forget_ok : Meets Try.prog (fun _ => none) 21 cForget := Forget_meets Check_ok own_ok delW_ok delD_ok fun si sl sd so hp => by
  have l1 : si.length < 4611686018427387904 := hp (pLen si < 4611686018427387904) (by simp)
  have l2 : sl.length < 4611686018427387904 := hp (pLen sl < 4611686018427387904) (by simp)
  have l3 : sd.length < 4611686018427387904 := hp (pLen sd < 4611686018427387904) (by simp)
  have l4 : so.length < 4611686018427387904 := hp (pLen so < 4611686018427387904) (by simp)
  have r1 : pRoom (pLen si) 24 := hp (pRoom (pLen si) 24) (by simp)
  have r2 : pRoom (pLen sl) 48 := hp (pRoom (pLen sl) 48) (by simp)
  have r3 : pRoom (pLen sd) 24 := hp (pRoom (pLen sd) 24) (by simp)
  have r4 : pRoom (pLen so) 16 := hp (pRoom (pLen so) 16) (by simp)
  clear hp
  have lw : (wrF sl).length < 4611686018427387904 := Nat.lt_of_le_of_lt (List.length_filter_le _ _) l2
  have ld : (inDF (wrF sl) sd).length < 4611686018427387904 := Nat.lt_of_le_of_lt (List.length_filter_le _ _) l3
  unfold Forget_VC
  refine ⟨l1, l2, l3, l4, bif_ok (fun h => ?_) fun h => ⟨r1, r2, r3, r4, l2, l3, lw, ⟨0, rfl, Nat.zero_le _⟩, fun y hy => ?_⟩⟩
  · have hs : stoF (si, sl, sd, so, ()) = false := by cases hq : stoF (si, sl, sd, so, ()) with
      | false => rfl
      | true => rw [hq] at h; cases h
    rw [hs, cond_false]
    exact forg_err hs
  have hs : stoF (si, sl, sd, so, ()) = true := by cases hq : stoF (si, sl, sd, so, ()) with
    | true => rfl
    | false => rw [hq] at h; cases h
  obtain ⟨k, rfl, hk⟩ := hy
  by_cases hkn : k < (inDF (wrF sl) sd).length
  · rw [bif_true (by simp [pLt_coe, pLen, hkn])]
    dsimp only
    rw [pNat_coe]
    have hz := zero_get hkn
    refine ⟨pIn_coe.2 (by show k < (zeroK _ _).length; rw [zero_len hk]; exact hkn), ⟨k + 1, ?_, hkn⟩, mu_step hkn (by omega)⟩
    rw [pAdd1 (by omega), ← zero_set hkn, ← hz]
    rfl
  · obtain rfl : k = (inDF (wrF sl) sd).length := by omega
    rw [bif_false (by simp [pLt_coe, pLen])]
    exact forg_all hs (by unfold zeroK; simp)

theorem ForgetOf_ok : Meets Try.prog (fun _ => none) 22 cForgetOf := ForgetOf_meets StoreMay_ok StoreCopy_ok WritesOf_ok fun si sl sd so hp => by
  have l1 : si.length < 4611686018427387904 := hp (pLen si < 4611686018427387904) (by simp)
  have l2 : sl.length < 4611686018427387904 := hp (pLen sl < 4611686018427387904) (by simp)
  have l3 : sd.length < 4611686018427387904 := hp (pLen sd < 4611686018427387904) (by simp)
  have l4 : so.length < 4611686018427387904 := hp (pLen so < 4611686018427387904) (by simp)
  have r1 : pRoom (pLen si) 24 := hp (pRoom (pLen si) 24) (by simp)
  have r2 : pRoom (pLen sl) 48 := hp (pRoom (pLen sl) 48) (by simp)
  have r3 : pRoom (pLen sd) 24 := hp (pRoom (pLen sd) 24) (by simp)
  have r4 : pRoom (pLen so) 16 := hp (pRoom (pLen so) 16) (by simp)
  clear hp
  unfold ForgetOf_VC
  refine ⟨l1, l2, l3, l4, bif_ok (fun h => forg_err (by simpa [pNot] using h)) fun h => ⟨r1, r2, r3, r4, ⟨0, rfl, Nat.zero_le _⟩, fun y hy => ?_⟩⟩
  have hs : stoF (si, sl, sd, so, ()) = true := by simpa [pNot] using h
  obtain ⟨k, rfl, hk⟩ := hy
  by_cases hkn : k < sl.length
  · rw [bif_true (by simp [pLt_coe, pLen, hkn])]
    dsimp only
    rw [pNat_coe, lock_eta]
    have hb : k < 4611686018427387904 := by omega
    have hn : wrF (sl.take (k + 1)) = cond (wrDel (pGet tyLock sl k)) (wrF (sl.take k)) (pApp (wrF (sl.take k)) [pGet tyLock sl k]) := filter_next (t := tyLock) hkn
    have hlen : (wrF (sl.take k)).length ≤ k := Nat.le_trans (List.length_filter_le _ _) (by simp only [List.length_take]; omega)
    refine ⟨pIn_coe.2 hkn, bif_ok (fun hw => ⟨pIn_coe.2 hkn, room_more (n := sl.length) (Nat.lt_of_le_of_lt hlen hkn) r2, ⟨k + 1, ?_, hkn⟩, mu_step hkn hb⟩) fun hw => ⟨⟨k + 1, ?_, hkn⟩, mu_step hkn hb⟩⟩
    · rw [pAdd1 hb, hn, show wrDel (pGet tyLock sl k) = false by unfold wrDel pNot; rw [hw]; rfl]; rfl
    · rw [pAdd1 hb, hn, show wrDel (pGet tyLock sl k) = true by unfold wrDel pNot; rw [hw]; rfl]; rfl
  obtain rfl : k = sl.length := by omega
  rw [bif_false (by simp [pLt_coe, pLen])]
  dsimp only
  rw [List.take_length]
  refine ⟨⟨0, rfl, Nat.zero_le _⟩, fun y hy => ?_⟩
  obtain ⟨k, rfl, hk⟩ := hy
  by_cases hkn : k < sd.length
  · rw [bif_true (by simp [pLt_coe, pLen, hkn])]
    dsimp only
    rw [pNat_coe]
    have hb : k < 4611686018427387904 := by omega
    have hdk : doubtOkAt sl sd so k = true := by
      have h2 := hs
      rw [stoF_eq, doubtsF_eq] at h2
      simp only [Bool.and_eq_true] at h2
      exact allUpto_iff.1 h2.1.2.1 k hkn
    rw [doubtOkAt_eq] at hdk
    simp only [Bool.and_eq_true] at hdk
    have hask : askE (si, sl, sd, so, ()) ((pGet tyDoubt sd k).1, (pGet tyDoubt sd k).2.1, ()) 0 = 0 := by
      rw [askE_eq, hs, hdk.1.1.1.1]; rfl
    rw [show askE (si, sl, sd, so, ()) ((pGet tyItem sd k).1, (pGet tyItem sd k).2.1, ()) 0 = 0 from hask, show pEq 0 0 = true from rfl, cond_true,
      show pGt (cntW sl (pGet tyItem sd k).1 (pGet tyItem sd k).2.1) 0 = !inDel (wrF sl) (pGet tyDoubt sd k) from hand_write sl (pGet tyDoubt sd k)]
    have hn : inDF (wrF sl) (sd.take (k + 1)) = cond (inDel (wrF sl) (pGet tyDoubt sd k)) (inDF (wrF sl) (sd.take k)) (pApp (inDF (wrF sl) (sd.take k)) [pGet tyDoubt sd k]) := filter_next (t := tyDoubt) hkn
    have hlen : ((inDF (wrF sl) (sd.take k)).map zeroD).length ≤ k := by
      rw [List.length_map]; exact Nat.le_trans (List.length_filter_le _ _) (by simp only [List.length_take]; omega)
    refine ⟨pIn_coe.2 hkn, l1, l2, l3, l4, bif_ok (fun hw => ⟨pIn_coe.2 hkn, room_more (n := sd.length) (Nat.lt_of_le_of_lt hlen hkn) r3, ⟨k + 1, ?_, hkn⟩, mu_step hkn hb⟩) fun hw => ⟨⟨k + 1, ?_, hkn⟩, mu_step hkn hb⟩⟩
    · rw [pAdd1 hb, hn, show inDel (wrF sl) (pGet tyDoubt sd k) = false by simpa using hw, cond_false]
      unfold pApp
      rw [List.map_append]; rfl
    · rw [pAdd1 hb, hn, show inDel (wrF sl) (pGet tyDoubt sd k) = true by simpa using hw]; rfl
  obtain rfl : k = sd.length := by omega
  rw [bif_false (by simp [pLt_coe, pLen])]
  exact forg_all hs (by rw [List.take_length])

theorem forgS_len (is : List ItemD) (ls : List LockD) (ds : List DoubtD) (os : List TxnD) :
    (forgS (is, ls, ds, os, ())).1.length ≤ is.length + 1 ∧ (forgS (is, ls, ds, os, ())).2.1.length ≤ ls.length + 1 ∧ (forgS (is, ls, ds, os, ())).2.2.1.length ≤ ds.length + 1 ∧ (forgS (is, ls, ds, os, ())).2.2.2.1.length ≤ os.length + 1 := by
  unfold forgS
  cases stoF (is, ls, ds, os, ()) with
  | false => exact ⟨Nat.zero_le _, Nat.zero_le _, Nat.zero_le _, Nat.zero_le _⟩
  | true => exact ⟨Nat.le_succ _, Nat.le_succ_of_le (List.length_filter_le _ _), Nat.le_succ_of_le (by show ((inDF (wrF ls) ds).map zeroD).length ≤ _; rw [List.length_map]; exact List.length_filter_le _ _), Nat.le_succ _⟩

end Go.Proofs.Ytoalcmpjfnlkdaa
