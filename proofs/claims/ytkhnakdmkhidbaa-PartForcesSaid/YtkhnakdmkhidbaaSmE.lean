/- Copies of the store, and its doubts by a tick older: functions meet their contracts. No condition. -/
import Derived.Test.YtkhnakdmkhidbaaSmD
namespace Go.Proofs.Ytkhnakdmkhidbaa
open Go.RowKit

theorem mu_step {n k : Nat} (h : k < n) (hb : k < 4611686018427387904) : Nat.le (Nat.succ (n - (pAdd .i64 (k : Int) 1).toNat)) (n - ((k : Nat) : Int).toNat) := by
  rw [pAdd1 hb, Int.toNat_natCast, Int.toNat_natCast]; exact Nat.le_of_eq (by omega)
theorem room_take {α : Type} {l : List α} {k b : Nat} {x : α} (hk : k < l.length) (h : pRoom (pLen l) b) : pRoom (pPlus (pLen (l.take k)) (pLen [x])) b := by
  unfold pRoom pPlus pLen at *
  simp only [List.length_take, List.length_cons, List.length_nil]
  rw [Nat.min_eq_left (by omega)]
  exact Nat.le_trans (Nat.mul_le_mul_right b (by omega)) h
theorem StoreCopy_ok : Meets Try.prog (fun _ => none) 5 cStoreCopy := StoreCopy_meets fun is ls ds os hp => by
  have h1 : pRoom (pLen is) 24 := hp _ (by simp)
  have h2 : pRoom (pLen ls) 48 := hp (pRoom (pLen ls) 48) (by simp)
  have h3 : pRoom (pLen ds) 24 := hp (pRoom (pLen ds) 24) (by simp)
  have h4 : pRoom (pLen os) 16 := hp (pRoom (pLen os) 16) (by simp)
  have b1 : is.length * 24 ≤ 140737488351232 := h1
  have b2 : ls.length * 48 ≤ 140737488351232 := h2
  have b3 : ds.length * 24 ≤ 140737488351232 := h3
  have b4 : os.length * 16 ≤ 140737488351232 := h4
  clear hp
  unfold StoreCopy_VC
  refine ⟨⟨0, rfl, Nat.zero_le _⟩, fun y hy => ?_⟩
  obtain ⟨k, rfl, hk⟩ := hy
  by_cases hkn : k < is.length
  · rw [bif_true (by simp [pLt_coe, pLen, hkn])]
    dsimp only
    rw [pNat_coe]
    refine ⟨pIn_coe.2 hkn, room_take hkn h1, ⟨k + 1, ?_, hkn⟩, mu_step hkn (by omega)⟩
    rw [pAdd1 (by omega), show pApp (is.take k) [((pGet tyItem is k).1, (pGet tyItem is k).2.1, (pGet tyItem is k).2.2.1, ())] = is.take (k + 1) from take_app (t := tyItem) hkn]
  obtain rfl : k = is.length := by omega
  rw [bif_false (by simp [pLt_coe, pLen])]
  dsimp only
  rw [List.take_length]
  refine ⟨⟨0, rfl, Nat.zero_le _⟩, fun y hy => ?_⟩
  obtain ⟨k, rfl, hk⟩ := hy
  by_cases hkn : k < ls.length
  · rw [bif_true (by simp [pLt_coe, pLen, hkn])]
    dsimp only
    rw [pNat_coe]
    refine ⟨pIn_coe.2 hkn, room_take hkn h2, ⟨k + 1, ?_, hkn⟩, mu_step hkn (by omega)⟩
    rw [pAdd1 (by omega), show pApp (ls.take k) [((pGet tyLock ls k).1, (pGet tyLock ls k).2.1, (pGet tyLock ls k).2.2.1, (pGet tyLock ls k).2.2.2.1, (pGet tyLock ls k).2.2.2.2.1, (pGet tyLock ls k).2.2.2.2.2.1, ())] = ls.take (k + 1) from take_app (t := tyLock) hkn]
  obtain rfl : k = ls.length := by omega
  rw [bif_false (by simp [pLt_coe, pLen])]
  dsimp only
  rw [List.take_length]
  refine ⟨⟨0, rfl, Nat.zero_le _⟩, fun y hy => ?_⟩
  obtain ⟨k, rfl, hk⟩ := hy
  by_cases hkn : k < ds.length
  · rw [bif_true (by simp [pLt_coe, pLen, hkn])]
    dsimp only
    rw [pNat_coe]
    refine ⟨pIn_coe.2 hkn, room_take hkn h3, ⟨k + 1, ?_, hkn⟩, mu_step hkn (by omega)⟩
    rw [pAdd1 (by omega), show pApp (ds.take k) [((pGet tyItem ds k).1, (pGet tyItem ds k).2.1, (pGet tyItem ds k).2.2.1, ())] = ds.take (k + 1) from take_app (t := tyDoubt) hkn]
  obtain rfl : k = ds.length := by omega
  rw [bif_false (by simp [pLt_coe, pLen])]
  dsimp only
  rw [List.take_length]
  refine ⟨⟨0, rfl, Nat.zero_le _⟩, fun y hy => ?_⟩
  obtain ⟨k, rfl, hk⟩ := hy
  by_cases hkn : k < os.length
  · rw [bif_true (by simp [pLt_coe, pLen, hkn])]
    dsimp only
    rw [pNat_coe]
    refine ⟨pIn_coe.2 hkn, room_take hkn h4, ⟨k + 1, ?_, hkn⟩, mu_step hkn (by omega)⟩
    rw [pAdd1 (by omega), show pApp (os.take k) [((pGet tyTxn os k).1, (pGet tyTxn os k).2.1, ())] = os.take (k + 1) from take_app (t := tyTxn) hkn]
  obtain rfl : k = os.length := by omega
  rw [bif_false (by simp [pLt_coe, pLen])]
  dsimp only
  rw [List.take_length]

/- rows that are changed in place -/
theorem pSet_len {t : Ty} {l : List t.den} {k : Nat} {x : t.den} : (pSet l k x).length = l.length := by unfold pSet; simp
theorem pGet_set {t : Ty} {l : List t.den} {k : Nat} {x : t.den} (h : k < l.length) : pGet t (pSet l k x) k = x := by
  unfold pGet pSet; rw [List.getD_eq_getElem?_getD, List.getElem?_set_self h]; rfl
theorem pSet_set {α : Type} {l : List α} {k : Nat} {x y : α} : pSet (pSet l k x) k y = pSet l k y := by unfold pSet; simp
theorem aged_len {ds : List DoubtD} {p : Int} {k : Nat} (h : k ≤ ds.length) : (agedK ds p k).length = ds.length := by
  unfold agedK; simp only [List.length_append, List.length_map, List.length_take, List.length_drop]; omega
theorem aged_get {ds : List DoubtD} {p : Int} {k : Nat} (h : k < ds.length) : pGet tyDoubt (agedK ds p k) k = pGet tyDoubt ds k := by
  unfold pGet agedK
  rw [List.getD_eq_getElem?_getD, List.getD_eq_getElem?_getD, List.getElem?_append_right (by simp only [List.length_map, List.length_take]; omega)]
  simp only [List.length_map, List.length_take, List.getElem?_drop]
  rw [show k + (k - min k ds.length) = k from by omega]
theorem aged_set {ds : List DoubtD} {p : Int} {k : Nat} (h : k < ds.length) : pSet (agedK ds p k) k (tickD p (pGet tyDoubt ds k)) = agedK ds p (k + 1) := by
  unfold pSet agedK
  have hl : ((ds.take k).map (tickD p)).length = k := by simp only [List.length_map, List.length_take]; omega
  rw [List.set_append_right _ _ (by omega), hl, Nat.sub_self, List.take_succ_eq_append_getElem h, List.map_append, List.append_assoc, List.drop_eq_getElem_cons h, pGet_lt (t := tyDoubt) h]
  rfl
theorem told_next {ds : List DoubtD} {p : Int} {k : Nat} (h : k < ds.length) : toldK ds p (k + 1) = cond (pGe (pAdd .i64 (pGet tyDoubt ds k).2.2.1 1) p) (pApp (toldK ds p k) [((pGet tyDoubt ds k).1, (pGet tyDoubt ds k).2.1, ())]) (toldK ds p k) := by
  unfold toldK
  rw [List.take_succ_eq_append_getElem h, List.filter_append, List.map_append, pGet_lt (t := tyDoubt) h]
  cases hq : pGe (pAdd .i64 (ds[k]'h).2.2.1 1) p with
  | true => rw [List.filter_cons_of_pos (by simpa using hq)]; rfl
  | false => rw [List.filter_cons_of_neg (by simp [hq])]; simp
theorem told_len {ds : List DoubtD} {p : Int} {k : Nat} : (toldK ds p k).length ≤ k := by
  unfold toldK
  rw [List.length_map]
  exact Nat.le_trans (List.length_filter_le _ _) (by simp only [List.length_take]; omega)

end Go.Proofs.Ytkhnakdmkhidbaa
