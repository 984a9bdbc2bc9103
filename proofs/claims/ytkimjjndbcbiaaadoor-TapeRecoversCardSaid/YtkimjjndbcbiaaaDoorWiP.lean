/- Bytes of numbers: the functions meet their contracts. No condition. -/
import Derived.Test.YtkimjjndbcbiaaaDoorWiV
import Derived.Test.YtkimjjndbcbiaaaDoorNeP
namespace Go.Proofs.YtkimjjndbcbiaaaDoor
open Go.RowKit

theorem u8_wrap (n : Int) : IntKind.u8.wrap n = n % 256 := by
  unfold IntKind.wrap
  simp [IntKind.bits, IntKind.signed]
theorem bN_len {n k : Int} : (bN n k).length = pNat k := by simp [bN]
theorem bN_get {n k : Int} {j : Nat} (h : j < pNat k) : (bN n k).take (j + 1) = (bN n k).take j ++ [((n / 256 ^ (pNat k - 1 - j)) % 256, ())] := by
  rw [List.take_add_one]
  congr 1
  simp [bN, h]
theorem bN_all {n k : Int} : (bN n k).take (pNat k) = bN n k := List.take_of_length_le (by rw [bN_len]; exact Nat.le_refl _)
theorem bN1 {n : Int} (h0 : 0 ≤ n) (h : n < 256) : bN n 1 = [(n, ())] := by
  have e : n % 256 = n := by omega
  simp [bN, pNat, e]

theorem shr_byte {n i : Int} (h0 : 0 ≤ n) (hi : 0 ≤ i) (h3 : i ≤ 3) : pWrap .u8 (pShr .i64 n (pMul .i64 8 i)) = (n / 256 ^ i.toNat) % 256 := by
  unfold pWrap pShr pMul
  rw [Go.IntWalk.i64_in _ (by omega), u8_wrap]
  have h : i = 0 ∨ i = 1 ∨ i = 2 ∨ i = 3 := by omega
  rcases h with rfl | rfl | rfl | rfl
  all_goals
    congr 1
    rw [Int.fdiv_eq_ediv_of_nonneg _ (by decide)]
    rfl

theorem put_core {n k : Int} {bs : List ByteD} (h0 : 0 ≤ n) (hk : 1 ≤ k) (hk4 : k ≤ 4) (hb : bs.length < 1000000) {y : Int × (List ByteD × Unit) × Unit} (hy : putInv n k bs y) :
    (pGe y.1 0 = true ∧ pGe0 (pMul .i64 8 y.1) ∧ pRoom (pPlus (pLen y.2.1.1) (pLen [(pWrap .u8 (pShr .i64 n (pMul .i64 8 y.1)), ())])) 1 ∧
      putInv n k bs (pSubI .i64 y.1 1, (pApp y.2.1.1 [(pWrap .u8 (pShr .i64 n (pMul .i64 8 y.1)), ())], ()), ()) ∧
      ∀ m : Int × (List ByteD × Unit) × Unit → Nat, m = (fun y => (y.1 + 1).toNat) → Nat.le (Nat.succ (m (pSubI .i64 y.1 1, (pApp y.2.1.1 [(pWrap .u8 (pShr .i64 n (pMul .i64 8 y.1)), ())], ()), ()))) (m y)) ∨
    (pGe y.1 0 = false ∧ y.2.1.1 = bs ++ bN n k) := by
  obtain ⟨j, hj, rfl⟩ := hy
  have hkn : (pNat k : Int) = k := by unfold pNat; omega
  by_cases hjk : j < pNat k
  · refine .inl ?_
    have hi0 : 0 ≤ k - 1 - (j : Int) := by omega
    have hi3 : k - 1 - (j : Int) ≤ 3 := by omega
    have hsh := shr_byte (n := n) h0 hi0 hi3
    have ht : (k - 1 - (j : Int)).toNat = pNat k - 1 - j := by omega
    rw [ht] at hsh
    simp only [hsh]
    refine ⟨by simp [pGe]; omega, ?_, ?_, ⟨j + 1, hjk, ?_⟩, ?_⟩
    · unfold pGe0 pMul; rw [Go.IntWalk.i64_in _ (by omega)]; omega
    · unfold pRoom pPlus pLen
      simp only [List.length_append, List.length_take, bN_len, List.length_cons, List.length_nil]
      have : pNat k ≤ 4 := by omega
      omega
    · unfold pSubI
      rw [Go.IntWalk.i64_in _ (by omega), bN_get hjk]
      simp only [pApp, Prod.mk.injEq, and_true, List.append_assoc]
      omega
    · intro m hm
      subst hm
      unfold pSubI
      rw [Go.IntWalk.i64_in _ (by omega)]
      simp only
      exact Nat.le_of_eq (by omega)
  · refine .inr ⟨by simp [pGe]; omega, ?_⟩
    have : j = pNat k := by omega
    subst this
    rw [bN_all]

theorem put_ok : Meets Tryd.prog (fun _ => none) 42 cput := put_meets fun n k bs hp => by
  have h0 : 0 ≤ n := (hp _ List.mem_cons_self)
  have hk0 : inF k 1 4 = true := (hp _ (List.mem_cons_of_mem _ (List.mem_cons_of_mem _ List.mem_cons_self)))
  have hk := inF_iff.1 hk0
  have hb : bs.length < 1000000 := (hp _ (List.mem_cons_of_mem _ (List.mem_cons_of_mem _ (List.mem_cons_of_mem _ List.mem_cons_self))))
  clear hp
  unfold put_VC
  have hkn : (pNat k : Int) = k := by unfold pNat; omega
  refine ⟨⟨0, Nat.zero_le _, ?_⟩, fun y hy => ?_⟩
  · rw [pSubI_in (by omega)]; simp
  rcases put_core h0 hk.1 hk.2 hb hy with ⟨h1, h2, h3, h4, h5⟩ | ⟨h1, h2⟩
  · rw [bif_true h1]
    exact ⟨h2, h3, h4, h5 _ rfl⟩
  · rw [bif_false h1]
    obtain ⟨y1, ⟨y2, u⟩, v⟩ := y
    simp only at h2
    subst h2
    rfl

theorem put0_ok : Meets Tryd.prog (fun _ => none) 42 cput0 := put0_meets fun n k hp => by
  have h0 : 0 ≤ n := (hp _ List.mem_cons_self)
  have hk0 : inF k 1 4 = true := (hp _ (List.mem_cons_of_mem _ (List.mem_cons_of_mem _ List.mem_cons_self)))
  have hk := inF_iff.1 hk0
  clear hp
  unfold put0_VC
  have hkn : (pNat k : Int) = k := by unfold pNat; omega
  refine ⟨⟨0, Nat.zero_le _, ?_⟩, fun y hy => ?_⟩
  · rw [pSubI_in (by omega)]; simp
  rcases put_core (bs := []) h0 hk.1 hk.2 (by decide) hy with ⟨h1, h2, h3, h4, h5⟩ | ⟨h1, h2⟩
  · rw [bif_true h1]
    exact ⟨h2, h3, h4, h5 _ rfl⟩
  · rw [bif_false h1]
    obtain ⟨y1, ⟨y2, u⟩, v⟩ := y
    simp only [List.nil_append] at h2
    subst h2
    rfl

theorem wtxnB_ok : Meets Tryd.prog (fun _ => none) 43 cwtxnB := wtxnB_meets put_ok fun ts tn bs hp => by
  have h1 : 0 ≤ ts := (hp _ List.mem_cons_self)
  have h2 : pLt ts 256 = true := (hp _ (List.mem_cons_of_mem _ List.mem_cons_self))
  have h3 : 0 ≤ tn := (hp _ (List.mem_cons_of_mem _ (List.mem_cons_of_mem _ List.mem_cons_self)))
  have h4 : pLt tn 16777216 = true := (hp _ (List.mem_cons_of_mem _ (List.mem_cons_of_mem _ (List.mem_cons_of_mem _ List.mem_cons_self))))
  have hb : bs.length < 1000 := (hp _ (List.mem_cons_of_mem _ (List.mem_cons_of_mem _ (List.mem_cons_of_mem _ (List.mem_cons_of_mem _ List.mem_cons_self)))))
  clear hp
  unfold wtxnB_VC
  have h2' : ts < 256 := by simpa [pLt] using h2
  have h4' : tn < 16777216 := by simpa [pLt] using h4
  refine ⟨h1, by simp [pLt]; omega, by decide, (show bs.length < 1000000 by omega), h3, by simp [pLt]; omega, by decide, ?_, ?_⟩
  · show (bs ++ bN ts 1).length < 1000000
    rw [List.length_append, bN_len]
    have : pNat 1 = 1 := rfl
    omega
  · unfold pApp txB
    rw [List.append_assoc]

theorem bitB_eq (d : Bool) : bitB d = [((cond d 1 0 : Int), ())] := by
  cases d <;> rfl
theorem wbit_ok : Meets Tryd.prog (fun _ => none) 44 cwbit := wbit_meets put_ok fun d bs hp => by
  have hb : bs.length < 1000000 := (hp _ List.mem_cons_self)
  clear hp
  unfold wbit_VC
  cases d
  · exact ⟨by unfold pGe0; decide, by decide, by decide, hb, rfl⟩
  · exact ⟨by unfold pGe0; decide, by decide, by decide, hb, rfl⟩

theorem bitByte_ok : Meets Tryd.prog (fun _ => none) 49 cbitByte := bitByte_meets fun d => by
  unfold bitByte_VC
  cases d <;> rfl

theorem room1 {α : Type} {l : List α} {x : α} (h : l.length < 1000000) : pRoom (pPlus (pLen l) (pLen [x])) 1 := by
  unfold pRoom pPlus pLen; simp only [List.length_cons, List.length_nil]; omega
theorem bytesOf_ok : Meets Tryd.prog (fun _ => none) 48 cbytesOf := bytesOf_meets fun n k hp => by
  have h0 : 0 ≤ n := (hp _ List.mem_cons_self)
  have h62 : n < 4611686018427387904 := by have h : pLt n 4611686018427387904 = true := (hp _ (List.mem_cons_of_mem _ List.mem_cons_self)); simpa [pLt] using h
  have hk0 : inF k 1 4 = true := (hp _ (List.mem_cons_of_mem _ (List.mem_cons_of_mem _ List.mem_cons_self)))
  have hk := inF_iff.1 hk0
  clear hp
  have hkn : (pNat k : Int) = k := by unfold pNat; omega
  unfold bytesOf_VC
  refine ⟨⟨0, by omega, rfl⟩, fun y hy => ?_⟩
  obtain ⟨j, hj, rfl⟩ := hy
  simp only
  have pw : ∀ i : Nat, i ≤ 3 → (256 : Int) ^ i = 1 ∧ i = 0 ∨ (256 : Int) ^ i = 256 ∧ i = 1 ∨ (256 : Int) ^ i = 65536 ∧ i = 2 ∨ (256 : Int) ^ i = 16777216 ∧ i = 3 := by
    intro i hi
    have : i = 0 ∨ i = 1 ∨ i = 2 ∨ i = 3 := by omega
    rcases this with rfl | rfl | rfl | rfl <;> decide
  refine bif_ok (fun h => ?_) fun h => ?_
  · have h : (j : Int) + 1 < k := by simpa [pLt] using h
    have e1 : pAdd .i64 ((j : Int) + 1) 1 = ((j + 1 : Nat) : Int) + 1 := by rw [pAdd_in (by omega)]; omega
    have e2 : pMul .i64 (256 ^ j) 256 = (256 : Int) ^ (j + 1) := by
      unfold pMul
      rw [Int.pow_succ, Go.IntWalk.i64_in]
      rcases pw j (by omega) with ⟨h, _⟩ | ⟨h, _⟩ | ⟨h, _⟩ | ⟨h, _⟩ <;> rw [h] <;> decide
    rw [e1, e2]
    exact ⟨⟨j + 1, by omega, rfl⟩, Nat.le_of_eq (by unfold bytAMu; simp only; omega)⟩
  · have h : ¬ (j : Int) + 1 < k := by simpa [pLt] using h
    have hjk : j = pNat k - 1 := by omega
    subst hjk
    refine ⟨⟨0, Nat.zero_le _, ?_⟩, fun z hz => ?_⟩
    · have : 0 < pNat k := by omega
      simp [this]
    obtain ⟨i, hi, rfl⟩ := hz
    simp only
    refine bif_ok (fun h => ?_) fun h => ?_
    · have h : i < pNat k := by have : (i : Int) < k := by simpa [pLt] using h
                                omega
      simp only [if_pos h]
      have e1 : pAdd .i64 (i : Int) 1 = ((i + 1 : Nat) : Int) := pAdd1 (by omega)
      have e0 := pw (pNat k - 1 - i) (by omega)
      have hq : pQuo .i64 n (256 ^ (pNat k - 1 - i)) = n / 256 ^ (pNat k - 1 - i) ∧ 0 ≤ n / 256 ^ (pNat k - 1 - i) := by
        unfold pQuo
        rw [Int.tdiv_eq_ediv_of_nonneg h0]
        have hle : n / 256 ^ (pNat k - 1 - i) ≤ n := Int.ediv_le_self _ h0
        have hge : 0 ≤ n / 256 ^ (pNat k - 1 - i) := Int.ediv_nonneg h0 (by rcases e0 with ⟨h, _⟩ | ⟨h, _⟩ | ⟨h, _⟩ | ⟨h, _⟩ <;> rw [h] <;> decide)
        exact ⟨Go.IntWalk.i64_in _ (by omega), hge⟩
      have hb : pWrap .u8 (pRem (pQuo .i64 n (256 ^ (pNat k - 1 - i))) 256) = (n / 256 ^ (pNat k - 1 - i)) % 256 := by
        unfold pWrap pRem
        rw [hq.1, Int.tmod_eq_emod_of_nonneg hq.2, u8_wrap]
        omega
      have hf : pQuo .i64 (256 ^ (pNat k - 1 - i)) 256 = if i + 1 < pNat k then 256 ^ (pNat k - 1 - (i + 1)) else 0 := by
        unfold pQuo
        rcases e0 with ⟨h, h'⟩ | ⟨h, h'⟩ | ⟨h, h'⟩ | ⟨h, h'⟩
        · rw [h, if_neg (by omega)]; decide
        · rw [h, if_pos (by omega), show pNat k - 1 - (i + 1) = 0 by omega]; decide
        · rw [h, if_pos (by omega), show pNat k - 1 - (i + 1) = 1 by omega]; decide
        · rw [h, if_pos (by omega), show pNat k - 1 - (i + 1) = 2 by omega]; decide
      rw [e1, hb, hf]
      refine ⟨?_, by unfold pNz; decide, ?_, by unfold pNz; decide, ⟨i + 1, h, ?_⟩, ?_⟩
      · unfold pNz
        rcases e0 with ⟨h, _⟩ | ⟨h, _⟩ | ⟨h, _⟩ | ⟨h, _⟩ <;> rw [h] <;> decide
      · refine room1 (α := ByteD) ?_
        rw [List.length_take, bN_len]
        omega
      · rw [bN_get h]; rfl
      · exact Nat.le_of_eq (by unfold bytBMu; simp only; omega)
    · have h : ¬ (i : Int) < k := by simpa [pLt] using h
      have : i = pNat k := by omega
      subst this
      rw [bN_all]
      rfl

end Go.Proofs.YtkimjjndbcbiaaaDoor
