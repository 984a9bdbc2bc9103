/- Reading of bytes: the functions meet their contracts. No condition. -/
import Derived.Test.YtkimjjndbcbiaaaDoorWhV
import Derived.Test.YtkimjjndbcbiaaaDoorWiR
namespace Go.Proofs.YtkimjjndbcbiaaaDoor
open Go.RowKit

theorem or_byte {n b : Int} (h0 : 0 ≤ n) (h1 : n < 16777216) (hb : 0 ≤ b) (hb2 : b ≤ 255) : pOr .i64 (pShl .i64 n 8) (pWrap .i64 b) = n * 256 + b := by
  have e1 : pWrap .i64 b = b := Go.IntWalk.i64_in _ (by omega)
  have e2 : pShl .i64 n 8 = n * 256 := by
    unfold pShl
    have : (2 : Int) ^ (min (8 : Int).toNat IntKind.i64.bits) = 256 := by decide
    rw [this, Go.IntWalk.i64_in _ (by omega)]
  rw [e1, e2]
  obtain ⟨m, rfl⟩ := Int.eq_ofNat_of_zero_le h0
  obtain ⟨c, rfl⟩ := Int.eq_ofNat_of_zero_le hb
  unfold pOr
  have hc : c < 2 ^ 8 := by omega
  have e3 : ((m : Int) * 256) = ((m * 256 : Nat) : Int) := by simp
  rw [e3]
  have e4 : (BitVec.ofInt IntKind.i64.bits ((m * 256 : Nat) : Int) ||| BitVec.ofInt IntKind.i64.bits (c : Int)).toNat = m * 256 + c := by
    show (BitVec.ofInt 64 ((m * 256 : Nat) : Int) ||| BitVec.ofInt 64 (c : Int)).toNat = m * 256 + c
    rw [BitVec.ofInt_natCast, BitVec.ofInt_natCast, BitVec.toNat_or, BitVec.toNat_ofNat, BitVec.toNat_ofNat, Nat.mod_eq_of_lt (by omega), Nat.mod_eq_of_lt (by omega)]
    have := Nat.shiftLeft_add_eq_or_of_lt hc m
    rw [Nat.shiftLeft_eq] at this
    exact this.symm
  rw [e4, Go.IntWalk.i64_in _ (by omega)]
  omega

def byteAt (l : List ByteD) (j : Nat) : Int := (pGet tyB l j).1
theorem byteAt_eq {l : List ByteD} {j : Nat} (h : j < l.length) : byteAt l j = l[j].1 := congrArg (fun z : ByteD => z.1) (pGet_lt (t := tyB) h)
theorem byteAt_ok {l : List ByteD} {j : Nat} (hb : okB l) (h : j < l.length) : 0 ≤ byteAt l j ∧ byteAt l j ≤ 255 := by
  rw [byteAt_eq h]; exact hb _ (List.getElem_mem h)
theorem valB_step {l : List ByteD} {j : Nat} (h : j < l.length) : valB (l.take (j + 1)) = valB (l.take j) * 256 + byteAt l j := by
  rw [List.take_add_one, List.getElem?_eq_getElem h, byteAt_eq h]
  unfold valB
  rw [List.foldl_append]
  rfl
theorem valB_bound {l : List ByteD} (hb : okB l) : ∀ j, j ≤ l.length → 0 ≤ valB (l.take j) ∧ valB (l.take j) < 256 ^ j
  | 0, _ => by simp [valB]
  | j + 1, h => by
    obtain ⟨h1, h2⟩ := valB_bound hb j (by omega)
    obtain ⟨h3, h4⟩ := byteAt_ok hb (show j < l.length by omega)
    rw [valB_step (by omega), Int.pow_succ]
    omega
theorem pow_small {j : Nat} (h : j ≤ 3) : (256 : Int) ^ j ≤ 16777216 := by
  have : j = 0 ∨ j = 1 ∨ j = 2 ∨ j = 3 := by omega
  rcases this with rfl | rfl | rfl | rfl <;> decide

theorem room_nil {α : Type} {l : List α} {b : Nat} (h : pRoom (pLen l) b) : pRoom (pPlus (pLen ([] : List Unit)) (pLen l)) b := by
  unfold pPlus pLen; rw [List.length_nil, Nat.zero_add]; exact h
theorem cloneBo_ok : Meets Tryd.prog (fun _ => none) 54 ccloneBo := cloneBo_meets fun l hp =>
  ⟨fun h => by rw [List.eq_nil_of_length_eq_zero h], room_nil (hp _ List.mem_cons_self), rfl⟩
theorem cloneB_ok : Meets Tryd.prog (fun _ => none) 54 ccloneB := meets_freeze cloneBo_ok
theorem octets_ok : Meets Tryd.prog (fun _ => none) 25 coctets := octets_meets fun l hp =>
  ⟨room_nil (hp _ List.mem_cons_self), rfl⟩

theorem take_short {rs : List ByteD} {k : Int} (h : pLt (pInt rs.length) k = true) : takeN rs k = 0 ∧ takeR rs k = [] ∧ ∀ fa, takeE rs fa k = cond (pEq fa 0) 5 fa := by
  refine ⟨by unfold takeN; rw [h]; rfl, by unfold takeR; rw [h]; rfl, fun fa => by unfold takeE; rw [h]; rfl⟩
theorem take_long {rs : List ByteD} {k : Int} (h : pLt (pInt rs.length) k = false) : takeN rs k = valB (rs.take (pNat k)) ∧ takeR rs k = rs.drop (pNat k) ∧ ∀ fa, takeE rs fa k = fa := by
  refine ⟨by unfold takeN; rw [h]; rfl, by unfold takeR; rw [h]; rfl, fun fa => by unfold takeE; rw [h]; rfl⟩

theorem pNat_take {rs : List ByteD} {k : Int} {n : Nat} (hn : n ≤ pNat k) (hk : pNat k ≤ rs.length) : (rs.take (pNat k)).take n = rs.take n := by
  rw [List.take_take, Nat.min_eq_left hn]
theorem byteAt_take {rs : List ByteD} {n j : Nat} (hj : j < n) (hn : n ≤ rs.length) : byteAt (rs.take n) j = byteAt rs j := by
  rw [byteAt_eq (by rw [List.length_take]; omega), byteAt_eq (by omega)]
  simp

theorem rtake_ok : Meets Tryd.prog (fun _ => none) 57 crtake := rtake_meets fun k rs fa hp => by
  have hk0 : inF k 1 4 = true := (hp _ List.mem_cons_self)
  have hb : okB rs := (hp _ (List.mem_cons_of_mem _ List.mem_cons_self))
  have hl : rs.length < 4611686018427387904 := (hp _ (List.mem_cons_of_mem _ (List.mem_cons_of_mem _ List.mem_cons_self)))
  have hk := inF_iff.1 hk0
  clear hp
  have hkn : (pNat k : Int) = k := by unfold pNat; omega
  unfold rtake_VC
  refine bif_ok (fun h => ?_) fun h => ?_
  · obtain ⟨e1, e2, e3⟩ := take_short (rs := rs) (k := k) h
    rw [e1, e2, e3]
    refine bif_ok (fun h' => ?_) fun h' => ?_
    · rw [h']; rfl
    · rw [h']; rfl
  · obtain ⟨e1, e2, e3⟩ := take_long (rs := rs) (k := k) h
    have hle : pNat k ≤ rs.length := by
      have h' : ¬ (rs.length : Int) < k := of_decide_eq_false h
      omega
    rw [e1, e2, e3]
    have hlen : (pSub rs 0 (pNat k)).length = pNat k := pSub0_len hle
    refine ⟨?_, ⟨0, Nat.zero_le _, rfl⟩, fun y hy => ?_⟩
    · rw [pTo]; constructor <;> first | omega | (show k ≤ ((rs.length : Nat) : Int); omega)
    obtain ⟨j, hj, rfl⟩ := hy
    simp only
    have hsub : (pSub rs 0 (pNat k) : List ByteD) = rs.take (pNat k) := by unfold pSub; rw [List.drop_zero]
    refine bif_ok (fun h => ?_) fun h => ?_
    · have hjk : j < pNat k := by
        have := of_decide_eq_true ((pLt_coe (k := j) (n := (pSub rs 0 (pNat k)).length)).symm.trans h)
        omega
      obtain ⟨b1, b2⟩ := valB_bound hb j (by omega)
      have b3 := pow_small (j := j) (by omega)
      obtain ⟨c1, c2⟩ := byteAt_ok hb (show j < rs.length by omega)
      have hg : (pGet tyB (pSub rs 0 (pNat k)) j).1 = byteAt rs j := by
        have : byteAt (pSub rs 0 (pNat k)) j = byteAt rs j := by rw [hsub]; exact byteAt_take hjk hle
        exact this
      have e4 : pAdd .i64 (j : Int) 1 = ((j + 1 : Nat) : Int) := pAdd1 (by omega)
      rw [pNat_coe, hg, or_byte b1 (by omega) c1 c2, e4, ← valB_step (by omega)]
      refine ⟨pIn_coe.2 (by show j < (pSub rs 0 (pNat k)).length; omega), by unfold pGe0; decide, ⟨j + 1, hjk, rfl⟩, Nat.le_of_eq ?_⟩
      unfold rtakMu
      simp only
      omega
    · have hjk : ¬ j < pNat k := by
        have := of_decide_eq_false ((pLt_coe (k := j) (n := (pSub rs 0 (pNat k)).length)).symm.trans h)
        omega
      have : j = pNat k := by omega
      subst this
      refine ⟨?_, ?_⟩
      · rw [pTo]; constructor <;> first | omega | (show k ≤ ((rs.length : Nat) : Int); omega)
      · have : (pSub rs (pNat k) (pLen rs) : List ByteD) = rs.drop (pNat k) := by
          unfold pSub pLen; rw [List.take_of_length_le (Nat.le_refl _)]
        rw [this]

theorem okB_drop {l : List ByteD} {n : Nat} (h : okB l) : okB (l.drop n) := fun q hq => h q (List.mem_of_mem_drop hq)
theorem okB_takeR {l : List ByteD} {k : Int} (h : okB l) : okB (takeR l k) := by
  unfold takeR
  cases pLt (pInt l.length) k
  · exact okB_drop h
  · intro q hq; cases hq
theorem len_takeR {l : List ByteD} {k : Int} {n : Nat} (h : l.length < n) : (takeR l k).length < n := by
  unfold takeR
  cases pLt (pInt l.length) k
  · rw [cond_false, List.length_drop]; omega
  · rw [cond_true, List.length_nil]; omega

theorem rtxn_ok : Meets Tryd.prog (fun _ => none) 56 crtxn := rtxn_meets rtake_ok fun rs fa hp => by
  have hb : okB rs := (hp _ List.mem_cons_self)
  have hl : rs.length < 4611686018427387904 := (hp _ (List.mem_cons_of_mem _ List.mem_cons_self))
  exact ⟨by decide, hb, hl, by decide, okB_takeR hb, len_takeR hl, rfl⟩

theorem rbit_ok : Meets Tryd.prog (fun _ => none) 58 crbit := rbit_meets rtake_ok fun rs fa hp => by
  have hb : okB rs := (hp _ List.mem_cons_self)
  have hl : rs.length < 4611686018427387904 := (hp _ (List.mem_cons_of_mem _ List.mem_cons_self))
  unfold rbit_VC
  refine ⟨by decide, hb, hl, ?_⟩
  unfold bitE
  cases pGt (takeN rs 1) 1 <;> cases pEq (takeE rs fa 1) 0 <;> rfl

theorem rkind_ok : Meets Tryd.prog (fun _ => none) 55 crkind := rkind_meets rtake_ok fun k rs fa hp => by
  have hb : okB rs := (hp _ List.mem_cons_self)
  have hl : rs.length < 4611686018427387904 := (hp _ (List.mem_cons_of_mem _ List.mem_cons_self))
  unfold rkind_VC
  refine ⟨by decide, hb, hl, ?_⟩
  have hi : inF (takeN rs 1) 1 k = (!(pLt (takeN rs 1) 1) && !(pGt (takeN rs 1) k)) := by
    rw [Bool.eq_iff_iff]; simp [inF, pLe, pLt, pGt]
  unfold kindE
  rw [hi]
  have h3 : pNe (3 : Int) 0 = true := by decide
  have h3' : pEq (3 : Int) 0 = false := by decide
  have hn : pNe (takeE rs fa 1) 0 = !(pEq (takeE rs fa 1) 0) := rfl
  simp only [hn]
  cases pLt (takeN rs 1) 1 <;> cases pGt (takeN rs 1) k <;> cases h : pEq (takeE rs fa 1) 0 <;> simp [h, h3, h3']

theorem rend_ok : Meets Tryd.prog (fun _ => none) 59 crend := rend_meets fun rs fa => by
  unfold rend_VC endE
  cases pEq fa 0 <;> cases h : pGt (pInt rs.length) 0 <;> simp [pLen, h]

theorem ystop_ok : Meets Tryd.prog (fun _ => none) 77 cystop := ystop_meets fun e rs a fa => by
  unfold ystop_VC
  cases pEq fa 0 <;> rfl

end Go.Proofs.YtkimjjndbcbiaaaDoor
