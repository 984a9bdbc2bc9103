/- Two lists of acts: are they the same? No condition. -/
import Derived.Test.YtedjlbcclhgfmaaDoorJ1

/- Numerals of whole numbers: what Atoi and Itoa say of them, and how they are told without them. No condition. -/
namespace Go.Proofs.YtedjlbcclhgfmaaDoor
open Go.RowKit Go.Lib

/-- is it a number, as it is written? -/
def numOk (s : ByteArray) : Bool := !pAtoiB s && pStrEq (pItoa (pAtoiN s)) s

theorem parse_all : ∀ (l : List UInt8) (acc : Nat), (∀ c ∈ l, Dig c) → val acc l < 18446744073709551616 → parseUint10 acc l = .ok (val acc l)
  | [], acc, _, _ => rfl
  | c :: r, acc, hd, hv => by
    have hc := hd c (by simp)
    have h1 := val_le r (10 * acc + (c.toNat - 48))
    have hv : val (10 * acc + (c.toNat - 48)) r < 18446744073709551616 := hv
    unfold Dig at hc
    unfold parseUint10
    rw [if_pos hc, if_neg (by omega), if_neg (by omega)]
    have e : acc * 10 + (c.toNat - 48) = 10 * acc + (c.toNat - 48) := by omega
    rw [e]
    exact parse_all r _ (fun x hx => hd x (by simp [hx])) hv
theorem mag_dec {n : Nat} (h : n < 18446744073709551616) : parseMag (decDigits n) = .ok n := by
  unfold parseMag
  rw [if_neg (dec_ne n), parse_all _ 0 (dec_dig n) (by rw [dec_val]; exact h), dec_val]
theorem atoi_itoa {n : Int} (h0 : -9223372036854775808 ≤ n) (h1 : n ≤ 9223372036854775807) : atoiAll (itoa n) = .ok n := by
  by_cases hn : n < 0
  · obtain ⟨u, rfl⟩ : ∃ u : Nat, n = -(u : Int) := ⟨n.natAbs, by omega⟩
    rw [itoa_neg u (by omega), atoiAll_minus, mag_dec (by omega)]
    show (if 9223372036854775808 < u then NumEnd.range else .ok (-(u : Int))) = _
    rw [if_neg (by omega)]
  · obtain ⟨u, rfl⟩ : ∃ u : Nat, n = (u : Int) := ⟨n.toNat, by omega⟩
    rw [itoa_nonneg]
    have hd := dec_dig u
    have hp := mag_dec (n := u) (by omega)
    cases hq : decDigits u with
    | nil => exact absurd hq (dec_ne u)
    | cons c r =>
      rw [hq] at hd hp
      have hc := hd c (by simp)
      unfold Dig at hc
      rw [atoiAll_plain c r (by omega) (by omega), hp]
      show (if 9223372036854775808 ≤ u then NumEnd.range else .ok (u : Int)) = _
      rw [if_neg (by omega)]
theorem atoi_fits (s : ByteArray) : -9223372036854775808 ≤ pAtoiN s ∧ pAtoiN s ≤ 9223372036854775807 := by
  unfold pAtoiN
  cases h : atoiAll s.data.toList with
  | ok v => exact atoiAll_bounds h
  | «syntax» => exact ⟨(by decide : (-9223372036854775808 : Int) ≤ 0), (by decide : (0 : Int) ≤ 9223372036854775807)⟩
  | range => exact atoiSat_bounds _
theorem itoa_pItoa (n : Int) : (pItoa n).data.toList = itoa n := by unfold pItoa; simp
theorem numOk_of {s : ByteArray} {n : Int} (h0 : -9223372036854775808 ≤ n) (h1 : n ≤ 9223372036854775807) (h : s.data.toList = itoa n) : numOk s = true ∧ pAtoiN s = n := by
  have e : pAtoiN s = n := by unfold pAtoiN; rw [h, atoi_itoa h0 h1]
  have f : pAtoiB s = false := by unfold pAtoiB; rw [h, atoi_itoa h0 h1]
  refine ⟨?_, e⟩
  unfold numOk
  rw [e, f]
  simp only [Bool.not_false, Bool.true_and]
  exact strEq_iff.2 (ba_eq (by rw [itoa_pItoa, h]))
theorem numOk_to {s : ByteArray} (h : numOk s = true) : s.data.toList = itoa (pAtoiN s) := by
  unfold numOk at h
  simp only [Bool.and_eq_true] at h
  have := strEq_iff.1 h.2
  rw [← itoa_pItoa, this]

/- digits -/
theorem val_between : ∀ (l : List UInt8) (acc : Nat), (∀ c ∈ l, Dig c) → acc * 10 ^ l.length ≤ val acc l ∧ val acc l < (acc + 1) * 10 ^ l.length
  | [], acc, _ => by
    rw [List.length_nil, Nat.pow_zero, Nat.mul_one, Nat.mul_one]
    exact ⟨Nat.le_refl acc, Nat.lt_succ_self acc⟩
  | c :: r, acc, h => by
    have hc := h c (by simp)
    unfold Dig at hc
    obtain ⟨h1, h2⟩ := val_between r (10 * acc + (c.toNat - 48)) fun x hx => h x (by simp [hx])
    show _ ≤ val (10 * acc + (c.toNat - 48)) r ∧ val (10 * acc + (c.toNat - 48)) r < _
    rw [List.length_cons, Nat.pow_succ]
    have e1 : acc * (10 ^ r.length * 10) = (10 * acc) * 10 ^ r.length := by rw [Nat.mul_comm (10 ^ r.length) 10, ← Nat.mul_assoc, Nat.mul_comm acc 10]
    have e2 : (acc + 1) * (10 ^ r.length * 10) = (10 * acc + 10) * 10 ^ r.length := by
      rw [Nat.mul_comm (10 ^ r.length) 10, ← Nat.mul_assoc]; congr 1; omega
    rw [e1, e2]
    refine ⟨Nat.le_trans (Nat.mul_le_mul_right _ (by omega)) h1, Nat.lt_of_lt_of_le h2 (Nat.mul_le_mul_right _ (by omega))⟩
theorem less_val : ∀ (a b : List UInt8) (x : Nat), a.length = b.length → (∀ c ∈ a, Dig c) → (∀ c ∈ b, Dig c) → (Go.Op.bytesLess a b = true ↔ val x a < val x b)
  | [], [], x, _, _, _ => ⟨fun h => (nomatch h), fun h => absurd h (Nat.lt_irrefl x)⟩
  | [], _ :: _, _, h, _, _ => by cases h
  | _ :: _, [], _, h, _, _ => by cases h
  | c :: a, d :: b, x, hl, ha, hb => by
    have hl1 : a.length = b.length := by rw [List.length_cons, List.length_cons] at hl; omega
    have hc := ha c (by simp)
    have hd := hb d (by simp)
    have ha1 : ∀ y ∈ a, Dig y := fun y hy => ha y (List.mem_cons_of_mem c hy)
    have hb1 : ∀ y ∈ b, Dig y := fun y hy => hb y (List.mem_cons_of_mem d hy)
    unfold Dig at hc hd
    obtain ⟨a1, a2⟩ := val_between a (10 * x + (c.toNat - 48)) ha1
    obtain ⟨b1, b2⟩ := val_between b (10 * x + (d.toNat - 48)) hb1
    show (c < d || (c == d && Go.Op.bytesLess a b)) = true ↔ val (10 * x + (c.toNat - 48)) a < val (10 * x + (d.toNat - 48)) b
    simp only [Bool.or_eq_true, Bool.and_eq_true, decide_eq_true_eq, beq_iff_eq]
    rcases Nat.lt_trichotomy c.toNat d.toNat with h | h | h
    · refine ⟨fun _ => ?_, fun _ => .inl (UInt8.lt_iff_toNat_lt.2 h)⟩
      have h3 := Nat.mul_le_mul_right (10 ^ b.length) (show 10 * x + (c.toNat - 48) + 1 ≤ 10 * x + (d.toNat - 48) by omega)
      rw [hl1] at a2
      exact Nat.lt_of_lt_of_le a2 (Nat.le_trans h3 b1)
    · have e : c = d := UInt8.toNat_inj.1 h
      subst e
      rw [less_val a b _ hl1 ha1 hb1]
      refine ⟨fun hh => ?_, fun hh => .inr ⟨rfl, hh⟩⟩
      rcases hh with hh | hh
      · exact absurd (UInt8.lt_iff_toNat_lt.1 hh) (Nat.lt_irrefl _)
      · exact hh.2
    · refine ⟨fun hh => ?_, fun hh => ?_⟩
      · rcases hh with hh | hh
        · exact absurd (UInt8.lt_iff_toNat_lt.1 hh) (by omega)
        · obtain ⟨e, _⟩ := hh
          subst e; omega
      · exfalso
        refine Nat.lt_irrefl _ (Nat.lt_of_lt_of_le hh (Nat.le_trans (Nat.le_of_lt b2) (Nat.le_trans ?_ a1)))
        rw [hl1]
        exact Nat.mul_le_mul_right _ (by omega)
theorem val_inj : ∀ (a b : List UInt8) (x : Nat), a.length = b.length → (∀ c ∈ a, Dig c) → (∀ c ∈ b, Dig c) → val x a = val x b → a = b
  | [], [], _, _, _, _, _ => rfl
  | [], _ :: _, _, h, _, _, _ => by cases h
  | _ :: _, [], _, h, _, _, _ => by cases h
  | c :: a, d :: b, x, hl, ha, hb, h => by
    have hl1 : a.length = b.length := by rw [List.length_cons, List.length_cons] at hl; omega
    have hc := ha c (by simp)
    have hd := hb d (by simp)
    have ha1 : ∀ y ∈ a, Dig y := fun y hy => ha y (List.mem_cons_of_mem c hy)
    have hb1 : ∀ y ∈ b, Dig y := fun y hy => hb y (List.mem_cons_of_mem d hy)
    unfold Dig at hc hd
    obtain ⟨a1, a2⟩ := val_between a (10 * x + (c.toNat - 48)) ha1
    obtain ⟨b1, b2⟩ := val_between b (10 * x + (d.toNat - 48)) hb1
    have h : val (10 * x + (c.toNat - 48)) a = val (10 * x + (d.toNat - 48)) b := h
    rw [hl1] at a1 a2
    rcases Nat.lt_trichotomy c.toNat d.toNat with hh | hh | hh
    · exfalso
      have := Nat.mul_le_mul_right (10 ^ b.length) (show 10 * x + (c.toNat - 48) + 1 ≤ 10 * x + (d.toNat - 48) by omega)
      omega
    · have e : c = d := UInt8.toNat_inj.1 hh
      subst e
      rw [val_inj a b _ hl1 ha1 hb1 h]
    · exfalso
      have := Nat.mul_le_mul_right (10 ^ b.length) (show 10 * x + (d.toNat - 48) + 1 ≤ 10 * x + (c.toNat - 48) by omega)
      omega
theorem le_val {a b : List UInt8} (hl : a.length = b.length) (ha : ∀ c ∈ a, Dig c) (hb : ∀ c ∈ b, Dig c) : (Go.Op.bytesLess a b || a == b) = true ↔ val 0 a ≤ val 0 b := by
  simp only [Bool.or_eq_true, beq_iff_eq]
  rw [less_val a b 0 hl ha hb]
  refine ⟨fun h => ?_, fun h => ?_⟩
  · rcases h with h | h
    · omega
    · rw [h]; exact Nat.le_refl _
  · rcases Nat.lt_or_ge (val 0 a) (val 0 b) with h' | h'
    · exact .inl h'
    · exact .inr (val_inj a b 0 hl ha hb (Nat.le_antisymm h h'))
/-- digits without a nought ahead are the numeral of their value -/
def Canon (l : List UInt8) : Prop := l ≠ [] ∧ (∀ r, l = 48 :: r → r = [])
theorem dec_canon (n : Nat) : Canon (decDigits n) := by
  refine ⟨dec_ne n, ?_⟩
  induction n using Nat.strongRecOn with
  | _ n ih =>
    intro r h
    rw [decDigits] at h
    split at h
    · injection h with _ h; exact h.symm
    · cases hq : decDigits (n / 10) with
      | nil => exact absurd hq (dec_ne _)
      | cons c t =>
        rw [hq] at h
        have h : c :: (t ++ [_]) = 48 :: r := h
        injection h with h1 h2
        subst h1
        have ht := ih (n / 10) (by omega) t hq
        subst ht
        have := dec_val (n / 10)
        rw [hq] at this
        have : 10 * 0 + ((48 : UInt8).toNat - 48) = n / 10 := this
        have e : (48 : UInt8).toNat = 48 := rfl
        rw [e] at this
        omega
theorem canon_dec : ∀ (k : Nat) (l : List UInt8), l.length = k → Canon l → (∀ c ∈ l, Dig c) → l = decDigits (val 0 l) := by
  intro k
  induction k with
  | zero => intro l hl hc _; exact absurd (List.eq_nil_of_length_eq_zero hl) hc.1
  | succ k ih =>
    intro l hl hc hd
    obtain ⟨e, c, rfl⟩ : ∃ e c, l = e ++ [c] := ⟨l.dropLast, l.getLast hc.1, (List.dropLast_concat_getLast hc.1).symm⟩
    have hdc := hd c (by simp)
    unfold Dig at hdc
    have hv : val 0 (e ++ [c]) = 10 * val 0 e + (c.toNat - 48) := by rw [val_app]; rfl
    have hcc : UInt8.ofNat (48 + (c.toNat - 48)) = c := by
      apply UInt8.toNat_inj.1
      rw [u8_nat (by omega)]; omega
    cases e with
    | nil =>
      rw [hv]
      have e0 : val 0 [] = 0 := rfl
      rw [e0, decDigits, dif_pos (by omega)]
      show [c] = [UInt8.ofNat (48 + (10 * 0 + (c.toNat - 48)))]
      rw [Nat.mul_zero, Nat.zero_add, hcc]
    | cons a r =>
      have he : Canon (a :: r) := by
        refine ⟨by simp, fun t ht => ?_⟩
        injection ht with h1 h2
        subst h1 h2
        have := hc.2 (r ++ [c]) rfl
        simp at this
      have hde : ∀ x ∈ a :: r, Dig x := fun x hx => hd x (List.mem_append_left _ hx)
      have hi := ih (a :: r) (by simp at hl ⊢; omega) he hde
      have ha := hde a (by simp)
      unfold Dig at ha
      have hpos : 1 ≤ val 0 (a :: r) := by
        have h48 : a.toNat ≠ 48 := fun h => by
          have : a = 48 := UInt8.toNat_inj.1 h
          subst this
          have := hc.2 (r ++ [c]) rfl
          simp at this
        have := val_le r (10 * 0 + (a.toNat - 48))
        have e : val 0 (a :: r) = val (10 * 0 + (a.toNat - 48)) r := rfl
        omega
      rw [hv, decDigits, dif_neg (by omega)]
      have e1 : (10 * val 0 (a :: r) + (c.toNat - 48)) / 10 = val 0 (a :: r) := by omega
      have e2 : (10 * val 0 (a :: r) + (c.toNat - 48)) % 10 = c.toNat - 48 := by omega
      rw [e1, e2, hcc, ← hi]
theorem canon_len {l : List UInt8} (hc : Canon l) (hd : ∀ c ∈ l, Dig c) (hl : 20 ≤ l.length) : 10000000000000000000 ≤ val 0 l := by
  cases l with
  | nil => exact absurd rfl hc.1
  | cons a r =>
    have ha := hd a (by simp)
    unfold Dig at ha
    have h48 : a.toNat ≠ 48 := fun h => by
      have : a = 48 := UInt8.toNat_inj.1 h
      subst this
      have := hc.2 r rfl
      subst this
      simp at hl
    have h1 := (val_between r (10 * 0 + (a.toNat - 48)) fun x hx => hd x (by simp [hx])).1
    have e : val 0 (a :: r) = val (10 * 0 + (a.toNat - 48)) r := rfl
    rw [e]
    refine Nat.le_trans ?_ h1
    have h2 : 10 ^ 19 ≤ 10 ^ r.length := Nat.pow_le_pow_right (by decide) (by simp at hl; omega)
    calc 10000000000000000000 = 1 * 10 ^ 19 := by decide
      _ ≤ (10 * 0 + (a.toNat - 48)) * 10 ^ r.length := Nat.mul_le_mul (by omega) h2
theorem val_short {l : List UInt8} {k : Nat} (hd : ∀ c ∈ l, Dig c) (hl : l.length ≤ k) : val 0 l < 10 ^ k := by
  have h := (val_between l 0 hd).2
  rw [Nat.zero_add, Nat.one_mul] at h
  exact Nat.lt_of_lt_of_le h (Nat.pow_le_pow_right (by decide) hl)

/- a number's bytes: a sign and digits -/
def digsOf : List UInt8 → List UInt8
  | 45 :: r => r
  | l => l
theorem itoa_parts (n : Int) : ∃ u : Nat, (n = -(u : Int) ∧ 1 ≤ u ∧ itoa n = 45 :: decDigits u) ∨ (n = (u : Int) ∧ itoa n = decDigits u) := by
  by_cases hn : n < 0
  · refine ⟨n.natAbs, .inl ⟨by omega, by omega, ?_⟩⟩
    have := itoa_neg n.natAbs (by omega)
    rwa [show -(n.natAbs : Int) = n by omega] at this
  · refine ⟨n.toNat, .inr ⟨by omega, ?_⟩⟩
    have := itoa_nonneg n.toNat
    rwa [show (n.toNat : Int) = n by omega] at this
/-- behind a minus -/
theorem num_minus {s : ByteArray} {r : List UInt8} (h : s.data.toList = 45 :: r) :
    numOk s = true ↔ (Canon r ∧ (∀ c ∈ r, Dig c) ∧ r ≠ [48] ∧ val 0 r ≤ 9223372036854775808) := by
  refine ⟨fun hn => ?_, fun ⟨h1, h2, h3, h4⟩ => ?_⟩
  · have h1 := numOk_to hn
    have hb := atoi_fits s
    rw [h] at h1
    obtain ⟨u, ⟨hu, hu1, he⟩ | ⟨hu, he⟩⟩ := itoa_parts (pAtoiN s)
    · rw [he] at h1
      injection h1 with _ h1
      subst h1
      refine ⟨dec_canon u, dec_dig u, fun e => ?_, by rw [dec_val]; omega⟩
      have := dec_val u
      rw [e] at this
      have : 0 = u := this
      omega
    · rw [he] at h1
      have := dec_dig u 45 (by rw [← h1]; simp)
      exact absurd this.1 (by decide)
  · have hp : 1 ≤ val 0 r := by
      rcases Nat.eq_zero_or_pos (val 0 r) with h0 | h0
      · exfalso
        apply h3
        rw [canon_dec _ r rfl h1 h2, h0, decDigits, dif_pos (by decide)]; rfl
      · exact h0
    refine (numOk_of (n := -(val 0 r : Nat)) (by omega) (by omega) ?_).1
    rw [h, itoa_neg _ hp, ← canon_dec _ r rfl h1 h2]
theorem num_minus_val {s : ByteArray} {r : List UInt8} (h : s.data.toList = 45 :: r) (h1 : Canon r) (h2 : ∀ c ∈ r, Dig c) (h3 : r ≠ [48]) (h4 : val 0 r ≤ 9223372036854775808) : pAtoiN s = -(val 0 r : Nat) := by
  have hp : 1 ≤ val 0 r := by
    rcases Nat.eq_zero_or_pos (val 0 r) with h0 | h0
    · exfalso
      apply h3
      rw [canon_dec _ r rfl h1 h2, h0, decDigits, dif_pos (by decide)]; rfl
    · exact h0
  refine (numOk_of (n := -(val 0 r : Nat)) (by omega) (by omega) ?_).2
  rw [h, itoa_neg _ hp, ← canon_dec _ r rfl h1 h2]
/-- without a minus -/
theorem num_plain {s : ByteArray} (h : ∀ r, s.data.toList ≠ 45 :: r) :
    numOk s = true ↔ (Canon s.data.toList ∧ (∀ c ∈ s.data.toList, Dig c) ∧ val 0 s.data.toList ≤ 9223372036854775807) := by
  refine ⟨fun hn => ?_, fun ⟨h1, h2, h4⟩ => ?_⟩
  · have h1 := numOk_to hn
    have hb := atoi_fits s
    obtain ⟨u, ⟨hu, hu1, he⟩ | ⟨hu, he⟩⟩ := itoa_parts (pAtoiN s)
    · exact absurd (h1.trans he) (h _)
    · rw [h1, he]
      exact ⟨dec_canon u, dec_dig u, by rw [dec_val]; omega⟩
  · refine (numOk_of (n := (val 0 s.data.toList : Nat)) (by omega) (by omega) ?_).1
    rw [itoa_nonneg, ← canon_dec _ _ rfl h1 h2]
theorem num_plain_val {s : ByteArray} (h1 : Canon s.data.toList) (h2 : ∀ c ∈ s.data.toList, Dig c) (h4 : val 0 s.data.toList ≤ 9223372036854775807) : pAtoiN s = (val 0 s.data.toList : Nat) := by
  refine (numOk_of (n := (val 0 s.data.toList : Nat)) (by omega) (by omega) ?_).2
  rw [itoa_nonneg, ← canon_dec _ _ rfl h1 h2]


end Go.Proofs.YtedjlbcclhgfmaaDoor

/- Plain words of lines that are read: words, numbers, texts, calls, acts, lines. No condition. -/
namespace Go.Proofs.YtedjlbcclhgfmaaDoor
open Go.RowKit Go.Lib

abbrev tB8 : Ty := .pair (.int .u8) .unit
abbrev vTak : List (Bool × Ty) := [(false, .sl tyS), (false, .bool)]
abbrev tyAct : Ty := .pair tI (.pair tI (.pair tI (.pair tI (.pair tI (.pair (.sl tyN) (.pair tI (.pair tI (.pair tI (.pair tI (.pair tI (.pair .str .unit)))))))))))
abbrev vAct : List (Bool × Ty) := [(false, tI), (false, tI), (false, tI), (false, tI), (false, tI), (true, tyN), (false, tI), (false, tI), (false, tI), (false, tI), (false, tI), (false, .str)]
abbrev vActF : List (Bool × Ty) := [(false, tI), (false, tI), (false, tI), (false, tI), (false, tI), (false, .sl tyN), (false, tI), (false, tI), (false, tI), (false, tI), (false, tI), (false, .str)]
abbrev vCall : List (Bool × Ty) := [(false, tI), (false, tI), (false, tI), (false, tI), (false, tI)]

/- words -/
def pFewW (l : List SD) : Prop := l.length ≤ 4294967281 ∧ ∀ a ∈ l, pShort a.1
def nextS : List SD → ByteArray
  | [] => bs []
  | a :: _ => a.1
def nextL (l : List SD) : List SD := l.tail
def nextB (l : List SD) (b : Bool) : Bool := b || l.isEmpty
def ba (l : List UInt8) : ByteArray := ⟨l.toArray⟩
def idxS (l : List SD) (s : ByteArray) : Int := idxOf (fun j => pStrEq s (pGet tyS l j).1) l.length
def idxSInv (l : List SD) (s : ByteArray) : Int × Unit → Prop := FindInv (fun j => pStrEq s (pGet tyS l j).1) l.length
def idxSMu (l : List SD) (_ : ByteArray) : Int × Unit → Nat := UpMu l.length
def wordsT : List SD := [(bs [], ()), (bs [97, 115, 107], ()), (bs [100, 101, 108, 105, 118, 101, 114], ()), (bs [100, 114, 111, 112], ()), (bs [99, 111, 112, 121], ()), (bs [116, 105, 99, 107], ()), (bs [99, 114, 97, 115, 104], ()), (bs [115, 116, 97, 114, 116], ()), (bs [116, 121, 112, 101], ())]
def callsT : List SD := [(bs [], ()), (bs [98, 101, 103, 105, 110], ()), (bs [103, 101, 116], ()), (bs [112, 117, 116], ()), (bs [99, 111, 109, 109, 105, 116], ()), (bs [114, 111, 108, 108, 98, 97, 99, 107], ())]

/- texts behind a dot -/
def hexD (n : Int) : Int := cond (pLt n 10) (48 + n) (87 + n)
def sixF (c : Int) : Int := idxOf (fun j => pEq (hexD (j : Int)) c) 16
def sixInv (c : Int) : Int × Unit → Prop := FindInv (fun j => pEq (hexD (j : Int)) c) 16
def sixMu (_ : Int) : Int × Unit → Nat := UpMu 16
def idxB (s : ByteArray) (b : Int) : Int := indexByte s.data.toList b.toNat.toUInt8
def unhR : List UInt8 → List UInt8 → Option (List UInt8)
  | o, [] => some o
  | _, [_] => none
  | o, a :: b :: r => if sixF (a.toNat : Int) < 0 ∨ sixF (b.toNat : Int) < 0 then none else unhR (o ++ [UInt8.ofNat (16 * sixF (a.toNat : Int) + sixF (b.toNat : Int)).toNat]) r
def txtO (s : ByteArray) : Option (List UInt8) := match s.data.toList with
  | 46 :: r => unhR [] r
  | _ => none
def txtS (s : ByteArray) : ByteArray := match txtO s with
  | some l => ba l
  | none => bs []
def txtB (s : ByteArray) : Bool := (txtO s).isSome
def cellsB (l : List UInt8) : List ND := l.map fun b => ((b.toNat : Int), ())
def undInv (s : ByteArray) (y : Int × List ND × Unit) : Prop := ∃ (k : Nat) (o : List UInt8), y = ((k : Int), cellsB o, ()) ∧ unhR o (s.data.toList.drop k) = txtO s ∧ o.length ≤ k ∧ k ≤ s.size ∧ (s.size - k) % 2 = 0
def undMu (s : ByteArray) (y : Int × List ND × Unit) : Nat := s.size - y.1.toNat
def txtInv (l : List SD) (_ : Bool) : Int × List ND × Unit → Prop := undInv (nextS l)
def txtMu (l : List SD) (_ : Bool) : Int × List ND × Unit → Nat := undMu (nextS l)

/- numbers -/
def wholeInv (s : ByteArray) (y : Int × Int × Unit) : Prop := ∃ k : Nat, y = ((k : Int), -(val 0 ((digsOf s.data.toList).take k) : Int), ()) ∧ k ≤ (digsOf s.data.toList).length ∧ ∀ c ∈ (digsOf s.data.toList).take k, Dig c
def wholeMu (s : ByteArray) (y : Int × Int × Unit) : Nat := (digsOf s.data.toList).length - y.1.toNat
def wholB (l : List SD) : Bool := l.all fun w => numOk w.1
def numsL (l : List SD) : List ND := l.map fun w => (pAtoiN w.1, ())
def wholL (l : List SD) : List ND := cond (wholB l) (numsL l) []
def wholesInv (l : List SD) (y : Int × List ND × Unit) : Prop := ∃ k : Nat, y = ((k : Int), numsL (l.take k), ()) ∧ k ≤ l.length ∧ wholB (l.take k) = true
def wholesMu (l : List SD) (y : Int × List ND × Unit) : Nat := l.length - y.1.toNat

/- the document's: a call, a line -/
def gN (l : List ND) (k : Nat) : Int := (pGet tyN l k).1
def callNo : CallD × Bool × Unit := ((0, 0, 0, 0, 0, ()), false, ())
def callW (w : ByteArray) (l : List ND) : CallD × Bool × Unit :=
  cond (pStrEq w (bs [98, 101, 103, 105, 110])) ((1, 0, 0, 0, 0, ()), pEq (pInt l.length) 0, ())
  (cond (pStrEq w (bs [103, 101, 116])) (cond (pEq (pInt l.length) 3) ((2, gN l 0, gN l 1, gN l 2, 0, ()), true, ()) callNo)
  (cond (pStrEq w (bs [112, 117, 116])) (cond (pEq (pInt l.length) 3) ((3, gN l 0, 0, gN l 1, gN l 2, ()), true, ()) callNo)
  (cond (pStrEq w (bs [99, 111, 109, 109, 105, 116])) (cond (pEq (pInt l.length) 1) ((4, gN l 0, 0, 0, 0, ()), true, ()) callNo)
  (cond (pStrEq w (bs [114, 111, 108, 108, 98, 97, 99, 107])) (cond (pEq (pInt l.length) 1) ((5, gN l 0, 0, 0, 0, ()), true, ()) callNo) callNo))))
def callY : List SD → CallD × Bool × Unit
  | [] => callNo
  | a :: r => cond (wholB r) (callW a.1 (wholL r)) callNo
def callC (l : List SD) : CallD := (callY l).1
def callB (l : List SD) : Bool := (callY l).2.1
def actY (k s t lb p : Int) (ke : List ND) (x : CallD) (li : ByteArray) : ActD := (k, s, t, lb, p, ke, x.1, x.2.1, x.2.2.1, x.2.2.2.1, x.2.2.2.2.1, li, ())
def callZ : CallD := (0, 0, 0, 0, 0, ())
def lineNo : ActD × Bool × Unit := (actY 0 0 0 0 0 [] callZ (bs []), false, ())
def pathY (k : Int) (l : List ND) : ActD × Bool × Unit := cond (pEq (pInt l.length) 4) (actY k (gN l 0) (gN l 1) (gN l 2) (gN l 3) [] callZ (bs []), true, ()) lineNo
def lineA (w : ByteArray) (l : List SD) (q : List ND) : ActD × Bool × Unit :=
  cond (pStrEq w (bs [97, 115, 107])) (actY 1 (gN q 0) 0 (gN q 1) 0 [] (callC l) (bs []), callB l, ())
    (actY 8 (gN q 0) 0 (gN q 1) 0 [] callZ (txtS (nextS l)), txtB (nextS l) && pEq (pInt l.length) 1, ())
def lineB (w : ByteArray) (q : List ND) : ActD × Bool × Unit :=
  cond (pStrEq w (bs [116, 105, 99, 107])) (actY 5 0 0 0 0 [] callZ (bs []), pEq (pInt q.length) 0, ())
  (cond (pStrEq w (bs [115, 116, 97, 114, 116])) (cond (pEq (pInt q.length) 1) (actY 7 (gN q 0) 0 0 0 [] callZ (bs []), true, ()) lineNo)
  (cond (pStrEq w (bs [99, 114, 97, 115, 104])) (cond (pGt (pInt q.length) 0) (actY 6 (gN q 0) 0 0 0 q.tail callZ (bs []), true, ()) lineNo)
  (cond (pStrEq w (bs [100, 101, 108, 105, 118, 101, 114])) (pathY 2 q)
  (cond (pStrEq w (bs [100, 114, 111, 112])) (pathY 3 q)
  (cond (pStrEq w (bs [99, 111, 112, 121])) (pathY 4 q) lineNo)))))
def lineY (l : List SD) : ActD × Bool × Unit := match l with
  | [] => lineNo
  | a :: r => cond (pStrEq a.1 (bs [97, 115, 107]) || pStrEq a.1 (bs [116, 121, 112, 101]))
      (cond (pLt (pInt l.length) 4) lineNo (cond (wholB (r.take 2)) (lineA a.1 (r.drop 2) (wholL (r.take 2))) lineNo))
      (cond (wholB r) (lineB a.1 (wholL r)) lineNo)
def linA (s : ByteArray) : ActD := (lineY (pSplit s (bs [32]))).1
def linB (s : ByteArray) : Bool := (lineY (pSplit s (bs [32]))).2.1

/- the program's: a call, a line -/
def numB' (l : List SD) (b : Bool) : Bool := nextB l b || !numOk (nextS l)
def takK (l : List SD) : Int := pAdd .i64 (idxS (pSub callsT 1 6) (nextS l)) 1
def takY (l : List SD) (b : Bool) : CallD × List SD × Bool × Unit :=
  let k := takK l
  let l1 := cond (pGt k 1) (nextL (nextL l)) (nextL l)
  let n1 := cond (pGt k 1) (pAtoiN (nextS (nextL l))) 0
  let b1 := cond (pGt k 1) (numB' (nextL l) (nextB l b)) (nextB l b)
  cond (pEq k 0) ((k, n1, 0, 0, 0, ()), l1, true, ())
  (cond (pEq k 2) ((k, n1, pAtoiN (nextS l1), pAtoiN (nextS (nextL l1)), 0, ()), nextL (nextL l1), numB' (nextL l1) (numB' l1 b1), ())
  (cond (pEq k 3) ((k, n1, 0, pAtoiN (nextS l1), pAtoiN (nextS (nextL l1)), ()), nextL (nextL l1), numB' (nextL l1) (numB' l1 b1), ())
    ((k, n1, 0, 0, 0, ()), l1, b1, ())))
def takC (l : List SD) (b : Bool) : CallD := (takY l b).1
def takL (l : List SD) (b : Bool) : List SD := (takY l b).2.1
def takB (l : List SD) (b : Bool) : Bool := (takY l b).2.2.1
def fin (z : ActD) (l : List SD) (b : Bool) : ActD × Bool × Unit := (z, cond (pNot b) (pEq (pInt (pLen l)) 0) false, ())
def crashR (k n : Int) (ke : List ND) : List SD → Bool → ActD × Bool × Unit
  | [], b => fin (actY k n 0 0 0 ke callZ (bs [])) [] b
  | a :: r, b => cond b (fin (actY k n 0 0 0 ke callZ (bs [])) (a :: r) b) (crashR k n (ke ++ [(pAtoiN a.1, ())]) r (numB' (a :: r) b))
def crashInv (k n : Int) (l : List SD) (b : Bool) (y : ActD × (List SD × Bool × Unit) × Unit) : Prop := ∃ (ke : List ND) (l1 : List SD) (b1 : Bool), y = (actY k n 0 0 0 ke callZ (bs []), (l1, b1, ()), ()) ∧
  crashR k n ke l1 b1 = crashR k n [] l b ∧ ke.length + l1.length = l.length ∧ ∀ w ∈ l1, w ∈ l
def crashMu (_ _ : Int) (_ : List SD) (_ : Bool) (y : ActD × (List SD × Bool × Unit) × Unit) : Nat := y.2.1.1.length
def oneR (k n : Int) (l : List SD) (b : Bool) : ActD × Bool × Unit :=
  cond (pEq k 2 || pEq k 3 || pEq k 4) (fin (actY k n (pAtoiN (nextS l)) (pAtoiN (nextS (nextL l))) (pAtoiN (nextS (nextL (nextL l)))) [] callZ (bs [])) (nextL (nextL (nextL l))) (numB' (nextL (nextL l)) (numB' (nextL l) (numB' l b))))
  (cond (pEq k 6) (crashR k n [] l b)
  (cond (pEq k 1) (fin (actY k n 0 (pAtoiN (nextS l)) 0 [] (takC (nextL l) (numB' l b)) (bs [])) (takL (nextL l) (numB' l b)) (takB (nextL l) (numB' l b)))
  (cond (pEq k 8) (fin (actY k n 0 (pAtoiN (nextS l)) 0 [] callZ (txtS (nextS (nextL l)))) (nextL (nextL l)) (nextB (nextL l) (numB' l b) || !txtB (nextS (nextL l))))
    (fin (actY k n 0 0 0 [] callZ (bs [])) l b))))
def oneK (l : List SD) : Int := pAdd .i64 (idxS (pSub wordsT 1 9) (nextS l)) 1
def oneY (l : List SD) : ActD × Bool × Unit :=
  cond (pEq (oneK l) 0) (actY (oneK l) 0 0 0 0 [] callZ (bs []), false, ())
  (cond (pNe (oneK l) 5) (oneR (oneK l) (pAtoiN (nextS (nextL l))) (nextL (nextL l)) (numB' (nextL l) (nextB l false))) (oneR (oneK l) 0 (nextL l) (nextB l false)))
def oneA (s : ByteArray) : ActD := (oneY (pSplit s (bs [32]))).1
def oneB (s : ByteArray) : Bool := (oneY (pSplit s (bs [32]))).2.1

/- lines -/
def cutA (s p : ByteArray) : ByteArray := ba (Go.Lib.cut s.data.toList p.data.toList).1
def cutB (s p : ByteArray) : ByteArray := ba (Go.Lib.cut s.data.toList p.data.toList).2.1
def cutF (s p : ByteArray) : Bool := (Go.Lib.cut s.data.toList p.data.toList).2.2
abbrev ReadD := List ActD × Int × Int × Unit
def readR (c : CfgD) : Nat → ByteArray → Int → List ActD → ReadD
  | 0, _, _, out => (out, 0, 0, ())
  | f + 1, s, i, out => cond (pStrEq s (bs [])) (out, 0, 0, ()) (cond (pEq i 3000) ([], i, 1, ()) (cond (cutF s (bs [10])) (cond (linB (cutA s (bs [10])))
      (cond (pEq (actF c (linA (cutA s (bs [10])))) 0) (readR c f (cutB s (bs [10])) (i + 1) (out ++ [linA (cutA s (bs [10]))])) ([], i, actF c (linA (cutA s (bs [10]))), ())) ([], i, 4, ())) ([], i, 4, ())))
def readY (c : CfgD) (s : ByteArray) : ReadD := cond (pEq (cfgF c) 0) (readR c s.size s 0 []) ([], 0, cfgF c, ())
def readL (c : CfgD) (s : ByteArray) : List ActD := (readY c s).1
def readI (c : CfgD) (s : ByteArray) : Int := (readY c s).2.1
def readE (c : CfgD) (s : ByteArray) : Int := (readY c s).2.2.1
def readInv (c : CfgD) (s : ByteArray) (y : ByteArray × Int × List ActD × Unit) : Prop := ∃ (f : Nat) (t : ByteArray) (out : List ActD), y = (t, (out.length : Int), out, ()) ∧ t.size ≤ f ∧ f ≤ s.size ∧ out.length ≤ 3000 ∧
  readR c f t (out.length : Int) out = readR c s.size s 0 []
def readMu (_ : CfgD) (_ : ByteArray) (y : ByteArray × Int × List ActD × Unit) : Nat := y.1.size
def actsInv (c : CfgD) (s : ByteArray) (y : Int × Int × List ActD × Unit) : Prop := ∃ (f k : Nat) (out : List ActD), y = ((k : Int), (out.length : Int), out, ()) ∧ k ≤ s.size ∧ s.size - k ≤ f ∧ out.length ≤ 3000 ∧
  readR c f (pStrSub s k s.size) (out.length : Int) out = readR c s.size s 0 []
def actsMu (_ : CfgD) (s : ByteArray) (y : Int × Int × List ActD × Unit) : Nat := s.size - y.1.toNat
def endsInv (s : ByteArray) (a : Int) (y : Int × Unit) : Prop := ∃ (f k : Nat), a = (f : Int) ∧ y = ((k : Int), ()) ∧ f ≤ k ∧ k ≤ s.size ∧ ∀ c ∈ (s.data.toList.drop f).take (k - f), c ≠ 10
def endsMu (s : ByteArray) (_ : Int) (y : Int × Unit) : Nat := s.size - y.1.toNat

/- loops of the document's words -/
def partsInv (s : ByteArray) (y : Int × Int × List SD × Unit) : Prop := ∃ (k f : Nat) (out : List (List UInt8)), y = ((k : Int), (f : Int), out.map toS, ()) ∧ f ≤ k ∧ k ≤ s.size + 1 ∧ out.length ≤ f ∧
  ((k ≤ s.size ∧ spl s.data.toList = out ++ spl (s.data.toList.drop f) ∧ ∀ c ∈ (s.data.toList.drop f).take (k - f), c ≠ 32) ∨ (k = s.size + 1 ∧ spl s.data.toList = out))
def partsMu (s : ByteArray) (y : Int × Int × List SD × Unit) : Nat := s.size + 1 - y.1.toNat

/- tables -/
def tabsL (m : Int) : Nat → Option Gl := look [(0, Gl.rows tyS wordsT), (1, Gl.rows tyS callsT), (3, Gl.cells (pow10Tab.map (C.int .u64))), (2, Gl.cells [C.int .i64 m]), (4, Gl.cells [C.ifc true]), (5, Gl.cells [C.ifc true])]
def TabsL (m : Int) (W : World) : Prop := ∀ g gl, tabsL m g = some gl → GlobR W (fun b => b < W.heap.size) g gl
theorem tabsL_ok {m : Int} : ∀ W, TabsL m W → ∀ g gl, tabsL m g = some gl → GlobR W (fun b => b < W.heap.size) g gl := fun _ h => h


end Go.Proofs.YtedjlbcclhgfmaaDoor

/- Contracts, and what the evaluator says, as plain propositions: LrV. Printed by vc.py. -/
namespace Go.Proofs.YtedjlbcclhgfmaaDoor
open Go.RowKit Go.ChangeShapes Go.WideShapes Go.Deep

abbrev idxS_S : Shape := ⟨[.one (.rd (.sl tyS)), .one (.rd .str)], []⟩
abbrev idxS_f : Shape.den idxS_S → denVars [.slot 0 false tI] := fun x => (idxS x.1.1 x.1.2.1, ())
abbrev idxS_p : Shape.den idxS_S → List Prop := fun x => [pLen x.1.1 < 4611686018427387904]
def cidxS : Ctr := shCtr idxS_S idxS_p [] [.slot 0 false tI] idxS_f
abbrev next_S : Shape := ⟨[.one (.lit (.pt 0 0))], [.box [.rd (.sl tyS), .rd .bool]]⟩
abbrev next_f : Shape.den next_S → denVars [.slot 0 false .str, .box 0 vTak] := fun x => (nextS x.2.1.1, (nextL x.2.1.1, nextB x.2.1.1 x.2.1.2.1, ()), ())
abbrev next_p : Shape.den next_S → List Prop := fun x => [pFewW x.2.1.1]
def cnext : Ctr := shCtr next_S next_p [] [.slot 0 false .str, .box 0 vTak] next_f
abbrev hexDigit_S : Shape := ⟨[.one (.rd tI)], []⟩
abbrev hexDigit_f : Shape.den hexDigit_S → denVars [.slot 0 false (.int .u8)] := fun x => (hexD x.1.1, ())
abbrev hexDigit_p : Shape.den hexDigit_S → List Prop := fun x => [pLe 0 x.1.1 = true, pLt x.1.1 16 = true]
def chexDigit : Ctr := shCtr hexDigit_S hexDigit_p [] [.slot 0 false (.int .u8)] hexDigit_f
abbrev sixteenth_S : Shape := ⟨[.one (.rd (.int .u8))], []⟩
abbrev sixteenth_f : Shape.den sixteenth_S → denVars [.slot 0 false tI] := fun x => (sixF x.1.1, ())
abbrev sixteenth_p : Shape.den sixteenth_S → List Prop := fun x => [pLe 0 x.1.1 = true, pLt x.1.1 256 = true]
def csixteenth : Ctr := shCtr sixteenth_S sixteenth_p [] [.slot 0 false tI] sixteenth_f
abbrev undotted_S : Shape := ⟨[.one (.rd .str)], []⟩
abbrev undotted_f : Shape.den undotted_S → denVars [.slot 0 false .str, .slot 1 false .bool] := fun x => (txtS x.1.1, txtB x.1.1, ())
abbrev undotted_p : Shape.den undotted_S → List Prop := fun x => [pShort x.1.1]
def cundotted : Ctr := shCtr undotted_S undotted_p [] [.slot 0 false .str, .slot 1 false .bool] undotted_f
abbrev whole_f : Shape.den undotted_S → denVars [.slot 0 false tI, .slot 1 false .bool] := fun x => (cond (numOk x.1.1) (pAtoiN x.1.1) 0, numOk x.1.1, ())
def cwhole : Ctr := shCtr undotted_S undotted_p [] [.slot 0 false tI, .slot 1 false .bool] whole_f
abbrev wholes_S : Shape := ⟨[.one (.rd (.sl tyS))], []⟩
abbrev wholes_f : Shape.den wholes_S → denVars [.slot 0 true tyN, .slot 1 false .bool] := fun x => (wholL x.1.1, wholB x.1.1, ())
abbrev wholes_p : Shape.den wholes_S → List Prop := fun x => [pFewW x.1.1]
def cwholes : Ctr := shCtr wholes_S wholes_p [] [.slot 0 true tyN, .slot 1 false .bool] wholes_f
abbrev wholesF_f : Shape.den wholes_S → denVars [.slot 0 false (.sl tyN), .slot 1 false .bool] := fun x => (wholL x.1.1, wholB x.1.1, ())
def cwholesF : Ctr := shCtr wholes_S wholes_p [] [.slot 0 false (.sl tyN), .slot 1 false .bool] wholesF_f
abbrev callOf_f : Shape.den wholes_S → denVars [.agg 0 vCall, .slot 1 false .bool] := fun x => (callC x.1.1, callB x.1.1, ())
def ccallOf : Ctr := shCtr wholes_S wholes_p [] [.agg 0 vCall, .slot 1 false .bool] callOf_f
abbrev partsOf_f : Shape.den undotted_S → denVars [.slot 0 true tyS] := fun x => (pSplit x.1.1 (bs [32]), ())
def cpartsOf : Ctr := shCtr undotted_S undotted_p [] [.slot 0 true tyS] partsOf_f
abbrev partsOfF_f : Shape.den undotted_S → denVars [.slot 0 false (.sl tyS)] := fun x => (pSplit x.1.1 (bs [32]), ())
def cpartsOfF : Ctr := shCtr undotted_S undotted_p [] [.slot 0 false (.sl tyS)] partsOfF_f
abbrev lineAct_f : Shape.den undotted_S → denVars [.agg 0 vActF, .slot 1 false .bool] := fun x => (linA x.1.1, linB x.1.1, ())
def clineAct : Ctr := shCtr undotted_S undotted_p [] [.agg 0 vActF, .slot 1 false .bool] lineAct_f
abbrev ActsOf_S : Shape := ⟨[pCfg, .one (.rd .str)], []⟩
abbrev ActsOf_f : Shape.den ActsOf_S → denVars [.slot 0 true tyAct, .slot 1 false tI, .slot 2 false tI] := fun x => (readL x.1.1 x.1.2.1, readI x.1.1 x.1.2.1, readE x.1.1 x.1.2.1, ())
abbrev ActsOf_p : Shape.den ActsOf_S → List Prop := fun x => [pLen x.1.1.2.1 < 4611686018427387904, pShort x.1.2.1]
def cActsOf : Ctr := shCtr ActsOf_S ActsOf_p [] [.slot 0 true tyAct, .slot 1 false tI, .slot 2 false tI] ActsOf_f
abbrev eqsLrV : List TypeId := [83, 53]

def idxS_VC (l : (List SD)) (s : ByteArray) : Prop :=
  idxSInv l s ((0 : Int), ()) ∧ ∀ (y0 : kden Bool.false tI × PUnit), idxSInv l s y0 → bif pLt y0.1 (pInt (pLen l)) then pIn y0.1 (pLen l) ∧ bif pStrEq s (pGet tyS l (pNat y0.1)).1 then y0 = (idxS l s, ()) else idxSInv l s (pAdd IntKind.i64
 y0.1 (1 : Int), ()) ∧ Nat.le (Nat.succ (idxSMu l s (pAdd IntKind.i64 y0.1 (1 : Int), ()))) (idxSMu l s y0) else ((-1 : Int), ()) = (idxS l s, ())
set_option maxRecDepth 100000 in
theorem idxS_meets  (h : ∀ (l : (List SD)) (s : ByteArray), (∀ p ∈ idxS_p ⟨(l, s, ()), ()⟩, p) → idxS_VC l s) : Mt 72 cidxS :=
  meets_vc (E := envOf Tryd.prog [] eqsLrV) (envOf_ok (fun p hp => by cases hp) (by kernel_rfl)) idxS_S (fun x => fun ky9 st9 => look [(2, (⟨[.slot 8 false tI], idxSInv x.1.1 x.1.2.1, idxSMu x.1.1 x.1.2.1⟩ : Ann))] ky9) Tryd.func72 (by kernel_rfl) (by kernel_rfl) idxS_p [] [.slot 0 false tI] idxS_f (fun x => idxS_VC x.1.1 x.1.2.1) (fun x => by kernel_rfl) (fun x hp => h x.1.1 x.1.2.1 hp)

def next_VC (l : List SD) (b : Bool) : Prop :=
  bif pEq (pInt (pLen l)) (0 : Int) then ((bs []), (l, Bool.true, ()), ()) = (nextS l, (nextL l, nextB l b, ()), ()) else pIn (0 : Int) (pLen l) ∧ pTo (1 : Int) (pLen l) ∧ ((pGet tyS l (pNat (0 : Int))).1, (pSub l (pNat (1 : Int)) (pLen l),
 b, ()), ()) = (nextS l, (nextL l, nextB l b, ()), ())
set_option maxRecDepth 100000 in
theorem next_meets  (h : ∀ (l : List SD) (b : Bool), (∀ p ∈ next_p ⟨((), ()), ((l, b, ()), ())⟩, p) → next_VC l b) : Mt 73 cnext :=
  meets_vc (E := envOf Tryd.prog [] eqsLrV) (envOf_ok (fun p hp => by cases hp) (by kernel_rfl)) next_S (fun x => fun ky9 st9 => look [] ky9) Tryd.func73 (by kernel_rfl) (by kernel_rfl) next_p [] [.slot 0 false .str, .box 0 vTak] next_f (fun x => next_VC x.2.1.1 x.2.1.2.1) (fun x => by kernel_rfl) (fun x hp => h x.2.1.1 x.2.1.2.1 hp)

def hexDigit_VC (n : Int) : Prop :=
  bif pLt n (10 : Int) then (pWrap IntKind.u8 (pAdd IntKind.i64 (48 : Int) n), ()) = (hexD n, ()) else (pWrap IntKind.u8 (pSubI IntKind.i64 (pAdd IntKind.i64 (97 : Int) n) (10 : Int)), ()) = (hexD n, ())
set_option maxRecDepth 100000 in
theorem hexDigit_meets  (h : ∀ (n : Int), (∀ p ∈ hexDigit_p ⟨(n, ()), ()⟩, p) → hexDigit_VC n) : Mt 60 chexDigit :=
  meets_vc (E := envOf Tryd.prog [] eqsLrV) (envOf_ok (fun p hp => by cases hp) (by kernel_rfl)) hexDigit_S (fun x => fun ky9 st9 => look [] ky9) Tryd.func60 (by kernel_rfl) (by kernel_rfl) hexDigit_p [] [.slot 0 false (.int .u8)] hexDigit_f (fun x => hexDigit_VC x.1.1) (fun x => by kernel_rfl) (fun x hp => h x.1.1 hp)

def sixteenth_VC (b : Int) : Prop :=
  sixInv b ((0 : Int), ()) ∧ ∀ (y0 : kden Bool.false tI × PUnit), sixInv b y0 → bif pLt y0.1 (16 : Int) then pLe (0 : Int) y0.1 = Bool.true ∧ pLt y0.1 (16 : Int) = Bool.true ∧ bif pEq (hexD y0.1) b then y0 = (sixF b, ()) else sixInv b (pAdd
 IntKind.i64 y0.1 (1 : Int), ()) ∧ Nat.le (Nat.succ (sixMu b (pAdd IntKind.i64 y0.1 (1 : Int), ()))) (sixMu b y0) else ((-1 : Int), ()) = (sixF b, ())
set_option maxRecDepth 100000 in
theorem sixteenth_meets (hhexDigit : Mt 60 chexDigit) (h : ∀ (b : Int), (∀ p ∈ sixteenth_p ⟨(b, ()), ()⟩, p) → sixteenth_VC b) : Mt 98 csixteenth :=
  meets_vc (E := envOf Tryd.prog [(60, (false, chexDigit))] eqsLrV) (envOf_ok (fun p hp => (by simp only [List.mem_cons, List.not_mem_nil, or_false] at hp; rcases hp with rfl; exact hhexDigit)) (by kernel_rfl)) sixteenth_S (fun x => fun ky9 st9 => look [(2, (⟨[.slot 3 false tI], sixInv x.1.1, sixMu x.1.1⟩ : Ann))] ky9) Tryd.func98 (by kernel_rfl) (by kernel_rfl) sixteenth_p [] [.slot 0 false tI] sixteenth_f (fun x => sixteenth_VC x.1.1) (fun x => by kernel_rfl) (fun x hp => h x.1.1 hp)

abbrev undotted_t0 (s : ByteArray) : Prop := ((bs []), Bool.false, ()) = (txtS s, txtB s, ())
abbrev undotted_v1 (s : ByteArray) (y0 : kden Bool.false tI × kden Bool.true tB8 × PUnit) := (pWrap IntKind.u8 (pAdd IntKind.i64 (pMul IntKind.i64 (16 : Int) (sixF (pStrGet s (pNat y0.1)))) (sixF (pStrGet s (pNat (pAdd IntKind.i64 y0.1 (1 : Int)))))), ()) :: vnil (Int × PUnit)

def undotted_VC (s : ByteArray) : Prop :=
  bif pEq (pInt (pStrLen s)) (0 : Int) then undotted_t0 s else pIn (0 : Int) (pStrLen s) ∧ bif pNe (pStrGet s (pNat (0 : Int))) (46 : Int) then undotted_t0 s else pNz (2 : Int) ∧ bif pEq (pRem (pInt (pStrLen s)) (2 : Int)) (0 : Int) then
 undotted_t0 s else undInv s ((1 : Int), vnil (Int × PUnit), ()) ∧ ∀ (y0 : kden Bool.false tI × kden Bool.true tB8 × PUnit), undInv s y0 → bif pLt y0.1 (pInt (pStrLen s)) then pIn y0.1 (pStrLen s) ∧ pLe (0 : Int) (pStrGet s (pNat y0.1)) =
 Bool.true ∧ pLt (pStrGet s (pNat y0.1)) (256 : Int) = Bool.true ∧ pIn (pAdd IntKind.i64 y0.1 (1 : Int)) (pStrLen s) ∧ pLe (0 : Int) (pStrGet s (pNat (pAdd IntKind.i64 y0.1 (1 : Int)))) = Bool.true ∧ pLt (pStrGet s (pNat (pAdd IntKind.i64
 y0.1 (1 : Int)))) (256 : Int) = Bool.true ∧ bif pLt (sixF (pStrGet s (pNat y0.1))) (0 : Int) then undotted_t0 s else bif pLt (sixF (pStrGet s (pNat (pAdd IntKind.i64 y0.1 (1 : Int))))) (0 : Int) then undotted_t0 s else pRoom (pPlus (pLen
 y0.2.1) (pLen (undotted_v1 s y0))) 1 ∧ undInv s (pAdd IntKind.i64 y0.1 (2 : Int), pApp y0.2.1 (undotted_v1 s y0), ()) ∧ Nat.le (Nat.succ (undMu s (pAdd IntKind.i64 y0.1 (2 : Int), pApp y0.2.1 (undotted_v1 s y0), ()))) (undMu s y0) else
 (pBytes y0.2.1, Bool.true, ()) = (txtS s, txtB s, ())
set_option maxRecDepth 100000 in
theorem undotted_meets (hsixteenth : Mt 98 csixteenth) (h : ∀ (s : ByteArray), (∀ p ∈ undotted_p ⟨(s, ()), ()⟩, p) → undotted_VC s) : Mt 79 cundotted :=
  meets_vc (E := envOf Tryd.prog [(98, (false, csixteenth))] eqsLrV) (envOf_ok (fun p hp => (by simp only [List.mem_cons, List.not_mem_nil, or_false] at hp; rcases hp with rfl; exact hsixteenth)) (by kernel_rfl)) undotted_S (fun x => fun ky9 st9 => look [(5, (⟨[.slot 5 false tI, .slot 4 true tB8], undInv x.1.1, undMu x.1.1⟩ : Ann))] ky9) Tryd.func79 (by kernel_rfl) (by kernel_rfl) undotted_p [] [.slot 0 false .str, .slot 1 false .bool] undotted_f (fun x => undotted_VC x.1.1) (fun x => by kernel_rfl) (fun x hp => h x.1.1 hp)

abbrev whole_v0 (s : ByteArray) := (bif numOk s then pAtoiN s else (0 : Int), numOk s, ())
abbrev whole_v1 (s : ByteArray) := pEq (pInt (pStrLen (pStrSub s (pNat (1 : Int)) (pStrLen s)))) (19 : Int)
abbrev whole_v2 (s : ByteArray) (y23 : kden Bool.false tI × kden Bool.false tI × PUnit) := (pAdd IntKind.i64 y23.1 (1 : Int), pSubI IntKind.i64 (pMul IntKind.i64 (10 : Int) y23.2.1) (pWrap IntKind.i64 (pSubI IntKind.u8 (pStrGet (pStrSub s (pNat (1 : Int)) (pStrLen s)) (pNat y23.1)) (48 : Int))), ())
abbrev whole_v3 (s : ByteArray) := pEq (pInt (pStrLen (pStrSub s (pNat (1 : Int)) (pStrLen s)))) (pInt (pStrLen s))
abbrev whole_v4 (s : ByteArray) (y22 : kden Bool.false tI × kden Bool.false tI × PUnit) := (pAdd IntKind.i64 y22.1 (1 : Int), pSubI IntKind.i64 (pMul IntKind.i64 (10 : Int) y22.2.1) (pWrap IntKind.i64 (pSubI IntKind.u8 (pStrGet (pStrSub s (pNat (1 : Int)) (pStrLen s)) (pNat y22.1)) (48 : Int))), ())
abbrev whole_v5 (s : ByteArray) (y21 : kden Bool.false tI × kden Bool.false tI × PUnit) := (pAdd IntKind.i64 y21.1 (1 : Int), pSubI IntKind.i64 (pMul IntKind.i64 (10 : Int) y21.2.1) (pWrap IntKind.i64 (pSubI IntKind.u8 (pStrGet (pStrSub s (pNat (1 : Int)) (pStrLen s)) (pNat y21.1)) (48 : Int))), ())
abbrev whole_v6 (s : ByteArray) (y20 : kden Bool.false tI × kden Bool.false tI × PUnit) := (pAdd IntKind.i64 y20.1 (1 : Int), pSubI IntKind.i64 (pMul IntKind.i64 (10 : Int) y20.2.1) (pWrap IntKind.i64 (pSubI IntKind.u8 (pStrGet (pStrSub s (pNat (1 : Int)) (pStrLen s)) (pNat y20.1)) (48 : Int))), ())
abbrev whole_v7 (s : ByteArray) (y19 : kden Bool.false tI × kden Bool.false tI × PUnit) := (pAdd IntKind.i64 y19.1 (1 : Int), pSubI IntKind.i64 (pMul IntKind.i64 (10 : Int) y19.2.1) (pWrap IntKind.i64 (pSubI IntKind.u8 (pStrGet (pStrSub s (pNat (1 : Int)) (pStrLen s)) (pNat y19.1)) (48 : Int))), ())
abbrev whole_v8 (s : ByteArray) (y18 : kden Bool.false tI × kden Bool.false tI × PUnit) := (pAdd IntKind.i64 y18.1 (1 : Int), pSubI IntKind.i64 (pMul IntKind.i64 (10 : Int) y18.2.1) (pWrap IntKind.i64 (pSubI IntKind.u8 (pStrGet (pStrSub s (pNat (1 : Int)) (pStrLen s)) (pNat y18.1)) (48 : Int))), ())
abbrev whole_v9 (s : ByteArray) (y17 : kden Bool.false tI × kden Bool.false tI × PUnit) := (pAdd IntKind.i64 y17.1 (1 : Int), pSubI IntKind.i64 (pMul IntKind.i64 (10 : Int) y17.2.1) (pWrap IntKind.i64 (pSubI IntKind.u8 (pStrGet (pStrSub s (pNat (1 : Int)) (pStrLen s)) (pNat y17.1)) (48 : Int))), ())
abbrev whole_v10 (s : ByteArray) (y16 : kden Bool.false tI × kden Bool.false tI × PUnit) := (pAdd IntKind.i64 y16.1 (1 : Int), pSubI IntKind.i64 (pMul IntKind.i64 (10 : Int) y16.2.1) (pWrap IntKind.i64 (pSubI IntKind.u8 (pStrGet (pStrSub s (pNat (1 : Int)) (pStrLen s)) (pNat y16.1)) (48 : Int))), ())
abbrev whole_v11 (s : ByteArray) (y15 : kden Bool.false tI × kden Bool.false tI × PUnit) := (pAdd IntKind.i64 y15.1 (1 : Int), pSubI IntKind.i64 (pMul IntKind.i64 (10 : Int) y15.2.1) (pWrap IntKind.i64 (pSubI IntKind.u8 (pStrGet s (pNat y15.1)) (48 : Int))), ())
abbrev whole_v12 (s : ByteArray) (y14 : kden Bool.false tI × kden Bool.false tI × PUnit) := (pAdd IntKind.i64 y14.1 (1 : Int), pSubI IntKind.i64 (pMul IntKind.i64 (10 : Int) y14.2.1) (pWrap IntKind.i64 (pSubI IntKind.u8 (pStrGet s (pNat y14.1)) (48 : Int))), ())
abbrev whole_v13 (s : ByteArray) (y13 : kden Bool.false tI × kden Bool.false tI × PUnit) := (pAdd IntKind.i64 y13.1 (1 : Int), pSubI IntKind.i64 (pMul IntKind.i64 (10 : Int) y13.2.1) (pWrap IntKind.i64 (pSubI IntKind.u8 (pStrGet s (pNat y13.1)) (48 : Int))), ())
abbrev whole_v14 (s : ByteArray) (y12 : kden Bool.false tI × kden Bool.false tI × PUnit) := (pAdd IntKind.i64 y12.1 (1 : Int), pSubI IntKind.i64 (pMul IntKind.i64 (10 : Int) y12.2.1) (pWrap IntKind.i64 (pSubI IntKind.u8 (pStrGet s (pNat y12.1)) (48 : Int))), ())
abbrev whole_v15 (s : ByteArray) (y11 : kden Bool.false tI × kden Bool.false tI × PUnit) := (pAdd IntKind.i64 y11.1 (1 : Int), pSubI IntKind.i64 (pMul IntKind.i64 (10 : Int) y11.2.1) (pWrap IntKind.i64 (pSubI IntKind.u8 (pStrGet s (pNat y11.1)) (48 : Int))), ())
abbrev whole_v16 (s : ByteArray) (y10 : kden Bool.false tI × kden Bool.false tI × PUnit) := (pAdd IntKind.i64 y10.1 (1 : Int), pSubI IntKind.i64 (pMul IntKind.i64 (10 : Int) y10.2.1) (pWrap IntKind.i64 (pSubI IntKind.u8 (pStrGet s (pNat y10.1)) (48 : Int))), ())
abbrev whole_v17 (s : ByteArray) (y9 : kden Bool.false tI × kden Bool.false tI × PUnit) := (pAdd IntKind.i64 y9.1 (1 : Int), pSubI IntKind.i64 (pMul IntKind.i64 (10 : Int) y9.2.1) (pWrap IntKind.i64 (pSubI IntKind.u8 (pStrGet s (pNat y9.1)) (48 : Int))), ())
abbrev whole_v18 (s : ByteArray) (y8 : kden Bool.false tI × kden Bool.false tI × PUnit) := (pAdd IntKind.i64 y8.1 (1 : Int), pSubI IntKind.i64 (pMul IntKind.i64 (10 : Int) y8.2.1) (pWrap IntKind.i64 (pSubI IntKind.u8 (pStrGet s (pNat y8.1)) (48 : Int))), ())
abbrev whole_v19 (s : ByteArray) (y7 : kden Bool.false tI × kden Bool.false tI × PUnit) := (pAdd IntKind.i64 y7.1 (1 : Int), pSubI IntKind.i64 (pMul IntKind.i64 (10 : Int) y7.2.1) (pWrap IntKind.i64 (pSubI IntKind.u8 (pStrGet s (pNat y7.1)) (48 : Int))), ())
abbrev whole_v20 (s : ByteArray) (y6 : kden Bool.false tI × kden Bool.false tI × PUnit) := (pAdd IntKind.i64 y6.1 (1 : Int), pSubI IntKind.i64 (pMul IntKind.i64 (10 : Int) y6.2.1) (pWrap IntKind.i64 (pSubI IntKind.u8 (pStrGet s (pNat y6.1)) (48 : Int))), ())
abbrev whole_v21 (s : ByteArray) (y5 : kden Bool.false tI × kden Bool.false tI × PUnit) := (pAdd IntKind.i64 y5.1 (1 : Int), pSubI IntKind.i64 (pMul IntKind.i64 (10 : Int) y5.2.1) (pWrap IntKind.i64 (pSubI IntKind.u8 (pStrGet s (pNat y5.1)) (48 : Int))), ())
abbrev whole_v22 (s : ByteArray) (y4 : kden Bool.false tI × kden Bool.false tI × PUnit) := (pAdd IntKind.i64 y4.1 (1 : Int), pSubI IntKind.i64 (pMul IntKind.i64 (10 : Int) y4.2.1) (pWrap IntKind.i64 (pSubI IntKind.u8 (pStrGet s (pNat y4.1)) (48 : Int))), ())
abbrev whole_v23 (s : ByteArray) (y3 : kden Bool.false tI × kden Bool.false tI × PUnit) := (pAdd IntKind.i64 y3.1 (1 : Int), pSubI IntKind.i64 (pMul IntKind.i64 (10 : Int) y3.2.1) (pWrap IntKind.i64 (pSubI IntKind.u8 (pStrGet s (pNat y3.1)) (48 : Int))), ())
abbrev whole_v24 (s : ByteArray) (y2 : kden Bool.false tI × kden Bool.false tI × PUnit) := (pAdd IntKind.i64 y2.1 (1 : Int), pSubI IntKind.i64 (pMul IntKind.i64 (10 : Int) y2.2.1) (pWrap IntKind.i64 (pSubI IntKind.u8 (pStrGet s (pNat y2.1)) (48 : Int))), ())
abbrev whole_v25 (s : ByteArray) (y1 : kden Bool.false tI × kden Bool.false tI × PUnit) := (pAdd IntKind.i64 y1.1 (1 : Int), pSubI IntKind.i64 (pMul IntKind.i64 (10 : Int) y1.2.1) (pWrap IntKind.i64 (pSubI IntKind.u8 (pStrGet s (pNat y1.1)) (48 : Int))), ())
abbrev whole_v26 (s : ByteArray) (y0 : kden Bool.false tI × kden Bool.false tI × PUnit) := (pAdd IntKind.i64 y0.1 (1 : Int), pSubI IntKind.i64 (pMul IntKind.i64 (10 : Int) y0.2.1) (pWrap IntKind.i64 (pSubI IntKind.u8 (pStrGet s (pNat y0.1)) (48 : Int))), ())

def whole_VC (s : ByteArray) : Prop :=
  bif pGt (pInt (pStrLen s)) (0 : Int) then pIn (0 : Int) (pStrLen s) ∧ bif pEq (pStrGet s (pNat (0 : Int))) (45 : Int) then pTo (1 : Int) (pStrLen s) ∧ bif pEq (pInt (pStrLen (pStrSub s (pNat (1 : Int)) (pStrLen s)))) (0 : Int) then ((0 :
 Int), Bool.false, ()) = whole_v0 s else pIn (0 : Int) (pStrLen (pStrSub s (pNat (1 : Int)) (pStrLen s))) ∧ bif pEq (pStrGet (pStrSub s (pNat (1 : Int)) (pStrLen s)) (pNat (0 : Int))) (48 : Int) then bif pNot (pStrEq s (bs [48])) then ((0 :
 Int), Bool.false, ()) = whole_v0 s else bif pGt (pInt (pStrLen (pStrSub s (pNat (1 : Int)) (pStrLen s)))) (19 : Int) then ((0 : Int), Bool.false, ()) = whole_v0 s else bif pLt (pInt (pStrLen (pStrSub s (pNat (1 : Int)) (pStrLen s)))) (pInt
 (pStrLen s)) then bif whole_v1 s then bif pNot (pStrLe (pStrSub s (pNat (1 : Int)) (pStrLen s)) (bs [57, 50, 50, 51, 51, 55, 50, 48, 51, 54, 56, 53, 52, 55, 55, 53, 56, 48, 56])) then ((0 : Int), Bool.false, ()) = whole_v0 s else wholeInv s
 ((0 : Int), (0 : Int), ()) ∧ ∀ (y23 : kden Bool.false tI × kden Bool.false tI × PUnit), wholeInv s y23 → bif pLt y23.1 (pInt (pStrLen (pStrSub s (pNat (1 : Int)) (pStrLen s)))) then pIn y23.1 (pStrLen (pStrSub s (pNat (1 : Int)) (pStrLen
 s))) ∧ bif pNot (inF (pWrap IntKind.i64 (pStrGet (pStrSub s (pNat (1 : Int)) (pStrLen s)) (pNat y23.1))) (48 : Int) (57 : Int)) then ((0 : Int), Bool.false, ()) = whole_v0 s else pIn y23.1 (pStrLen (pStrSub s (pNat (1 : Int)) (pStrLen s)))
 ∧ wholeInv s (whole_v2 s y23) ∧ Nat.le (Nat.succ (wholeMu s (whole_v2 s y23))) (wholeMu s y23) else bif whole_v3 s then (pSubI IntKind.i64 (0 : Int) y23.2.1, Bool.true, ()) = whole_v0 s else (y23.2.1, Bool.true, ()) = whole_v0 s else
 wholeInv s ((0 : Int), (0 : Int), ()) ∧ ∀ (y22 : kden Bool.false tI × kden Bool.false tI × PUnit), wholeInv s y22 → bif pLt y22.1 (pInt (pStrLen (pStrSub s (pNat (1 : Int)) (pStrLen s)))) then pIn y22.1 (pStrLen (pStrSub s (pNat (1 : Int))
 (pStrLen s))) ∧ bif pNot (inF (pWrap IntKind.i64 (pStrGet (pStrSub s (pNat (1 : Int)) (pStrLen s)) (pNat y22.1))) (48 : Int) (57 : Int)) then ((0 : Int), Bool.false, ()) = whole_v0 s else pIn y22.1 (pStrLen (pStrSub s (pNat (1 : Int))
 (pStrLen s))) ∧ wholeInv s (whole_v4 s y22) ∧ Nat.le (Nat.succ (wholeMu s (whole_v4 s y22))) (wholeMu s y22) else bif whole_v3 s then (pSubI IntKind.i64 (0 : Int) y22.2.1, Bool.true, ()) = whole_v0 s else (y22.2.1, Bool.true, ()) = whole_v0
 s else bif whole_v1 s then bif pNot (pStrLe (pStrSub s (pNat (1 : Int)) (pStrLen s)) (bs [57, 50, 50, 51, 51, 55, 50, 48, 51, 54, 56, 53, 52, 55, 55, 53, 56, 48, 55])) then ((0 : Int), Bool.false, ()) = whole_v0 s else wholeInv s ((0 :
 Int), (0 : Int), ()) ∧ ∀ (y21 : kden Bool.false tI × kden Bool.false tI × PUnit), wholeInv s y21 → bif pLt y21.1 (pInt (pStrLen (pStrSub s (pNat (1 : Int)) (pStrLen s)))) then pIn y21.1 (pStrLen (pStrSub s (pNat (1 : Int)) (pStrLen s))) ∧
 bif pNot (inF (pWrap IntKind.i64 (pStrGet (pStrSub s (pNat (1 : Int)) (pStrLen s)) (pNat y21.1))) (48 : Int) (57 : Int)) then ((0 : Int), Bool.false, ()) = whole_v0 s else pIn y21.1 (pStrLen (pStrSub s (pNat (1 : Int)) (pStrLen s))) ∧
 wholeInv s (whole_v5 s y21) ∧ Nat.le (Nat.succ (wholeMu s (whole_v5 s y21))) (wholeMu s y21) else bif whole_v3 s then (pSubI IntKind.i64 (0 : Int) y21.2.1, Bool.true, ()) = whole_v0 s else (y21.2.1, Bool.true, ()) = whole_v0 s else wholeInv
 s ((0 : Int), (0 : Int), ()) ∧ ∀ (y20 : kden Bool.false tI × kden Bool.false tI × PUnit), wholeInv s y20 → bif pLt y20.1 (pInt (pStrLen (pStrSub s (pNat (1 : Int)) (pStrLen s)))) then pIn y20.1 (pStrLen (pStrSub s (pNat (1 : Int)) (pStrLen
 s))) ∧ bif pNot (inF (pWrap IntKind.i64 (pStrGet (pStrSub s (pNat (1 : Int)) (pStrLen s)) (pNat y20.1))) (48 : Int) (57 : Int)) then ((0 : Int), Bool.false, ()) = whole_v0 s else pIn y20.1 (pStrLen (pStrSub s (pNat (1 : Int)) (pStrLen s)))
 ∧ wholeInv s (whole_v6 s y20) ∧ Nat.le (Nat.succ (wholeMu s (whole_v6 s y20))) (wholeMu s y20) else bif whole_v3 s then (pSubI IntKind.i64 (0 : Int) y20.2.1, Bool.true, ()) = whole_v0 s else (y20.2.1, Bool.true, ()) = whole_v0 s else bif
 pGt (pInt (pStrLen (pStrSub s (pNat (1 : Int)) (pStrLen s)))) (19 : Int) then ((0 : Int), Bool.false, ()) = whole_v0 s else bif pLt (pInt (pStrLen (pStrSub s (pNat (1 : Int)) (pStrLen s)))) (pInt (pStrLen s)) then bif whole_v1 s then bif
 pNot (pStrLe (pStrSub s (pNat (1 : Int)) (pStrLen s)) (bs [57, 50, 50, 51, 51, 55, 50, 48, 51, 54, 56, 53, 52, 55, 55, 53, 56, 48, 56])) then ((0 : Int), Bool.false, ()) = whole_v0 s else wholeInv s ((0 : Int), (0 : Int), ()) ∧ ∀ (y19 :
 kden Bool.false tI × kden Bool.false tI × PUnit), wholeInv s y19 → bif pLt y19.1 (pInt (pStrLen (pStrSub s (pNat (1 : Int)) (pStrLen s)))) then pIn y19.1 (pStrLen (pStrSub s (pNat (1 : Int)) (pStrLen s))) ∧ bif pNot (inF (pWrap IntKind.i64
 (pStrGet (pStrSub s (pNat (1 : Int)) (pStrLen s)) (pNat y19.1))) (48 : Int) (57 : Int)) then ((0 : Int), Bool.false, ()) = whole_v0 s else pIn y19.1 (pStrLen (pStrSub s (pNat (1 : Int)) (pStrLen s))) ∧ wholeInv s (whole_v7 s y19) ∧ Nat.le
 (Nat.succ (wholeMu s (whole_v7 s y19))) (wholeMu s y19) else bif whole_v3 s then (pSubI IntKind.i64 (0 : Int) y19.2.1, Bool.true, ()) = whole_v0 s else (y19.2.1, Bool.true, ()) = whole_v0 s else wholeInv s ((0 : Int), (0 : Int), ()) ∧ ∀
 (y18 : kden Bool.false tI × kden Bool.false tI × PUnit), wholeInv s y18 → bif pLt y18.1 (pInt (pStrLen (pStrSub s (pNat (1 : Int)) (pStrLen s)))) then pIn y18.1 (pStrLen (pStrSub s (pNat (1 : Int)) (pStrLen s))) ∧ bif pNot (inF (pWrap
 IntKind.i64 (pStrGet (pStrSub s (pNat (1 : Int)) (pStrLen s)) (pNat y18.1))) (48 : Int) (57 : Int)) then ((0 : Int), Bool.false, ()) = whole_v0 s else pIn y18.1 (pStrLen (pStrSub s (pNat (1 : Int)) (pStrLen s))) ∧ wholeInv s (whole_v8 s
 y18) ∧ Nat.le (Nat.succ (wholeMu s (whole_v8 s y18))) (wholeMu s y18) else bif whole_v3 s then (pSubI IntKind.i64 (0 : Int) y18.2.1, Bool.true, ()) = whole_v0 s else (y18.2.1, Bool.true, ()) = whole_v0 s else bif whole_v1 s then bif pNot
 (pStrLe (pStrSub s (pNat (1 : Int)) (pStrLen s)) (bs [57, 50, 50, 51, 51, 55, 50, 48, 51, 54, 56, 53, 52, 55, 55, 53, 56, 48, 55])) then ((0 : Int), Bool.false, ()) = whole_v0 s else wholeInv s ((0 : Int), (0 : Int), ()) ∧ ∀ (y17 : kden
 Bool.false tI × kden Bool.false tI × PUnit), wholeInv s y17 → bif pLt y17.1 (pInt (pStrLen (pStrSub s (pNat (1 : Int)) (pStrLen s)))) then pIn y17.1 (pStrLen (pStrSub s (pNat (1 : Int)) (pStrLen s))) ∧ bif pNot (inF (pWrap IntKind.i64
 (pStrGet (pStrSub s (pNat (1 : Int)) (pStrLen s)) (pNat y17.1))) (48 : Int) (57 : Int)) then ((0 : Int), Bool.false, ()) = whole_v0 s else pIn y17.1 (pStrLen (pStrSub s (pNat (1 : Int)) (pStrLen s))) ∧ wholeInv s (whole_v9 s y17) ∧ Nat.le
 (Nat.succ (wholeMu s (whole_v9 s y17))) (wholeMu s y17) else bif whole_v3 s then (pSubI IntKind.i64 (0 : Int) y17.2.1, Bool.true, ()) = whole_v0 s else (y17.2.1, Bool.true, ()) = whole_v0 s else wholeInv s ((0 : Int), (0 : Int), ()) ∧ ∀
 (y16 : kden Bool.false tI × kden Bool.false tI × PUnit), wholeInv s y16 → bif pLt y16.1 (pInt (pStrLen (pStrSub s (pNat (1 : Int)) (pStrLen s)))) then pIn y16.1 (pStrLen (pStrSub s (pNat (1 : Int)) (pStrLen s))) ∧ bif pNot (inF (pWrap
 IntKind.i64 (pStrGet (pStrSub s (pNat (1 : Int)) (pStrLen s)) (pNat y16.1))) (48 : Int) (57 : Int)) then ((0 : Int), Bool.false, ()) = whole_v0 s else pIn y16.1 (pStrLen (pStrSub s (pNat (1 : Int)) (pStrLen s))) ∧ wholeInv s (whole_v10 s
 y16) ∧ Nat.le (Nat.succ (wholeMu s (whole_v10 s y16))) (wholeMu s y16) else bif whole_v3 s then (pSubI IntKind.i64 (0 : Int) y16.2.1, Bool.true, ()) = whole_v0 s else (y16.2.1, Bool.true, ()) = whole_v0 s else bif pEq (pInt (pStrLen s)) (0
 : Int) then ((0 : Int), Bool.false, ()) = whole_v0 s else pIn (0 : Int) (pStrLen s) ∧ bif pEq (pStrGet s (pNat (0 : Int))) (48 : Int) then bif pNot (pStrEq s (bs [48])) then ((0 : Int), Bool.false, ()) = whole_v0 s else bif pGt (pInt
 (pStrLen s)) (19 : Int) then ((0 : Int), Bool.false, ()) = whole_v0 s else bif pLt (pInt (pStrLen s)) (pInt (pStrLen s)) then bif pEq (pInt (pStrLen s)) (19 : Int) then bif pNot (pStrLe s (bs [57, 50, 50, 51, 51, 55, 50, 48, 51, 54, 56, 53,
 52, 55, 55, 53, 56, 48, 56])) then ((0 : Int), Bool.false, ()) = whole_v0 s else wholeInv s ((0 : Int), (0 : Int), ()) ∧ ∀ (y15 : kden Bool.false tI × kden Bool.false tI × PUnit), wholeInv s y15 → bif pLt y15.1 (pInt (pStrLen s)) then pIn
 y15.1 (pStrLen s) ∧ bif pNot (inF (pWrap IntKind.i64 (pStrGet s (pNat y15.1))) (48 : Int) (57 : Int)) then ((0 : Int), Bool.false, ()) = whole_v0 s else pIn y15.1 (pStrLen s) ∧ wholeInv s (whole_v11 s y15) ∧ Nat.le (Nat.succ (wholeMu s
 (whole_v11 s y15))) (wholeMu s y15) else bif pEq (pInt (pStrLen s)) (pInt (pStrLen s)) then (pSubI IntKind.i64 (0 : Int) y15.2.1, Bool.true, ()) = whole_v0 s else (y15.2.1, Bool.true, ()) = whole_v0 s else wholeInv s ((0 : Int), (0 : Int),
 ()) ∧ ∀ (y14 : kden Bool.false tI × kden Bool.false tI × PUnit), wholeInv s y14 → bif pLt y14.1 (pInt (pStrLen s)) then pIn y14.1 (pStrLen s) ∧ bif pNot (inF (pWrap IntKind.i64 (pStrGet s (pNat y14.1))) (48 : Int) (57 : Int)) then ((0 :
 Int), Bool.false, ()) = whole_v0 s else pIn y14.1 (pStrLen s) ∧ wholeInv s (whole_v12 s y14) ∧ Nat.le (Nat.succ (wholeMu s (whole_v12 s y14))) (wholeMu s y14) else bif pEq (pInt (pStrLen s)) (pInt (pStrLen s)) then (pSubI IntKind.i64 (0 :
 Int) y14.2.1, Bool.true, ()) = whole_v0 s else (y14.2.1, Bool.true, ()) = whole_v0 s else bif pEq (pInt (pStrLen s)) (19 : Int) then bif pNot (pStrLe s (bs [57, 50, 50, 51, 51, 55, 50, 48, 51, 54, 56, 53, 52, 55, 55, 53, 56, 48, 55])) then
 ((0 : Int), Bool.false, ()) = whole_v0 s else wholeInv s ((0 : Int), (0 : Int), ()) ∧ ∀ (y13 : kden Bool.false tI × kden Bool.false tI × PUnit), wholeInv s y13 → bif pLt y13.1 (pInt (pStrLen s)) then pIn y13.1 (pStrLen s) ∧ bif pNot (inF
 (pWrap IntKind.i64 (pStrGet s (pNat y13.1))) (48 : Int) (57 : Int)) then ((0 : Int), Bool.false, ()) = whole_v0 s else pIn y13.1 (pStrLen s) ∧ wholeInv s (whole_v13 s y13) ∧ Nat.le (Nat.succ (wholeMu s (whole_v13 s y13))) (wholeMu s y13)
 else bif pEq (pInt (pStrLen s)) (pInt (pStrLen s)) then (pSubI IntKind.i64 (0 : Int) y13.2.1, Bool.true, ()) = whole_v0 s else (y13.2.1, Bool.true, ()) = whole_v0 s else wholeInv s ((0 : Int), (0 : Int), ()) ∧ ∀ (y12 : kden Bool.false tI ×
 kden Bool.false tI × PUnit), wholeInv s y12 → bif pLt y12.1 (pInt (pStrLen s)) then pIn y12.1 (pStrLen s) ∧ bif pNot (inF (pWrap IntKind.i64 (pStrGet s (pNat y12.1))) (48 : Int) (57 : Int)) then ((0 : Int), Bool.false, ()) = whole_v0 s else
 pIn y12.1 (pStrLen s) ∧ wholeInv s (whole_v14 s y12) ∧ Nat.le (Nat.succ (wholeMu s (whole_v14 s y12))) (wholeMu s y12) else bif pEq (pInt (pStrLen s)) (pInt (pStrLen s)) then (pSubI IntKind.i64 (0 : Int) y12.2.1, Bool.true, ()) = whole_v0 s
 else (y12.2.1, Bool.true, ()) = whole_v0 s else bif pGt (pInt (pStrLen s)) (19 : Int) then ((0 : Int), Bool.false, ()) = whole_v0 s else bif pLt (pInt (pStrLen s)) (pInt (pStrLen s)) then bif pEq (pInt (pStrLen s)) (19 : Int) then bif pNot
 (pStrLe s (bs [57, 50, 50, 51, 51, 55, 50, 48, 51, 54, 56, 53, 52, 55, 55, 53, 56, 48, 56])) then ((0 : Int), Bool.false, ()) = whole_v0 s else wholeInv s ((0 : Int), (0 : Int), ()) ∧ ∀ (y11 : kden Bool.false tI × kden Bool.false tI ×
 PUnit), wholeInv s y11 → bif pLt y11.1 (pInt (pStrLen s)) then pIn y11.1 (pStrLen s) ∧ bif pNot (inF (pWrap IntKind.i64 (pStrGet s (pNat y11.1))) (48 : Int) (57 : Int)) then ((0 : Int), Bool.false, ()) = whole_v0 s else pIn y11.1 (pStrLen
 s) ∧ wholeInv s (whole_v15 s y11) ∧ Nat.le (Nat.succ (wholeMu s (whole_v15 s y11))) (wholeMu s y11) else bif pEq (pInt (pStrLen s)) (pInt (pStrLen s)) then (pSubI IntKind.i64 (0 : Int) y11.2.1, Bool.true, ()) = whole_v0 s else (y11.2.1,
 Bool.true, ()) = whole_v0 s else wholeInv s ((0 : Int), (0 : Int), ()) ∧ ∀ (y10 : kden Bool.false tI × kden Bool.false tI × PUnit), wholeInv s y10 → bif pLt y10.1 (pInt (pStrLen s)) then pIn y10.1 (pStrLen s) ∧ bif pNot (inF (pWrap
 IntKind.i64 (pStrGet s (pNat y10.1))) (48 : Int) (57 : Int)) then ((0 : Int), Bool.false, ()) = whole_v0 s else pIn y10.1 (pStrLen s) ∧ wholeInv s (whole_v16 s y10) ∧ Nat.le (Nat.succ (wholeMu s (whole_v16 s y10))) (wholeMu s y10) else bif
 pEq (pInt (pStrLen s)) (pInt (pStrLen s)) then (pSubI IntKind.i64 (0 : Int) y10.2.1, Bool.true, ()) = whole_v0 s else (y10.2.1, Bool.true, ()) = whole_v0 s else bif pEq (pInt (pStrLen s)) (19 : Int) then bif pNot (pStrLe s (bs [57, 50, 50,
 51, 51, 55, 50, 48, 51, 54, 56, 53, 52, 55, 55, 53, 56, 48, 55])) then ((0 : Int), Bool.false, ()) = whole_v0 s else wholeInv s ((0 : Int), (0 : Int), ()) ∧ ∀ (y9 : kden Bool.false tI × kden Bool.false tI × PUnit), wholeInv s y9 → bif pLt
 y9.1 (pInt (pStrLen s)) then pIn y9.1 (pStrLen s) ∧ bif pNot (inF (pWrap IntKind.i64 (pStrGet s (pNat y9.1))) (48 : Int) (57 : Int)) then ((0 : Int), Bool.false, ()) = whole_v0 s else pIn y9.1 (pStrLen s) ∧ wholeInv s (whole_v17 s y9) ∧
 Nat.le (Nat.succ (wholeMu s (whole_v17 s y9))) (wholeMu s y9) else bif pEq (pInt (pStrLen s)) (pInt (pStrLen s)) then (pSubI IntKind.i64 (0 : Int) y9.2.1, Bool.true, ()) = whole_v0 s else (y9.2.1, Bool.true, ()) = whole_v0 s else wholeInv s
 ((0 : Int), (0 : Int), ()) ∧ ∀ (y8 : kden Bool.false tI × kden Bool.false tI × PUnit), wholeInv s y8 → bif pLt y8.1 (pInt (pStrLen s)) then pIn y8.1 (pStrLen s) ∧ bif pNot (inF (pWrap IntKind.i64 (pStrGet s (pNat y8.1))) (48 : Int) (57 :
 Int)) then ((0 : Int), Bool.false, ()) = whole_v0 s else pIn y8.1 (pStrLen s) ∧ wholeInv s (whole_v18 s y8) ∧ Nat.le (Nat.succ (wholeMu s (whole_v18 s y8))) (wholeMu s y8) else bif pEq (pInt (pStrLen s)) (pInt (pStrLen s)) then (pSubI
 IntKind.i64 (0 : Int) y8.2.1, Bool.true, ()) = whole_v0 s else (y8.2.1, Bool.true, ()) = whole_v0 s else bif pEq (pInt (pStrLen s)) (0 : Int) then ((0 : Int), Bool.false, ()) = whole_v0 s else pIn (0 : Int) (pStrLen s) ∧ bif pEq (pStrGet s
 (pNat (0 : Int))) (48 : Int) then bif pNot (pStrEq s (bs [48])) then ((0 : Int), Bool.false, ()) = whole_v0 s else bif pGt (pInt (pStrLen s)) (19 : Int) then ((0 : Int), Bool.false, ()) = whole_v0 s else bif pLt (pInt (pStrLen s)) (pInt
 (pStrLen s)) then bif pEq (pInt (pStrLen s)) (19 : Int) then bif pNot (pStrLe s (bs [57, 50, 50, 51, 51, 55, 50, 48, 51, 54, 56, 53, 52, 55, 55, 53, 56, 48, 56])) then ((0 : Int), Bool.false, ()) = whole_v0 s else wholeInv s ((0 : Int), (0
 : Int), ()) ∧ ∀ (y7 : kden Bool.false tI × kden Bool.false tI × PUnit), wholeInv s y7 → bif pLt y7.1 (pInt (pStrLen s)) then pIn y7.1 (pStrLen s) ∧ bif pNot (inF (pWrap IntKind.i64 (pStrGet s (pNat y7.1))) (48 : Int) (57 : Int)) then ((0 :
 Int), Bool.false, ()) = whole_v0 s else pIn y7.1 (pStrLen s) ∧ wholeInv s (whole_v19 s y7) ∧ Nat.le (Nat.succ (wholeMu s (whole_v19 s y7))) (wholeMu s y7) else bif pEq (pInt (pStrLen s)) (pInt (pStrLen s)) then (pSubI IntKind.i64 (0 : Int)
 y7.2.1, Bool.true, ()) = whole_v0 s else (y7.2.1, Bool.true, ()) = whole_v0 s else wholeInv s ((0 : Int), (0 : Int), ()) ∧ ∀ (y6 : kden Bool.false tI × kden Bool.false tI × PUnit), wholeInv s y6 → bif pLt y6.1 (pInt (pStrLen s)) then pIn
 y6.1 (pStrLen s) ∧ bif pNot (inF (pWrap IntKind.i64 (pStrGet s (pNat y6.1))) (48 : Int) (57 : Int)) then ((0 : Int), Bool.false, ()) = whole_v0 s else pIn y6.1 (pStrLen s) ∧ wholeInv s (whole_v20 s y6) ∧ Nat.le (Nat.succ (wholeMu s
 (whole_v20 s y6))) (wholeMu s y6) else bif pEq (pInt (pStrLen s)) (pInt (pStrLen s)) then (pSubI IntKind.i64 (0 : Int) y6.2.1, Bool.true, ()) = whole_v0 s else (y6.2.1, Bool.true, ()) = whole_v0 s else bif pEq (pInt (pStrLen s)) (19 : Int)
 then bif pNot (pStrLe s (bs [57, 50, 50, 51, 51, 55, 50, 48, 51, 54, 56, 53, 52, 55, 55, 53, 56, 48, 55])) then ((0 : Int), Bool.false, ()) = whole_v0 s else wholeInv s ((0 : Int), (0 : Int), ()) ∧ ∀ (y5 : kden Bool.false tI × kden
 Bool.false tI × PUnit), wholeInv s y5 → bif pLt y5.1 (pInt (pStrLen s)) then pIn y5.1 (pStrLen s) ∧ bif pNot (inF (pWrap IntKind.i64 (pStrGet s (pNat y5.1))) (48 : Int) (57 : Int)) then ((0 : Int), Bool.false, ()) = whole_v0 s else pIn y5.1
 (pStrLen s) ∧ wholeInv s (whole_v21 s y5) ∧ Nat.le (Nat.succ (wholeMu s (whole_v21 s y5))) (wholeMu s y5) else bif pEq (pInt (pStrLen s)) (pInt (pStrLen s)) then (pSubI IntKind.i64 (0 : Int) y5.2.1, Bool.true, ()) = whole_v0 s else (y5.2.1,
 Bool.true, ()) = whole_v0 s else wholeInv s ((0 : Int), (0 : Int), ()) ∧ ∀ (y4 : kden Bool.false tI × kden Bool.false tI × PUnit), wholeInv s y4 → bif pLt y4.1 (pInt (pStrLen s)) then pIn y4.1 (pStrLen s) ∧ bif pNot (inF (pWrap IntKind.i64
 (pStrGet s (pNat y4.1))) (48 : Int) (57 : Int)) then ((0 : Int), Bool.false, ()) = whole_v0 s else pIn y4.1 (pStrLen s) ∧ wholeInv s (whole_v22 s y4) ∧ Nat.le (Nat.succ (wholeMu s (whole_v22 s y4))) (wholeMu s y4) else bif pEq (pInt
 (pStrLen s)) (pInt (pStrLen s)) then (pSubI IntKind.i64 (0 : Int) y4.2.1, Bool.true, ()) = whole_v0 s else (y4.2.1, Bool.true, ()) = whole_v0 s else bif pGt (pInt (pStrLen s)) (19 : Int) then ((0 : Int), Bool.false, ()) = whole_v0 s else
 bif pLt (pInt (pStrLen s)) (pInt (pStrLen s)) then bif pEq (pInt (pStrLen s)) (19 : Int) then bif pNot (pStrLe s (bs [57, 50, 50, 51, 51, 55, 50, 48, 51, 54, 56, 53, 52, 55, 55, 53, 56, 48, 56])) then ((0 : Int), Bool.false, ()) = whole_v0
 s else wholeInv s ((0 : Int), (0 : Int), ()) ∧ ∀ (y3 : kden Bool.false tI × kden Bool.false tI × PUnit), wholeInv s y3 → bif pLt y3.1 (pInt (pStrLen s)) then pIn y3.1 (pStrLen s) ∧ bif pNot (inF (pWrap IntKind.i64 (pStrGet s (pNat y3.1)))
 (48 : Int) (57 : Int)) then ((0 : Int), Bool.false, ()) = whole_v0 s else pIn y3.1 (pStrLen s) ∧ wholeInv s (whole_v23 s y3) ∧ Nat.le (Nat.succ (wholeMu s (whole_v23 s y3))) (wholeMu s y3) else bif pEq (pInt (pStrLen s)) (pInt (pStrLen s))
 then (pSubI IntKind.i64 (0 : Int) y3.2.1, Bool.true, ()) = whole_v0 s else (y3.2.1, Bool.true, ()) = whole_v0 s else wholeInv s ((0 : Int), (0 : Int), ()) ∧ ∀ (y2 : kden Bool.false tI × kden Bool.false tI × PUnit), wholeInv s y2 → bif pLt
 y2.1 (pInt (pStrLen s)) then pIn y2.1 (pStrLen s) ∧ bif pNot (inF (pWrap IntKind.i64 (pStrGet s (pNat y2.1))) (48 : Int) (57 : Int)) then ((0 : Int), Bool.false, ()) = whole_v0 s else pIn y2.1 (pStrLen s) ∧ wholeInv s (whole_v24 s y2) ∧
 Nat.le (Nat.succ (wholeMu s (whole_v24 s y2))) (wholeMu s y2) else bif pEq (pInt (pStrLen s)) (pInt (pStrLen s)) then (pSubI IntKind.i64 (0 : Int) y2.2.1, Bool.true, ()) = whole_v0 s else (y2.2.1, Bool.true, ()) = whole_v0 s else bif pEq
 (pInt (pStrLen s)) (19 : Int) then bif pNot (pStrLe s (bs [57, 50, 50, 51, 51, 55, 50, 48, 51, 54, 56, 53, 52, 55, 55, 53, 56, 48, 55])) then ((0 : Int), Bool.false, ()) = whole_v0 s else wholeInv s ((0 : Int), (0 : Int), ()) ∧ ∀ (y1 : kden
 Bool.false tI × kden Bool.false tI × PUnit), wholeInv s y1 → bif pLt y1.1 (pInt (pStrLen s)) then pIn y1.1 (pStrLen s) ∧ bif pNot (inF (pWrap IntKind.i64 (pStrGet s (pNat y1.1))) (48 : Int) (57 : Int)) then ((0 : Int), Bool.false, ()) =
 whole_v0 s else pIn y1.1 (pStrLen s) ∧ wholeInv s (whole_v25 s y1) ∧ Nat.le (Nat.succ (wholeMu s (whole_v25 s y1))) (wholeMu s y1) else bif pEq (pInt (pStrLen s)) (pInt (pStrLen s)) then (pSubI IntKind.i64 (0 : Int) y1.2.1, Bool.true, ()) =
 whole_v0 s else (y1.2.1, Bool.true, ()) = whole_v0 s else wholeInv s ((0 : Int), (0 : Int), ()) ∧ ∀ (y0 : kden Bool.false tI × kden Bool.false tI × PUnit), wholeInv s y0 → bif pLt y0.1 (pInt (pStrLen s)) then pIn y0.1 (pStrLen s) ∧ bif pNot
 (inF (pWrap IntKind.i64 (pStrGet s (pNat y0.1))) (48 : Int) (57 : Int)) then ((0 : Int), Bool.false, ()) = whole_v0 s else pIn y0.1 (pStrLen s) ∧ wholeInv s (whole_v26 s y0) ∧ Nat.le (Nat.succ (wholeMu s (whole_v26 s y0))) (wholeMu s y0)
 else bif pEq (pInt (pStrLen s)) (pInt (pStrLen s)) then (pSubI IntKind.i64 (0 : Int) y0.2.1, Bool.true, ()) = whole_v0 s else (y0.2.1, Bool.true, ()) = whole_v0 s
set_option maxRecDepth 100000 in
theorem whole_meets (hIn : Mt 55 cIn) (h : ∀ (s : ByteArray), (∀ p ∈ undotted_p ⟨(s, ()), ()⟩, p) → whole_VC s) : Mt 97 cwhole :=
  meets_vc (E := envOf Tryd.prog [(55, (false, cIn))] eqsLrV) (envOf_ok (fun p hp => (by simp only [List.mem_cons, List.not_mem_nil, or_false] at hp; rcases hp with rfl; exact hIn)) (by kernel_rfl)) undotted_S (fun x => fun ky9 st9 => look [(13, (⟨[.slot 7 false tI, .slot 6 false tI], wholeInv x.1.1, wholeMu x.1.1⟩ : Ann))] ky9) Tryd.func97 (by kernel_rfl) (by kernel_rfl) undotted_p [] [.slot 0 false tI, .slot 1 false .bool] whole_f (fun x => whole_VC x.1.1) (fun x => by kernel_rfl) (fun x hp => h x.1.1 hp)

abbrev wholes_v0 (l : List SD) (y0 : kden Bool.false tI × kden Bool.true tyN × PUnit) := (bif numOk (pGet tyS l (pNat y0.1)).1 then pAtoiN (pGet tyS l (pNat y0.1)).1 else (0 : Int), ()) :: vnil (Int × PUnit)

def wholes_VC (l : (List SD)) : Prop :=
  wholesInv l ((0 : Int), vnil (Int × PUnit), ()) ∧ ∀ (y0 : kden Bool.false tI × kden Bool.true tyN × PUnit), wholesInv l y0 → bif pLt y0.1 (pInt (pLen l)) then pIn y0.1 (pLen l) ∧ pShort (pGet tyS l (pNat y0.1)).1 ∧ bif pNot (numOk (pGet tyS
 l (pNat y0.1)).1) then (vnil (Int × PUnit), Bool.false, ()) = (wholL l, wholB l, ()) else pRoom (pPlus (pLen y0.2.1) (pLen (wholes_v0 l y0))) 8 ∧ wholesInv l (pAdd IntKind.i64 y0.1 (1 : Int), pApp y0.2.1 (wholes_v0 l y0), ()) ∧ Nat.le
 (Nat.succ (wholesMu l (pAdd IntKind.i64 y0.1 (1 : Int), pApp y0.2.1 (wholes_v0 l y0), ()))) (wholesMu l y0) else (y0.2.1, Bool.true, ()) = (wholL l, wholB l, ())
set_option maxRecDepth 100000 in
theorem wholes_meets (hwhole : Mt 97 cwhole) (h : ∀ (l : (List SD)), (∀ p ∈ wholes_p ⟨(l, ()), ()⟩, p) → wholes_VC l) : Mt 77 cwholes :=
  meets_vc (E := envOf Tryd.prog [(97, (false, cwhole))] eqsLrV) (envOf_ok (fun p hp => (by simp only [List.mem_cons, List.not_mem_nil, or_false] at hp; rcases hp with rfl; exact hwhole)) (by kernel_rfl)) wholes_S (fun x => fun ky9 st9 => look [(3, (⟨[.slot 5 false tI, .slot 4 true tyN], wholesInv x.1.1, wholesMu x.1.1⟩ : Ann))] ky9) Tryd.func77 (by kernel_rfl) (by kernel_rfl) wholes_p [] [.slot 0 true tyN, .slot 1 false .bool] wholes_f (fun x => wholes_VC x.1.1) (fun x => by kernel_rfl) (fun x hp => h x.1.1 hp)

abbrev callOf_t0 (l : List SD) : Prop := (((0 : Int), (0 : Int), (0 : Int), (0 : Int), (0 : Int), ()), Bool.false, ()) = (callC l, callB l, ())
abbrev callOf_v1 (l : List SD) := (pGet tyN (wholL (pSub l (pNat (1 : Int)) (pLen l))) (pNat (0 : Int))).1

def callOf_VC (l : (List SD)) : Prop :=
  bif pEq (pInt (pLen l)) (0 : Int) then callOf_t0 l else pTo (1 : Int) (pLen l) ∧ pFewW (pSub l (pNat (1 : Int)) (pLen l)) ∧ bif pNot (wholB (pSub l (pNat (1 : Int)) (pLen l))) then callOf_t0 l else pIn (0 : Int) (pLen l) ∧ bif pStrEq (pGet
 tyS l (pNat (0 : Int))).1 (bs [98, 101, 103, 105, 110]) then (((1 : Int), (0 : Int), (0 : Int), (0 : Int), (0 : Int), ()), pEq (pInt (pLen (wholL (pSub l (pNat (1 : Int)) (pLen l))))) (0 : Int), ()) = (callC l, callB l, ()) else bif pStrEq
 (pGet tyS l (pNat (0 : Int))).1 (bs [103, 101, 116]) then bif pEq (pInt (pLen (wholL (pSub l (pNat (1 : Int)) (pLen l))))) (3 : Int) then pIn (0 : Int) (pLen (wholL (pSub l (pNat (1 : Int)) (pLen l)))) ∧ pIn (1 : Int) (pLen (wholL (pSub l
 (pNat (1 : Int)) (pLen l)))) ∧ pIn (2 : Int) (pLen (wholL (pSub l (pNat (1 : Int)) (pLen l)))) ∧ (((2 : Int), callOf_v1 l, (pGet tyN (wholL (pSub l (pNat (1 : Int)) (pLen l))) (pNat (1 : Int))).1, (pGet tyN (wholL (pSub l (pNat (1 : Int))
 (pLen l))) (pNat (2 : Int))).1, (0 : Int), ()), Bool.true, ()) = (callC l, callB l, ()) else callOf_t0 l else bif pStrEq (pGet tyS l (pNat (0 : Int))).1 (bs [112, 117, 116]) then bif pEq (pInt (pLen (wholL (pSub l (pNat (1 : Int)) (pLen
 l))))) (3 : Int) then pIn (0 : Int) (pLen (wholL (pSub l (pNat (1 : Int)) (pLen l)))) ∧ pIn (1 : Int) (pLen (wholL (pSub l (pNat (1 : Int)) (pLen l)))) ∧ pIn (2 : Int) (pLen (wholL (pSub l (pNat (1 : Int)) (pLen l)))) ∧ (((3 : Int),
 callOf_v1 l, (0 : Int), (pGet tyN (wholL (pSub l (pNat (1 : Int)) (pLen l))) (pNat (1 : Int))).1, pGet tyN (wholL (pSub l (pNat (1 : Int)) (pLen l))) (pNat (2 : Int))), Bool.true, ()) = (callC l, callB l, ()) else callOf_t0 l else bif
 pStrEq (pGet tyS l (pNat (0 : Int))).1 (bs [99, 111, 109, 109, 105, 116]) then bif pEq (pInt (pLen (wholL (pSub l (pNat (1 : Int)) (pLen l))))) (1 : Int) then pIn (0 : Int) (pLen (wholL (pSub l (pNat (1 : Int)) (pLen l)))) ∧ (((4 : Int),
 callOf_v1 l, (0 : Int), (0 : Int), (0 : Int), ()), Bool.true, ()) = (callC l, callB l, ()) else callOf_t0 l else bif pStrEq (pGet tyS l (pNat (0 : Int))).1 (bs [114, 111, 108, 108, 98, 97, 99, 107]) then bif pEq (pInt (pLen (wholL (pSub l
 (pNat (1 : Int)) (pLen l))))) (1 : Int) then pIn (0 : Int) (pLen (wholL (pSub l (pNat (1 : Int)) (pLen l)))) ∧ (((5 : Int), callOf_v1 l, (0 : Int), (0 : Int), (0 : Int), ()), Bool.true, ()) = (callC l, callB l, ()) else callOf_t0 l else
 callOf_t0 l
set_option maxRecDepth 100000 in
theorem callOf_meets (hwholesF : Mt 77 cwholesF) (h : ∀ (l : (List SD)), (∀ p ∈ wholes_p ⟨(l, ()), ()⟩, p) → callOf_VC l) : Mt 78 ccallOf :=
  meets_vc (E := envOf Tryd.prog [(77, (false, cwholesF))] eqsLrV) (envOf_ok (fun p hp => (by simp only [List.mem_cons, List.not_mem_nil, or_false] at hp; rcases hp with rfl; exact hwholesF)) (by kernel_rfl)) wholes_S (fun x => fun ky9 st9 => look [] ky9) Tryd.func78 (by kernel_rfl) (by kernel_rfl) wholes_p [] [.agg 0 vCall, .slot 1 false .bool] callOf_f (fun x => callOf_VC x.1.1) (fun x => by kernel_rfl) (fun x hp => h x.1.1 hp)

abbrev partsOf_v0 (s : ByteArray) (y0 : kden Bool.false tI × kden Bool.false tI × kden Bool.true tyS × PUnit) := (pAdd IntKind.i64 y0.1 (1 : Int), pAdd IntKind.i64 y0.1 (1 : Int), pApp y0.2.2.1 ((pStrSub s (pNat y0.2.1) (pNat y0.1), ()) :: vnil (ByteArray × PUnit)), ())
abbrev partsOf_t1 (s : ByteArray) (y0 : kden Bool.false tI × kden Bool.false tI × kden Bool.true tyS × PUnit) : Prop := pTo y0.1 (pStrLen s) ∧ pTo y0.2.1 (pNat y0.1) ∧ pRoom (pPlus (pLen y0.2.2.1) (pLen ((pStrSub s (pNat y0.2.1) (pNat y0.1), ()) :: vnil (ByteArray × PUnit)))) 16 ∧ partsInv s (partsOf_v0 s y0) ∧ Nat.le (Nat.succ (partsMu s (partsOf_v0 s y0)))
 (partsMu s y0)

def partsOf_VC (s : ByteArray) : Prop :=
  partsInv s ((0 : Int), (0 : Int), vnil (ByteArray × PUnit), ()) ∧ ∀ (y0 : kden Bool.false tI × kden Bool.false tI × kden Bool.true tyS × PUnit), partsInv s y0 → bif pLe y0.1 (pInt (pStrLen s)) then bif pEq y0.1 (pInt (pStrLen s)) then
 partsOf_t1 s y0 else pIn y0.1 (pStrLen s) ∧ bif pEq (pStrGet s (pNat y0.1)) (32 : Int) then partsOf_t1 s y0 else partsInv s (pAdd IntKind.i64 y0.1 (1 : Int), y0.2) ∧ Nat.le (Nat.succ (partsMu s (pAdd IntKind.i64 y0.1 (1 : Int), y0.2)))
 (partsMu s y0) else y0.2.2 = (pSplit s (bs (32 :: vnil Nat)), ())
set_option maxRecDepth 100000 in
theorem partsOf_meets  (h : ∀ (s : ByteArray), (∀ p ∈ undotted_p ⟨(s, ()), ()⟩, p) → partsOf_VC s) : Mt 43 cpartsOf :=
  meets_vc (E := envOf Tryd.prog [] eqsLrV) (envOf_ok (fun p hp => by cases hp) (by kernel_rfl)) undotted_S (fun x => fun ky9 st9 => look [(4, (⟨[.slot 5 false tI, .slot 4 false tI, .slot 3 true tyS], partsInv x.1.1, partsMu x.1.1⟩ : Ann))] ky9) Tryd.func43 (by kernel_rfl) (by kernel_rfl) undotted_p [] [.slot 0 true tyS] partsOf_f (fun x => partsOf_VC x.1.1) (fun x => by kernel_rfl) (fun x hp => h x.1.1 hp)

abbrev lineAct_v0 (s : ByteArray) := (pGet tyS (pSplit s (bs (32 :: vnil Nat))) (pNat (0 : Int))).1
abbrev lineAct_v1 := ((0 : Int), (0 : Int), (0 : Int), vnil (Int × PUnit), (0 : Int), (0 : Int), (0 : Int), (0 : Int), (0 : Int), (bs []), ())
abbrev lineAct_t2 (s : ByteArray) : Prop := (((0 : Int), (0 : Int), lineAct_v1), Bool.false, ()) = (linA s, linB s, ())
abbrev lineAct_v3 (s : ByteArray) := pSub (pSplit s (bs (32 :: vnil Nat))) (pNat (1 : Int)) (pNat (3 : Int))
abbrev lineAct_v4 (s : ByteArray) := pSub (pSplit s (bs (32 :: vnil Nat))) (pNat (3 : Int)) (pLen (pSplit s (bs (32 :: vnil Nat))))
abbrev lineAct_v5 (s : ByteArray) := (pGet tyS (pSplit s (bs (32 :: vnil Nat))) (pNat (3 : Int))).1
abbrev lineAct_v6 (s : ByteArray) := ((8 : Int), (pGet tyN (wholL (lineAct_v3 s)) (pNat (0 : Int))).1, (0 : Int), (pGet tyN (wholL (lineAct_v3 s)) (pNat (1 : Int))).1, (0 : Int), vnil (Int × PUnit), (0 : Int), (0 : Int), (0 : Int), (0 : Int), (0 : Int), txtS (lineAct_v5 s),
 ())
abbrev lineAct_v7 (s : ByteArray) := bif pLt (pInt (pLen (pSplit s (bs (32 :: vnil Nat))))) (4 : Int) then lineAct_t2 s else pTo (3 : Int) (pLen (pSplit s (bs (32 :: vnil Nat)))) ∧ pTo (1 : Int) (pNat (3 : Int)) ∧ pFewW (lineAct_v3 s) ∧ bif pNot (wholB (lineAct_v3 s)) then
 lineAct_t2 s else pIn (0 : Int) (pLen (pSplit s (bs (32 :: vnil Nat)))) ∧ bif pStrEq (lineAct_v0 s) (bs [97, 115, 107]) then pTo (3 : Int) (pLen (pSplit s (bs (32 :: vnil Nat)))) ∧ pFewW (lineAct_v4 s) ∧ pIn (0 : Int) (pLen (wholL
 (lineAct_v3 s))) ∧ pIn (1 : Int) (pLen (wholL (lineAct_v3 s))) ∧ (((1 : Int), (pGet tyN (wholL (lineAct_v3 s)) (pNat (0 : Int))).1, (0 : Int), (pGet tyN (wholL (lineAct_v3 s)) (pNat (1 : Int))).1, (0 : Int), vnil (Int × PUnit), (callC
 (lineAct_v4 s)).1, (callC (lineAct_v4 s)).2.1, (callC (lineAct_v4 s)).2.2.1, (callC (lineAct_v4 s)).2.2.2.1, (callC (lineAct_v4 s)).2.2.2.2.1, (bs []), ()), callB (lineAct_v4 s), ()) = (linA s, linB s, ()) else pIn (3 : Int) (pLen (pSplit s
 (bs (32 :: vnil Nat)))) ∧ pShort (lineAct_v5 s) ∧ pIn (0 : Int) (pLen (wholL (lineAct_v3 s))) ∧ pIn (1 : Int) (pLen (wholL (lineAct_v3 s))) ∧ bif txtB (lineAct_v5 s) then (lineAct_v6 s, pEq (pInt (pLen (pSplit s (bs (32 :: vnil Nat))))) (4
 : Int), ()) = (linA s, linB s, ()) else (lineAct_v6 s, Bool.false, ()) = (linA s, linB s, ())
abbrev lineAct_v8 (s : ByteArray) := pSub (pSplit s (bs (32 :: vnil Nat))) (pNat (1 : Int)) (pLen (pSplit s (bs (32 :: vnil Nat))))
abbrev lineAct_v9 (s : ByteArray) := (pGet tyN (wholL (lineAct_v8 s)) (pNat (0 : Int))).1
abbrev lineAct_v10 (s : ByteArray) := (lineAct_v9 s, (pGet tyN (wholL (lineAct_v8 s)) (pNat (1 : Int))).1, (pGet tyN (wholL (lineAct_v8 s)) (pNat (2 : Int))).1, (pGet tyN (wholL (lineAct_v8 s)) (pNat (3 : Int))).1, vnil (Int × PUnit), (0 : Int), (0 : Int), (0 : Int), (0 : Int),
 (0 : Int), (bs []), ())
abbrev lineAct_t11 (s : ByteArray) : Prop := pIn (0 : Int) (pLen (wholL (lineAct_v8 s))) ∧ pIn (1 : Int) (pLen (wholL (lineAct_v8 s))) ∧ pIn (2 : Int) (pLen (wholL (lineAct_v8 s))) ∧ pIn (3 : Int) (pLen (wholL (lineAct_v8 s))) ∧ (((4 : Int), lineAct_v10 s), Bool.true, ()) = (linA s,
 linB s, ())
abbrev lineAct_v12 (s : ByteArray) := bif pEq (pInt (pLen (wholL (lineAct_v8 s)))) (4 : Int) then pIn (0 : Int) (pLen (pSplit s (bs (32 :: vnil Nat)))) ∧ bif pStrEq (lineAct_v0 s) (bs [100, 114, 111, 112]) then pIn (0 : Int) (pLen (pSplit s (bs (32 :: vnil Nat)))) ∧ bif pStrEq
 (lineAct_v0 s) (bs [99, 111, 112, 121]) then lineAct_t11 s else pIn (0 : Int) (pLen (wholL (lineAct_v8 s))) ∧ pIn (1 : Int) (pLen (wholL (lineAct_v8 s))) ∧ pIn (2 : Int) (pLen (wholL (lineAct_v8 s))) ∧ pIn (3 : Int) (pLen (wholL (lineAct_v8
 s))) ∧ (((3 : Int), lineAct_v10 s), Bool.true, ()) = (linA s, linB s, ()) else pIn (0 : Int) (pLen (pSplit s (bs (32 :: vnil Nat)))) ∧ bif pStrEq (lineAct_v0 s) (bs [99, 111, 112, 121]) then lineAct_t11 s else pIn (0 : Int) (pLen (wholL
 (lineAct_v8 s))) ∧ pIn (1 : Int) (pLen (wholL (lineAct_v8 s))) ∧ pIn (2 : Int) (pLen (wholL (lineAct_v8 s))) ∧ pIn (3 : Int) (pLen (wholL (lineAct_v8 s))) ∧ (((2 : Int), lineAct_v10 s), Bool.true, ()) = (linA s, linB s, ()) else lineAct_t2
 s

def lineAct_VC (s : ByteArray) : Prop :=
  pShort s ∧ pIn (0 : Int) (pLen (pSplit s (bs (32 :: vnil Nat)))) ∧ bif pStrEq (lineAct_v0 s) (bs [97, 115, 107]) then lineAct_v7 s else pIn (0 : Int) (pLen (pSplit s (bs (32 :: vnil Nat)))) ∧ bif pStrEq (lineAct_v0 s) (bs [116, 121, 112,
 101]) then lineAct_v7 s else pTo (1 : Int) (pLen (pSplit s (bs (32 :: vnil Nat)))) ∧ pFewW (lineAct_v8 s) ∧ bif pNot (wholB (lineAct_v8 s)) then lineAct_t2 s else pIn (0 : Int) (pLen (pSplit s (bs (32 :: vnil Nat)))) ∧ bif pStrEq
 (lineAct_v0 s) (bs [116, 105, 99, 107]) then (((5 : Int), (0 : Int), lineAct_v1), pEq (pInt (pLen (wholL (lineAct_v8 s)))) (0 : Int), ()) = (linA s, linB s, ()) else bif pStrEq (lineAct_v0 s) (bs [115, 116, 97, 114, 116]) then bif pEq (pInt
 (pLen (wholL (lineAct_v8 s)))) (1 : Int) then pIn (0 : Int) (pLen (wholL (lineAct_v8 s))) ∧ (((7 : Int), lineAct_v9 s, lineAct_v1), Bool.true, ()) = (linA s, linB s, ()) else lineAct_t2 s else bif pStrEq (lineAct_v0 s) (bs [99, 114, 97,
 115, 104]) then bif pGt (pInt (pLen (wholL (lineAct_v8 s)))) (0 : Int) then pIn (0 : Int) (pLen (wholL (lineAct_v8 s))) ∧ pTo (1 : Int) (pLen (wholL (lineAct_v8 s))) ∧ (((6 : Int), lineAct_v9 s, (0 : Int), (0 : Int), (0 : Int), pSub (wholL
 (lineAct_v8 s)) (pNat (1 : Int)) (pLen (wholL (lineAct_v8 s))), (0 : Int), (0 : Int), (0 : Int), (0 : Int), (0 : Int), (bs []), ()), Bool.true, ()) = (linA s, linB s, ()) else lineAct_t2 s else bif pStrEq (lineAct_v0 s) (bs [100, 101, 108,
 105, 118, 101, 114]) then bif pStrEq (lineAct_v0 s) (bs [100, 101, 108, 105, 118, 101, 114]) then lineAct_v12 s else lineAct_t2 s else bif pStrEq (lineAct_v0 s) (bs [100, 114, 111, 112]) then bif pStrEq (lineAct_v0 s) (bs [100, 114, 111,
 112]) then lineAct_v12 s else lineAct_t2 s else bif pStrEq (lineAct_v0 s) (bs [99, 111, 112, 121]) then lineAct_v12 s else lineAct_t2 s
set_option maxRecDepth 100000 in
theorem lineAct_meets (hpartsOfF : Mt 43 cpartsOfF) (hwholesF : Mt 77 cwholesF) (hcallOf : Mt 78 ccallOf) (hundotted : Mt 79 cundotted) (h : ∀ (s : ByteArray), (∀ p ∈ undotted_p ⟨(s, ()), ()⟩, p) → lineAct_VC s) : Mt 47 clineAct :=
  meets_vc (E := envOf Tryd.prog [(43, (false, cpartsOfF)), (77, (false, cwholesF)), (78, (false, ccallOf)), (79, (false, cundotted))] eqsLrV) (envOf_ok (fun p hp => (by simp only [List.mem_cons, List.not_mem_nil, or_false] at hp; rcases hp with rfl | rfl | rfl | rfl; exact hpartsOfF; exact hwholesF; exact hcallOf; exact hundotted)) (by kernel_rfl)) undotted_S (fun x => fun ky9 st9 => look [] ky9) Tryd.func47 (by kernel_rfl) (by kernel_rfl) undotted_p [] [.agg 0 vActF, .slot 1 false .bool] lineAct_f (fun x => lineAct_VC x.1.1) (fun x => by kernel_rfl) (fun x hp => h x.1.1 hp)

abbrev ActsOf_v0 (c : CfgD) (s : ByteArray) := (readL c s, readI c s, readE c s, ())
abbrev ActsOf_v1 (s : ByteArray) (y0 : kden Bool.false tI × kden Bool.false tI × kden Bool.true tyAct × PUnit) (y1 : kden Bool.false tI × PUnit) := (pAdd IntKind.i64 y1.1 (1 : Int), pAdd IntKind.i64 y0.2.1 (1 : Int), pApp y0.2.2.1 (linA (pStrSub s (pNat y0.1) (pNat y1.1)) :: vnil (Int × Int × Int × Int × Int × List (Int × PUnit) × Int × Int × Int × Int × Int × ByteArray × PUnit)), ())
abbrev ActsOf_v2 (c : CfgD) (s : ByteArray) (y0 : kden Bool.false tI × kden Bool.false tI × kden Bool.true tyAct × PUnit) (y1 : kden Bool.false tI × PUnit) := bif pEq y0.2.1 (3000 : Int) then (vnil (Int × Int × Int × Int × Int × List (Int × PUnit) × Int × Int × Int × Int × Int × ByteArray × PUnit), y0.2.1, (1 : Int), ()) = ActsOf_v0 c s else bif pEq y1.1 (pInt (pStrLen s)) then (vnil (Int × Int ×
 Int × Int × Int × List (Int × PUnit) × Int × Int × Int × Int × Int × ByteArray × PUnit), y0.2.1, (4 : Int), ()) = ActsOf_v0 c s else pTo y1.1 (pStrLen s) ∧ pTo y0.1 (pNat y1.1) ∧ pShort (pStrSub s (pNat y0.1) (pNat y1.1)) ∧ bif pNot (linB
 (pStrSub s (pNat y0.1) (pNat y1.1))) then (vnil (Int × Int × Int × Int × Int × List (Int × PUnit) × Int × Int × Int × Int × Int × ByteArray × PUnit), y0.2.1, (4 : Int), ()) = ActsOf_v0 c s else Nat.le (Nat.succ (pLen c.2.1))
 4611686018427387904 ∧ Nat.le (Nat.succ (pLen (linA (pStrSub s (pNat y0.1) (pNat y1.1))).2.2.2.2.2.1)) 4611686018427387904 ∧ bif pNe (actF c (linA (pStrSub s (pNat y0.1) (pNat y1.1)))) (0 : Int) then (vnil (Int × Int × Int × Int × Int × List
 (Int × PUnit) × Int × Int × Int × Int × Int × ByteArray × PUnit), y0.2.1, actF c (linA (pStrSub s (pNat y0.1) (pNat y1.1))), ()) = ActsOf_v0 c s else pRoom (pPlus (pLen y0.2.2.1) (pLen (linA (pStrSub s (pNat y0.1) (pNat y1.1)) :: vnil (Int
 × Int × Int × Int × Int × List (Int × PUnit) × Int × Int × Int × Int × Int × ByteArray × PUnit)))) 120 ∧ actsInv c s (ActsOf_v1 s y0 y1) ∧ Nat.le (Nat.succ (actsMu c s (ActsOf_v1 s y0 y1))) (actsMu c s y0)

def ActsOf_VC (c : CfgD) (s : ByteArray) : Prop :=
  Nat.le (Nat.succ (pLen c.2.1)) 4611686018427387904 ∧ bif pNe (cfgF c) (0 : Int) then (vnil (Int × Int × Int × Int × Int × List (Int × PUnit) × Int × Int × Int × Int × Int × ByteArray × PUnit), (0 : Int), cfgF c, ()) = ActsOf_v0 c s else
 actsInv c s ((0 : Int), (0 : Int), vnil (Int × Int × Int × Int × Int × List (Int × PUnit) × Int × Int × Int × Int × Int × ByteArray × PUnit), ()) ∧ ∀ (y0 : kden Bool.false tI × kden Bool.false tI × kden Bool.true tyAct × PUnit), actsInv c s
 y0 → bif pLt y0.1 (pInt (pStrLen s)) then endsInv s y0.1 (y0.1, ()) ∧ ∀ (y1 : kden Bool.false tI × PUnit), endsInv s y0.1 y1 → bif pLt y1.1 (pInt (pStrLen s)) then pIn y1.1 (pStrLen s) ∧ bif pNe (pStrGet s (pNat y1.1)) (10 : Int) then
 endsInv s y0.1 (pAdd IntKind.i64 y1.1 (1 : Int), ()) ∧ Nat.le (Nat.succ (endsMu s y0.1 (pAdd IntKind.i64 y1.1 (1 : Int), ()))) (endsMu s y0.1 y1) else ActsOf_v2 c s y0 y1 else ActsOf_v2 c s y0 y1 else (y0.2.2.1, (0 : Int), (0 : Int), ()) =
 ActsOf_v0 c s
set_option maxRecDepth 100000 in
theorem ActsOf_meets (hcFault : Mt 25 ccFault) (hlineAct : Mt 47 clineAct) (haFault : Mt 26 caFault) (h : ∀ (c : CfgD) (s : ByteArray), (∀ p ∈ ActsOf_p ⟨(c, s, ()), ()⟩, p) → ActsOf_VC c s) : Mt 14 cActsOf :=
  meets_vc (E := envOf Tryd.prog [(25, (false, ccFault)), (47, (false, clineAct)), (26, (false, caFault))] eqsLrV) (envOf_ok (fun p hp => (by simp only [List.mem_cons, List.not_mem_nil, or_false] at hp; rcases hp with rfl | rfl | rfl; exact hcFault; exact hlineAct; exact haFault)) (by kernel_rfl)) ActsOf_S (fun x => fun ky9 st9 => look [(7, (⟨[.slot 9 false tI, .slot 10 false tI, .slot 8 true tyAct], actsInv x.1.1 x.1.2.1, actsMu x.1.1 x.1.2.1⟩ : Ann)), (10, (⟨[.slot 11 false tI], endsInv x.1.2.1 (slotI st9 9), endsMu x.1.2.1 (slotI st9 9)⟩ : Ann))] ky9) Tryd.func14 (by kernel_rfl) (by kernel_rfl) ActsOf_p [] [.slot 0 true tyAct, .slot 1 false tI, .slot 2 false tI] ActsOf_f (fun x => ActsOf_VC x.1.1 x.1.2.1) (fun x => by kernel_rfl) (fun x hp => h x.1.1 x.1.2.1 hp)


end Go.Proofs.YtedjlbcclhgfmaaDoor

/- Two lists of acts: are they the same? No condition. -/
namespace Go.Proofs.YtedjlbcclhgfmaaDoor
open Go.RowKit Go.ChangeShapes Go.WideShapes Go.Deep

def eqNAt (l m : List ND) (j : Nat) : Bool := pEq (pGet tyN l j).1 (pGet tyN m j).1
def sameIntsF (l m : List ND) : Bool := decide (l.length = m.length) && allUpto (eqNAt l m) l.length
def sameIntsInv (l m : List ND) : Int × Unit → Prop := fun y => l.length = m.length ∧ UpInv (eqNAt l m) l.length y
def sameIntsMu (l _m : List ND) : Int × Unit → Nat := UpMu l.length
def eqAct (a b : ActD) : Bool := !(bif pNe a.1 b.1 then true else bif pNe a.2.1 b.2.1 then true else bif pNe a.2.2.1 b.2.2.1 then true else bif pNe a.2.2.2.1 b.2.2.2.1 then true else bif pNe a.2.2.2.2.1 b.2.2.2.2.1 then true else
  bif pNot (pAndB (pEq a.2.2.2.2.2.2.1 b.2.2.2.2.2.2.1) (pAndB (pEq a.2.2.2.2.2.2.2.1 b.2.2.2.2.2.2.2.1) (pAndB (pEq a.2.2.2.2.2.2.2.2.1 b.2.2.2.2.2.2.2.2.1) (pAndB (pEq a.2.2.2.2.2.2.2.2.2.1 b.2.2.2.2.2.2.2.2.2.1) (pEq a.2.2.2.2.2.2.2.2.2.2.1 b.2.2.2.2.2.2.2.2.2.2.1))))) then true else
  bif pNot (pStrEq a.2.2.2.2.2.2.2.2.2.2.2.1 b.2.2.2.2.2.2.2.2.2.2.2.1) then true else pNot (sameIntsF a.2.2.2.2.2.1 b.2.2.2.2.2.1))
def eqActAt (l m : List ActD) (j : Nat) : Bool := eqAct (pGet tyAct l j) (pGet tyAct m j)
def sameActsF (l m : List ActD) : Bool := decide (l.length = m.length) && allUpto (eqActAt l m) l.length
def sameActsInv (l m : List ActD) : Int × Unit → Prop := fun y => l.length = m.length ∧ UpInv (eqActAt l m) l.length y
def sameActsMu (l _m : List ActD) : Int × Unit → Nat := UpMu l.length
def csameInts : Ctr := shCtr ⟨[.one (.rd (.sl tyN)), .one (.rd (.sl tyN))], []⟩ (fun x => [pLen x.1.1 < 4611686018427387904]) [] [.slot 0 false .bool] (fun x => (sameIntsF x.1.1 x.1.2.1, ()))
def csameActs : Ctr := shCtr ⟨[.one (.rd (.sl tyAct)), .one (.rd (.sl tyAct))], []⟩ (fun x => [pLen x.1.1 < 4611686018427387904, (∀ q ∈ x.1.1, pLen q.2.2.2.2.2.1 < 4611686018427387904)]) [] [.slot 0 false .bool] (fun x => (sameActsF x.1.1 x.1.2.1, ()))
def sameInts_VC (l : (List ND)) (m : (List ND)) : Prop :=
  bif pNe (pInt (pLen l)) (pInt (pLen m)) then (Bool.false, ()) = (sameIntsF l m, ()) else sameIntsInv l m ((0 : Int), ()) ∧ ∀ (y : kden Bool.false tI × PUnit), sameIntsInv l m y → bif pLt y.1 (pInt (pLen l)) then pIn y.1
    (pLen l) ∧ pIn y.1 (pLen m) ∧ bif pNe (pGet tyN l (pNat y.1)).1 (pGet tyN m (pNat y.1)).1 then (Bool.false, ()) = (sameIntsF l m, ()) else sameIntsInv l m (pAdd IntKind.i64 y.1 (1 : Int), ()) ∧ Nat.le (Nat.succ
    (sameIntsMu l m (pAdd IntKind.i64 y.1 (1 : Int), ()))) (sameIntsMu l m y) else (Bool.true, ()) = (sameIntsF l m, ())
set_option maxRecDepth 100000 in
theorem sameInts_meets  (h : ∀ (l : (List ND)) (m : (List ND)), (∀ p ∈ (fun x => [pLen x.1.1 < 4611686018427387904] : Shape.den ⟨[.one (.rd (.sl tyN)), .one (.rd (.sl tyN))], []⟩ → List Prop) ⟨(l, m, ()), ()⟩, p) → sameInts_VC l m) : Meets Tryd.prog (fun _ => none) 48 csameInts :=
  meets_vc (E := envOf Tryd.prog [] [83, 53]) (envOf_ok (fun p hp => by cases hp) (by kernel_rfl)) ⟨[.one (.rd (.sl tyN)), .one (.rd (.sl tyN))], []⟩ (fun x => fun ky9 st9 => look [(4, (⟨[.slot 5 false tI], sameIntsInv x.1.1 x.1.2.1, sameIntsMu x.1.1 x.1.2.1⟩ : Ann))] ky9) Tryd.func48 (by kernel_rfl) (by kernel_rfl) (fun x => [pLen x.1.1 < 4611686018427387904]) [] [.slot 0 false .bool] (fun x => (sameIntsF x.1.1 x.1.2.1, ())) (fun x => sameInts_VC x.1.1 x.1.2.1) (fun x => by kernel_rfl) (fun x hp => h x.1.1 x.1.2.1 hp)
def sameActs_VC (l : (List ActD)) (m : (List ActD)) : Prop :=
  bif pNe (pInt (pLen l)) (pInt (pLen m)) then (Bool.false, ()) = (sameActsF l m, ()) else sameActsInv l m ((0 : Int), ()) ∧ ∀ (y : kden Bool.false tI × PUnit), sameActsInv l m y → bif pLt y.1 (pInt (pLen l)) then pIn y.1
    (pLen l) ∧ pIn y.1 (pLen m) ∧ bif pNe (pGet tyAct l (pNat y.1)).1 (pGet tyAct m (pNat y.1)).1 then (Bool.false, ()) = (sameActsF l m, ()) else bif pNe (pGet tyAct l (pNat y.1)).2.1 (pGet tyAct m (pNat y.1)).2.1 then
    (Bool.false, ()) = (sameActsF l m, ()) else bif pNe (pGet tyAct l (pNat y.1)).2.2.1 (pGet tyAct m (pNat y.1)).2.2.1 then (Bool.false, ()) = (sameActsF l m, ()) else bif pNe (pGet tyAct l (pNat y.1)).2.2.2.1 (pGet tyAct m
    (pNat y.1)).2.2.2.1 then (Bool.false, ()) = (sameActsF l m, ()) else bif pNe (pGet tyAct l (pNat y.1)).2.2.2.2.1 (pGet tyAct m (pNat y.1)).2.2.2.2.1 then (Bool.false, ()) = (sameActsF l m, ()) else bif pNot (pAndB (pEq
    (pGet tyAct l (pNat y.1)).2.2.2.2.2.2.1 (pGet tyAct m (pNat y.1)).2.2.2.2.2.2.1) (pAndB (pEq (pGet tyAct l (pNat y.1)).2.2.2.2.2.2.2.1 (pGet tyAct m (pNat y.1)).2.2.2.2.2.2.2.1) (pAndB (pEq (pGet tyAct l (pNat
    y.1)).2.2.2.2.2.2.2.2.1 (pGet tyAct m (pNat y.1)).2.2.2.2.2.2.2.2.1) (pAndB (pEq (pGet tyAct l (pNat y.1)).2.2.2.2.2.2.2.2.2.1 (pGet tyAct m (pNat y.1)).2.2.2.2.2.2.2.2.2.1) (pEq (pGet tyAct l (pNat
    y.1)).2.2.2.2.2.2.2.2.2.2.1 (pGet tyAct m (pNat y.1)).2.2.2.2.2.2.2.2.2.2.1))))) then (Bool.false, ()) = (sameActsF l m, ()) else bif pNot (pStrEq (pGet tyAct l (pNat y.1)).2.2.2.2.2.2.2.2.2.2.2.1 (pGet tyAct m (pNat
    y.1)).2.2.2.2.2.2.2.2.2.2.2.1) then (Bool.false, ()) = (sameActsF l m, ()) else Nat.le (Nat.succ (pLen (pGet tyAct l (pNat y.1)).2.2.2.2.2.1)) 4611686018427387904 ∧ bif pNot (sameIntsF (pGet tyAct l (pNat
    y.1)).2.2.2.2.2.1 (pGet tyAct m (pNat y.1)).2.2.2.2.2.1) then (Bool.false, ()) = (sameActsF l m, ()) else sameActsInv l m (pAdd IntKind.i64 y.1 (1 : Int), ()) ∧ Nat.le (Nat.succ (sameActsMu l m (pAdd IntKind.i64 y.1 (1 :
    Int), ()))) (sameActsMu l m y) else (Bool.true, ()) = (sameActsF l m, ())
set_option maxRecDepth 100000 in
theorem sameActs_meets (hsameInts : Meets Tryd.prog (fun _ => none) 48 csameInts) (h : ∀ (l : (List ActD)) (m : (List ActD)), (∀ p ∈ (fun x => [pLen x.1.1 < 4611686018427387904, (∀ q ∈ x.1.1, pLen q.2.2.2.2.2.1 < 4611686018427387904)] : Shape.den ⟨[.one (.rd (.sl tyAct)), .one (.rd (.sl tyAct))], []⟩ → List Prop) ⟨(l, m, ()), ()⟩, p) → sameActs_VC l m) : Meets Tryd.prog (fun _ => none) 15 csameActs :=
  meets_vc (E := envOf Tryd.prog [(48, (false, csameInts))] [83, 53]) (envOf_ok (fun p hp => (by simp only [List.mem_cons, List.not_mem_nil, or_false] at hp; rcases hp with rfl; exact hsameInts)) (by kernel_rfl)) ⟨[.one (.rd (.sl tyAct)), .one (.rd (.sl tyAct))], []⟩ (fun x => fun ky9 st9 => look [(4, (⟨[.slot 5 false tI], sameActsInv x.1.1 x.1.2.1, sameActsMu x.1.1 x.1.2.1⟩ : Ann))] ky9) Tryd.func15 (by kernel_rfl) (by kernel_rfl) (fun x => [pLen x.1.1 < 4611686018427387904, (∀ q ∈ x.1.1, pLen q.2.2.2.2.2.1 < 4611686018427387904)]) [] [.slot 0 false .bool] (fun x => (sameActsF x.1.1 x.1.2.1, ())) (fun x => sameActs_VC x.1.1 x.1.2.1) (fun x => by kernel_rfl) (fun x hp => h x.1.1 x.1.2.1 hp)
section
end
theorem sameInts_ok : Meets Tryd.prog (fun _ => none) 48 csameInts := sameInts_meets fun l m hp => by
  have hl : l.length < 4611686018427387904 := hp _ List.mem_cons_self
  delta sameInts_VC
  refine bif_ok (fun h => leafF fun q => ?_) fun h => ?_
  · unfold sameIntsF at q; simp only [Bool.and_eq_true, decide_eq_true_eq] at q
    have : pNe (pInt l.length) (pInt m.length) = true := h
    rw [q.1] at this; simp [pNe] at this
  have hn : l.length = m.length := by
    have : pNe (pInt l.length) (pInt m.length) = false := h
    simp only [pNe, pInt, bne_eq_false_iff_eq] at this; omega
  refine ⟨⟨hn, UpInv.start⟩, fun y ⟨_, hy⟩ => ?_⟩
  rcases UpInv.round hl hy with ⟨k, rfl, hk, hb, -, hF, hT⟩ | ⟨rfl, hT⟩
  · have hk2 : k < m.length := by omega
    rw [bif_true (by simp [pLt_coe, pLen, hk]), pNat_coe]
    refine ⟨pIn_coe.2 hk, pIn_coe.2 hk2, bif_ok (fun h => leafF fun q => ?_) fun h => ?_⟩
    · have h' : eqNAt l m k = false := by have h2 : (!eqNAt l m k) = true := h; simpa using h2
      unfold sameIntsF at q
      rw [hF h'] at q; simp at q
    · have h' : eqNAt l m k = true := by have h2 : (!eqNAt l m k) = false := h; simpa using h2
      exact ⟨⟨hn, (hT h').1⟩, (hT h').2⟩
  · rw [bif_false (by simp [pLt_coe, pLen])]
    refine leafT fun q => ?_
    unfold sameIntsF at q
    rw [hT, hn] at q; simp at q
theorem sameActs_ok : Meets Tryd.prog (fun _ => none) 15 csameActs := sameActs_meets sameInts_ok fun l m hp => by
  have hl : l.length < 4611686018427387904 := hp (pLen l < 4611686018427387904) (by simp)
  have hq := hp (∀ q ∈ l, pLen q.2.2.2.2.2.1 < 4611686018427387904) (by simp)
  clear hp
  delta sameActs_VC
  refine bif_ok (fun h => leafF fun q => ?_) fun h => ?_
  · unfold sameActsF at q; simp only [Bool.and_eq_true, decide_eq_true_eq] at q
    have : pNe (pInt l.length) (pInt m.length) = true := h
    rw [q.1] at this; simp [pNe] at this
  have hn : l.length = m.length := by
    have : pNe (pInt l.length) (pInt m.length) = false := h
    simp only [pNe, pInt, bne_eq_false_iff_eq] at this; omega
  refine ⟨⟨hn, UpInv.start⟩, fun y ⟨_, hy⟩ => ?_⟩
  rcases UpInv.round hl hy with ⟨k, rfl, hk, hb, -, hF, hT⟩ | ⟨rfl, hT⟩
  · have hk2 : k < m.length := by omega
    rw [bif_true (by simp [pLt_coe, pLen, hk]), pNat_coe]
    have hbad : eqActAt l m k = false → (false, ()) = (sameActsF l m, ()) := fun h' => leafF fun q => by
      unfold sameActsF at q
      rw [hF h'] at q; simp at q
    have hq1 := hq (pGet tyAct l k) (by rw [pGet_lt hk]; exact List.getElem_mem hk)
    refine ⟨pIn_coe.2 hk, pIn_coe.2 hk2, bif_ok (fun h1 => hbad ?_) fun h1 => bif_ok (fun h2 => hbad ?_) fun h2 => bif_ok (fun h3 => hbad ?_) fun h3 => bif_ok (fun h4 => hbad ?_) fun h4 => bif_ok (fun h5 => hbad ?_) fun h5 => bif_ok (fun h6 => hbad ?_) fun h6 => bif_ok (fun h7 => hbad ?_) fun h7 => ⟨hq1, bif_ok (fun h8 => hbad ?_) fun h8 => ?_⟩⟩
    · unfold eqActAt eqAct; rw [h1]; rfl
    · unfold eqActAt eqAct; rw [h1, h2]; rfl
    · unfold eqActAt eqAct; rw [h1, h2, h3]; rfl
    · unfold eqActAt eqAct; rw [h1, h2, h3, h4]; rfl
    · unfold eqActAt eqAct; rw [h1, h2, h3, h4, h5]; rfl
    · unfold eqActAt eqAct; rw [h1, h2, h3, h4, h5, h6]; rfl
    · unfold eqActAt eqAct; rw [h1, h2, h3, h4, h5, h6, h7]; rfl
    · unfold eqActAt eqAct; rw [h1, h2, h3, h4, h5, h6, h7, h8]; rfl
    · have h' : eqActAt l m k = true := by unfold eqActAt eqAct; rw [h1, h2, h3, h4, h5, h6, h7, h8]; rfl
      exact ⟨⟨hn, (hT h').1⟩, (hT h').2⟩
  · rw [bif_false (by simp [pLt_coe, pLen])]
    refine leafT fun q => ?_
    unfold sameActsF at q
    rw [hT, hn] at q; simp at q
theorem sameInts_refl (l : List ND) : sameIntsF l l = true := by
  unfold sameIntsF
  rw [allUpto_true fun j _ => by simp [eqNAt, pEq]]; simp
theorem sameActs_refl (l : List ActD) : sameActsF l l = true := by
  unfold sameActsF
  rw [allUpto_true fun j _ => by unfold eqActAt eqAct; rw [sameInts_refl]; simp [pNe, pNot, pAndB, pEq, pStrEq]]; simp


end Go.Proofs.YtedjlbcclhgfmaaDoor
