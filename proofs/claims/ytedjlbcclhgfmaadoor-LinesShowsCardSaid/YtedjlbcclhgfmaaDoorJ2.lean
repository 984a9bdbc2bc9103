/- Acts as lines, what needs no tables: functions meet their contracts. No condition. -/
import Derived.Test.YtedjlbcclhgfmaaDoorJ1

/- Plain words of acts as lines: what a line has. No condition. -/
namespace Go.Proofs.YtedjlbcclhgfmaaDoor
open Go.RowKit Go.Lib

abbrev tB8 : Ty := .pair (.int .u8) .unit
abbrev vBld (id : Nat) : List (Bool × Ty) := [(false, .mark [id, TBl, 0] .unit), (true, tyBl)]
abbrev tyAct : Ty := .pair tI (.pair tI (.pair tI (.pair tI (.pair tI (.pair (.sl tyN) (.pair tI (.pair tI (.pair tI (.pair tI (.pair tI (.pair .str .unit)))))))))))

/- a loop that builds: at each round what it has -/
def StepInv {T : Type} (v : Nat → T) (n : Nat) (y : Int × T) : Prop := ∃ k : Nat, k ≤ n ∧ y = ((k : Int), v k)
def StepMu {T : Type} (n : Nat) (y : Int × T) : Nat := n - y.1.toNat
theorem StepInv.start {T : Type} {v : Nat → T} {n : Nat} {z : T} (h : z = v 0) : StepInv v n (0, z) := ⟨0, Nat.zero_le _, by rw [h]; rfl⟩
theorem StepInv.round {T : Type} {v : Nat → T} {n : Nat} {y : Int × T} (hn : n < 4611686018427387904) (h : StepInv v n y) :
    (∃ k : Nat, y = ((k : Int), v k) ∧ k < n ∧ k < 4611686018427387904 ∧ ∀ z, z = v (k + 1) → StepInv v n (pAdd .i64 (k : Int) 1, z) ∧ Nat.le (Nat.succ (StepMu n (pAdd .i64 (k : Int) 1, z))) (StepMu n ((k : Int), v k))) ∨ y = ((n : Int), v n) := by
  obtain ⟨k, hk, rfl⟩ := h
  by_cases hkn : k < n
  · refine .inl ⟨k, rfl, hkn, by omega, fun z hz => ?_⟩
    rw [pAdd1 (by omega), hz]
    exact ⟨⟨k + 1, hkn, rfl⟩, Nat.le_of_eq (by unfold StepMu; simp only [Int.toNat_natCast]; omega)⟩
  · obtain rfl : k = n := by omega
    exact .inr rfl

/- texts as lists of bytes -/
def ba (l : List UInt8) : ByteArray := ⟨l.toArray⟩
theorem ba_app (a b : List UInt8) : pStrApp (ba a) (ba b) = ba (a ++ b) := by
  apply ba_eq
  show ((⟨a.toArray⟩ : ByteArray) ++ ⟨b.toArray⟩).data.toList = a ++ b
  rw [ByteArray.data_append]; simp
theorem ba_size (a : List UInt8) : (ba a).size = a.length := by show a.toArray.size = a.length; simp
theorem ba_len (a : List UInt8) : pStrLen (ba a) = a.length := ba_size a
theorem ba_data (s : ByteArray) : ba s.data.toList = s := by obtain ⟨⟨l⟩⟩ := s; rfl
def pDec (n : Int) (k : Nat) : Prop := 0 ≤ n ∧ n < (10 ^ k : Nat) ∧ 0 < k ∧ k ≤ 100 ∧ n ≤ 9223372036854775807

/-- numbers, each behind a blank -/
def blanksL : List ND → List UInt8
  | [] => []
  | a :: r => 32 :: (itoa a.1 ++ blanksL r)
def blanks (l : List ND) : ByteArray := ba (blanksL l)
def pNums (l : List ND) : Prop := l.length ≤ 8 ∧ ∀ q ∈ l, 0 ≤ q.1 ∧ q.1 ≤ 9223372036854775807
def hexD (n : Int) : Int := cond (pLt n 10) (48 + n) (87 + n)
def hexC (n : Nat) : UInt8 := UInt8.ofNat (if n < 10 then 48 + n else 87 + n)
def hexL : List UInt8 → List UInt8
  | [] => []
  | c :: r => hexC (c.toNat / 16) :: hexC (c.toNat % 16) :: hexL r
def hexF (s : ByteArray) : ByteArray := ba (46 :: hexL s.data.toList)
/-- the numbers of an act, as they stand in its line -/
def valsF (z : ActD) : List ND :=
  cond (pEq z.1 2 || pEq z.1 3 || pEq z.1 4) [(z.2.1, ()), (z.2.2.1, ()), (z.2.2.2.1, ()), (z.2.2.2.2.1, ())] (cond (pEq z.1 5) [] (cond (pEq z.1 6) ((z.2.1, ()) :: z.2.2.2.2.2.1) (cond (pEq z.1 7) [(z.2.1, ())] [(z.2.1, ()), (z.2.2.2.1, ())])))
def wordsT : List SD := [(bs [], ()), (bs [97, 115, 107], ()), (bs [100, 101, 108, 105, 118, 101, 114], ()), (bs [100, 114, 111, 112], ()), (bs [99, 111, 112, 121], ()), (bs [116, 105, 99, 107], ()), (bs [99, 114, 97, 115, 104], ()), (bs [115, 116, 97, 114, 116], ()), (bs [116, 121, 112, 101], ())]
def callsT : List SD := [(bs [], ()), (bs [98, 101, 103, 105, 110], ()), (bs [103, 101, 116], ()), (bs [112, 117, 116], ()), (bs [99, 111, 109, 109, 105, 116], ()), (bs [114, 111, 108, 108, 98, 97, 99, 107], ())]
def wordL (k : Int) : List UInt8 := (pGet tyS wordsT (pNat k)).1.data.toList
def callL (k : Int) : List UInt8 := (pGet tyS callsT (pNat k)).1.data.toList
def askV (x : CallD) : List ND :=
  cond (pEq x.1 2) [(x.2.1, ()), (x.2.2.1, ()), (x.2.2.2.1, ())] (cond (pEq x.1 3) [(x.2.1, ()), (x.2.2.2.1, ()), (x.2.2.2.2.1, ())] (cond (pEq x.1 1) [] [(x.2.1, ())]))
def askedL (x : CallD) : List UInt8 := 32 :: (callL x.1 ++ blanksL (askV x))
def askedF (x : CallD) : ByteArray := ba (askedL x)
def lineOf (z : ActD) : ByteArray := z.2.2.2.2.2.2.2.2.2.2.2.1
def tailL (z : ActD) : List UInt8 := cond (pEq z.1 1) (askedL (callOf z)) (cond (pEq z.1 8) (32 :: 46 :: hexL (lineOf z).data.toList) [])
def actLL (z : ActD) : List UInt8 := wordL z.1 ++ (blanksL (valsF z) ++ (tailL z ++ [10]))
def actL (z : ActD) : ByteArray := ba (actLL z)
def linesL : List ActD → List UInt8
  | [] => []
  | a :: r => actLL a ++ linesL r
theorem linesL_app : ∀ (a b : List ActD), linesL (a ++ b) = linesL a ++ linesL b
  | [], b => rfl
  | x :: a, b => by show actLL x ++ linesL (a ++ b) = (actLL x ++ linesL a) ++ linesL b; rw [linesL_app a b, List.append_assoc]
theorem blanksL_app : ∀ (a b : List ND), blanksL (a ++ b) = blanksL a ++ blanksL b
  | [], b => rfl
  | x :: a, b => by show 32 :: (itoa x.1 ++ blanksL (a ++ b)) = 32 :: (itoa x.1 ++ blanksL a) ++ blanksL b; rw [blanksL_app a b]; simp

/- what may be of an act -/
def pOk (z : ActD) : Prop := ∃ c, actF c z = 0
theorem cond0 {b : Bool} {x y : Int} (h : cond b x y = 0) (hy : y ≠ 0) : b = true ∧ x = 0 := by
  cases b
  · exact absurd h hy
  · exact ⟨rfl, h⟩
structure ActOk (z : ActD) : Prop where
  kind : 1 ≤ z.1 ∧ z.1 ≤ 8
  site : 0 ≤ z.2.1 ∧ z.2.1 ≤ 3
  to : 0 ≤ z.2.2.1 ∧ z.2.2.1 ≤ 3
  label : 0 ≤ z.2.2.2.1 ∧ z.2.2.2.1 ≤ 5
  pick : 0 ≤ z.2.2.2.2.1 ∧ z.2.2.2.2.1 ≤ 1048576
  keep : z.2.2.2.2.2.1.length ≤ 6
  kept : ∀ q ∈ z.2.2.2.2.2.1, 0 ≤ q.1 ∧ q.1 ≤ 6000
  line : (lineOf z).size ≤ 60
  call : pEq z.1 1 = true → callF (callOf z) = 0
theorem cfg0 {c : CfgD} (h : cfgF c = 0) : c.1 ≤ 4 ∧ c.2.1.length ≤ 6 := by
  unfold cfgF at h
  obtain ⟨h1, h⟩ := cond0 h (by decide)
  obtain ⟨h2, _⟩ := cond0 h (by decide)
  have h1 := inF_iff.1 h1
  have h2 := inF_iff.1 h2
  refine ⟨h1.2, ?_⟩
  have := h2.2
  simp only [pInt] at this
  omega
theorem ok_facts {z : ActD} (h : pOk z) : ActOk z := by
  obtain ⟨c, h⟩ := h
  unfold actF at h
  have hc : cfgF c = 0 := by
    cases hq : pEq (cfgF c) 0 with
    | true => simpa [pEq] using hq
    | false => rw [hq, cond_false] at h; rw [h] at hq; cases hq
  obtain ⟨hc1, hc2⟩ := cfg0 hc
  rw [hc] at h
  have h : cond (inF z.1 1 8) (cond (numbersF c z) (cond (bareF z) (cond (pEq z.1 1) (callF (callOf z)) 0) 4) 2) 3 = 0 := h
  obtain ⟨h1, h⟩ := cond0 h (by decide)
  obtain ⟨h2, h⟩ := cond0 h (by decide)
  obtain ⟨_, h⟩ := cond0 h (by decide)
  have h1 := inF_iff.1 h1
  unfold numbersF placeF at h2
  simp only [Bool.and_eq_true, decide_eq_true_eq] at h2
  obtain ⟨⟨⟨⟨⟨⟨⟨⟨a1, a2⟩, a3⟩, a4⟩, a5, a6⟩, a7⟩, a8⟩, a9⟩, a10⟩ := h2
  have a1 : 0 ≤ z.2.1 := of_decide_eq_true a1
  have a2 : z.2.1 < c.1 := of_decide_eq_true a2
  have a3 : 0 ≤ z.2.2.1 := of_decide_eq_true a3
  have a4 : z.2.2.1 < c.1 := of_decide_eq_true a4
  have a5 : 0 ≤ z.2.2.2.1 := of_decide_eq_true a5
  have a6 : z.2.2.2.1 < (c.2.1.length : Int) := of_decide_eq_true a6
  have a7 := inF_iff.1 a7
  refine ⟨h1, ⟨a1, by omega⟩, ⟨a3, by omega⟩, ⟨a5, by omega⟩, a7, by omega, fun q hq => ?_, a9, fun hk => ?_⟩
  · have a10 : (!pGe (keepBad z.2.2.2.2.2.1) 0) = true := a10
    unfold keepBad at a10
    rw [idxOf_ge] at a10
    obtain ⟨j, hj, rfl⟩ := List.getElem_of_mem hq
    have hn : ¬ (anyUpto (fun j => pNot (inF (pGet tyN z.2.2.2.2.2.1 j).1 0 6000)) z.2.2.2.2.2.1.length = true) := by
      intro hh; rw [hh] at a10; cases a10
    rw [anyUpto_iff] at hn
    have hb : inF (pGet tyN z.2.2.2.2.2.1 j).1 0 6000 = true := by
      cases hq : inF (pGet tyN z.2.2.2.2.2.1 j).1 0 6000 with
      | true => rfl
      | false => exact absurd ⟨j, hj, by unfold pNot; rw [hq]; rfl⟩ hn
    rw [pGet_lt hj] at hb
    exact inF_iff.1 hb
  · rw [hk, cond_true] at h; exact h
structure CallOk (x : CallD) : Prop where
  kind : 1 ≤ x.1 ∧ x.1 ≤ 5
  n : 0 ≤ x.2.1 ∧ x.2.1 ≤ 1048576
  label : 0 ≤ x.2.2.1 ∧ x.2.2.1 ≤ 5
  key : 0 ≤ x.2.2.2.1 ∧ x.2.2.2.1 ≤ 8
  value : 0 ≤ x.2.2.2.2.1 ∧ x.2.2.2.2.1 ≤ 1073741824
theorem call_facts {x : CallD} (h : callF x = 0) : CallOk x := by
  unfold callF at h
  obtain ⟨h1, h⟩ := cond0 h (by decide)
  obtain ⟨h2, _⟩ := cond0 h (by decide)
  simp only [Bool.and_eq_true] at h2
  obtain ⟨⟨⟨h2, h3⟩, h4⟩, h5⟩ := h2
  exact ⟨inF_iff.1 h1, inF_iff.1 h2, inF_iff.1 h3, inF_iff.1 h4, inF_iff.1 h5⟩
theorem vals_nums {z : ActD} (h : ActOk z) : pNums (valsF z) := by
  obtain ⟨_, hs, ht, hl, hp, hk, hkk, _, _⟩ := h
  have e1 : (z.2.1, ()).1 = z.2.1 := rfl
  unfold valsF pNums
  cases (pEq z.1 2 || pEq z.1 3 || pEq z.1 4)
  · cases pEq z.1 5
    · cases pEq z.1 6
      · cases pEq z.1 7
        · simp only [cond_false, List.length_cons, List.length_nil, List.mem_cons, List.not_mem_nil, or_false]
          refine ⟨by decide, ?_⟩
          rintro q (rfl | rfl) <;> (simp only; omega)
        · simp only [cond_false, cond_true, List.length_cons, List.length_nil, List.mem_cons, List.not_mem_nil, or_false]
          refine ⟨by decide, ?_⟩
          rintro q rfl; simp only; omega
      · simp only [cond_false, cond_true, List.length_cons, List.mem_cons]
        refine ⟨by omega, ?_⟩
        rintro q (rfl | hq)
        · simp only; omega
        · have := hkk q hq; omega
    · exact ⟨Nat.zero_le _, fun q hq => by cases hq⟩
  · simp only [cond_true, List.length_cons, List.length_nil, List.mem_cons, List.not_mem_nil, or_false]
    refine ⟨by decide, ?_⟩
    rintro q (rfl | rfl | rfl | rfl) <;> (simp only; omega)
theorem ask_nums {x : CallD} (h : CallOk x) : pNums (askV x) := by
  obtain ⟨_, hs, ht, hl, hp⟩ := h
  unfold askV pNums
  cases pEq x.1 2
  · cases pEq x.1 3
    · cases pEq x.1 1
      · simp only [cond_false, List.length_cons, List.length_nil, List.mem_cons, List.not_mem_nil, or_false]
        refine ⟨by decide, ?_⟩
        rintro q rfl; simp only; omega
      · exact ⟨Nat.zero_le _, fun q hq => by cases hq⟩
    · simp only [cond_false, cond_true, List.length_cons, List.length_nil, List.mem_cons, List.not_mem_nil, or_false]
      refine ⟨by decide, ?_⟩
      rintro q (rfl | rfl | rfl) <;> (simp only; omega)
  · simp only [cond_true, List.length_cons, List.length_nil, List.mem_cons, List.not_mem_nil, or_false]
    refine ⟨by decide, ?_⟩
    rintro q (rfl | rfl | rfl) <;> (simp only; omega)

/- lengths -/
theorem dec_len {n k : Nat} (h : n < 10 ^ k) (h0 : 0 < k) : (decDigits n).length ≤ k := by
  induction k generalizing n with
  | zero => omega
  | succ k ih =>
    rw [decDigits]
    split
    · exact Nat.succ_le_succ (Nat.zero_le _)
    · rename_i h10
      have h1 : n / 10 < 10 ^ k := by rw [Nat.pow_succ] at h; omega
      have hk : 0 < k := by
        rcases Nat.eq_zero_or_pos k with h0 | h0
        · subst h0; omega
        · exact h0
      rw [List.length_append]
      exact Nat.succ_le_succ (ih h1 hk)
theorem itoa_nat (n : Nat) : itoa (n : Int) = decDigits n := by
  unfold itoa
  rw [if_neg (by omega)]; simp
theorem itoa_len {n : Int} (h0 : 0 ≤ n) (h1 : n ≤ 9223372036854775807) : (itoa n).length ≤ 19 := by
  obtain ⟨u, rfl⟩ : ∃ u : Nat, n = (u : Int) := ⟨n.toNat, by omega⟩
  rw [itoa_nat]
  have e : (10 : Nat) ^ 19 = 10000000000000000000 := by decide
  exact dec_len (k := 19) (by omega) (by decide)
theorem blanks_len : ∀ (l : List ND), (∀ q ∈ l, 0 ≤ q.1 ∧ q.1 ≤ 9223372036854775807) → (blanksL l).length ≤ 20 * l.length
  | [], _ => Nat.le_refl _
  | a :: r, h => by
    obtain ⟨a0, a1⟩ := h a List.mem_cons_self
    have h1 := itoa_len a0 a1
    have h2 := blanks_len r fun q hq => h q (List.mem_cons_of_mem _ hq)
    show (itoa a.1 ++ blanksL r).length + 1 ≤ 20 * (r.length + 1)
    rw [List.length_append]; omega
theorem nums_len {l : List ND} (h : pNums l) : (blanksL l).length ≤ 160 := by
  have := blanks_len l h.2
  have := h.1
  omega
theorem hexL_len : ∀ l : List UInt8, (hexL l).length = 2 * l.length
  | [] => rfl
  | c :: r => by show (hexL r).length + 2 = 2 * (r.length + 1); rw [hexL_len r]; omega
theorem hexL_app : ∀ a b : List UInt8, hexL (a ++ b) = hexL a ++ hexL b
  | [], b => rfl
  | c :: a, b => by show _ :: _ :: hexL (a ++ b) = _ :: _ :: (hexL a ++ hexL b); rw [hexL_app a b]
theorem word_len (k : Int) : (wordL k).length ≤ 7 := by
  unfold wordL
  have : ∀ j : Nat, (pGet tyS wordsT j).1.data.toList.length ≤ 7 := fun j => by
    match j with
    | 0 | 1 | 2 | 3 | 4 | 5 | 6 | 7 | 8 => decide
    | j + 9 => exact Nat.zero_le _
  exact this _
theorem call_len (k : Int) : (callL k).length ≤ 8 := by
  unfold callL
  have : ∀ j : Nat, (pGet tyS callsT j).1.data.toList.length ≤ 8 := fun j => by
    match j with
    | 0 | 1 | 2 | 3 | 4 | 5 => decide
    | j + 6 => exact Nat.zero_le _
  exact this _
theorem asked_len {x : CallD} (h : CallOk x) : (askedL x).length ≤ 169 := by
  have := nums_len (ask_nums h)
  have := call_len x.1
  unfold askedL
  rw [List.length_cons, List.length_append]; omega
theorem tail_len {z : ActD} (h : ActOk z) : (tailL z).length ≤ 169 := by
  unfold tailL
  cases hk : pEq z.1 1
  · cases pEq z.1 8
    · exact Nat.zero_le _
    · show (hexL (lineOf z).data.toList).length + 2 ≤ 169
      have := h.line
      rw [hexL_len, ← size_eq]; omega
  · exact asked_len (call_facts (h.call hk))
theorem act_len {z : ActD} (h : ActOk z) : (actLL z).length ≤ 337 := by
  have h1 := nums_len (vals_nums h)
  have h2 := tail_len h
  have h3 := word_len z.1
  unfold actLL
  simp only [List.length_append, List.length_cons, List.length_nil]
  omega
theorem lines_len : ∀ l : List ActD, (∀ z ∈ l, pOk z) → (linesL l).length ≤ 337 * l.length
  | [], _ => Nat.le_refl _
  | a :: r, h => by
    have h1 := act_len (ok_facts (h a List.mem_cons_self))
    have h2 := lines_len r fun q hq => h q (List.mem_cons_of_mem _ hq)
    show (actLL a ++ linesL r).length ≤ 337 * (r.length + 1)
    rw [List.length_append]; omega

/- the whole -/
def faultAt (c : CfgD) (l : List ActD) (i : Nat) : Int := actF c (pGet tyAct l i)
def showE (c : CfgD) (l : List ActD) : Int := cond (pEq (cfgF c) 0) (cond (pGt (pInt l.length) 3000) 1 (firstE (faultAt c l) l.length)) (cfgF c)
def showI (c : CfgD) (l : List ActD) : Int := cond (pEq (cfgF c) 0 && !pGt (pInt l.length) 3000 && pNe (firstE (faultAt c l) l.length) 0) (idxOf (fun i => pNe (faultAt c l i) 0) l.length) 0
def showS (c : CfgD) (l : List ActD) : ByteArray := cond (pEq (showE c l) 0) (ba (linesL l)) (bs [])

/-- the tables lie where they are to lie -/
def tabsW : Nat → Option Gl := look [(3, Gl.cells (Go.Lib.pow10Tab.map (C.int .u64))), (0, Gl.rows tyS wordsT), (1, Gl.rows tyS callsT)]
def TabsW (W : World) : Prop := ∀ g gl, tabsW g = some gl → GlobR W (fun b => b < W.heap.size) g gl
theorem tabsW_ok : ∀ W, TabsW W → ∀ g gl, tabsW g = some gl → GlobR W (fun b => b < W.heap.size) g gl := fun _ h => h

/- loops -/
def hexAt (s : ByteArray) (k : Nat) : List ND := (46, ()) :: (hexL (s.data.toList.take k)).map fun c => ((c.toNat : Int), ())
def hexInv (s : ByteArray) : Int × List ND × Unit → Prop := StepInv (fun k => (hexAt s k, ())) s.size
def hexMu (s : ByteArray) : Int × List ND × Unit → Nat := StepMu s.size
def hexRInv (z : ActD) : Int × List ND × Unit → Prop := hexInv (lineOf z)
def hexRMu (z : ActD) : Int × List ND × Unit → Nat := hexMu (lineOf z)
def blkInv (l : List ND) : Int × ByteArray × Unit → Prop := StepInv (fun k => (ba (blanksL (l.take k)), ())) l.length
def blkMu (l : List ND) : Int × ByteArray × Unit → Nat := StepMu l.length
def shrInv (c : CfgD) (l : List ActD) (y : Int × ByteArray × Unit) : Prop := ∃ k : Nat, k ≤ l.length ∧ y = ((k : Int), ba (linesL (l.take k)), ()) ∧ ∀ j, j < k → pEq (faultAt c l j) 0 = true
def shrMu (_ : CfgD) (l : List ActD) : Int × ByteArray × Unit → Nat := StepMu l.length
def askInv (x : CallD) : Int × ByteArray × Unit → Prop := StepInv (fun k => (ba (32 :: (callL x.1 ++ blanksL ((askV x).take k))), ())) (askV x).length
def askMu (x : CallD) : Int × ByteArray × Unit → Nat := StepMu (askV x).length
def shsInv (c : CfgD) (l : List ActD) (y : Int × (Unit × List BD × Unit) × Unit) : Prop := ∃ k : Nat, k ≤ l.length ∧ y = ((k : Int), ((), bl (ba (linesL (l.take k))), ()), ()) ∧ ∀ j, j < k → pEq (faultAt c l j) 0 = true
def shsMu (_ : CfgD) (l : List ActD) : Int × (Unit × List BD × Unit) × Unit → Nat := StepMu l.length
def shvInv (b : List BD) (v : List ND) : Int × (Unit × List BD × Unit) × Unit → Prop := StepInv (fun k => (((), pApp b (bl (ba (blanksL (v.take k)))), ()), ())) v.length
def shvMu (_ : List BD) (v : List ND) : Int × (Unit × List BD × Unit) × Unit → Nat := StepMu v.length


end Go.Proofs.YtedjlbcclhgfmaaDoor

/- Contracts, and what the evaluator says, as plain propositions: LsV. Printed by vc.py. -/
namespace Go.Proofs.YtedjlbcclhgfmaaDoor
open Go.RowKit Go.ChangeShapes Go.WideShapes Go.Deep
variable {kk : Nat}

abbrev DecP_S : Shape := ⟨[.one (.rd tI)], []⟩
abbrev DecP_f : Shape.den DecP_S → denVars [.slot 0 false .str] := fun x => (pItoa x.1.1, ())
abbrev DecP_p (kk : Nat) : Shape.den DecP_S → List Prop := fun x => [pDec x.1.1 kk]
def cDecP (kk : Nat) : Ctr := shCtr DecP_S (DecP_p kk) [] [.slot 0 false .str] DecP_f
abbrev DecS_p (kk : Nat) : Shape.den DecP_S → List Prop := fun x => [pDec x.1.1 (kk + 1)]
def cDecS (kk : Nat) : Ctr := shCtr DecP_S (DecS_p kk) [] [.slot 0 false .str] DecP_f
abbrev Dec_p : Shape.den DecP_S → List Prop := fun x => [pLe 0 x.1.1 = true, pLe x.1.1 9223372036854775807 = true]
def cDec : Ctr := shCtr DecP_S Dec_p [] [.slot 0 false .str] DecP_f
abbrev WriteString_S : Shape := ⟨[.one (.lit (.pt 0 0)), .one (.rd .str)], [.box [.lit (.sp 0 TBl), .own 1], .row tyBl]⟩
abbrev WriteString_f : Shape.den WriteString_S → denVars [.slot 0 false tI, .slot 1 false .unit, .box 0 (vBld 0)] := fun x => (pInt (pStrLen x.1.2.1), (), ((), pApp x.2.2.1 (bl x.1.2.1), ()), ())
abbrev WriteString_p : Shape.den WriteString_S → List Prop := fun x => [pRoom (pPlus (pLen x.2.2.1) (pStrLen x.1.2.1)) 1]
def cWriteString : Ctr := shCtr WriteString_S WriteString_p [1] [.slot 0 false tI, .slot 1 false .unit, .box 0 (vBld 0)] WriteString_f
abbrev WriteByte_S : Shape := ⟨[.one (.lit (.pt 0 0)), .one (.rd (.int .u8))], [.box [.lit (.sp 0 TBl), .own 1], .row tyBl]⟩
abbrev WriteByte_f : Shape.den WriteByte_S → denVars [.slot 0 false .unit, .box 0 (vBld 0)] := fun x => ((), ((), pApp x.2.2.1 [((), x.1.2.1, ())], ()), ())
abbrev WriteByte_p : Shape.den WriteByte_S → List Prop := fun x => [pRoom (pPlus (pLen x.2.2.1) 1) 1]
def cWriteByte : Ctr := shCtr WriteByte_S WriteByte_p [1] [.slot 0 false .unit, .box 0 (vBld 0)] WriteByte_f
abbrev hexDigit_f : Shape.den DecP_S → denVars [.slot 0 false (.int .u8)] := fun x => (hexD x.1.1, ())
abbrev hexDigit_p : Shape.den DecP_S → List Prop := fun x => [pLe 0 x.1.1 = true, pLt x.1.1 16 = true]
def chexDigit : Ctr := shCtr DecP_S hexDigit_p [] [.slot 0 false (.int .u8)] hexDigit_f
abbrev hex_S : Shape := ⟨[.one (.rd .str)], []⟩
abbrev hex_f : Shape.den hex_S → denVars [.slot 0 false .str] := fun x => (hexF x.1.1, ())
abbrev hex_p : Shape.den hex_S → List Prop := fun x => [pLe (pInt (pStrLen x.1.1)) 60 = true]
def chex : Ctr := shCtr hex_S hex_p [] [.slot 0 false .str] hex_f
abbrev values_S : Shape := ⟨[pAct], []⟩
abbrev values_f : Shape.den values_S → denVars [.slot 0 true tyN] := fun x => (valsF x.1.1, ())
abbrev values_p : Shape.den values_S → List Prop := fun x => [pLe (pInt (pLen x.1.1.2.2.2.2.2.1)) 6 = true]
def cvalues : Ctr := shCtr values_S values_p [] [.slot 0 true tyN] values_f
abbrev blanked_S : Shape := ⟨[.one (.rd (.sl tyN))], []⟩
abbrev blanked_f : Shape.den blanked_S → denVars [.slot 0 false .str] := fun x => (blanks x.1.1, ())
abbrev blanked_p : Shape.den blanked_S → List Prop := fun x => [pNums x.1.1]
def cblanked : Ctr := shCtr blanked_S blanked_p [] [.slot 0 false .str] blanked_f
abbrev actWords_S : Shape := ⟨[], []⟩
abbrev actWords_f : Shape.den actWords_S → denVars [.slot 0 true tyS] := fun x => (wordsT, ())
abbrev actWords_p : Shape.den actWords_S → List Prop := fun _ => []
def cactWords : Ctr := shCtr actWords_S actWords_p [] [.slot 0 true tyS] actWords_f
abbrev callWords_f : Shape.den actWords_S → denVars [.slot 0 true tyS] := fun x => (callsT, ())
def ccallWords : Ctr := shCtr actWords_S actWords_p [] [.slot 0 true tyS] callWords_f
abbrev actLine_f : Shape.den values_S → denVars [.slot 0 false .str] := fun x => (actL x.1.1, ())
abbrev actLine_p : Shape.den values_S → List Prop := fun x => [pOk x.1.1]
def cactLine : Ctr := shCtr values_S actLine_p [] [.slot 0 false .str] actLine_f
abbrev ActsShown_S : Shape := ⟨[pCfg, .one (.rd (.sl tyAct))], []⟩
abbrev ActsShown_f : Shape.den ActsShown_S → denVars [.slot 0 false .str, .slot 1 false tI, .slot 2 false tI] := fun x => (showS x.1.1 x.1.2.1, showI x.1.1 x.1.2.1, showE x.1.1 x.1.2.1, ())
abbrev ActsShown_p : Shape.den ActsShown_S → List Prop := fun x => [pLen x.1.1.2.1 < 4611686018427387904, pLen x.1.2.1 < 4611686018427387904, (∀ q ∈ x.1.2.1, pLen q.2.2.2.2.2.1 < 4611686018427387904)]
def cActsShown : Ctr := shCtr ActsShown_S ActsShown_p [] [.slot 0 false .str, .slot 1 false tI, .slot 2 false tI] ActsShown_f
abbrev eqsLsV : List TypeId := [83, 53]

def DecS_VC (kk : Nat) (n : Int) : Prop :=
  bif pLt n (0 : Int) then pDec (pSubI IntKind.i64 (0 : Int) n) kk ∧ pStrFits (bs [45]) (pItoa (pSubI IntKind.i64 (0 : Int) n)) ∧ (pStrApp (bs [45]) (pItoa (pSubI IntKind.i64 (0 : Int) n)), ()) = (pItoa n, ()) else bif pLt n (10 : Int) then
 (pBytes ((pWrap IntKind.u8 (pAdd IntKind.i64 (48 : Int) n), ()) :: vnil (Int × PUnit)), ()) = (pItoa n, ()) else pNz (10 : Int) ∧ pDec (pQuo IntKind.i64 n (10 : Int)) kk ∧ pNz (10 : Int) ∧ pStrFits (pItoa (pQuo IntKind.i64 n (10 : Int)))
 (pBytes ((pWrap IntKind.u8 (pAdd IntKind.i64 (48 : Int) (pRem n (10 : Int))), ()) :: vnil (Int × PUnit))) ∧ (pStrApp (pItoa (pQuo IntKind.i64 n (10 : Int))) (pBytes ((pWrap IntKind.u8 (pAdd IntKind.i64 (48 : Int) (pRem n (10 : Int))), ())
 :: vnil (Int × PUnit))), ()) = (pItoa n, ())
set_option maxRecDepth 100000 in
theorem DecS_meets (hDecP : Mt 39 (cDecP kk)) (h : ∀ (n : Int), (∀ p ∈ (DecS_p kk) ⟨(n, ()), ()⟩, p) → DecS_VC kk n) : Mt 39 (cDecS kk) :=
  meets_vc (E := envOf Tryd.prog [(39, (false, (cDecP kk)))] eqsLsV) (envOf_ok (fun p hp => (by simp only [List.mem_cons, List.not_mem_nil, or_false] at hp; rcases hp with rfl; exact hDecP)) (by kernel_rfl)) DecP_S (fun x => fun ky9 st9 => look [] ky9) Tryd.func39 (by kernel_rfl) (by kernel_rfl) (DecS_p kk) [] [.slot 0 false .str] DecP_f (fun x => DecS_VC kk x.1.1) (fun x => by kernel_rfl) (fun x hp => h x.1.1 hp)

def WriteString_VC (s : ByteArray) (xs : List BD) : Prop :=
  pRoom (pPlus (pLen xs) (pLen (pStrCells s))) 1 ∧ (pInt (pStrLen s), (), ((), pApp xs (pTie (pStrCells s)), ()), ()) = (pInt (pStrLen s), (), ((), pApp xs (bl s), ()), ())
set_option maxRecDepth 100000 in
theorem WriteString_meets (hCopy : Mt 53 cCopy) (h : ∀ (s : ByteArray) (xs : List BD), (∀ p ∈ WriteString_p ⟨((), s, ()), (((), (), ()), xs, ())⟩, p) → WriteString_VC s xs) : Mt 18 cWriteString :=
  meets_vc (E := envOf Tryd.prog [(53, (false, cCopy))] eqsLsV) (envOf_ok (fun p hp => (by simp only [List.mem_cons, List.not_mem_nil, or_false] at hp; rcases hp with rfl; exact hCopy)) (by kernel_rfl)) WriteString_S (fun x => fun ky9 st9 => look [] ky9) Tryd.func18 (by kernel_rfl) (by kernel_rfl) WriteString_p [1] [.slot 0 false tI, .slot 1 false .unit, .box 0 (vBld 0)] WriteString_f (fun x => WriteString_VC x.1.2.1 x.2.2.1) (fun x => by kernel_rfl) (fun x hp => h x.1.2.1 x.2.2.1 hp)

def WriteByte_VC (b : Int) (xs : List BD) : Prop :=
  pRoom (pPlus (pLen xs) (pLen ((b, ()) :: vnil (Int × PUnit)))) 1 ∧ ((), ((), pApp xs (pTie ((b, ()) :: vnil (Int × PUnit))), ()), ()) = ((), ((), pApp xs (((), b, ()) :: vnil (PUnit × Int × PUnit)), ()), ())
set_option maxRecDepth 100000 in
theorem WriteByte_meets (hCopy : Mt 53 cCopy) (h : ∀ (b : Int) (xs : List BD), (∀ p ∈ WriteByte_p ⟨((), b, ()), (((), (), ()), xs, ())⟩, p) → WriteByte_VC b xs) : Mt 23 cWriteByte :=
  meets_vc (E := envOf Tryd.prog [(53, (false, cCopy))] eqsLsV) (envOf_ok (fun p hp => (by simp only [List.mem_cons, List.not_mem_nil, or_false] at hp; rcases hp with rfl; exact hCopy)) (by kernel_rfl)) WriteByte_S (fun x => fun ky9 st9 => look [] ky9) Tryd.func23 (by kernel_rfl) (by kernel_rfl) WriteByte_p [1] [.slot 0 false .unit, .box 0 (vBld 0)] WriteByte_f (fun x => WriteByte_VC x.1.2.1 x.2.2.1) (fun x => by kernel_rfl) (fun x hp => h x.1.2.1 x.2.2.1 hp)

def hexDigit_VC (n : Int) : Prop :=
  bif pLt n (10 : Int) then (pWrap IntKind.u8 (pAdd IntKind.i64 (48 : Int) n), ()) = (hexD n, ()) else (pWrap IntKind.u8 (pSubI IntKind.i64 (pAdd IntKind.i64 (97 : Int) n) (10 : Int)), ()) = (hexD n, ())
set_option maxRecDepth 100000 in
theorem hexDigit_meets  (h : ∀ (n : Int), (∀ p ∈ hexDigit_p ⟨(n, ()), ()⟩, p) → hexDigit_VC n) : Mt 60 chexDigit :=
  meets_vc (E := envOf Tryd.prog [] eqsLsV) (envOf_ok (fun p hp => by cases hp) (by kernel_rfl)) DecP_S (fun x => fun ky9 st9 => look [] ky9) Tryd.func60 (by kernel_rfl) (by kernel_rfl) hexDigit_p [] [.slot 0 false (.int .u8)] hexDigit_f (fun x => hexDigit_VC x.1.1) (fun x => by kernel_rfl) (fun x hp => h x.1.1 hp)

abbrev hex_v0 (s : ByteArray) (y0 : kden Bool.false tI × kden Bool.true tB8 × PUnit) := (pStrGet (bs [48, 49, 50, 51, 52, 53, 54, 55, 56, 57, 97, 98, 99, 100, 101, 102]) (pNat (pShr IntKind.u8 (pStrGet s (pNat y0.1)) (4 : Int))), ()) :: (pStrGet (bs [48, 49, 50, 51, 52, 53, 54, 55, 56, 57, 97, 98, 99, 100, 101, 102]) (pNat
 (pAnd IntKind.u8 (pStrGet s (pNat y0.1)) (15 : Int))), ()) :: vnil (Int × PUnit)

def hex_VC (s : ByteArray) : Prop :=
  hexInv s ((0 : Int), ((46 : Int), ()) :: vnil (Int × PUnit), ()) ∧ ∀ (y0 : kden Bool.false tI × kden Bool.true tB8 × PUnit), hexInv s y0 → bif pLt y0.1 (pInt (pStrLen s)) then pIn y0.1 (pStrLen s) ∧ pGe0 (4 : Int) ∧ pIn (pShr IntKind.u8
 (pStrGet s (pNat y0.1)) (4 : Int)) (pStrLen (bs [48, 49, 50, 51, 52, 53, 54, 55, 56, 57, 97, 98, 99, 100, 101, 102])) ∧ pIn y0.1 (pStrLen s) ∧ pIn (pAnd IntKind.u8 (pStrGet s (pNat y0.1)) (15 : Int)) (pStrLen (bs [48, 49, 50, 51, 52, 53,
 54, 55, 56, 57, 97, 98, 99, 100, 101, 102])) ∧ pRoom (pPlus (pLen y0.2.1) (pLen (hex_v0 s y0))) 1 ∧ hexInv s (pAdd IntKind.i64 y0.1 (1 : Int), pApp y0.2.1 (hex_v0 s y0), ()) ∧ Nat.le (Nat.succ (hexMu s (pAdd IntKind.i64 y0.1 (1 : Int), pApp
 y0.2.1 (hex_v0 s y0), ()))) (hexMu s y0) else (pBytes y0.2.1, ()) = (hexF s, ())
set_option maxRecDepth 100000 in
theorem hex_meets  (h : ∀ (s : ByteArray), (∀ p ∈ hex_p ⟨(s, ()), ()⟩, p) → hex_VC s) : Mt 22 chex :=
  meets_vc (E := envOf Tryd.prog [] eqsLsV) (envOf_ok (fun p hp => by cases hp) (by kernel_rfl)) hex_S (fun x => fun ky9 st9 => look [(3, (⟨[.slot 8 false tI, .slot 3 true tB8], hexInv x.1.1, hexMu x.1.1⟩ : Ann))] ky9) Tryd.func22 (by kernel_rfl) (by kernel_rfl) hex_p [] [.slot 0 false .str] hex_f (fun x => hex_VC x.1.1) (fun x => by kernel_rfl) (fun x hp => h x.1.1 hp)

abbrev values_t0 (z : ActD) : Prop := ((z.2.1, ()) :: (z.2.2.1, ()) :: (z.2.2.2.1, ()) :: (z.2.2.2.2.1, ()) :: vnil (Int × PUnit), ()) = (valsF z, ())
abbrev values_v1 (z : ActD) := bif pEq z.1 (5 : Int) then (vnil (Int × PUnit), ()) = (valsF z, ()) else bif pEq z.1 (6 : Int) then pRoom (pPlus (pLen ((z.2.1, ()) :: vnil (Int × PUnit))) (pLen z.2.2.2.2.2.1)) 8 ∧ (pApp ((z.2.1, ()) :: vnil (Int × PUnit)) z.2.2.2.2.2.1,
 ()) = (valsF z, ()) else bif pEq z.1 (7 : Int) then ((z.2.1, ()) :: vnil (Int × PUnit), ()) = (valsF z, ()) else ((z.2.1, ()) :: (z.2.2.2.1, ()) :: vnil (Int × PUnit), ()) = (valsF z, ())

def values_VC (z : ActD) : Prop :=
  bif pEq z.1 (2 : Int) then bif pEq z.1 (2 : Int) then values_t0 z else values_v1 z else bif pEq z.1 (3 : Int) then bif pEq z.1 (3 : Int) then values_t0 z else values_v1 z else bif pEq z.1 (4 : Int) then values_t0 z else values_v1 z
set_option maxRecDepth 100000 in
theorem values_meets  (h : ∀ (z : ActD), (∀ p ∈ values_p ⟨(z, ()), ()⟩, p) → values_VC z) : Mt 19 cvalues :=
  meets_vc (E := envOf Tryd.prog [] eqsLsV) (envOf_ok (fun p hp => by cases hp) (by kernel_rfl)) values_S (fun x => fun ky9 st9 => look [] ky9) Tryd.func19 (by kernel_rfl) (by kernel_rfl) values_p [] [.slot 0 true tyN] values_f (fun x => values_VC x.1.1) (fun x => by kernel_rfl) (fun x hp => h x.1.1 hp)

abbrev blanked_v0 (l : List ND) (y0 : kden Bool.false tI × kden Bool.false Ty.str × PUnit) := (pGet tyN l (pNat y0.1)).1

def blanked_VC (l : (List ND)) : Prop :=
  blkInv l ((0 : Int), (bs []), ()) ∧ ∀ (y0 : kden Bool.false tI × kden Bool.false Ty.str × PUnit), blkInv l y0 → bif pLt y0.1 (pInt (pLen l)) then pStrFits y0.2.1 (bs [32]) ∧ pIn y0.1 (pLen l) ∧ pLe (0 : Int) (blanked_v0 l y0) = Bool.true ∧
 pLe (blanked_v0 l y0) (9223372036854775807 : Int) = Bool.true ∧ pStrFits (pStrApp y0.2.1 (bs [32])) (pItoa (blanked_v0 l y0)) ∧ blkInv l (pAdd IntKind.i64 y0.1 (1 : Int), pStrApp (pStrApp y0.2.1 (bs [32])) (pItoa (blanked_v0 l y0)), ()) ∧
 Nat.le (Nat.succ (blkMu l (pAdd IntKind.i64 y0.1 (1 : Int), pStrApp (pStrApp y0.2.1 (bs [32])) (pItoa (blanked_v0 l y0)), ()))) (blkMu l y0) else y0.2 = (blanks l, ())
set_option maxRecDepth 100000 in
theorem blanked_meets (hDec : Mt 39 cDec) (h : ∀ (l : (List ND)), (∀ p ∈ blanked_p ⟨(l, ()), ()⟩, p) → blanked_VC l) : Mt 58 cblanked :=
  meets_vc (E := envOf Tryd.prog [(39, (false, cDec))] eqsLsV) (envOf_ok (fun p hp => (by simp only [List.mem_cons, List.not_mem_nil, or_false] at hp; rcases hp with rfl; exact hDec)) (by kernel_rfl)) blanked_S (fun x => fun ky9 st9 => look [(3, (⟨[.slot 4 false tI, .slot 3 false .str], blkInv x.1.1, blkMu x.1.1⟩ : Ann))] ky9) Tryd.func58 (by kernel_rfl) (by kernel_rfl) blanked_p [] [.slot 0 false .str] blanked_f (fun x => blanked_VC x.1.1) (fun x => by kernel_rfl) (fun x hp => h x.1.1 hp)

def actWords_VC  : Prop :=
  (((bs []), ()) :: ((bs [97, 115, 107]), ()) :: ((bs [100, 101, 108, 105, 118, 101, 114]), ()) :: ((bs [100, 114, 111, 112]), ()) :: ((bs [99, 111, 112, 121]), ()) :: ((bs [116, 105, 99, 107]), ()) :: ((bs [99, 114, 97, 115, 104]), ()) ::
 ((bs [115, 116, 97, 114, 116]), ()) :: ((bs [116, 121, 112, 101]), ()) :: vnil (ByteArray × PUnit), ()) = (wordsT, ())
set_option maxRecDepth 100000 in
theorem actWords_meets  (h : actWords_VC ) : Mt 57 cactWords :=
  meets_vc (E := envOf Tryd.prog [] eqsLsV) (envOf_ok (fun p hp => by cases hp) (by kernel_rfl)) actWords_S (fun x => fun ky9 st9 => look [] ky9) Tryd.func57 (by kernel_rfl) (by kernel_rfl) actWords_p [] [.slot 0 true tyS] actWords_f (fun x => actWords_VC ) (fun x => by kernel_rfl) (fun x _ => h )

def callWords_VC  : Prop :=
  (((bs []), ()) :: ((bs [98, 101, 103, 105, 110]), ()) :: ((bs [103, 101, 116]), ()) :: ((bs [112, 117, 116]), ()) :: ((bs [99, 111, 109, 109, 105, 116]), ()) :: ((bs [114, 111, 108, 108, 98, 97, 99, 107]), ()) :: vnil (ByteArray × PUnit),
 ()) = (callsT, ())
set_option maxRecDepth 100000 in
theorem callWords_meets  (h : callWords_VC ) : Mt 59 ccallWords :=
  meets_vc (E := envOf Tryd.prog [] eqsLsV) (envOf_ok (fun p hp => by cases hp) (by kernel_rfl)) actWords_S (fun x => fun ky9 st9 => look [] ky9) Tryd.func59 (by kernel_rfl) (by kernel_rfl) actWords_p [] [.slot 0 true tyS] callWords_f (fun x => callWords_VC ) (fun x => by kernel_rfl) (fun x _ => h )

abbrev actLine_v0 (z : ActD) := (pGet tyS wordsT (pNat z.1)).1
abbrev actLine_v1 (z : ActD) := pStrApp (pStrApp (actLine_v0 z) (blanks ((z.2.1, ()) :: (z.2.2.2.1, ()) :: vnil (Int × PUnit)))) (bs [32])
abbrev actLine_v2 (z : ActD) := (z.2.2.2.2.2.2.2.1, ())
abbrev actLine_v3 (z : ActD) := actLine_v2 z :: (z.2.2.2.2.2.2.2.2.1, ()) :: (z.2.2.2.2.2.2.2.2.2.1, ()) :: vnil (Int × PUnit)
abbrev actLine_v4 (z : ActD) := pStrApp (actLine_v1 z) (pGet tyS callsT (pNat z.2.2.2.2.2.2.1)).1
abbrev actLine_v5 (z : ActD) := actLine_v2 z :: (z.2.2.2.2.2.2.2.2.2.1, ()) :: (z.2.2.2.2.2.2.2.2.2.2.1, ()) :: vnil (Int × PUnit)
abbrev actLine_v6 (z : ActD) := (z.2.1, ()) :: (z.2.2.1, ()) :: (z.2.2.2.1, ()) :: (z.2.2.2.2.1, ()) :: vnil (Int × PUnit)
abbrev actLine_t7 (z : ActD) : Prop := pNums (actLine_v6 z) ∧ pStrFits (actLine_v0 z) (blanks (actLine_v6 z)) ∧ pStrFits (pStrApp (actLine_v0 z) (blanks (actLine_v6 z))) (bs [10]) ∧ (pStrApp (pStrApp (actLine_v0 z) (blanks (actLine_v6 z))) (bs [10]), ()) = (actL z, ())
abbrev actLine_v8 (z : ActD) := pStrApp (actLine_v0 z) (blanks ((z.2.1, ()) :: vnil (Int × PUnit)))
abbrev actLine_t9 (z : ActD) : Prop := pNums ((z.2.1, ()) :: vnil (Int × PUnit)) ∧ pStrFits (actLine_v0 z) (blanks ((z.2.1, ()) :: vnil (Int × PUnit))) ∧ pNums z.2.2.2.2.2.1 ∧ pStrFits (actLine_v8 z) (blanks z.2.2.2.2.2.1) ∧ pStrFits (pStrApp (actLine_v8 z) (blanks
 z.2.2.2.2.2.1)) (bs [10]) ∧ (pStrApp (pStrApp (actLine_v8 z) (blanks z.2.2.2.2.2.1)) (bs [10]), ()) = (actL z, ())
abbrev actLine_t10 (z : ActD) : Prop := pNums ((z.2.1, ()) :: vnil (Int × PUnit)) ∧ pStrFits (actLine_v0 z) (blanks ((z.2.1, ()) :: vnil (Int × PUnit))) ∧ pStrFits (actLine_v8 z) (bs [10]) ∧ (pStrApp (actLine_v8 z) (bs [10]), ()) = (actL z, ())
abbrev actLine_v11 (z : ActD) := z.2.2.2.2.2.2.2.2.2.2.2.1
abbrev actLine_v12 (z : ActD) (y2 : kden Bool.false tI × kden Bool.true tB8 × PUnit) := pQuo IntKind.i64 (pWrap IntKind.i64 (pStrGet (actLine_v11 z) (pNat y2.1))) (16 : Int)
abbrev actLine_v13 (z : ActD) (y2 : kden Bool.false tI × kden Bool.true tB8 × PUnit) := pRem (pWrap IntKind.i64 (pStrGet (actLine_v11 z) (pNat y2.1))) (16 : Int)
abbrev actLine_v14 (z : ActD) (y2 : kden Bool.false tI × kden Bool.true tB8 × PUnit) := (pAdd IntKind.i64 y2.1 (1 : Int), pApp y2.2.1 ((hexD (actLine_v12 z y2), ()) :: (hexD (actLine_v13 z y2), ()) :: vnil (Int × PUnit)), ())
abbrev actLine_t15 (z : ActD) : Prop := pStrFits (actLine_v0 z) (bs [10]) ∧ (pStrApp (actLine_v0 z) (bs [10]), ()) = (actL z, ())
abbrev actLine_v16 (z : ActD) (y1 : kden Bool.false tI × kden Bool.true tB8 × PUnit) := pQuo IntKind.i64 (pWrap IntKind.i64 (pStrGet (actLine_v11 z) (pNat y1.1))) (16 : Int)
abbrev actLine_v17 (z : ActD) (y1 : kden Bool.false tI × kden Bool.true tB8 × PUnit) := pRem (pWrap IntKind.i64 (pStrGet (actLine_v11 z) (pNat y1.1))) (16 : Int)
abbrev actLine_v18 (z : ActD) (y1 : kden Bool.false tI × kden Bool.true tB8 × PUnit) := (pAdd IntKind.i64 y1.1 (1 : Int), pApp y1.2.1 ((hexD (actLine_v16 z y1), ()) :: (hexD (actLine_v17 z y1), ()) :: vnil (Int × PUnit)), ())
abbrev actLine_v19 (z : ActD) (y0 : kden Bool.false tI × kden Bool.true tB8 × PUnit) := pQuo IntKind.i64 (pWrap IntKind.i64 (pStrGet (actLine_v11 z) (pNat y0.1))) (16 : Int)
abbrev actLine_v20 (z : ActD) (y0 : kden Bool.false tI × kden Bool.true tB8 × PUnit) := pRem (pWrap IntKind.i64 (pStrGet (actLine_v11 z) (pNat y0.1))) (16 : Int)
abbrev actLine_v21 (z : ActD) (y0 : kden Bool.false tI × kden Bool.true tB8 × PUnit) := (pAdd IntKind.i64 y0.1 (1 : Int), pApp y0.2.1 ((hexD (actLine_v19 z y0), ()) :: (hexD (actLine_v20 z y0), ()) :: vnil (Int × PUnit)), ())

def actLine_VC (z : ActD) : Prop :=
  pIn z.1 (pLen wordsT) ∧ bif pEq z.1 (1 : Int) then pNums ((z.2.1, ()) :: (z.2.2.2.1, ()) :: vnil (Int × PUnit)) ∧ pStrFits (actLine_v0 z) (blanks ((z.2.1, ()) :: (z.2.2.2.1, ()) :: vnil (Int × PUnit))) ∧ pStrFits (pStrApp (actLine_v0 z)
 (blanks ((z.2.1, ()) :: (z.2.2.2.1, ()) :: vnil (Int × PUnit)))) (bs [32]) ∧ pIn z.2.2.2.2.2.2.1 (pLen callsT) ∧ pStrFits (actLine_v1 z) (pGet tyS callsT (pNat z.2.2.2.2.2.2.1)).1 ∧ bif pEq z.2.2.2.2.2.2.1 (2 : Int) then pNums (actLine_v3
 z) ∧ pStrFits (actLine_v4 z) (blanks (actLine_v3 z)) ∧ pStrFits (pStrApp (actLine_v4 z) (blanks (actLine_v3 z))) (bs [10]) ∧ (pStrApp (pStrApp (actLine_v4 z) (blanks (actLine_v3 z))) (bs [10]), ()) = (actL z, ()) else bif pEq
 z.2.2.2.2.2.2.1 (3 : Int) then pNums (actLine_v5 z) ∧ pStrFits (actLine_v4 z) (blanks (actLine_v5 z)) ∧ pStrFits (pStrApp (actLine_v4 z) (blanks (actLine_v5 z))) (bs [10]) ∧ (pStrApp (pStrApp (actLine_v4 z) (blanks (actLine_v5 z))) (bs
 [10]), ()) = (actL z, ()) else bif pNe z.2.2.2.2.2.2.1 (1 : Int) then pNums (actLine_v2 z :: vnil (Int × PUnit)) ∧ pStrFits (actLine_v4 z) (blanks (actLine_v2 z :: vnil (Int × PUnit))) ∧ pStrFits (pStrApp (actLine_v4 z) (blanks (actLine_v2
 z :: vnil (Int × PUnit)))) (bs [10]) ∧ (pStrApp (pStrApp (actLine_v4 z) (blanks (actLine_v2 z :: vnil (Int × PUnit)))) (bs [10]), ()) = (actL z, ()) else pStrFits (actLine_v4 z) (bs [10]) ∧ (pStrApp (actLine_v4 z) (bs [10]), ()) = (actL z,
 ()) else bif pEq z.1 (2 : Int) then bif pEq z.1 (2 : Int) then actLine_t7 z else bif pEq z.1 (6 : Int) then actLine_t9 z else bif pEq z.1 (7 : Int) then actLine_t10 z else bif pEq z.1 (8 : Int) then hexRInv z ((0 : Int), ((46 : Int), ()) ::
 vnil (Int × PUnit), ()) ∧ ∀ (y2 : kden Bool.false tI × kden Bool.true tB8 × PUnit), hexRInv z y2 → bif pLt y2.1 (pInt (pStrLen (actLine_v11 z))) then pIn y2.1 (pStrLen (actLine_v11 z)) ∧ pNz (16 : Int) ∧ pLe (0 : Int) (actLine_v12 z y2) =
 Bool.true ∧ pLt (actLine_v12 z y2) (16 : Int) = Bool.true ∧ pIn y2.1 (pStrLen (actLine_v11 z)) ∧ pNz (16 : Int) ∧ pLe (0 : Int) (actLine_v13 z y2) = Bool.true ∧ pLt (actLine_v13 z y2) (16 : Int) = Bool.true ∧ pRoom (pPlus (pLen y2.2.1)
 (pLen ((hexD (actLine_v12 z y2), ()) :: (hexD (actLine_v13 z y2), ()) :: vnil (Int × PUnit)))) 1 ∧ hexRInv z (actLine_v14 z y2) ∧ Nat.le (Nat.succ (hexRMu z (actLine_v14 z y2))) (hexRMu z y2) else pNums ((z.2.1, ()) :: (z.2.2.2.1, ()) ::
 vnil (Int × PUnit)) ∧ pStrFits (actLine_v0 z) (blanks ((z.2.1, ()) :: (z.2.2.2.1, ()) :: vnil (Int × PUnit))) ∧ pStrFits (pStrApp (actLine_v0 z) (blanks ((z.2.1, ()) :: (z.2.2.2.1, ()) :: vnil (Int × PUnit)))) (bs [32]) ∧ pStrFits
 (actLine_v1 z) (pBytes y2.2.1) ∧ pStrFits (pStrApp (actLine_v1 z) (pBytes y2.2.1)) (bs [10]) ∧ (pStrApp (pStrApp (actLine_v1 z) (pBytes y2.2.1)) (bs [10]), ()) = (actL z, ()) else actLine_t15 z else bif pEq z.1 (3 : Int) then bif pEq z.1 (3
 : Int) then actLine_t7 z else bif pEq z.1 (6 : Int) then actLine_t9 z else bif pEq z.1 (7 : Int) then actLine_t10 z else bif pEq z.1 (8 : Int) then hexRInv z ((0 : Int), ((46 : Int), ()) :: vnil (Int × PUnit), ()) ∧ ∀ (y1 : kden Bool.false
 tI × kden Bool.true tB8 × PUnit), hexRInv z y1 → bif pLt y1.1 (pInt (pStrLen (actLine_v11 z))) then pIn y1.1 (pStrLen (actLine_v11 z)) ∧ pNz (16 : Int) ∧ pLe (0 : Int) (actLine_v16 z y1) = Bool.true ∧ pLt (actLine_v16 z y1) (16 : Int) =
 Bool.true ∧ pIn y1.1 (pStrLen (actLine_v11 z)) ∧ pNz (16 : Int) ∧ pLe (0 : Int) (actLine_v17 z y1) = Bool.true ∧ pLt (actLine_v17 z y1) (16 : Int) = Bool.true ∧ pRoom (pPlus (pLen y1.2.1) (pLen ((hexD (actLine_v16 z y1), ()) :: (hexD
 (actLine_v17 z y1), ()) :: vnil (Int × PUnit)))) 1 ∧ hexRInv z (actLine_v18 z y1) ∧ Nat.le (Nat.succ (hexRMu z (actLine_v18 z y1))) (hexRMu z y1) else pNums ((z.2.1, ()) :: (z.2.2.2.1, ()) :: vnil (Int × PUnit)) ∧ pStrFits (actLine_v0 z)
 (blanks ((z.2.1, ()) :: (z.2.2.2.1, ()) :: vnil (Int × PUnit))) ∧ pStrFits (pStrApp (actLine_v0 z) (blanks ((z.2.1, ()) :: (z.2.2.2.1, ()) :: vnil (Int × PUnit)))) (bs [32]) ∧ pStrFits (actLine_v1 z) (pBytes y1.2.1) ∧ pStrFits (pStrApp
 (actLine_v1 z) (pBytes y1.2.1)) (bs [10]) ∧ (pStrApp (pStrApp (actLine_v1 z) (pBytes y1.2.1)) (bs [10]), ()) = (actL z, ()) else actLine_t15 z else bif pEq z.1 (4 : Int) then actLine_t7 z else bif pEq z.1 (6 : Int) then actLine_t9 z else
 bif pEq z.1 (7 : Int) then actLine_t10 z else bif pEq z.1 (8 : Int) then hexRInv z ((0 : Int), ((46 : Int), ()) :: vnil (Int × PUnit), ()) ∧ ∀ (y0 : kden Bool.false tI × kden Bool.true tB8 × PUnit), hexRInv z y0 → bif pLt y0.1 (pInt
 (pStrLen (actLine_v11 z))) then pIn y0.1 (pStrLen (actLine_v11 z)) ∧ pNz (16 : Int) ∧ pLe (0 : Int) (actLine_v19 z y0) = Bool.true ∧ pLt (actLine_v19 z y0) (16 : Int) = Bool.true ∧ pIn y0.1 (pStrLen (actLine_v11 z)) ∧ pNz (16 : Int) ∧ pLe
 (0 : Int) (actLine_v20 z y0) = Bool.true ∧ pLt (actLine_v20 z y0) (16 : Int) = Bool.true ∧ pRoom (pPlus (pLen y0.2.1) (pLen ((hexD (actLine_v19 z y0), ()) :: (hexD (actLine_v20 z y0), ()) :: vnil (Int × PUnit)))) 1 ∧ hexRInv z (actLine_v21
 z y0) ∧ Nat.le (Nat.succ (hexRMu z (actLine_v21 z y0))) (hexRMu z y0) else pNums ((z.2.1, ()) :: (z.2.2.2.1, ()) :: vnil (Int × PUnit)) ∧ pStrFits (actLine_v0 z) (blanks ((z.2.1, ()) :: (z.2.2.2.1, ()) :: vnil (Int × PUnit))) ∧ pStrFits
 (pStrApp (actLine_v0 z) (blanks ((z.2.1, ()) :: (z.2.2.2.1, ()) :: vnil (Int × PUnit)))) (bs [32]) ∧ pStrFits (actLine_v1 z) (pBytes y0.2.1) ∧ pStrFits (pStrApp (actLine_v1 z) (pBytes y0.2.1)) (bs [10]) ∧ (pStrApp (pStrApp (actLine_v1 z)
 (pBytes y0.2.1)) (bs [10]), ()) = (actL z, ()) else actLine_t15 z
set_option maxRecDepth 100000 in
theorem actLine_meets (hactWords : Mt 57 cactWords) (hcallWords : Mt 59 ccallWords) (hblanked : Mt 58 cblanked) (hhexDigit : Mt 60 chexDigit) (h : ∀ (z : ActD), (∀ p ∈ actLine_p ⟨(z, ()), ()⟩, p) → actLine_VC z) : Mt 27 cactLine :=
  meets_vc (E := envOf Tryd.prog [(57, (false, cactWords)), (59, (false, ccallWords)), (58, (false, cblanked)), (60, (false, chexDigit))] eqsLsV) (envOf_ok (fun p hp => (by simp only [List.mem_cons, List.not_mem_nil, or_false] at hp; rcases hp with rfl | rfl | rfl | rfl; exact hactWords; exact hcallWords; exact hblanked; exact hhexDigit)) (by kernel_rfl)) values_S (fun x => fun ky9 st9 => look [(23, (⟨[.slot 6 false tI, .slot 5 true tB8], hexRInv x.1.1, hexRMu x.1.1⟩ : Ann))] ky9) Tryd.func27 (by kernel_rfl) (by kernel_rfl) actLine_p [] [.slot 0 false .str] actLine_f (fun x => actLine_VC x.1.1) (fun x => by kernel_rfl) (fun x hp => h x.1.1 hp)

abbrev ActsShown_v0 (c : CfgD) (l : List ActD) := (showS c l, showI c l, showE c l, ())
abbrev ActsShown_v1 (l : List ActD) (y1 : kden Bool.false tI × kden Bool.false Ty.str × PUnit) := pGet tyAct l (pNat y1.1)
abbrev ActsShown_v2 (l : List ActD) (y0 : kden Bool.false tI × kden Bool.false Ty.str × PUnit) := pGet tyAct l (pNat y0.1)

def ActsShown_VC (c : CfgD) (l : (List ActD)) : Prop :=
  Nat.le (Nat.succ (pLen c.2.1)) 4611686018427387904 ∧ bif pEq (cfgF c) (0 : Int) then bif pGt (pInt (pLen l)) (3000 : Int) then ((bs []), (0 : Int), (1 : Int), ()) = ActsShown_v0 c l else bif pNe (cfgF c) (0 : Int) then ((bs []), (0 : Int),
 cfgF c, ()) = ActsShown_v0 c l else shrInv c l ((0 : Int), (bs []), ()) ∧ ∀ (y1 : kden Bool.false tI × kden Bool.false Ty.str × PUnit), shrInv c l y1 → bif pLt y1.1 (pInt (pLen l)) then pIn y1.1 (pLen l) ∧ Nat.le (Nat.succ (pLen c.2.1))
 4611686018427387904 ∧ Nat.le (Nat.succ (pLen (ActsShown_v1 l y1).2.2.2.2.2.1)) 4611686018427387904 ∧ bif pNe (actF c (ActsShown_v1 l y1)) (0 : Int) then ((bs []), y1.1, actF c (ActsShown_v1 l y1), ()) = ActsShown_v0 c l else pIn y1.1 (pLen
 l) ∧ pOk (ActsShown_v1 l y1) ∧ pStrFits y1.2.1 (actL (ActsShown_v1 l y1)) ∧ shrInv c l (pAdd IntKind.i64 y1.1 (1 : Int), pStrApp y1.2.1 (actL (ActsShown_v1 l y1)), ()) ∧ Nat.le (Nat.succ (shrMu c l (pAdd IntKind.i64 y1.1 (1 : Int), pStrApp
 y1.2.1 (actL (ActsShown_v1 l y1)), ()))) (shrMu c l y1) else (y1.2.1, (0 : Int), (0 : Int), ()) = ActsShown_v0 c l else bif pNe (cfgF c) (0 : Int) then ((bs []), (0 : Int), cfgF c, ()) = ActsShown_v0 c l else shrInv c l ((0 : Int), (bs []),
 ()) ∧ ∀ (y0 : kden Bool.false tI × kden Bool.false Ty.str × PUnit), shrInv c l y0 → bif pLt y0.1 (pInt (pLen l)) then pIn y0.1 (pLen l) ∧ Nat.le (Nat.succ (pLen c.2.1)) 4611686018427387904 ∧ Nat.le (Nat.succ (pLen (ActsShown_v2 l
 y0).2.2.2.2.2.1)) 4611686018427387904 ∧ bif pNe (actF c (ActsShown_v2 l y0)) (0 : Int) then ((bs []), y0.1, actF c (ActsShown_v2 l y0), ()) = ActsShown_v0 c l else pIn y0.1 (pLen l) ∧ pOk (ActsShown_v2 l y0) ∧ pStrFits y0.2.1 (actL
 (ActsShown_v2 l y0)) ∧ shrInv c l (pAdd IntKind.i64 y0.1 (1 : Int), pStrApp y0.2.1 (actL (ActsShown_v2 l y0)), ()) ∧ Nat.le (Nat.succ (shrMu c l (pAdd IntKind.i64 y0.1 (1 : Int), pStrApp y0.2.1 (actL (ActsShown_v2 l y0)), ()))) (shrMu c l
 y0) else (y0.2.1, (0 : Int), (0 : Int), ()) = ActsShown_v0 c l
set_option maxRecDepth 100000 in
theorem ActsShown_meets (hcFault : Mt 25 ccFault) (haFault : Mt 26 caFault) (hactLine : Mt 27 cactLine) (h : ∀ (c : CfgD) (l : (List ActD)), (∀ p ∈ ActsShown_p ⟨(c, l, ()), ()⟩, p) → ActsShown_VC c l) : Mt 8 cActsShown :=
  meets_vc (E := envOf Tryd.prog [(25, (false, ccFault)), (26, (false, caFault)), (27, (false, cactLine))] eqsLsV) (envOf_ok (fun p hp => (by simp only [List.mem_cons, List.not_mem_nil, or_false] at hp; rcases hp with rfl | rfl | rfl; exact hcFault; exact haFault; exact hactLine)) (by kernel_rfl)) ActsShown_S (fun x => fun ky9 st9 => look [(8, (⟨[.slot 9 false tI, .slot 8 false .str], shrInv x.1.1 x.1.2.1, shrMu x.1.1 x.1.2.1⟩ : Ann))] ky9) Tryd.func8 (by kernel_rfl) (by kernel_rfl) ActsShown_p [] [.slot 0 false .str, .slot 1 false tI, .slot 2 false tI] ActsShown_f (fun x => ActsShown_VC x.1.1 x.1.2.1) (fun x => by kernel_rfl) (fun x hp => h x.1.1 x.1.2.1 hp)


end Go.Proofs.YtedjlbcclhgfmaaDoor

/- Contracts, and what the evaluator says, as plain propositions: LtV. Printed by vc.py. -/
namespace Go.Proofs.YtedjlbcclhgfmaaDoor
open Go.RowKit Go.ChangeShapes Go.WideShapes Go.Deep

abbrev Itoa_S : Shape := ⟨[.one (.rd tI)], []⟩
abbrev Itoa_f : Shape.den Itoa_S → denVars [.slot 0 false .str] := fun x => (pItoa x.1.1, ())
abbrev Itoa_p : Shape.den Itoa_S → List Prop := fun x => [pLe (-9223372036854775808) x.1.1 = true, pLe x.1.1 9223372036854775807 = true]
def cItoa : Ctr := shCtr Itoa_S Itoa_p [] [.slot 0 false .str] Itoa_f
abbrev asked_S : Shape := ⟨[pCall], []⟩
abbrev asked_f : Shape.den asked_S → denVars [.slot 0 false .str] := fun x => (askedF x.1.1, ())
abbrev asked_p : Shape.den asked_S → List Prop := fun x => [callF x.1.1 = 0]
def casked : Ctr := shCtr asked_S asked_p [] [.slot 0 false .str] asked_f
abbrev Show_S : Shape := ⟨[pCfg, .one (.rd (.sl tyAct))], []⟩
abbrev Show_f : Shape.den Show_S → denVars [.slot 0 false .str, .slot 1 false tI, .slot 2 false tI] := fun x => (showS x.1.1 x.1.2.1, showI x.1.1 x.1.2.1, showE x.1.1 x.1.2.1, ())
abbrev Show_p : Shape.den Show_S → List Prop := fun x => [pLen x.1.1.2.1 < 4611686018427387904, pLen x.1.2.1 < 4611686018427387904, (∀ q ∈ x.1.2.1, pLen q.2.2.2.2.2.1 < 4611686018427387904)]
def cShow : Ctr := shCtr Show_S Show_p [] [.slot 0 false .str, .slot 1 false tI, .slot 2 false tI] Show_f
abbrev eqsLtV : List TypeId := []

abbrev asked_v0 (x : CallD) := (pGet tyS callsT (pNat x.1)).1
abbrev asked_v1 (x : CallD) := (x.2.1, ()) :: (x.2.2.1, ()) :: (x.2.2.2.1, ()) :: vnil (Int × PUnit)
abbrev asked_v2 (x : CallD) (y5 : kden Bool.false tI × kden Bool.false Ty.str × PUnit) := (pGet tyN (asked_v1 x) (pNat y5.1)).1
abbrev asked_v3 (x : CallD) := (x.2.1, ()) :: (x.2.2.2.1, ()) :: x.2.2.2.2 :: vnil (Int × PUnit)
abbrev asked_v4 (x : CallD) (y4 : kden Bool.false tI × kden Bool.false Ty.str × PUnit) := (pGet tyN (asked_v3 x) (pNat y4.1)).1
abbrev asked_v5 (x : CallD) (y3 : kden Bool.false tI × kden Bool.false Ty.str × PUnit) := (pGet tyN ((x.2.1, ()) :: vnil (Int × PUnit)) (pNat y3.1)).1
abbrev asked_v6 (x : CallD) (y1 : kden Bool.false tI × kden Bool.false Ty.str × PUnit) := (pGet tyN ((x.2.1, ()) :: vnil (Int × PUnit)) (pNat y1.1)).1

def asked_VC (x : CallD) : Prop :=
  pIn x.1 6 ∧ pStrFits (bs [32]) (asked_v0 x) ∧ bif pEq x.1 (2 : Int) then askInv x ((0 : Int), pStrApp (bs [32]) (asked_v0 x), ()) ∧ ∀ (y5 : kden Bool.false tI × kden Bool.false Ty.str × PUnit), askInv x y5 → bif pLt y5.1 (pInt (pLen
 (asked_v1 x))) then pIn y5.1 (pLen (asked_v1 x)) ∧ pLe (-9223372036854775808 : Int) (asked_v2 x y5) = Bool.true ∧ pLe (asked_v2 x y5) (9223372036854775807 : Int) = Bool.true ∧ pStrFits (bs [32]) (pItoa (asked_v2 x y5)) ∧ pStrFits y5.2.1
 (pStrApp (bs [32]) (pItoa (asked_v2 x y5))) ∧ askInv x (pAdd IntKind.i64 y5.1 (1 : Int), pStrApp y5.2.1 (pStrApp (bs [32]) (pItoa (asked_v2 x y5))), ()) ∧ Nat.le (Nat.succ (askMu x (pAdd IntKind.i64 y5.1 (1 : Int), pStrApp y5.2.1 (pStrApp
 (bs [32]) (pItoa (asked_v2 x y5))), ()))) (askMu x y5) else y5.2 = (askedF x, ()) else bif pEq x.1 (3 : Int) then askInv x ((0 : Int), pStrApp (bs [32]) (asked_v0 x), ()) ∧ ∀ (y4 : kden Bool.false tI × kden Bool.false Ty.str × PUnit),
 askInv x y4 → bif pLt y4.1 (pInt (pLen (asked_v3 x))) then pIn y4.1 (pLen (asked_v3 x)) ∧ pLe (-9223372036854775808 : Int) (asked_v4 x y4) = Bool.true ∧ pLe (asked_v4 x y4) (9223372036854775807 : Int) = Bool.true ∧ pStrFits (bs [32]) (pItoa
 (asked_v4 x y4)) ∧ pStrFits y4.2.1 (pStrApp (bs [32]) (pItoa (asked_v4 x y4))) ∧ askInv x (pAdd IntKind.i64 y4.1 (1 : Int), pStrApp y4.2.1 (pStrApp (bs [32]) (pItoa (asked_v4 x y4))), ()) ∧ Nat.le (Nat.succ (askMu x (pAdd IntKind.i64 y4.1
 (1 : Int), pStrApp y4.2.1 (pStrApp (bs [32]) (pItoa (asked_v4 x y4))), ()))) (askMu x y4) else y4.2 = (askedF x, ()) else bif pEq x.1 (4 : Int) then bif pEq x.1 (4 : Int) then askInv x ((0 : Int), pStrApp (bs [32]) (asked_v0 x), ()) ∧ ∀ (y3
 : kden Bool.false tI × kden Bool.false Ty.str × PUnit), askInv x y3 → bif pLt y3.1 (pInt (pLen ((x.2.1, ()) :: vnil (Int × PUnit)))) then pIn y3.1 (pLen ((x.2.1, ()) :: vnil (Int × PUnit))) ∧ pLe (-9223372036854775808 : Int) (asked_v5 x y3)
 = Bool.true ∧ pLe (asked_v5 x y3) (9223372036854775807 : Int) = Bool.true ∧ pStrFits (bs [32]) (pItoa (asked_v5 x y3)) ∧ pStrFits y3.2.1 (pStrApp (bs [32]) (pItoa (asked_v5 x y3))) ∧ askInv x (pAdd IntKind.i64 y3.1 (1 : Int), pStrApp y3.2.1
 (pStrApp (bs [32]) (pItoa (asked_v5 x y3))), ()) ∧ Nat.le (Nat.succ (askMu x (pAdd IntKind.i64 y3.1 (1 : Int), pStrApp y3.2.1 (pStrApp (bs [32]) (pItoa (asked_v5 x y3))), ()))) (askMu x y3) else y3.2 = (askedF x, ()) else askInv x ((0 :
 Int), pStrApp (bs [32]) (asked_v0 x), ()) ∧ ∀ (y2 : kden Bool.false tI × kden Bool.false Ty.str × PUnit), askInv x y2 → bif pLt y2.1 (0 : Int) then False ∧ False else y2.2 = (askedF x, ()) else bif pEq x.1 (5 : Int) then askInv x ((0 :
 Int), pStrApp (bs [32]) (asked_v0 x), ()) ∧ ∀ (y1 : kden Bool.false tI × kden Bool.false Ty.str × PUnit), askInv x y1 → bif pLt y1.1 (pInt (pLen ((x.2.1, ()) :: vnil (Int × PUnit)))) then pIn y1.1 (pLen ((x.2.1, ()) :: vnil (Int × PUnit)))
 ∧ pLe (-9223372036854775808 : Int) (asked_v6 x y1) = Bool.true ∧ pLe (asked_v6 x y1) (9223372036854775807 : Int) = Bool.true ∧ pStrFits (bs [32]) (pItoa (asked_v6 x y1)) ∧ pStrFits y1.2.1 (pStrApp (bs [32]) (pItoa (asked_v6 x y1))) ∧ askInv
 x (pAdd IntKind.i64 y1.1 (1 : Int), pStrApp y1.2.1 (pStrApp (bs [32]) (pItoa (asked_v6 x y1))), ()) ∧ Nat.le (Nat.succ (askMu x (pAdd IntKind.i64 y1.1 (1 : Int), pStrApp y1.2.1 (pStrApp (bs [32]) (pItoa (asked_v6 x y1))), ()))) (askMu x y1)
 else y1.2 = (askedF x, ()) else askInv x ((0 : Int), pStrApp (bs [32]) (asked_v0 x), ()) ∧ ∀ (y0 : kden Bool.false tI × kden Bool.false Ty.str × PUnit), askInv x y0 → bif pLt y0.1 (0 : Int) then False ∧ False else y0.2 = (askedF x, ())
set_option maxRecDepth 100000 in
theorem asked_meets (hItoa : MtG tabsW 20 cItoa) (h : ∀ (x : CallD), (∀ p ∈ asked_p ⟨(x, ()), ()⟩, p) → asked_VC x) : MtG tabsW 21 casked :=
  meets_vc (E := envOfG Tryd.prog tabsW [(20, (false, cItoa))] eqsLtV) (envOfG_ok (fun p hp => (by simp only [List.mem_cons, List.not_mem_nil, or_false] at hp; rcases hp with rfl; exact hItoa)) (by kernel_rfl)) asked_S (fun x => fun ky9 st9 => look [(12, (⟨[.slot 40 false tI, .slot 3 false .str], askInv x.1.1, askMu x.1.1⟩ : Ann))] ky9) Tryd.func21 (by kernel_rfl) (by kernel_rfl) asked_p [] [.slot 0 false .str] asked_f (fun x => asked_VC x.1.1) (fun x => by kernel_rfl) (fun x hp => h x.1.1 hp)

abbrev Show_v0 (c : CfgD) (l : List ActD) := (showS c l, showI c l, showE c l, ())
abbrev Show_v1 (l : List ActD) (y0 : kden Bool.false tI × denCells (vBld 96) × PUnit) := pGet tyAct l (pNat y0.1)
abbrev Show_v2 (l : List ActD) (y0 : kden Bool.false tI × denCells (vBld 96) × PUnit) := (pGet tyS wordsT (pNat (Show_v1 l y0).1)).1
abbrev Show_v3 (l : List ActD) (y0 : kden Bool.false tI × denCells (vBld 96) × PUnit) := pApp y0.2.1.2.1 (bl (Show_v2 l y0))
abbrev Show_v4 (l : List ActD) (y0 : kden Bool.false tI × denCells (vBld 96) × PUnit) (y1 : kden Bool.false tI × denCells (vBld 96) × PUnit) := (pGet tyN (valsF (Show_v1 l y0)) (pNat y1.1)).1
abbrev Show_v5 (_ : CfgD) (l : List ActD) (y0 : kden Bool.false tI × denCells (vBld 96) × PUnit) (y1 : kden Bool.false tI × denCells (vBld 96) × PUnit) := (pAdd IntKind.i64 y1.1 (1 : Int), ((), pApp y1.2.1.2.1 (bl (pStrApp (bs [32]) (pItoa (Show_v4 l y0 y1)))), ()), ())
abbrev Show_v6 (l : List ActD) (y0 : kden Bool.false tI × denCells (vBld 96) × PUnit) := ((Show_v1 l y0).2.2.2.2.2.2.1, (Show_v1 l y0).2.2.2.2.2.2.2.1, (Show_v1 l y0).2.2.2.2.2.2.2.2.1, (Show_v1 l y0).2.2.2.2.2.2.2.2.2.1, (Show_v1 l y0).2.2.2.2.2.2.2.2.2.2.1, ())
abbrev Show_v7 (_ : CfgD) (l : List ActD) (y0 : kden Bool.false tI × denCells (vBld 96) × PUnit) (y1 : kden Bool.false tI × denCells (vBld 96) × PUnit) := (pAdd IntKind.i64 y0.1 (1 : Int), ((), pApp (pApp y1.2.1.2.1 (bl (askedF (Show_v6 l y0)))) (((), (10 : Int), ()) :: vnil (PUnit × Int × PUnit)), ()), ())
abbrev Show_v8 (l : List ActD) (y0 : kden Bool.false tI × denCells (vBld 96) × PUnit) (y1 : kden Bool.false tI × denCells (vBld 96) × PUnit) := pApp y1.2.1.2.1 (bl (pStrApp (bs [32]) (hexF (Show_v1 l y0).2.2.2.2.2.2.2.2.2.2.2.1)))
abbrev Show_v9 (_ : CfgD) (l : List ActD) (y0 : kden Bool.false tI × denCells (vBld 96) × PUnit) (y1 : kden Bool.false tI × denCells (vBld 96) × PUnit) := (pAdd IntKind.i64 y0.1 (1 : Int), ((), pApp (Show_v8 l y0 y1) (((), (10 : Int), ()) :: vnil (PUnit × Int × PUnit)), ()), ())
abbrev Show_v10 (_ : CfgD) (_ : List ActD) (y0 : kden Bool.false tI × denCells (vBld 96) × PUnit) (y1 : kden Bool.false tI × denCells (vBld 96) × PUnit) := (pAdd IntKind.i64 y0.1 (1 : Int), ((), pApp y1.2.1.2.1 (((), (10 : Int), ()) :: vnil (PUnit × Int × PUnit)), ()), ())

def Show_VC (c : CfgD) (l : (List ActD)) : Prop :=
  Nat.le (Nat.succ (pLen c.2.1)) 4611686018427387904 ∧ bif pNe (cfgF c) (0 : Int) then ((bs []), (0 : Int), cfgF c, ()) = Show_v0 c l else bif pGt (pInt (pLen l)) (3000 : Int) then ((bs []), (0 : Int), (1 : Int), ()) = Show_v0 c l else shsInv
 c l ((0 : Int), ((), vnil (PUnit × Int × PUnit), ()), ()) ∧ ∀ (y0 : kden Bool.false tI × denCells (vBld 96) × PUnit), shsInv c l y0 → bif pLt y0.1 (pInt (pLen l)) then pIn y0.1 (pLen l) ∧ Nat.le (Nat.succ (pLen c.2.1)) 4611686018427387904 ∧
 Nat.le (Nat.succ (pLen (Show_v1 l y0).2.2.2.2.2.1)) 4611686018427387904 ∧ bif pNe (actF c (Show_v1 l y0)) (0 : Int) then ((bs []), y0.1, actF c (Show_v1 l y0), ()) = Show_v0 c l else pIn (Show_v1 l y0).1 9 ∧ pRoom (pPlus (pLen y0.2.1.2.1)
 (pStrLen (Show_v2 l y0))) 1 ∧ pLe (pInt (pLen (Show_v1 l y0).2.2.2.2.2.1)) (6 : Int) = Bool.true ∧ shvInv (Show_v3 l y0) (valsF (Show_v1 l y0)) ((0 : Int), ((), Show_v3 l y0, ()), ()) ∧ ∀ (y1 : kden Bool.false tI × denCells (vBld 96) ×
 PUnit), shvInv (Show_v3 l y0) (valsF (Show_v1 l y0)) y1 → bif pLt y1.1 (pInt (pLen (valsF (Show_v1 l y0)))) then pIn y1.1 (pLen (valsF (Show_v1 l y0))) ∧ pLe (-9223372036854775808 : Int) (Show_v4 l y0 y1) = Bool.true ∧ pLe (Show_v4 l y0 y1)
 (9223372036854775807 : Int) = Bool.true ∧ pStrFits (bs [32]) (pItoa (Show_v4 l y0 y1)) ∧ pRoom (pPlus (pLen y1.2.1.2.1) (pStrLen (pStrApp (bs [32]) (pItoa (Show_v4 l y0 y1))))) 1 ∧ shvInv (Show_v3 l y0) (valsF (Show_v1 l y0)) (Show_v5 c l
 y0 y1) ∧ Nat.le (Nat.succ (shvMu (Show_v3 l y0) (valsF (Show_v1 l y0)) (Show_v5 c l y0 y1))) (shvMu (Show_v3 l y0) (valsF (Show_v1 l y0)) y1) else bif pEq (Show_v1 l y0).1 (1 : Int) then callF (Show_v6 l y0) = (0 : Int) ∧ pRoom (pPlus (pLen
 y1.2.1.2.1) (pStrLen (askedF (Show_v6 l y0)))) 1 ∧ pRoom (pPlus (pLen (pApp y1.2.1.2.1 (bl (askedF (Show_v6 l y0))))) 1) 1 ∧ shsInv c l (Show_v7 c l y0 y1) ∧ Nat.le (Nat.succ (shsMu c l (Show_v7 c l y0 y1))) (shsMu c l y0) else bif pEq
 (Show_v1 l y0).1 (8 : Int) then pLe (pInt (pStrLen (Show_v1 l y0).2.2.2.2.2.2.2.2.2.2.2.1)) (60 : Int) = Bool.true ∧ pStrFits (bs [32]) (hexF (Show_v1 l y0).2.2.2.2.2.2.2.2.2.2.2.1) ∧ pRoom (pPlus (pLen y1.2.1.2.1) (pStrLen (pStrApp (bs
 [32]) (hexF (Show_v1 l y0).2.2.2.2.2.2.2.2.2.2.2.1)))) 1 ∧ pRoom (pPlus (pLen (Show_v8 l y0 y1)) 1) 1 ∧ shsInv c l (Show_v9 c l y0 y1) ∧ Nat.le (Nat.succ (shsMu c l (Show_v9 c l y0 y1))) (shsMu c l y0) else pRoom (pPlus (pLen y1.2.1.2.1) 1)
 1 ∧ shsInv c l (Show_v10 c l y0 y1) ∧ Nat.le (Nat.succ (shsMu c l (Show_v10 c l y0 y1))) (shsMu c l y0) else pIsBl y0.2.1.2.1 ∧ (unBl y0.2.1.2.1, (0 : Int), (0 : Int), ()) = Show_v0 c l
set_option maxRecDepth 100000 in
theorem Show_meets (hlCheck : MtG tabsW 16 clCheck) (hliCheck : MtG tabsW 17 cliCheck) (hWriteString : MtG tabsW 18 cWriteString) (hvalues : MtG tabsW 19 cvalues) (hItoa : MtG tabsW 20 cItoa) (hasked : MtG tabsW 21 casked) (hhex : MtG tabsW 22 chex) (hWriteByte : MtG tabsW 23 cWriteByte) (hBStr : MtG tabsW 24 cBStr) (h : ∀ (c : CfgD) (l : (List ActD)), (∀ p ∈ Show_p ⟨(c, l, ()), ()⟩, p) → Show_VC c l) : MtG tabsW 7 cShow :=
  meets_vc (E := envOfG Tryd.prog tabsW [(16, (false, clCheck)), (17, (false, cliCheck)), (18, (false, cWriteString)), (19, (false, cvalues)), (20, (false, cItoa)), (21, (false, casked)), (22, (false, chex)), (23, (false, cWriteByte)), (24, (false, cBStr))] eqsLtV) (envOfG_ok (fun p hp => (by simp only [List.mem_cons, List.not_mem_nil, or_false] at hp; rcases hp with rfl | rfl | rfl | rfl | rfl | rfl | rfl | rfl | rfl; exact hlCheck; exact hliCheck; exact hWriteString; exact hvalues; exact hItoa; exact hasked; exact hhex; exact hWriteByte; exact hBStr)) (by kernel_rfl)) Show_S (fun x => fun ky9 st9 => look [(8, (⟨[.slot 24 false tI, .box (ptI st9 8) (vBld (ptI st9 8))], shsInv x.1.1 x.1.2.1, shsMu x.1.1 x.1.2.1⟩ : Ann)), (15, (⟨[.slot 44 false tI, .box (ptI st9 8) (vBld (ptI st9 8))], shvInv (crowD tyBl st9 (ptI st9 8) 1) (rowD tyN st9 42), shvMu (crowD tyBl st9 (ptI st9 8) 1) (rowD tyN st9 42)⟩ : Ann))] ky9) Tryd.func7 (by kernel_rfl) (by kernel_rfl) Show_p [] [.slot 0 false .str, .slot 1 false tI, .slot 2 false tI] Show_f (fun x => Show_VC x.1.1 x.1.2.1) (fun x => by kernel_rfl) (fun x hp => h x.1.1 x.1.2.1 hp)

def LinesShows_VC (c : CfgD) (l : (List ActD)) : Prop :=
  pRoom (pPlus (pLen (vnil (Int × Int × Int × Int × Int × List (Int × PUnit) × Int × Int × Int × Int × Int × ByteArray × PUnit))) (pLen l)) 120 ∧ Nat.le (Nat.succ (pLen c.2.1)) 4611686018427387904 ∧ Nat.le (Nat.succ (pLen (pApp (vnil (Int ×
 Int × Int × Int × Int × List (Int × PUnit) × Int × Int × Int × Int × Int × ByteArray × PUnit)) l))) 4611686018427387904 ∧ (∀ (q0 : Int × Int × Int × Int × Int × List (Int × PUnit) × Int × Int × Int × Int × Int × ByteArray × PUnit), List.Mem
 q0 (pApp (vnil (Int × Int × Int × Int × Int × List (Int × PUnit) × Int × Int × Int × Int × Int × ByteArray × PUnit)) l) → Nat.le (Nat.succ (pLen q0.2.2.2.2.2.1)) 4611686018427387904) ∧ Nat.le (Nat.succ (pLen c.2.1)) 4611686018427387904 ∧
 Nat.le (Nat.succ (pLen l)) 4611686018427387904 ∧ (∀ (q1 : Int × Int × Int × Int × Int × List (Int × PUnit) × Int × Int × Int × Int × Int × ByteArray × PUnit), List.Mem q1 l → Nat.le (Nat.succ (pLen q1.2.2.2.2.2.1)) 4611686018427387904) ∧
 bif pStrEq (showS c (pApp (vnil (Int × Int × Int × Int × Int × List (Int × PUnit) × Int × Int × Int × Int × Int × ByteArray × PUnit)) l)) (showS c l) then bif pEq (showI c (pApp (vnil (Int × Int × Int × Int × Int × List (Int × PUnit) × Int
 × Int × Int × Int × Int × ByteArray × PUnit)) l)) (showI c l) then (pEq (showE c (pApp (vnil (Int × Int × Int × Int × Int × List (Int × PUnit) × Int × Int × Int × Int × Int × ByteArray × PUnit)) l)) (showE c l), ()) = (Bool.true, ()) else
 (Bool.false, ()) = (Bool.true, ()) else (Bool.false, ()) = (Bool.true, ())
set_option maxRecDepth 100000 in
theorem LinesShows_walk {H : Type} {enc : TypeId × Value → H} (hShow : MtG tabsW 7 cShow) (hActsShown : MtG tabsW 8 cActsShown) (h : ∀ (x : denL [(true, wCfg), (false, (wSl wAct 120))]), okL [(true, wCfg), (false, (wSl wAct 120))] x → LinesShows_VC x.1 x.2.1.1) : ∀ (W : World) (base : Nat) (args : Array Value) (ds : List (DataW H)) (p : List MemPlace), DataW.TrodAll enc Tryd.prog W 0 (fun _ => true) true Tryd.f3.params.toList args.toList ds p → (∀ (j : Nat) (t : TypeId) (v : Value), Tryd.f3.params[j]? = some t → args[j]? = some v → Value.okWide Tryd.prog W .any base t v) → (∀ x ∈ p, x.block < W.heap.size) → (DataW.weightsEach Tryd.prog Tryd.f3.params.toList ds).all (· ≤ reachBytes) = true → TabsW W → Calls Tryd.prog 3 args W fun e W1 => e = .returned (.bool true) ∧ Below W.heap.size W W1 :=
  law_walkLG (E := envOfG Tryd.prog tabsW [(7, (false, cShow)), (8, (false, cActsShown))] eqsLtV) (envOfG_ok (fun p hp => (by simp only [List.mem_cons, List.not_mem_nil, or_false] at hp; rcases hp with rfl | rfl; exact hShow; exact hActsShown)) (by kernel_rfl)) TabsW tabsW_ok Tryd.func3 (by kernel_rfl) [(true, wCfg), (false, (wSl wAct 120))] (by kernel_rfl) (fun x => fun ky9 st9 => look [] ky9) (fun x => LinesShows_VC x.1 x.2.1.1) (fun x => by kernel_rfl) h


end Go.Proofs.YtedjlbcclhgfmaaDoor

/- Acts as lines, what needs no tables: functions meet their contracts. No condition. -/
namespace Go.Proofs.YtedjlbcclhgfmaaDoor
open Go.RowKit Go.Lib Go.IntWalk

theorem fits_ba {a b : List UInt8} (h : a.length + b.length ≤ 9223372036854775807) : pStrFits (ba a) (ba b) := by
  show (((ba a).size + (ba b).size : Nat) : Int) ≤ 9223372036854775807
  rw [ba_size, ba_size]; omega
theorem u8_wrap (n : Int) : IntKind.u8.wrap n = n % 256 := by
  unfold IntKind.wrap
  simp [IntKind.bits, IntKind.signed]
theorem wrap_u8 (n : Int) : pWrap .u8 n = n % 256 := u8_wrap n
theorem digit_bytes {d : Nat} (h : d < 10) : pBytes [(pWrap .u8 (pAdd .i64 48 (d : Int)), ())] = ⟨[UInt8.ofNat (48 + d)].toArray⟩ := by
  have e : pWrap .u8 (pAdd .i64 48 (d : Int)) = ((48 + d : Nat) : Int) := by
    rw [pAdd_in (by omega), wrap_u8]; omega
  rw [e]; rfl
theorem decDigits_one {n : Nat} (h : n < 10) : decDigits n = [UInt8.ofNat (48 + n)] := by rw [decDigits, dif_pos h]
theorem DecS_ok {kk : Nat} (hc : Mt 39 (cDecP kk)) : Mt 39 (cDecS kk) := DecS_meets hc fun n hp => by
  obtain ⟨h0, h1, _, h2, h3⟩ : pDec n (kk + 1) := hp _ List.mem_cons_self
  obtain ⟨u, rfl⟩ : ∃ u : Nat, n = (u : Int) := ⟨n.toNat, by omega⟩
  have h1 : u < 10 ^ (kk + 1) := by exact_mod_cast h1
  delta DecS_VC
  refine bif_ok (fun a => ?_) fun _ => bif_ok (fun a => ?_) fun a => ?_
  · have a : (u : Int) < 0 := of_decide_eq_true a
    omega
  · have a : (u : Int) < 10 := of_decide_eq_true a
    have a : u < 10 := by omega
    rw [itoa_coe, decDigits_one a, digit_bytes a]
  · have a : ¬ (u : Int) < 10 := of_decide_eq_false a
    have a : ¬ u < 10 := by omega
    have hq : pQuo .i64 (u : Int) 10 = ((u / 10 : Nat) : Int) := by
      unfold pQuo
      have : Int.tdiv (u : Int) 10 = ((u / 10 : Nat) : Int) := by exact_mod_cast rfl
      rw [this]
      exact i64_in _ (by omega)
    have hr : pRem (u : Int) 10 = ((u % 10 : Nat) : Int) := by unfold pRem; exact_mod_cast rfl
    rw [hq, hr, itoa_coe, itoa_coe, digit_bytes (Nat.mod_lt _ (by decide))]
    have hu : u / 10 < 10 ^ kk := by rw [Nat.pow_succ] at h1; omega
    have hk : 0 < kk := by
      rcases Nat.eq_zero_or_pos kk with h | h
      · subst h; omega
      · exact h
    have hl := dec_len hu hk
    refine ⟨by unfold pNz; decide, ⟨by omega, by exact_mod_cast hu, hk, by omega, by omega⟩, by unfold pNz; decide, ?_, ?_⟩
    · exact fits_ba (a := decDigits (u / 10)) (b := [UInt8.ofNat (48 + u % 10)]) (by show (decDigits (u / 10)).length + 1 ≤ _; omega)
    · refine (congrArg (·, ()) (ba_app (decDigits (u / 10)) [UInt8.ofNat (48 + u % 10)])).trans ?_
      have : decDigits u = decDigits (u / 10) ++ [UInt8.ofNat (48 + u % 10)] := by rw [decDigits, dif_neg a]
      rw [this]; rfl
theorem DecK_ok : ∀ k, Mt 39 (cDecP k)
  | 0 => by
    refine ⟨⟨_, Tryd.func39, by kernel_rfl, by kernel_rfl⟩, fun args m0 obs r m1 hc hp => ?_⟩
    unfold cDecP shCtr at hc
    split at hc
    · simp only [Option.some.injEq, Prod.mk.injEq] at hc
      obtain ⟨rfl, _⟩ := hc
      obtain ⟨_, _, h, _⟩ := hp _ List.mem_cons_self
      exact absurd h (Nat.lt_irrefl 0)
    · cases hc
  | k + 1 => DecS_ok (DecK_ok k)
theorem Dec_ok : Mt 39 cDec := meets_mono (DecK_ok 19) fun x hp => ⟨fun p h => by
    simp only [List.mem_cons, List.not_mem_nil, or_false] at h
    subst h
    have h0 : 0 ≤ x.1.1 := of_decide_eq_true (hp (pLe 0 x.1.1 = true) (by simp))
    have h1 : x.1.1 ≤ 9223372036854775807 := of_decide_eq_true (hp (pLe x.1.1 9223372036854775807 = true) (by simp))
    have e : ((10 ^ 19 : Nat) : Int) = 10000000000000000000 := by decide
    have h2 : x.1.1 < ((10 ^ 19 : Nat) : Int) := by rw [e]; exact Int.lt_of_le_of_lt h1 (by decide)
    exact ⟨h0, h2, by decide, by decide, h1⟩, rfl⟩

theorem cells_len (s : ByteArray) : pLen (pStrCells s) = pStrLen s := by unfold pStrCells pLen pStrLen; rw [List.length_map]; rfl
theorem WriteString_ok : Mt 18 cWriteString := WriteString_meets CopyCheck_ok fun s xs hp => by
  refine ⟨?_, rfl⟩
  rw [cells_len]; exact hp _ List.mem_cons_self
theorem WriteByte_ok : Mt 23 cWriteByte := WriteByte_meets CopyCheck_ok fun b xs hp => ⟨hp _ List.mem_cons_self, rfl⟩

theorem hexDigit_ok : Mt 60 chexDigit := hexDigit_meets fun n hp => by
  have h0 : 0 ≤ n := of_decide_eq_true (hp (pLe 0 n = true) (by simp))
  have h1 : n < 16 := of_decide_eq_true (hp (pLt n 16 = true) (by simp))
  delta hexDigit_VC
  refine bif_ok (fun a => congrArg (·, ()) ?_) fun a => congrArg (·, ()) ?_
  · have a2 : n < 10 := of_decide_eq_true a
    unfold hexD
    rw [a, cond_true, pAdd_in (by omega), wrap_u8]; omega
  · have a2 : ¬ n < 10 := of_decide_eq_false a
    unfold hexD
    rw [a, cond_false, pAdd_in (by omega), pSubI_in (by omega), wrap_u8]; omega
theorem hexC_val {n : Nat} (h : n < 16) : ((hexC n).toNat : Int) = hexD (n : Int) := by
  have : ∀ j : Fin 16, ((hexC j.val).toNat : Int) = hexD (j.val : Int) := by decide +kernel
  exact this ⟨n, h⟩
theorem digits_at {n : Nat} (h : n < 16) : pStrGet (bs [48, 49, 50, 51, 52, 53, 54, 55, 56, 57, 97, 98, 99, 100, 101, 102]) n = ((hexC n).toNat : Int) := by
  have : ∀ j : Fin 16, pStrGet (bs [48, 49, 50, 51, 52, 53, 54, 55, 56, 57, 97, 98, 99, 100, 101, 102]) j.val = ((hexC j.val).toNat : Int) := by decide +kernel
  exact this ⟨n, h⟩
theorem shr4 {n : Nat} (h : n < 256) : pShr .u8 (n : Int) 4 = ((n / 16 : Nat) : Int) := by
  have : ∀ j : Fin 256, pShr .u8 (j.val : Int) 4 = ((j.val / 16 : Nat) : Int) := by decide +kernel
  exact this ⟨n, h⟩
theorem and15 {n : Nat} (h : n < 256) : pAnd .u8 (n : Int) 15 = ((n % 16 : Nat) : Int) := by
  have : ∀ j : Fin 256, pAnd .u8 (j.val : Int) 15 = ((j.val % 16 : Nat) : Int) := by decide +kernel
  exact this ⟨n, h⟩
theorem get_byte {s : ByteArray} {k : Nat} (h : k < s.size) : ∃ c : UInt8, s.data.toList[k]? = some c ∧ pStrGet s k = (c.toNat : Int) ∧ s.data.toList.take (k + 1) = s.data.toList.take k ++ [c] := by
  have hl : k < s.data.toList.length := by rw [← size_eq]; exact h
  refine ⟨s.data.toList[k], List.getElem?_eq_getElem hl, ?_, List.take_succ_eq_append_getElem hl⟩
  unfold pStrGet
  have : s[k]? = some (s.data.toList[k]) := by
    rw [getElem?_pos s k h]; rfl
  rw [this]; rfl
theorem hexAt_step {s : ByteArray} {k : Nat} {c : UInt8} (h : s.data.toList.take (k + 1) = s.data.toList.take k ++ [c]) : pApp (hexAt s k) [(((hexC (c.toNat / 16)).toNat : Int), ()), (((hexC (c.toNat % 16)).toNat : Int), ())] = hexAt s (k + 1) := by
  unfold hexAt
  rw [h, hexL_app, List.map_append]; rfl
theorem hexAt_len (s : ByteArray) (k : Nat) : (hexAt s k).length ≤ 1 + 2 * k := by
  unfold hexAt
  rw [List.length_cons, List.length_map, hexL_len, List.length_take]; omega
theorem hexAt_end (s : ByteArray) : pBytes (hexAt s s.size) = ba (46 :: hexL s.data.toList) := by
  unfold hexAt pBytes ba
  rw [List.take_of_length_le (by rw [size_eq]; exact Nat.le_refl _), List.map_cons, List.map_map]
  have : ((fun n : Int × Unit => UInt8.ofNat n.1.toNat) ∘ fun c : UInt8 => ((c.toNat : Int), ())) = id := by
    funext c; simp
  rw [this, List.map_id]; rfl
theorem hex_ok : Mt 22 chex := hex_meets fun s hp => by
  have h60 : (s.size : Int) ≤ 60 := of_decide_eq_true (hp (pLe (pInt (pStrLen s)) 60 = true) (by simp))
  delta hex_VC
  refine ⟨StepInv.start rfl, fun y hy => ?_⟩
  rcases StepInv.round (by omega) hy with ⟨k, rfl, hk, hb, hn⟩ | rfl
  · obtain ⟨c, _, hg, ht⟩ := get_byte hk
    have hc : c.toNat < 256 := c.toNat_lt
    rw [bif_true (by show decide ((k : Int) < (s.size : Int)) = true; exact decide_eq_true (by omega))]
    delta hex_v0
    try dsimp only
    rw [pNat_coe, hg, shr4 hc, and15 hc, pNat_coe, pNat_coe, digits_at (by omega), digits_at (by omega), hexAt_step ht]
    refine ⟨pIn_coe.2 hk, by unfold pGe0; decide, pIn_coe.2 (by show c.toNat / 16 < 16; omega), pIn_coe.2 hk, pIn_coe.2 (by show c.toNat % 16 < 16; omega), ?_, hn _ rfl⟩
    have := hexAt_len s k
    show ((hexAt s k).length + 2) * 1 ≤ 140737488351232
    omega
  · rw [bif_false (by show decide ((s.size : Int) < (s.size : Int)) = false; exact decide_eq_false (by omega))]
    exact congrArg (·, ()) (hexAt_end s)

theorem values_ok : Mt 19 cvalues := values_meets fun z hp => by
  have h6 : (z.2.2.2.2.2.1.length : Int) ≤ 6 := of_decide_eq_true (hp (pLe (pInt (pLen z.2.2.2.2.2.1)) 6 = true) (by simp))
  clear hp
  delta values_VC values_v1 values_t0
  unfold valsF
  have room : pRoom (pPlus (pLen ((z.2.1, ()) :: vnil (Int × PUnit))) (pLen z.2.2.2.2.2.1)) 8 := by
    show (1 + z.2.2.2.2.2.1.length) * 8 ≤ 140737488351232
    omega
  cases h2 : pEq z.1 2
  · cases h3 : pEq z.1 3
    · cases h4 : pEq z.1 4
      · cases h5 : pEq z.1 5
        · cases h6 : pEq z.1 6
          · cases h7 : pEq z.1 7
            · rfl
            · rfl
          · exact ⟨room, rfl⟩
        · rfl
      · rfl
    · rfl
  · rfl
theorem blanked_ok : Mt 58 cblanked := blanked_meets Dec_ok fun l hp => by
  obtain ⟨hl, hq⟩ : pNums l := hp _ List.mem_cons_self
  clear hp
  delta blanked_VC
  refine ⟨StepInv.start rfl, fun y hy => ?_⟩
  rcases StepInv.round (by omega) hy with ⟨k, rfl, hk, hb, hn⟩ | rfl
  · rw [bif_true (by show decide ((k : Int) < (l.length : Int)) = true; exact decide_eq_true (by omega))]
    delta blanked_v0
    try dsimp only
    rw [pNat_coe]
    have hg : pGet tyN l k = l[k] := pGet_lt hk
    obtain ⟨q0, q1⟩ := hq _ (List.getElem_mem hk)
    rw [← hg] at q0 q1
    have ht : blanksL (l.take (k + 1)) = blanksL (l.take k) ++ (32 :: itoa (pGet tyN l k).1) := by
      rw [← take_app (t := tyN) hk]
      unfold pApp
      rw [blanksL_app]
      show _ ++ (32 :: (itoa (pGet tyN l k).1 ++ [])) = _
      rw [List.append_nil]
    have hlen := blanks_len (l.take k) fun q h => hq q (List.mem_of_mem_take h)
    have hlk : (l.take k).length ≤ 8 := by rw [List.length_take]; omega
    have hi := itoa_len q0 q1
    have e1 : pStrApp (ba (blanksL (l.take k))) (bs [32]) = ba (blanksL (l.take k) ++ [32]) := ba_app _ [32]
    have e2 : pStrApp (ba (blanksL (l.take k) ++ [32])) (pItoa (pGet tyN l k).1) = ba (blanksL (l.take (k + 1))) := by
      refine (ba_app _ (itoa (pGet tyN l k).1)).trans ?_
      rw [ht, List.append_assoc]; rfl
    rw [e1, e2]
    refine ⟨fits_ba (b := [32]) (by show _ + 1 ≤ _; omega), pIn_coe.2 hk, decide_eq_true q0, decide_eq_true q1, fits_ba (b := itoa (pGet tyN l k).1) (by rw [List.length_append]; show _ + 1 + _ ≤ _; omega), hn _ rfl⟩
  · rw [bif_false (by show decide ((l.length : Int) < (l.length : Int)) = false; exact decide_eq_false (by omega))]
    show (ba (blanksL (l.take l.length)), ()) = _
    rw [List.take_length]; rfl
theorem actWords_ok : Mt 57 cactWords := actWords_meets rfl
theorem callWords_ok : Mt 59 ccallWords := callWords_meets rfl

/- one line -/
theorem word_ba (k : Int) : (pGet tyS wordsT (pNat k)).1 = ba (wordL k) := (ba_data _).symm
theorem call_ba (k : Int) : (pGet tyS callsT (pNat k)).1 = ba (callL k) := (ba_data _).symm
theorem one_num {n : Int} (h : 0 ≤ n ∧ n ≤ 9223372036854775807) : pNums [(n, ())] := ⟨show 1 ≤ 8 by decide, fun q hq => by rw [List.mem_singleton.1 hq]; exact h⟩
theorem two_nums {n m : Int} (h : 0 ≤ n ∧ n ≤ 9223372036854775807) (h2 : 0 ≤ m ∧ m ≤ 9223372036854775807) : pNums [(n, ()), (m, ())] := ⟨show 2 ≤ 8 by decide, fun q hq => by
  rcases List.mem_cons.1 hq with rfl | hq
  · exact h
  · rw [List.mem_singleton.1 hq]; exact h2⟩
theorem path_leaf {z : ActD} (h : ActOk z) (hk : (pEq z.1 2 || pEq z.1 3 || pEq z.1 4) = true) (h1 : pEq z.1 1 = false) (h8 : pEq z.1 8 = false) : actLine_t7 z := by
  have hv : valsF z = actLine_v6 z := by unfold valsF; rw [hk]; rfl
  have hn := vals_nums h
  rw [hv] at hn
  have hl := nums_len hn
  have hw := word_len z.1
  have ha : actL z = ba (wordL z.1 ++ (blanksL (actLine_v6 z) ++ [10])) := by
    unfold actL actLL tailL
    rw [h1, h8, hv]; rfl
  delta actLine_t7 actLine_v0
  try dsimp only
  rw [word_ba, ha]
  delta blanks
  rw [ba_app]
  refine ⟨hn, fits_ba (by omega), fits_ba (b := [10]) (by rw [List.length_append]; show _ + 1 ≤ _; omega), ?_⟩
  refine congrArg (·, ()) ((ba_app _ [10]).trans ?_)
  rw [List.append_assoc]
theorem crash_leaf {z : ActD} (h : ActOk z) (h2 : (pEq z.1 2 || pEq z.1 3 || pEq z.1 4) = false) (h5 : pEq z.1 5 = false) (h6 : pEq z.1 6 = true) (h1 : pEq z.1 1 = false) (h8 : pEq z.1 8 = false) : actLine_t9 z := by
  have hv : valsF z = (z.2.1, ()) :: z.2.2.2.2.2.1 := by unfold valsF; rw [h2, h5, h6]; rfl
  have hk := h.kept
  have hk6 := h.keep
  have hs := h.site
  have n1 : pNums [(z.2.1, ())] := one_num ⟨hs.1, by omega⟩
  have n2 : pNums z.2.2.2.2.2.1 := ⟨by omega, fun q hq => ⟨(hk q hq).1, by have := (hk q hq).2; omega⟩⟩
  have l1 := nums_len n1
  have l2 := nums_len n2
  have hw := word_len z.1
  have ha : actL z = ba (wordL z.1 ++ (blanksL [(z.2.1, ())] ++ (blanksL z.2.2.2.2.2.1 ++ [10]))) := by
    unfold actL actLL tailL
    rw [h1, h8, hv]
    show ba (wordL z.1 ++ (blanksL ([(z.2.1, ())] ++ z.2.2.2.2.2.1) ++ ([] ++ [10]))) = _
    rw [blanksL_app, List.append_assoc]; rfl
  delta actLine_t9 actLine_v8 actLine_v0
  try dsimp only
  rw [word_ba, ha]
  delta blanks
  rw [ba_app, ba_app]
  refine ⟨n1, fits_ba (by show _ + (blanksL [(z.2.1, ())]).length ≤ _; omega), n2, fits_ba (by rw [List.length_append]; show _ + (blanksL [(z.2.1, ())]).length + _ ≤ _; omega), fits_ba (b := [10]) (by rw [List.length_append, List.length_append]; show _ + (blanksL [(z.2.1, ())]).length + _ + 1 ≤ _; omega), ?_⟩
  refine congrArg (·, ()) ((ba_app _ [10]).trans ?_)
  rw [List.append_assoc, List.append_assoc]
theorem start_leaf {z : ActD} (h : ActOk z) (h2 : (pEq z.1 2 || pEq z.1 3 || pEq z.1 4) = false) (h5 : pEq z.1 5 = false) (h6 : pEq z.1 6 = false) (h7 : pEq z.1 7 = true) (h1 : pEq z.1 1 = false) (h8 : pEq z.1 8 = false) : actLine_t10 z := by
  have hv : valsF z = [(z.2.1, ())] := by unfold valsF; rw [h2, h5, h6, h7]; rfl
  have hs := h.site
  have n1 : pNums [(z.2.1, ())] := one_num ⟨hs.1, by omega⟩
  have l1 := nums_len n1
  have hw := word_len z.1
  have ha : actL z = ba (wordL z.1 ++ (blanksL [(z.2.1, ())] ++ [10])) := by
    unfold actL actLL tailL
    rw [h1, h8, hv]; rfl
  delta actLine_t10 actLine_v8 actLine_v0
  try dsimp only
  rw [word_ba, ha]
  delta blanks
  rw [ba_app]
  refine ⟨n1, fits_ba (by show _ + (blanksL [(z.2.1, ())]).length ≤ _; omega), fits_ba (b := [10]) (by rw [List.length_append]; show _ + (blanksL [(z.2.1, ())]).length + 1 ≤ _; omega), ?_⟩
  refine congrArg (·, ()) ((ba_app _ [10]).trans ?_)
  rw [List.append_assoc]
theorem tick_leaf {z : ActD} (h2 : (pEq z.1 2 || pEq z.1 3 || pEq z.1 4) = false) (h5 : pEq z.1 5 = true) (h1 : pEq z.1 1 = false) (h8 : pEq z.1 8 = false) : actLine_t15 z := by
  have hv : valsF z = [] := by unfold valsF; rw [h2, h5]; rfl
  have hw := word_len z.1
  have ha : actL z = ba (wordL z.1 ++ [10]) := by
    unfold actL actLL tailL
    rw [h1, h8, hv]; rfl
  delta actLine_t15 actLine_v0
  try dsimp only
  rw [word_ba, ha]
  exact ⟨fits_ba (b := [10]) (by show _ + 1 ≤ _; omega), congrArg (·, ()) (ba_app _ [10])⟩
def typeBlk (z : ActD) : Prop := hexRInv z ((0 : Int), ((46 : Int), ()) :: vnil (Int × PUnit), ()) ∧ ∀ (y2 : kden Bool.false tI × kden Bool.true tB8 × PUnit), hexRInv z y2 → bif pLt y2.1 (pInt (pStrLen (actLine_v11 z))) then
  pIn y2.1 (pStrLen (actLine_v11 z)) ∧ pNz (16 : Int) ∧ pLe (0 : Int) (actLine_v12 z y2) = Bool.true ∧ pLt (actLine_v12 z y2) (16 : Int) = Bool.true ∧ pIn y2.1 (pStrLen (actLine_v11 z)) ∧ pNz (16 : Int) ∧ pLe (0 : Int) (actLine_v13 z y2) = Bool.true ∧ pLt (actLine_v13 z y2) (16 : Int) =
  Bool.true ∧ pRoom (pPlus (pLen y2.2.1) (pLen ((hexD (actLine_v12 z y2), ()) :: (hexD (actLine_v13 z y2), ()) :: vnil (Int × PUnit)))) 1 ∧ hexRInv z (actLine_v14 z y2) ∧ Nat.le (Nat.succ (hexRMu z (actLine_v14 z y2))) (hexRMu z y2)
  else pNums ((z.2.1, ()) :: (z.2.2.2.1, ()) :: vnil (Int × PUnit)) ∧ pStrFits (actLine_v0 z) (blanks ((z.2.1, ()) :: (z.2.2.2.1, ()) :: vnil (Int × PUnit))) ∧ pStrFits (pStrApp (actLine_v0 z) (blanks ((z.2.1, ()) :: (z.2.2.2.1, ()) :: vnil (Int × PUnit)))) (bs [32]) ∧
  pStrFits (actLine_v1 z) (pBytes y2.2.1) ∧ pStrFits (pStrApp (actLine_v1 z) (pBytes y2.2.1)) (bs [10]) ∧ (pStrApp (pStrApp (actLine_v1 z) (pBytes y2.2.1)) (bs [10]), ()) = (actL z, ())
theorem type_leaf {z : ActD} (h : ActOk z) (h2 : (pEq z.1 2 || pEq z.1 3 || pEq z.1 4) = false) (h5 : pEq z.1 5 = false) (h6 : pEq z.1 6 = false) (h7 : pEq z.1 7 = false) (h1 : pEq z.1 1 = false) (h8 : pEq z.1 8 = true) : typeBlk z := by
  have hv : valsF z = [(z.2.1, ()), (z.2.2.2.1, ())] := by unfold valsF; rw [h2, h5, h6, h7]; rfl
  have hs := h.site
  have hlb := h.label
  have h60 : (lineOf z).size ≤ 60 := h.line
  have n1 : pNums [(z.2.1, ()), (z.2.2.2.1, ())] := two_nums ⟨hs.1, by omega⟩ ⟨hlb.1, by omega⟩
  have l1 := nums_len n1
  have hw := word_len z.1
  have ha : actL z = ba (wordL z.1 ++ (blanksL [(z.2.1, ()), (z.2.2.2.1, ())] ++ (32 :: 46 :: hexL (lineOf z).data.toList ++ [10]))) := by
    unfold actL actLL tailL
    rw [h1, h8, hv]; rfl
  unfold typeBlk
  refine ⟨StepInv.start rfl, fun y hy => ?_⟩
  have hy : StepInv (fun k => (hexAt (lineOf z) k, ())) (lineOf z).size y := hy
  rcases StepInv.round (by omega) hy with ⟨k, rfl, hk, hb, hn⟩ | rfl
  · obtain ⟨c, _, hg, ht⟩ := get_byte hk
    have hc : c.toNat < 256 := c.toNat_lt
    have e0 : pWrap .i64 (c.toNat : Int) = (c.toNat : Int) := i64_in _ (by omega)
    have eq : pQuo .i64 (c.toNat : Int) 16 = ((c.toNat / 16 : Nat) : Int) := by
      unfold pQuo
      have : Int.tdiv (c.toNat : Int) 16 = ((c.toNat / 16 : Nat) : Int) := by exact_mod_cast rfl
      rw [this]
      exact i64_in _ (by omega)
    have er : pRem (c.toNat : Int) 16 = ((c.toNat % 16 : Nat) : Int) := by unfold pRem; exact_mod_cast rfl
    rw [bif_true (by show decide ((k : Int) < ((lineOf z).size : Int)) = true; exact decide_eq_true (by omega))]
    have e12 : actLine_v12 z ((k : Int), hexAt (lineOf z) k, ()) = ((c.toNat / 16 : Nat) : Int) := by
      delta actLine_v12
      try dsimp only
      rw [pNat_coe]
      show pQuo .i64 (pWrap .i64 (pStrGet (lineOf z) k)) 16 = _
      rw [hg, e0, eq]
    have e13 : actLine_v13 z ((k : Int), hexAt (lineOf z) k, ()) = ((c.toNat % 16 : Nat) : Int) := by
      delta actLine_v13
      try dsimp only
      rw [pNat_coe]
      show pRem (pWrap .i64 (pStrGet (lineOf z) k)) 16 = _
      rw [hg, e0, er]
    delta actLine_v14
    try dsimp only
    rw [e12, e13, ← hexC_val (by omega), ← hexC_val (by omega), hexAt_step ht]
    refine ⟨pIn_coe.2 hk, by unfold pNz; decide, decide_eq_true (by omega), decide_eq_true (by omega), pIn_coe.2 hk, by unfold pNz; decide, decide_eq_true (by omega), decide_eq_true (by omega), ?_, hn _ rfl⟩
    have := hexAt_len (lineOf z) k
    show ((hexAt (lineOf z) k).length + 2) * 1 ≤ 140737488351232
    omega
  · rw [bif_false (by show decide (((lineOf z).size : Int) < ((lineOf z).size : Int)) = false; exact decide_eq_false (by omega))]
    delta actLine_v1 actLine_v0
    try dsimp only
    have hh := hexL_len (lineOf z).data.toList
    rw [← size_eq] at hh
    rw [word_ba, ha, hexAt_end]
    delta blanks
    have e1 : ∀ a, pStrApp (ba a) (bs [32]) = ba (a ++ [32]) := fun a => ba_app a [32]
    rw [ba_app, e1, ba_app]
    refine ⟨n1, fits_ba (by show _ + (blanksL [(z.2.1, ()), (z.2.2.2.1, ())]).length ≤ _; omega), fits_ba (b := [32]) (by rw [List.length_append]; show _ + (blanksL [(z.2.1, ()), (z.2.2.2.1, ())]).length + 1 ≤ _; omega), fits_ba ?_, fits_ba (b := [10]) ?_, ?_⟩
    · simp only [List.length_append, List.length_cons, List.length_nil]
      show _ + (blanksL [(z.2.1, ()), (z.2.2.2.1, ())]).length + _ + _ ≤ _
      omega
    · simp only [List.length_append, List.length_cons, List.length_nil]
      show _ + (blanksL [(z.2.1, ()), (z.2.2.2.1, ())]).length + _ + _ + _ ≤ _
      omega
    · refine congrArg (·, ()) ((ba_app _ [10]).trans ?_)
      simp only [List.append_assoc]; rfl
theorem ask_leaf {z : ActD} (h : ActOk z) (h1 : pEq z.1 1 = true) {v : List ND} (hv : askV (callOf z) = v) (he : v ≠ []) : pNums v ∧ pStrFits (actLine_v4 z) (blanks v) ∧ pStrFits (pStrApp (actLine_v4 z) (blanks v)) (bs [10]) ∧ (pStrApp (pStrApp (actLine_v4 z) (blanks v)) (bs [10]), ()) = (actL z, ()) := by
  have hk : z.1 = 1 := by simpa [pEq] using h1
  have hz : valsF z = [(z.2.1, ()), (z.2.2.2.1, ())] := by unfold valsF; rw [hk]; rfl
  have hs := h.site
  have hlb := h.label
  have n1 : pNums [(z.2.1, ()), (z.2.2.2.1, ())] := two_nums ⟨hs.1, by omega⟩ ⟨hlb.1, by omega⟩
  have l1 := nums_len n1
  have hn := ask_nums (call_facts (h.call h1))
  rw [hv] at hn
  have l2 := nums_len hn
  have hw := word_len z.1
  have hc := call_len z.2.2.2.2.2.2.1
  have ha : actL z = ba (wordL z.1 ++ (blanksL [(z.2.1, ()), (z.2.2.2.1, ())] ++ (32 :: (callL z.2.2.2.2.2.2.1 ++ blanksL v) ++ [10]))) := by
    unfold actL actLL tailL askedL
    rw [h1, hv, hz]; rfl
  delta actLine_v4 actLine_v1 actLine_v0
  try dsimp only
  rw [word_ba, call_ba, ha]
  delta blanks
  have e1 : ∀ a, pStrApp (ba a) (bs [32]) = ba (a ++ [32]) := fun a => ba_app a [32]
  rw [ba_app, e1, ba_app, ba_app]
  refine ⟨hn, fits_ba ?_, fits_ba (b := [10]) ?_, congrArg (·, ()) ((ba_app _ [10]).trans ?_)⟩
  · simp only [List.length_append, List.length_cons, List.length_nil]
    show _ + (blanksL [(z.2.1, ()), (z.2.2.2.1, ())]).length + _ + _ + _ ≤ _
    omega
  · simp only [List.length_append, List.length_cons, List.length_nil]
    show _ + (blanksL [(z.2.1, ()), (z.2.2.2.1, ())]).length + _ + _ + _ + _ ≤ _
    omega
  · simp only [List.append_assoc, List.cons_append, List.nil_append]
theorem actLine_ok : Mt 27 cactLine := actLine_meets actWords_ok callWords_ok blanked_ok hexDigit_ok fun z hp => by
  have h : ActOk z := ok_facts (hp _ List.mem_cons_self)
  clear hp
  have hkind := h.kind
  have rest : pEq z.1 1 = false → pEq z.1 2 = false → pEq z.1 3 = false → pEq z.1 4 = false → (bif pEq z.1 (6 : Int) then actLine_t9 z else bif pEq z.1 (7 : Int) then actLine_t10 z else bif pEq z.1 (8 : Int) then typeBlk z else actLine_t15 z) := fun h1 h2 h3 h4 => by
    have hh : (pEq z.1 2 || pEq z.1 3 || pEq z.1 4) = false := by rw [h2, h3, h4]; rfl
    have ne : ∀ {j i : Int}, pEq z.1 j = true → j ≠ i → pEq z.1 i = false := fun {j i} a b => by
      have a : z.1 = j := by simpa [pEq] using a
      rw [a]; simpa [pEq] using b
    refine bif_ok (fun h6 => crash_leaf h hh (ne h6 (by decide)) h6 h1 (ne h6 (by decide))) fun h6 => bif_ok (fun h7 => start_leaf h hh (ne h7 (by decide)) h6 h7 h1 (ne h7 (by decide))) fun h7 => bif_ok (fun h8 => type_leaf h hh (ne h8 (by decide)) h6 h7 h1 h8) fun h8 => tick_leaf hh ?_ h1 h8
    have t : ∀ {i : Int}, pEq z.1 i = false → z.1 ≠ i := fun {i} a => by simpa [pEq] using a
    have := t h1; have := t h2; have := t h3; have := t h4; have := t h6; have := t h7; have := t h8
    have : z.1 = 5 := by omega
    rw [this]; rfl
  have p := fun (hh : (pEq z.1 2 || pEq z.1 3 || pEq z.1 4) = true) (h1 : pEq z.1 1 = false) => path_leaf h hh h1 (by
    simp only [pEq, Bool.or_eq_true, beq_iff_eq] at hh
    rcases hh with (e | e) | e <;> (rw [e]; rfl))
  delta actLine_VC
  refine ⟨⟨by omega, by show z.1 < 9; omega⟩, bif_ok (fun h1 => ?_) fun h1 => bif_ok (fun h2 => ?_) fun h2 => bif_ok (fun h3 => ?_) fun h3 => bif_ok (fun h4 => ?_) fun h4 => rest h1 h2 h3 h4⟩
  · have hs := h.site
    have hlb := h.label
    have n1 : pNums [(z.2.1, ()), (z.2.2.2.1, ())] := two_nums ⟨hs.1, by omega⟩ ⟨hlb.1, by omega⟩
    have l1 := nums_len n1
    have hw := word_len z.1
    have hc := call_len z.2.2.2.2.2.2.1
    have hcall := call_facts (h.call h1)
    have hck := hcall.kind
    have hz : valsF z = [(z.2.1, ()), (z.2.2.2.1, ())] := by
      have hk : z.1 = 1 := by simpa [pEq] using h1
      unfold valsF; rw [hk]; rfl
    refine ⟨n1, ?_, ?_, ⟨by have := hck.1; show (0 : Int) ≤ z.2.2.2.2.2.2.1; have e : (callOf z).1 = z.2.2.2.2.2.2.1 := rfl; omega, by have := hck.2; show z.2.2.2.2.2.2.1 < 6; have e : (callOf z).1 = z.2.2.2.2.2.2.1 := rfl; omega⟩, ?_, ?_⟩
    · delta actLine_v0; rw [word_ba]; exact fits_ba (by show _ + (blanksL [(z.2.1, ()), (z.2.2.2.1, ())]).length ≤ _; omega)
    · delta actLine_v0; rw [word_ba]; delta blanks; rw [ba_app]; exact fits_ba (b := [32]) (by rw [List.length_append]; show _ + (blanksL [(z.2.1, ()), (z.2.2.2.1, ())]).length + 1 ≤ _; omega)
    · delta actLine_v1 actLine_v0
      try dsimp only
      rw [word_ba, call_ba]
      delta blanks
      have e1 : ∀ a, pStrApp (ba a) (bs [32]) = ba (a ++ [32]) := fun a => ba_app a [32]
      rw [ba_app, e1]
      refine fits_ba ?_
      simp only [List.length_append, List.length_cons, List.length_nil]
      show _ + (blanksL [(z.2.1, ()), (z.2.2.2.1, ())]).length + _ + _ ≤ _
      omega
    · have ek : ∀ i : Int, pEq z.2.2.2.2.2.2.1 i = pEq (callOf z).1 i := fun _ => rfl
      refine bif_ok (fun k2 => ask_leaf h h1 (by unfold askV; rw [← ek, k2]; rfl) (by simp)) fun k2 => bif_ok (fun k3 => ask_leaf h h1 (by unfold askV; rw [← ek, ← ek, k2, k3]; rfl) (by simp)) fun k3 => bif_ok (fun kn => ?_) fun kn => ?_
      · have k1 : pEq z.2.2.2.2.2.2.1 1 = false := by simpa [pNe, pEq] using kn
        exact ask_leaf h h1 (by unfold askV; rw [← ek, ← ek, ← ek, k2, k3, k1]; rfl) (by simp)
      · have k1 : pEq z.2.2.2.2.2.2.1 1 = true := by simpa [pNe, pEq] using kn
        have hv : askV (callOf z) = [] := by unfold askV; rw [← ek, ← ek, ← ek, k2, k3, k1]; rfl
        have ha : actL z = ba (wordL z.1 ++ (blanksL [(z.2.1, ()), (z.2.2.2.1, ())] ++ (32 :: (callL z.2.2.2.2.2.2.1 ++ []) ++ [10]))) := by
          unfold actL actLL tailL askedL
          rw [h1, hv, hz]; rfl
        delta actLine_v4 actLine_v1 actLine_v0
        try dsimp only
        rw [word_ba, call_ba, ha]
        delta blanks
        have e1 : ∀ a, pStrApp (ba a) (bs [32]) = ba (a ++ [32]) := fun a => ba_app a [32]
        rw [ba_app, e1, ba_app]
        refine ⟨fits_ba (b := [10]) ?_, congrArg (·, ()) ((ba_app _ [10]).trans ?_)⟩
        · simp only [List.length_append, List.length_cons, List.length_nil]
          show _ + (blanksL [(z.2.1, ()), (z.2.2.2.1, ())]).length + _ + _ + _ ≤ _
          omega
        · simp only [List.append_assoc, List.append_nil]; rfl
  · exact bif_ok (fun _ => p (by rw [h2]; rfl) h1) fun e => absurd h2 (by rw [e]; simp)
  · exact bif_ok (fun _ => p (by rw [h3]; simp) h1) fun e => absurd h3 (by rw [e]; simp)
  · exact p (by rw [h4]; simp) h1

/- the whole: what it comes to -/
theorem show_cfg {c : CfgD} (l : List ActD) (h : pNe (cfgF c) 0 = true) : (bs [], (0 : Int), cfgF c, ()) = (showS c l, showI c l, showE c l, ()) := by
  have h0 : pEq (cfgF c) 0 = false := by simpa [pNe, pEq] using h
  have e : showE c l = cfgF c := by unfold showE; rw [h0]; rfl
  unfold showS showI
  rw [e, h0]; rfl
theorem show_big {c : CfgD} {l : List ActD} (h : pEq (cfgF c) 0 = true) (hb : pGt (pInt l.length) 3000 = true) : (bs [], (0 : Int), (1 : Int), ()) = (showS c l, showI c l, showE c l, ()) := by
  have e : showE c l = 1 := by unfold showE; rw [h, hb]; rfl
  unfold showS showI
  rw [e, h, hb]; rfl
theorem show_fault {c : CfgD} {l : List ActD} {k : Nat} (h : pEq (cfgF c) 0 = true) (hb : pGt (pInt l.length) 3000 = false) (hk : k < l.length) (ha : ∀ j, j < k → pEq (faultAt c l j) 0 = true) (hf : pNe (faultAt c l k) 0 = true) :
    (bs [], (k : Int), faultAt c l k, ()) = (showS c l, showI c l, showE c l, ()) := by
  have hf0 : pEq (faultAt c l k) 0 = false := by simpa [pNe, pEq] using hf
  have e1 := firstE_hit hk ha hf0
  have e : showE c l = faultAt c l k := by unfold showE; rw [h, hb, e1]; rfl
  have e2 : idxOf (fun i => pNe (faultAt c l i) 0) l.length = (k : Int) := idxOf_hit hk (fun j hj => by have := ha j hj; simpa [pNe, pEq] using this) hf
  unfold showS showI
  rw [e, h, hb, e1, e2, hf0, hf]; rfl
theorem show_all {c : CfgD} {l : List ActD} (h : pEq (cfgF c) 0 = true) (hb : pGt (pInt l.length) 3000 = false) (ha : ∀ j, j < l.length → pEq (faultAt c l j) 0 = true) : (ba (linesL l), (0 : Int), (0 : Int), ()) = (showS c l, showI c l, showE c l, ()) := by
  have e1 := firstE_none ha
  have e : showE c l = 0 := by unfold showE; rw [h, hb, e1]; rfl
  unfold showS showI
  rw [e, h, hb, e1]; rfl
theorem take_okP {c : CfgD} {l : List ActD} {k : Nat} (hk : k ≤ l.length) (ha : ∀ j, j < k → pEq (faultAt c l j) 0 = true) : ∀ z ∈ l.take k, pOk z := fun z hz => by
  obtain ⟨j, hj, rfl⟩ := List.getElem_of_mem hz
  rw [List.length_take] at hj
  refine ⟨c, ?_⟩
  have := ha j (by omega)
  unfold faultAt at this
  rw [pGet_lt (by omega)] at this
  rw [List.getElem_take]
  simpa [pEq] using this
theorem lines_take {l : List ActD} {k : Nat} (hk : k < l.length) : linesL (l.take (k + 1)) = linesL (l.take k) ++ actLL (pGet tyAct l k) := by
  rw [← take_app (t := tyAct) hk]
  unfold pApp
  rw [linesL_app]
  show _ ++ (actLL (pGet tyAct l k) ++ []) = _
  rw [List.append_nil]
theorem mem_pGet {l : List ActD} {k : Nat} (hk : k < l.length) : pGet tyAct l k ∈ l := by rw [pGet_lt hk]; exact List.getElem_mem hk

theorem ActsShown_ok : Mt 8 cActsShown := ActsShown_meets cFault_ok aFault_ok actLine_ok fun c l hp => by
  have hc : pLen c.2.1 < 4611686018427387904 := hp (pLen c.2.1 < 4611686018427387904) (by simp)
  have hl : pLen l < 4611686018427387904 := hp (pLen l < 4611686018427387904) (by simp)
  have hq : ∀ q ∈ l, pLen q.2.2.2.2.2.1 < 4611686018427387904 := hp (∀ q ∈ l, pLen q.2.2.2.2.2.1 < 4611686018427387904) (by simp)
  clear hp
  have blk : pEq (cfgF c) 0 = true → pGt (pInt l.length) 3000 = false → ∀ (y1 : kden Bool.false tI × kden Bool.false Ty.str × PUnit), shrInv c l y1 → bif pLt y1.1 (pInt (pLen l)) then pIn y1.1 (pLen l) ∧ Nat.le (Nat.succ (pLen c.2.1))
      4611686018427387904 ∧ Nat.le (Nat.succ (pLen (ActsShown_v1 l y1).2.2.2.2.2.1)) 4611686018427387904 ∧ bif pNe (actF c (ActsShown_v1 l y1)) (0 : Int) then ((bs []), y1.1, actF c (ActsShown_v1 l y1), ()) = ActsShown_v0 c l else pIn y1.1 (pLen
      l) ∧ pOk (ActsShown_v1 l y1) ∧ pStrFits y1.2.1 (actL (ActsShown_v1 l y1)) ∧ shrInv c l (pAdd IntKind.i64 y1.1 (1 : Int), pStrApp y1.2.1 (actL (ActsShown_v1 l y1)), ()) ∧ Nat.le (Nat.succ (shrMu c l (pAdd IntKind.i64 y1.1 (1 : Int), pStrApp
      y1.2.1 (actL (ActsShown_v1 l y1)), ()))) (shrMu c l y1) else (y1.2.1, (0 : Int), (0 : Int), ()) = ActsShown_v0 c l := fun h hb y hy => by
    have hb3 : ¬ ((l.length : Int) > 3000) := of_decide_eq_false hb
    obtain ⟨k, hk, rfl, ha⟩ := hy
    have v1 : ActsShown_v1 l ((k : Int), ba (linesL (l.take k)), ()) = pGet tyAct l k := by delta ActsShown_v1; dsimp only; rw [pNat_coe]
    rw [v1]
    try dsimp only
    by_cases hlt : k < l.length
    · rw [bif_true (by show decide ((k : Int) < (l.length : Int)) = true; exact decide_eq_true (by omega))]
      refine ⟨pIn_coe.2 hlt, hc, hq _ (mem_pGet hlt), bif_ok (fun hf => show_fault h hb hlt ha hf) fun hf => ?_⟩
      have hf0 : pEq (faultAt c l k) 0 = true := by have : pNe (faultAt c l k) 0 = false := hf; simpa [pNe, pEq] using this
      have hok : pOk (pGet tyAct l k) := ⟨c, by simpa [pEq, faultAt] using hf0⟩
      have hn1 := lines_len _ (take_okP hk ha)
      have hn2 := act_len (ok_facts hok)
      rw [List.length_take] at hn1
      have e : pStrApp (ba (linesL (l.take k))) (actL (pGet tyAct l k)) = ba (linesL (l.take (k + 1))) := by
        rw [lines_take hlt]; exact ba_app _ _
      rw [e, pAdd1 (by omega)]
      refine ⟨pIn_coe.2 hlt, hok, fits_ba (by omega), ⟨k + 1, hlt, rfl, fun j hj => ?_⟩, ?_⟩
      · by_cases h1 : j = k
        · rw [h1]; exact hf0
        · exact ha j (by omega)
      · show l.length - ((k + 1 : Nat) : Int).toNat + 1 ≤ l.length - ((k : Nat) : Int).toNat
        simp only [Int.toNat_natCast]; omega
    · obtain rfl : k = l.length := by omega
      rw [bif_false (by show decide ((l.length : Int) < (l.length : Int)) = false; exact decide_eq_false (by omega)), List.take_length]
      exact show_all h hb ha
  delta ActsShown_VC
  refine ⟨hc, bif_ok (fun h => bif_ok (fun hb => show_big h hb) fun hb => bif_ok (fun h0 => show_cfg l h0) fun _ => ?_) fun h => bif_ok (fun h0 => show_cfg l h0) fun h0 => ?_⟩
  · exact ⟨⟨0, Nat.zero_le _, rfl, fun j hj => absurd hj (Nat.not_lt_zero j)⟩, blk h hb⟩
  · exact absurd h0 (by simp only [pNe, pEq] at h ⊢; simp [bne, h])


end Go.Proofs.YtedjlbcclhgfmaaDoor
