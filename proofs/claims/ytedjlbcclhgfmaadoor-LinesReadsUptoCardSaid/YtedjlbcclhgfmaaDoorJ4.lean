/- Closed facts of the whole program, each a theorem of its own (together in one declaration they pass the memory's lid). -/
import Derived.Test.YtedjlbcclhgfmaaDoorJ3
import Derived.Test.YtedjlbcclhgfmaaDoorFF
import Derived.Test.YtedjlbcclhgfmaaDoorFrameD

/- A taker of words: number, text, call meet their contracts. No condition. -/
namespace Go.Proofs.YtedjlbcclhgfmaaDoor
open Go.RowKit Go.Lib Go.IntWalk
variable {mL : Int}

theorem few_hd {l : List SD} (h : pFewW l) : pShort (nextS l) := by
  cases l with
  | nil => show (0 : Nat) < 4294967281; decide
  | cons a r => exact h.2 a (by simp)
theorem few_tl {l : List SD} (h : pFewW l) : pFewW (nextL l) := by
  cases l with
  | nil => exact h
  | cons a r => exact few_of h (Nat.le_succ _) fun x hx => List.mem_cons_of_mem a hx
theorem number_ok : MtG (tabsL mL) 74 cnumber := number_meets next_ok.any AtoiL_ok ItoaL_ok fun l b hp => by
  have h1 : pFewW l := hp (pFewW l) (by simp)
  have hb := atoi_fits (nextS l)
  delta number_VC number_v0
  refine ⟨h1, few_hd h1, bif_ok (fun a => ?_) fun a => bif_ok (fun c => ?_) fun c => ⟨decide_eq_true hb.1, decide_eq_true hb.2, ?_⟩⟩
  · rw [a]; rfl
  · have : numOk (nextS l) = false := by unfold numOk; rw [c]; rfl
    rw [this, a]; rfl
  · have : numOk (nextS l) = pStrEq (pItoa (pAtoiN (nextS l))) (nextS l) := by unfold numOk; rw [c]; rfl
    rw [this, a]
    cases pStrEq (pItoa (pAtoiN (nextS l))) (nextS l) <;> rfl

/- sixteenths -/
def digits16 : ByteArray := bs [48, 49, 50, 51, 52, 53, 54, 55, 56, 57, 97, 98, 99, 100, 101, 102]
theorem idx_all : ((List.range 256).all fun n => idxB digits16 (n : Int) == sixF (n : Int)) = true := by kernel_rfl
theorem idx_six (c : UInt8) : idxB digits16 (c.toNat : Int) = sixF (c.toNat : Int) := beq_iff_eq.1 (List.all_eq_true.1 idx_all c.toNat (List.mem_range.2 c.toNat_lt))
theorem or_all : ((List.range 16).all fun h => (List.range 16).all fun l => pWrap .u8 (pOr .i64 (pShl .i64 (h : Int) 4) (l : Int)) == ((UInt8.ofNat (16 * (h : Int) + (l : Int)).toNat).toNat : Int)) = true := by kernel_rfl
theorem or_val {h l : Int} (h0 : 0 ≤ h) (h1 : h < 16) (l0 : 0 ≤ l) (l1 : l < 16) : pWrap .u8 (pOr .i64 (pShl .i64 h 4) l) = ((UInt8.ofNat (16 * h + l).toNat).toNat : Int) := by
  obtain ⟨a, rfl⟩ : ∃ a : Nat, h = (a : Int) := ⟨h.toNat, by omega⟩
  obtain ⟨c, rfl⟩ : ∃ c : Nat, l = (c : Int) := ⟨l.toNat, by omega⟩
  exact beq_iff_eq.1 (List.all_eq_true.1 (List.all_eq_true.1 or_all a (List.mem_range.2 (by omega))) c (List.mem_range.2 (by omega)))
theorem ttext_ok : MtG (tabsL mL) 76 ctext := text_meets next_ok.any IndexByte_ok fun l b hp => by
  have hf : pFewW l := hp (pFewW l) (by simp)
  have h1 : (nextS l).size < 4294967281 := few_hd hf
  have no : txtO (nextS l) = none → text_t1 l b := fun h => by
    delta text_t1 text_v0
    unfold txtS txtB
    rw [h]
    cases nextB l b <;> rfl
  have yes : ∀ o, txtO (nextS l) = some o → (ba o, (nextL l, nextB l b, ()), ()) = text_v0 l b := fun o h => by
    delta text_v0
    unfold txtS txtB
    rw [h]
    cases nextB l b <;> rfl
  have hT : ∀ y, txtInv l b y = undInv (nextS l) y := fun _ => rfl
  have hM : ∀ y, txtMu l b y = undMu (nextS l) y := fun _ => rfl
  have hv2 : ∀ y0 : kden Bool.false tI × kden Bool.true tB8 × PUnit, text_v2 l y0 = (pWrap IntKind.u8 (pOr IntKind.i64 (pShl IntKind.i64 (idxB digits16 (pStrGet (nextS l) (pNat y0.1))) (4 : Int)) (idxB digits16 (pStrGet (nextS l) (pNat (pAdd IntKind.i64 y0.1 (1 : Int)))))), ()) :: vnil (Int × PUnit) := fun _ => rfl
  have hdg : bs [48, 49, 50, 51, 52, 53, 54, 55, 56, 57, 97, 98, 99, 100, 101, 102] = digits16 := rfl
  delta text_VC
  refine ⟨hf, by show (2 : Int) ≠ 0; decide, ?_⟩
  rw [hdg]
  generalize nextS l = s at *
  have hL := size_eq s
  have hrem : pRem (pInt (pStrLen s)) (2 : Int) = ((s.size % 2 : Nat) : Int) := by
    show ((s.size : Int)).tmod 2 = _
    rw [Int.tmod_eq_emod_of_nonneg (by omega)]; omega
  rw [hrem]
  refine bif_ok (fun d => no (txt_even ?_)) fun d => ?_
  · rcases Nat.mod_two_eq_zero_or_one s.size with h | h
    · exact h
    · rw [h] at d; cases d
  have d : s.size % 2 = 1 := by
    rcases Nat.mod_two_eq_zero_or_one s.size with h | h
    · rw [h] at d; cases d
    · exact h
  obtain ⟨c, hc, hg, -⟩ := get_byte (s := s) (k := 0) (by omega)
  obtain ⟨r, hr⟩ : ∃ r, s.data.toList = c :: r := by
    cases hh : s.data.toList with
    | nil => rw [hh] at hc; cases hc
    | cons x t =>
      rw [hh] at hc
      injection hc with hc
      exact ⟨t, by rw [hc]⟩
  have hg' : pStrGet s (pNat (0 : Int)) = (c.toNat : Int) := hg
  refine ⟨pIn_coe.2 (show 0 < s.size by omega), bif_ok (fun e => no (txt_nodot hr fun e' => ?_)) fun e => ?_⟩
  · rw [hg'] at e
    subst e'; cases e
  have e : c = 46 := by
    rw [hg'] at e
    have e : ((c.toNat : Int) != 46) = false := e
    rw [bne_eq_false_iff_eq] at e
    exact UInt8.toNat_inj.1 (by show c.toNat = 46; omega)
  subst e
  rw [hT]
  refine ⟨⟨1, [], rfl, by rw [txt_dot hr, hr]; rfl, Nat.zero_le _, by omega, by omega⟩, fun y hy => ?_⟩
  rw [hT] at hy
  rw [hT, hM, hM, hv2]
  obtain ⟨k, o, rfl, hk, ho, hks, hev⟩ := hy
  dsimp only
  refine bif_ok (fun e => ?_) fun e => ?_
  · have e : (k : Int) < (s.size : Int) := of_decide_eq_true e
    obtain ⟨x, y, hx, hy, hd⟩ := get_two (s := s) (k := k) (by omega)
    rw [hd] at hk
    have hk1 : pAdd .i64 (k : Int) 1 = ((k + 1 : Nat) : Int) := pAdd1 (by omega)
    rw [hk1, pNat_coe, pNat_coe, hx, hy, idx_six, idx_six]
    obtain ⟨x0, x1⟩ := six_in (x.toNat : Int)
    obtain ⟨y0, y1⟩ := six_in (y.toNat : Int)
    refine ⟨pIn_coe.2 (show k < s.size by omega), pIn_coe.2 (show k + 1 < s.size by omega), bif_ok (fun p => no ?_) fun p => bif_ok (fun q => no ?_) fun q => ⟨by show (0 : Int) ≤ 4; decide, ?_⟩⟩
    · have p : sixF (x.toNat : Int) < 0 := of_decide_eq_true p
      rw [← hk]; unfold unhR; rw [if_pos (.inl p)]
    · have q : sixF (y.toNat : Int) < 0 := of_decide_eq_true q
      rw [← hk]; unfold unhR; rw [if_pos (.inr q)]
    · have p : ¬ sixF (x.toNat : Int) < 0 := of_decide_eq_false p
      have q : ¬ sixF (y.toNat : Int) < 0 := of_decide_eq_false q
      have hk2 : pAdd .i64 (k : Int) 2 = ((k + 2 : Nat) : Int) := by rw [pAdd_in (by omega)]; omega
      rw [or_val (by omega) x1 (by omega) y1, cellsB_app, hk2]
      refine ⟨?_, ⟨k + 2, _, rfl, ?_, ?_, by omega, by omega⟩, ?_⟩
      · show ((cellsB o).length + 1) * 1 ≤ 140737488351232
        unfold cellsB; rw [List.length_map]; omega
      · rw [← hk]
        conv => rhs; unfold unhR
        rw [if_neg (by omega)]
      · rw [List.length_append]; show o.length + 1 ≤ k + 2; omega
      · show s.size - ((k + 2 : Nat) : Int).toNat + 1 ≤ s.size - ((k : Nat) : Int).toNat
        simp only [Int.toNat_natCast]; omega
  · have e : ¬ (k : Int) < (s.size : Int) := of_decide_eq_false e
    have : s.data.toList.drop k = [] := List.drop_eq_nil_of_le (by rw [← hL]; omega)
    rw [this] at hk
    rw [pBytes_cells]
    exact yes o hk.symm

/- a call -/
theorem tcall_ok : MtG (tabsL mL) 75 ctcall := tcall_meets next_ok.any idxS_ok.any number_ok fun l b hp => by
  have f0 : pFewW l := hp (pFewW l) (by simp)
  have f1 := few_tl f0
  have f2 := few_tl f1
  have f3 := few_tl f2
  have hE : tcall_v2 l b = ((takY l b).1, ((takY l b).2.1, (takY l b).2.2.1, ()), ()) := rfl
  delta tcall_VC
  rw [hE]
  refine ⟨pTo_coe.2 (by decide), f0, (show (6 : Nat) ≤ 4611686018427387904 by decide), bif_ok (fun a => ⟨f1, bif_ok (fun c => ?_) fun c => bif_ok (fun d => ⟨f2, f3, ?_⟩) fun d => bif_ok (fun e => ⟨f2, f3, ?_⟩) fun e => ?_⟩) fun a => bif_ok (fun c => ?_) fun c => bif_ok (fun d => ⟨f1, f2, ?_⟩) fun d => bif_ok (fun e => ⟨f1, f2, ?_⟩) fun e => ?_⟩
  all_goals
    have a' : pGt (takK l) 1 = _ := a
    have c' : pEq (takK l) 0 = _ := c
    unfold takY
    simp only [a', c', cond_true, cond_false]
    try have d' : pEq (takK l) 2 = _ := d
    try simp only [d', cond_true, cond_false]
    try have e' : pEq (takK l) 3 = _ := e
    try simp only [e', cond_true, cond_false]
    rfl


end Go.Proofs.YtedjlbcclhgfmaaDoor

/- One line of the program meets its contract. No condition. -/
namespace Go.Proofs.YtedjlbcclhgfmaaDoor
open Go.RowKit Go.Lib Go.IntWalk
variable {mL : Int}

theorem fin_ok {E : ActD × Bool × Unit} {z : ActD} {l : List SD} {b : Bool} (h : E = fin z l b) : bif pNot b then (z, pEq (pInt (pLen l)) (0 : Int), ()) = E else (z, Bool.false, ()) = E := by
  unfold fin at h
  refine bif_ok (fun a => ?_) fun a => ?_
  · rw [a, cond_true] at h; exact h.symm
  · rw [a, cond_false] at h; exact h.symm
abbrev cStep (y : denCells vAct × denCells vTak × PUnit) := ((y.1.1, y.1.2.1, y.1.2.2.1, y.1.2.2.2.1, y.1.2.2.2.2.1, pApp y.1.2.2.2.2.2.1 ((pAtoiN (nextS y.2.1.1), ()) :: vnil (Int × PUnit)), y.1.2.2.2.2.2.2), (nextL y.2.1.1, bif nextB y.2.1.1 y.2.1.2.1 then Bool.true else bif numOk (nextS y.2.1.1) then Bool.false else Bool.true, ()), ())
abbrev cEnd (E : ActD × Bool × Unit) (y : denCells vAct × denCells vTak × PUnit) : Prop := bif pNot y.2.1.2.1 then (y.1, pEq (pInt (pLen y.2.1.1)) (0 : Int), ()) = E else (y.1, Bool.false, ()) = E
theorem crash_ok {k n : Int} {l : List SD} {b : Bool} (hf : pFewW l) {E : ActD × Bool × Unit} (hE : E = crashR k n [] l b) :
    crashInv k n l b (actY k n 0 0 0 [] callZ (bs []), (l, b, ()), ()) ∧ ∀ (y : denCells vAct × denCells vTak × PUnit), crashInv k n l b y → bif pGt (pInt (pLen y.2.1.1)) (0 : Int) then bif pNot y.2.1.2.1 then pFewW y.2.1.1 ∧
      pRoom (pPlus (pLen y.1.2.2.2.2.2.1) (pLen ((pAtoiN (nextS y.2.1.1), ()) :: vnil (Int × PUnit)))) 8 ∧ crashInv k n l b (cStep y) ∧ Nat.le (Nat.succ (crashMu k n l b (cStep y))) (crashMu k n l b y) else cEnd E y else cEnd E y := by
  refine ⟨⟨[], l, b, rfl, rfl, Nat.zero_add _, fun _ h => h⟩, fun y hy => ?_⟩
  obtain ⟨ke, l1, b1, rfl, hr, hl, hm⟩ := hy
  have hlen := hf.1
  cases l1 with
  | nil => exact fin_ok (z := actY k n 0 0 0 ke callZ (bs [])) (l := []) (b := b1) (by rw [hE, ← hr]; rfl)
  | cons a r =>
    rw [bif_true (by show pGt ((r.length + 1 : Nat) : Int) 0 = true; exact decide_eq_true (by omega))]
    refine bif_ok (fun h => ?_) fun h => fin_ok (z := actY k n 0 0 0 ke callZ (bs [])) (l := a :: r) (b := b1) ?_
    · have h : b1 = false := by have h : (!b1) = true := h; simpa using h
      subst h
      refine ⟨few_of hf (by show (a :: r).length ≤ l.length; omega) hm, ?_, ⟨ke ++ [(pAtoiN a.1, ())], r, numB' (a :: r) false, rfl, ?_, ?_, fun w hw => hm w (List.mem_cons_of_mem a hw)⟩, Nat.le_refl _⟩
      · show (ke.length + 1) * 8 ≤ 140737488351232
        omega
      · rw [← hr]; rfl
      · rw [List.length_append]; rw [List.length_cons] at hl; show ke.length + 1 + r.length = l.length; omega
    · have h : b1 = true := by have h : (!b1) = false := h; simpa using h
      subst h
      rw [hE, ← hr]; rfl
abbrev finP (E : ActD × Bool × Unit) (z : ActD) (l : List SD) (b : Bool) : Prop := bif pNot b then (z, pEq (pInt (pLen l)) (0 : Int), ()) = E else (z, Bool.false, ()) = E
abbrev pathP (k n : Int) (l : List SD) (b : Bool) (E : ActD × Bool × Unit) : Prop := pFewW l ∧ pFewW (nextL l) ∧ pFewW (nextL (nextL l)) ∧
  finP E (actY k n (pAtoiN (nextS l)) (pAtoiN (nextS (nextL l))) (pAtoiN (nextS (nextL (nextL l)))) [] callZ (bs [])) (nextL (nextL (nextL l))) (numB' (nextL (nextL l)) (numB' (nextL l) (numB' l b)))
abbrev loopP (k n : Int) (l : List SD) (b : Bool) (E : ActD × Bool × Unit) : Prop := crashInv k n l b (actY k n 0 0 0 [] callZ (bs []), (l, b, ()), ()) ∧ ∀ (y : denCells vAct × denCells vTak × PUnit), crashInv k n l b y → bif pGt (pInt (pLen y.2.1.1)) (0 : Int) then bif pNot y.2.1.2.1 then pFewW y.2.1.1 ∧
      pRoom (pPlus (pLen y.1.2.2.2.2.2.1) (pLen ((pAtoiN (nextS y.2.1.1), ()) :: vnil (Int × PUnit)))) 8 ∧ crashInv k n l b (cStep y) ∧ Nat.le (Nat.succ (crashMu k n l b (cStep y))) (crashMu k n l b y) else cEnd E y else cEnd E y
abbrev restP (k n : Int) (l : List SD) (b : Bool) (E : ActD × Bool × Unit) : Prop :=
  bif pEq k (1 : Int) then pFewW l ∧ pFewW (nextL l) ∧ finP E (actY k n 0 (pAtoiN (nextS l)) 0 [] (takC (nextL l) (numB' l b)) (bs [])) (takL (nextL l) (numB' l b)) (takB (nextL l) (numB' l b))
  else bif pEq k (8 : Int) then pFewW l ∧ pFewW (nextL l) ∧ finP E (actY k n 0 (pAtoiN (nextS l)) 0 [] callZ (txtS (nextS (nextL l)))) (nextL (nextL l)) (nextB (nextL l) (numB' l b) || !txtB (nextS (nextL l)))
  else finP E (actY k n 0 0 0 [] callZ (bs [])) l b
abbrev kindP (k n : Int) (l : List SD) (b : Bool) (E : ActD × Bool × Unit) : Prop :=
  bif pEq k (2 : Int) then bif pEq k (2 : Int) then pathP k n l b E else bif pEq k (6 : Int) then loopP k n l b E else restP k n l b E
  else bif pEq k (3 : Int) then bif pEq k (3 : Int) then pathP k n l b E else bif pEq k (6 : Int) then loopP k n l b E else restP k n l b E
  else bif pEq k (4 : Int) then pathP k n l b E else bif pEq k (6 : Int) then loopP k n l b E else restP k n l b E
theorem kind_ok {k n : Int} {l : List SD} {b : Bool} (hf : pFewW l) {E : ActD × Bool × Unit} (hE : E = oneR k n l b) : kindP k n l b E := by
  have f1 := few_tl hf
  have f2 := few_tl f1
  unfold oneR at hE
  refine bif_ok (fun h2 => bif_ok (fun _ => ?_) fun h => ?_) fun h2 => bif_ok (fun h3 => bif_ok (fun _ => ?_) fun h => ?_) fun h3 => bif_ok (fun h4 => ?_) fun h4 => ?_
  · rw [h2, Bool.true_or, Bool.true_or, cond_true] at hE
    exact ⟨hf, f1, f2, fin_ok hE⟩
  · rw [h2] at h; cases h
  · rw [h3, Bool.or_true, Bool.true_or, cond_true] at hE
    exact ⟨hf, f1, f2, fin_ok hE⟩
  · rw [h3] at h; cases h
  · rw [h4, Bool.or_true, cond_true] at hE
    exact ⟨hf, f1, f2, fin_ok hE⟩
  · rw [h2, h3, h4, Bool.or_false, Bool.or_false, cond_false] at hE
    refine bif_ok (fun h6 => ?_) fun h6 => bif_ok (fun h1 => ?_) fun h1 => bif_ok (fun h8 => ?_) fun h8 => ?_
    · rw [h6, cond_true] at hE
      exact crash_ok hf hE
    · rw [h6, cond_false, h1, cond_true] at hE
      exact ⟨hf, f1, fin_ok hE⟩
    · rw [h6, cond_false, h1, cond_false, h8, cond_true] at hE
      exact ⟨hf, f1, fin_ok hE⟩
    · rw [h6, cond_false, h1, cond_false, h8, cond_false] at hE
      exact fin_ok hE
theorem one_all {L : List SD} (f0 : pFewW L) {E : ActD × Bool × Unit} (hE : E = oneY L) :
    bif pEq (oneK L) (0 : Int) then (actY (oneK L) 0 0 0 0 [] callZ (bs []), Bool.false, ()) = E else bif pNe (oneK L) (5 : Int) then pFewW (nextL L) ∧ kindP (oneK L) (pAtoiN (nextS (nextL L))) (nextL (nextL L)) (numB' (nextL L) (nextB L false)) E
      else kindP (oneK L) 0 (nextL L) (nextB L false) E := by
  have f1 := few_tl f0
  have f2 := few_tl f1
  unfold oneY at hE
  refine bif_ok (fun h0 => ?_) fun h0 => bif_ok (fun h5 => ⟨f1, kind_ok f2 ?_⟩) fun h5 => kind_ok f1 ?_
  · rw [h0, cond_true] at hE; exact hE.symm
  · rw [h0, cond_false, h5, cond_true] at hE; exact hE
  · rw [h0, cond_false, h5, cond_false] at hE; exact hE
theorem one_vc (s : ByteArray) (h1 : pShort s) : lone_VC s := by
  have f0 := few_split h1
  have hE : (oneA s, oneB s, ()) = oneY (pSplit s (bs [32])) := rfl
  exact ⟨h1, (show 1 ≤ 1 from Nat.le_refl _), pTo_coe.2 (by decide), f0, (show (9 : Nat) ≤ 4611686018427387904 by decide), one_all f0 hE⟩
theorem lone_ok : MtG (tabsL mL) 46 clone := lone_meets SplitL_ok next_ok.any idxS_ok.any number_ok ttext_ok tcall_ok fun s hp => one_vc s (hp (pShort s) (by simp))
theorem oneF_ok : MtG (tabsL mL) 46 coneF := meets_frz lone_ok rfl fun _ => rfl


end Go.Proofs.YtedjlbcclhgfmaaDoor

/- One line, read by both: the same. No condition. -/
namespace Go.Proofs.YtedjlbcclhgfmaaDoor
open Go.RowKit Go.Lib

/-- both say no, or both say the same -/
def Alike {A : Type} (x y : A × Bool × Unit) : Prop := x.2.1 = y.2.1 ∧ (y.2.1 = true → x = y)
theorem Alike.no {A : Type} {x y : A × Bool × Unit} (hx : x.2.1 = false) (hy : y.2.1 = false) : Alike x y := ⟨by rw [hx, hy], fun h => by rw [hy] at h; cases h⟩
theorem Alike.eq {A : Type} {x y : A × Bool × Unit} (h : x = y) : Alike x y := ⟨by rw [h], fun _ => h⟩
theorem fin_long (z : ActD) (a : SD) (l : List SD) (b : Bool) : (fin z (a :: l) b).2.1 = false := by
  have h : pEq (pInt (pLen (a :: l))) 0 = false := by show (((l.length + 1 : Nat) : Int) == 0) = false; rw [beq_eq_false_iff_ne]; omega
  unfold fin
  rw [h]
  cases b <;> rfl
theorem fin_good (z : ActD) : fin z [] false = (z, true, ()) := rfl
theorem num_nil (b : Bool) : numB' [] b = true := by cases b <;> rfl
theorem num_cons (a : SD) (r : List SD) (b : Bool) : numB' (a :: r) b = (b || !numOk a.1) := by cases b <;> rfl
theorem crash_t (k n : Int) (ke : List ND) (l : List SD) : (crashR k n ke l true).2.1 = false := by
  cases l with
  | nil => rfl
  | cons a r => rfl
theorem crash_all (k n : Int) : ∀ (l : List SD) (ke : List ND), (wholB l = true → crashR k n ke l false = (actY k n 0 0 0 (ke ++ numsL l) callZ (bs []), true, ())) ∧ (wholB l = false → (crashR k n ke l false).2.1 = false)
  | [], ke => ⟨fun _ => (by show fin (actY k n 0 0 0 ke callZ (bs [])) [] false = _; rw [fin_good]; unfold numsL; rw [List.map_nil, List.append_nil]), fun h => (by cases h)⟩
  | a :: r, ke => by
    obtain ⟨h1, h2⟩ := crash_all k n r (ke ++ [(pAtoiN a.1, ())])
    have hs : crashR k n ke (a :: r) false = crashR k n (ke ++ [(pAtoiN a.1, ())]) r (!numOk a.1) := by
      show crashR k n (ke ++ [(pAtoiN a.1, ())]) r (numB' (a :: r) false) = _
      rw [num_cons]; rfl
    have hw : wholB (a :: r) = (numOk a.1 && wholB r) := rfl
    rw [hs, hw]
    cases hn : numOk a.1 with
    | false => exact ⟨fun h => (by rw [Bool.false_and] at h; cases h), fun _ => crash_t _ _ _ _⟩
    | true =>
      refine ⟨fun h => ?_, fun h => ?_⟩
      · rw [Bool.true_and] at h
        rw [Bool.not_true, h1 h, List.append_assoc]; rfl
      · rw [Bool.true_and] at h
        exact h2 h
theorem whol_of {l : List SD} (h : wholB l = true) : wholL l = numsL l := by unfold wholL; rw [h]; rfl

/- kinds -/
theorem one_tick (r : List SD) : Alike (oneR 5 0 r false) (cond (wholB r) ((actY 5 0 0 0 0 [] callZ (bs []), pEq (pInt (wholL r).length) 0, ()) : ActD × Bool × Unit) lineNo) := by
  have h : oneR 5 0 r false = fin (actY 5 0 0 0 0 [] callZ (bs [])) r false := rfl
  rw [h]
  cases r with
  | nil => exact .eq rfl
  | cons a t =>
    refine .no (fin_long _ _ _ _) ?_
    cases hw : wholB (a :: t) with
    | false => rfl
    | true =>
      rw [cond_true, whol_of hw]
      show (((numsL (a :: t)).length : Int) == 0) = false
      unfold numsL
      rw [List.length_map, beq_eq_false_iff_ne, List.length_cons]; omega
theorem one_start (r : List SD) : Alike (oneR 7 (pAtoiN (nextS r)) (nextL r) (numB' r false)) (cond (wholB r) (cond (pEq (pInt (wholL r).length) 1) (actY 7 (gN (wholL r) 0) 0 0 0 [] callZ (bs []), true, ()) lineNo) lineNo) := by
  have h : oneR 7 (pAtoiN (nextS r)) (nextL r) (numB' r false) = fin (actY 7 (pAtoiN (nextS r)) 0 0 0 [] callZ (bs [])) (nextL r) (numB' r false) := rfl
  rw [h]
  match r with
  | [] => exact .no rfl rfl
  | [x] =>
    rw [num_cons]
    have hw : wholB [x] = numOk x.1 := by show (numOk x.1 && true) = _; rw [Bool.and_true]
    cases hn : numOk x.1 with
    | false => rw [hw, hn]; exact .no rfl rfl
    | true =>
      rw [whol_of (hw.trans hn), hw, hn]; exact .eq rfl
  | x :: y :: t =>
    refine .no (fin_long _ _ _ _) ?_
    cases hw : wholB (x :: y :: t) with
    | false => rfl
    | true =>
      have : pEq (pInt (wholL (x :: y :: t)).length) 1 = false := by
        rw [whol_of hw]; unfold numsL
        show ((((x :: y :: t).map fun w : SD => (pAtoiN w.1, ())).length : Int) == 1) = false
        rw [List.length_map, beq_eq_false_iff_ne, List.length_cons, List.length_cons]; omega
      rw [cond_true, this]; rfl
theorem one_crash (r : List SD) : Alike (oneR 6 (pAtoiN (nextS r)) (nextL r) (numB' r false)) (cond (wholB r) (cond (pGt (pInt (wholL r).length) 0) (actY 6 (gN (wholL r) 0) 0 0 0 (wholL r).tail callZ (bs []), true, ()) lineNo) lineNo) := by
  have h : oneR 6 (pAtoiN (nextS r)) (nextL r) (numB' r false) = crashR 6 (pAtoiN (nextS r)) [] (nextL r) (numB' r false) := rfl
  rw [h]
  cases r with
  | nil => exact .no rfl rfl
  | cons x t =>
    rw [num_cons]
    have hw : wholB (x :: t) = (numOk x.1 && wholB t) := rfl
    obtain ⟨h1, h2⟩ := crash_all 6 (pAtoiN x.1) t []
    cases hn : numOk x.1 with
    | false =>
      rw [hw, hn, Bool.false_and]
      exact .no (crash_t _ _ _ _) rfl
    | true =>
      cases ht : wholB t with
      | false => rw [hw, hn, ht]; exact .no (h2 ht) rfl
      | true =>
        have hwt : wholB (x :: t) = true := by rw [hw, hn, ht]; rfl
        have hp : pGt (pInt (wholL (x :: t)).length) 0 = true := by
          rw [whol_of hwt]
          exact decide_eq_true (by show (0 : Int) < (((numsL t).length + 1 : Nat) : Int); omega)
        rw [hwt, cond_true, hp, cond_true, whol_of hwt]
        exact .eq (h1 ht)
theorem fin_bad' {z : ActD} {l : List SD} {b : Bool} (h : b = true) : (fin z l b).2.1 = false := by subst h; rfl
theorem path_no {k : Int} {r : List SD} (h : r.length ≠ 4) : (cond (wholB r) (pathY k (wholL r)) lineNo).2.1 = false := by
  cases hw : wholB r with
  | false => rfl
  | true =>
    have : pEq (pInt (wholL r).length) 4 = false := by
      rw [whol_of hw]; unfold numsL
      show (((r.map fun w : SD => (pAtoiN w.1, ())).length : Int) == 4) = false
      rw [List.length_map, beq_eq_false_iff_ne]; omega
    unfold pathY
    rw [cond_true, this]; rfl
theorem one_path {k : Int} (hk : k = 2 ∨ k = 3 ∨ k = 4) (r : List SD) : Alike (oneR k (pAtoiN (nextS r)) (nextL r) (numB' r false)) (cond (wholB r) (pathY k (wholL r)) lineNo) := by
  have h : oneR k (pAtoiN (nextS r)) (nextL r) (numB' r false) = fin (actY k (pAtoiN (nextS r)) (pAtoiN (nextS (nextL r))) (pAtoiN (nextS (nextL (nextL r)))) (pAtoiN (nextS (nextL (nextL (nextL r))))) [] callZ (bs [])) (nextL (nextL (nextL (nextL r)))) (numB' (nextL (nextL (nextL r))) (numB' (nextL (nextL r)) (numB' (nextL r) (numB' r false)))) := by
    rcases hk with rfl | rfl | rfl <;> rfl
  rw [h]
  match r with
  | [] => exact .no (fin_bad' (num_nil _)) (path_no (by simp))
  | [_] => exact .no (fin_bad' (num_nil _)) (path_no (by simp))
  | [_, _] => exact .no (fin_bad' (num_nil _)) (path_no (by simp))
  | [_, _, _] => exact .no (fin_bad' (num_nil _)) (path_no (by simp))
  | _ :: _ :: _ :: _ :: _ :: _ => exact .no (fin_long _ _ _ _) (path_no (by simp))
  | [x, y, z, u] =>
    have hw : wholB [x, y, z, u] = (numOk x.1 && (numOk y.1 && (numOk z.1 && numOk u.1))) := by
      show (numOk x.1 && (numOk y.1 && (numOk z.1 && (numOk u.1 && true)))) = _
      rw [Bool.and_true]
    have hb : numB' (nextL (nextL (nextL [x, y, z, u]))) (numB' (nextL (nextL [x, y, z, u])) (numB' (nextL [x, y, z, u]) (numB' [x, y, z, u] false))) = !wholB [x, y, z, u] := by
      show numB' [u] (numB' [z, u] (numB' [y, z, u] (numB' [x, y, z, u] false))) = _
      rw [num_cons, num_cons, num_cons, num_cons, hw]
      cases numOk x.1 <;> cases numOk y.1 <;> cases numOk z.1 <;> cases numOk u.1 <;> rfl
    rw [hb]
    cases h : wholB [x, y, z, u] with
    | false => exact .no rfl rfl
    | true => rw [whol_of h]; exact .eq rfl
theorem one_type (r : List SD) (w : ByteArray) (hw : pStrEq w (bs [97, 115, 107]) = false) : Alike (oneR 8 (pAtoiN (nextS r)) (nextL r) (numB' r false)) (cond (pLt (pInt (r.length + 1)) 4) lineNo (cond (wholB (r.take 2)) (lineA w (r.drop 2) (wholL (r.take 2))) lineNo)) := by
  have h : oneR 8 (pAtoiN (nextS r)) (nextL r) (numB' r false) = fin (actY 8 (pAtoiN (nextS r)) 0 (pAtoiN (nextS (nextL r))) 0 [] callZ (txtS (nextS (nextL (nextL r))))) (nextL (nextL (nextL r))) (nextB (nextL (nextL r)) (numB' (nextL r) (numB' r false)) || !txtB (nextS (nextL (nextL r)))) := rfl
  have nb : ∀ b c : Bool, (nextB [] b || c) = true := fun b c => by cases b <;> rfl
  rw [h]
  match r with
  | [] => exact .no (fin_bad' (nb _ _)) rfl
  | [_] => exact .no (fin_bad' (nb _ _)) rfl
  | [_, _] => exact .no (fin_bad' (nb _ _)) rfl
  | x :: y :: z :: t =>
    have hp : pLt (pInt ((x :: y :: z :: t).length + 1)) 4 = false := decide_eq_false (by show ¬ ((t.length + 1 + 1 + 1 + 1 : Nat) : Int) < 4; omega)
    have h2 : wholB [x, y] = (numOk x.1 && numOk y.1) := by show (numOk x.1 && (numOk y.1 && true)) = _; rw [Bool.and_true]
    rw [hp, cond_false]
    show Alike (fin (actY 8 (pAtoiN x.1) 0 (pAtoiN y.1) 0 [] callZ (txtS z.1)) t (nextB (z :: t) (numB' (y :: z :: t) (numB' (x :: y :: z :: t) false)) || !txtB z.1)) (cond (wholB [x, y]) (lineA w (z :: t) (wholL [x, y])) lineNo)
    rw [num_cons, num_cons]
    have hn : ∀ b, nextB (z :: t) b = b := fun b => by cases b <;> rfl
    rw [hn]
    cases hq : wholB [x, y] with
    | false =>
      refine .no (fin_bad' ?_) rfl
      rw [h2] at hq
      revert hq
      cases numOk x.1 <;> cases numOk y.1 <;> cases txtB z.1 <;> decide
    | true =>
      have hl : lineA w (z :: t) (wholL [x, y]) = (actY 8 (pAtoiN x.1) 0 (pAtoiN y.1) 0 [] callZ (txtS z.1), txtB z.1 && pEq (pInt (z :: t).length) 1, ()) := by
        unfold lineA; rw [hw, whol_of hq]; rfl
      have hbad : (!numOk y.1) = false ∧ (!numOk x.1) = false := by
        rw [h2] at hq
        revert hq
        cases numOk x.1 <;> cases numOk y.1 <;> decide
      rw [cond_true, hl, hbad.1, hbad.2]
      cases t with
      | nil =>
        cases txtB z.1 with
        | false => exact .no rfl rfl
        | true => exact .eq rfl
      | cons u v =>
        refine .no (fin_long _ _ _ _) ?_
        have : pEq (pInt (z :: u :: v).length) 1 = false := by
          show (((v.length + 1 + 1 : Nat) : Int) == 1) = false
          rw [beq_eq_false_iff_ne]; omega
        show (txtB z.1 && pEq (pInt (z :: u :: v).length) 1) = false
        rw [this, Bool.and_false]
/- a call -/
def tfin (z : CallD) (l : List SD) (b : Bool) : CallD × Bool × Unit := (z, cond (pNot b) (pEq (pInt (pLen l)) 0) false, ())
theorem tfin_bad {z : CallD} {l : List SD} {b : Bool} (h : b = true) : (tfin z l b).2.1 = false := by subst h; rfl
theorem tfin_long (z : CallD) (a : SD) (l : List SD) (b : Bool) : (tfin z (a :: l) b).2.1 = false := by
  have h : pEq (pInt (pLen (a :: l))) 0 = false := by show (((l.length + 1 : Nat) : Int) == 0) = false; rw [beq_eq_false_iff_ne]; omega
  unfold tfin
  rw [h]
  cases b <;> rfl
theorem len_ne {r : List SD} {n : Nat} (h : wholB r = true) (hn : r.length ≠ n) : pEq (pInt (wholL r).length) (n : Int) = false := by
  rw [whol_of h]; unfold numsL
  show (((r.map fun w : SD => (pAtoiN w.1, ())).length : Int) == (n : Int)) = false
  rw [List.length_map, beq_eq_false_iff_ne]; omega
theorem call_begin (r : List SD) : Alike (tfin (1, 0, 0, 0, 0, ()) r false) (cond (wholB r) (((1, 0, 0, 0, 0, ()), pEq (pInt (wholL r).length) 0, ()) : CallD × Bool × Unit) callNo) := by
  cases r with
  | nil => exact .eq rfl
  | cons a t =>
    refine .no (tfin_long _ _ _ _) ?_
    cases hw : wholB (a :: t) with
    | false => rfl
    | true => exact len_ne (n := 0) hw (by simp)
theorem call_one (k : Int) (r : List SD) : Alike (tfin (k, pAtoiN (nextS r), 0, 0, 0, ()) (nextL r) (numB' r false)) (cond (wholB r) (cond (pEq (pInt (wholL r).length) 1) ((k, gN (wholL r) 0, 0, 0, 0, ()), true, ()) callNo) callNo) := by
  match r with
  | [] => exact .no rfl rfl
  | [x] =>
    rw [num_cons]
    have hw : wholB [x] = numOk x.1 := by show (numOk x.1 && true) = _; rw [Bool.and_true]
    cases hn : numOk x.1 with
    | false => rw [hw, hn]; exact .no rfl rfl
    | true => rw [whol_of (hw.trans hn), hw, hn]; exact .eq rfl
  | x :: y :: t =>
    refine .no (tfin_long _ _ _ _) ?_
    cases hw : wholB (x :: y :: t) with
    | false => rfl
    | true => rw [cond_true, show pEq (pInt (wholL (x :: y :: t)).length) 1 = false from len_ne (n := 1) hw (by simp)]; rfl
theorem call_three (F : Int → Int → Int → CallD) (r : List SD) : Alike (tfin (F (pAtoiN (nextS r)) (pAtoiN (nextS (nextL r))) (pAtoiN (nextS (nextL (nextL r))))) (nextL (nextL (nextL r))) (numB' (nextL (nextL r)) (numB' (nextL r) (numB' r false))))
    (cond (wholB r) (cond (pEq (pInt (wholL r).length) 3) (F (gN (wholL r) 0) (gN (wholL r) 1) (gN (wholL r) 2), true, ()) callNo) callNo) := by
  have no : r.length ≠ 3 → (cond (wholB r) (cond (pEq (pInt (wholL r).length) 3) ((F (gN (wholL r) 0) (gN (wholL r) 1) (gN (wholL r) 2), true, ()) : CallD × Bool × Unit) callNo) callNo).2.1 = false := fun h => by
    cases hw : wholB r with
    | false => rfl
    | true => rw [cond_true, show pEq (pInt (wholL r).length) 3 = false from len_ne (n := 3) hw h]; rfl
  match r, no with
  | [], no => exact .no (tfin_bad (num_nil _)) (no (by simp))
  | [_], no => exact .no (tfin_bad (num_nil _)) (no (by simp))
  | [_, _], no => exact .no (tfin_bad (num_nil _)) (no (by simp))
  | _ :: _ :: _ :: _ :: _, no => exact .no (tfin_long _ _ _ _) (no (by simp))
  | [x, y, z], _ =>
    have hw : wholB [x, y, z] = (numOk x.1 && (numOk y.1 && numOk z.1)) := by
      show (numOk x.1 && (numOk y.1 && (numOk z.1 && true))) = _
      rw [Bool.and_true]
    have hb : numB' (nextL (nextL [x, y, z])) (numB' (nextL [x, y, z]) (numB' [x, y, z] false)) = !wholB [x, y, z] := by
      show numB' [z] (numB' [y, z] (numB' [x, y, z] false)) = _
      rw [num_cons, num_cons, num_cons, hw]
      cases numOk x.1 <;> cases numOk y.1 <;> cases numOk z.1 <;> rfl
    rw [hb]
    cases h : wholB [x, y, z] with
    | false => exact .no rfl rfl
    | true => rw [whol_of h]; exact .eq rfl
theorem eq_bs {w : ByteArray} {l : List Nat} (h : pStrEq w (bs l) = true) : w = bs l := strEq_iff.1 h
theorem takK_none {a : SD} {r : List SD} (h1 : pStrEq a.1 (bs [98, 101, 103, 105, 110]) = false) (h2 : pStrEq a.1 (bs [103, 101, 116]) = false) (h3 : pStrEq a.1 (bs [112, 117, 116]) = false) (h4 : pStrEq a.1 (bs [99, 111, 109, 109, 105, 116]) = false) (h5 : pStrEq a.1 (bs [114, 111, 108, 108, 98, 97, 99, 107]) = false) : takK (a :: r) = 0 := by
  have : idxS (pSub callsT 1 6) (nextS (a :: r)) = -1 := idxOf_none fun j hj => by
    have hj : j < 5 := hj
    match j, hj with
    | 0, _ => exact h1
    | 1, _ => exact h2
    | 2, _ => exact h3
    | 3, _ => exact h4
    | 4, _ => exact h5
  unfold takK
  rw [this]; rfl
theorem call_alike (a : SD) (r : List SD) : Alike (tfin (takC (a :: r) false) (takL (a :: r) false) (takB (a :: r) false)) (callY (a :: r)) := by
  obtain ⟨w, ⟨⟩⟩ := a
  show Alike _ (cond (wholB r) (callW w (wholL r)) callNo)
  cases h1 : pStrEq w (bs [98, 101, 103, 105, 110]) with
  | true =>
    obtain rfl := eq_bs h1
    have e1 : tfin (takC ((bs [98, 101, 103, 105, 110], ()) :: r) false) (takL ((bs [98, 101, 103, 105, 110], ()) :: r) false) (takB ((bs [98, 101, 103, 105, 110], ()) :: r) false) = tfin (1, 0, 0, 0, 0, ()) r false := by kernel_rfl
    have e2 : callW (bs [98, 101, 103, 105, 110]) (wholL r) = ((1, 0, 0, 0, 0, ()), pEq (pInt (wholL r).length) 0, ()) := by kernel_rfl
    rw [e2]
    show Alike (tfin (takC ((bs [98, 101, 103, 105, 110], ()) :: r) false) (takL ((bs [98, 101, 103, 105, 110], ()) :: r) false) (takB ((bs [98, 101, 103, 105, 110], ()) :: r) false)) _
    rw [e1]
    exact call_begin r
  | false =>
    cases h2 : pStrEq w (bs [103, 101, 116]) with
    | true =>
      obtain rfl := eq_bs h2
      have e1 : tfin (takC ((bs [103, 101, 116], ()) :: r) false) (takL ((bs [103, 101, 116], ()) :: r) false) (takB ((bs [103, 101, 116], ()) :: r) false) = (tfin (2, pAtoiN (nextS r), pAtoiN (nextS (nextL r)), pAtoiN (nextS (nextL (nextL r))), 0, ()) (nextL (nextL (nextL r))) (numB' (nextL (nextL r)) (numB' (nextL r) (numB' r false)))) := by kernel_rfl
      have e2 : callW (bs [103, 101, 116]) (wholL r) = cond (pEq (pInt (wholL r).length) 3) ((2, gN (wholL r) 0, gN (wholL r) 1, gN (wholL r) 2, 0, ()), true, ()) callNo := by kernel_rfl
      rw [e2]
      show Alike (tfin (takC ((bs [103, 101, 116], ()) :: r) false) (takL ((bs [103, 101, 116], ()) :: r) false) (takB ((bs [103, 101, 116], ()) :: r) false)) _
      rw [e1]
      exact call_three (fun x y z => (2, x, y, z, 0, ())) r
    | false =>
      cases h3 : pStrEq w (bs [112, 117, 116]) with
      | true =>
        obtain rfl := eq_bs h3
        have e1 : tfin (takC ((bs [112, 117, 116], ()) :: r) false) (takL ((bs [112, 117, 116], ()) :: r) false) (takB ((bs [112, 117, 116], ()) :: r) false) = (tfin (3, pAtoiN (nextS r), 0, pAtoiN (nextS (nextL r)), pAtoiN (nextS (nextL (nextL r))), ()) (nextL (nextL (nextL r))) (numB' (nextL (nextL r)) (numB' (nextL r) (numB' r false)))) := by kernel_rfl
        have e2 : callW (bs [112, 117, 116]) (wholL r) = cond (pEq (pInt (wholL r).length) 3) ((3, gN (wholL r) 0, 0, gN (wholL r) 1, gN (wholL r) 2, ()), true, ()) callNo := by kernel_rfl
        rw [e2]
        show Alike (tfin (takC ((bs [112, 117, 116], ()) :: r) false) (takL ((bs [112, 117, 116], ()) :: r) false) (takB ((bs [112, 117, 116], ()) :: r) false)) _
        rw [e1]
        exact call_three (fun x y z => (3, x, 0, y, z, ())) r
      | false =>
        cases h4 : pStrEq w (bs [99, 111, 109, 109, 105, 116]) with
        | true =>
          obtain rfl := eq_bs h4
          have e1 : tfin (takC ((bs [99, 111, 109, 109, 105, 116], ()) :: r) false) (takL ((bs [99, 111, 109, 109, 105, 116], ()) :: r) false) (takB ((bs [99, 111, 109, 109, 105, 116], ()) :: r) false) = tfin (4, pAtoiN (nextS r), 0, 0, 0, ()) (nextL r) (numB' r false) := by kernel_rfl
          have e2 : callW (bs [99, 111, 109, 109, 105, 116]) (wholL r) = cond (pEq (pInt (wholL r).length) 1) ((4, gN (wholL r) 0, 0, 0, 0, ()), true, ()) callNo := by kernel_rfl
          rw [e2]
          show Alike (tfin (takC ((bs [99, 111, 109, 109, 105, 116], ()) :: r) false) (takL ((bs [99, 111, 109, 109, 105, 116], ()) :: r) false) (takB ((bs [99, 111, 109, 109, 105, 116], ()) :: r) false)) _
          rw [e1]
          exact call_one 4 r
        | false =>
          cases h5 : pStrEq w (bs [114, 111, 108, 108, 98, 97, 99, 107]) with
          | true =>
            obtain rfl := eq_bs h5
            have e1 : tfin (takC ((bs [114, 111, 108, 108, 98, 97, 99, 107], ()) :: r) false) (takL ((bs [114, 111, 108, 108, 98, 97, 99, 107], ()) :: r) false) (takB ((bs [114, 111, 108, 108, 98, 97, 99, 107], ()) :: r) false) = tfin (5, pAtoiN (nextS r), 0, 0, 0, ()) (nextL r) (numB' r false) := by kernel_rfl
            have e2 : callW (bs [114, 111, 108, 108, 98, 97, 99, 107]) (wholL r) = cond (pEq (pInt (wholL r).length) 1) ((5, gN (wholL r) 0, 0, 0, 0, ()), true, ()) callNo := by kernel_rfl
            rw [e2]
            show Alike (tfin (takC ((bs [114, 111, 108, 108, 98, 97, 99, 107], ()) :: r) false) (takL ((bs [114, 111, 108, 108, 98, 97, 99, 107], ()) :: r) false) (takB ((bs [114, 111, 108, 108, 98, 97, 99, 107], ()) :: r) false)) _
            rw [e1]
            exact call_one 5 r
          | false =>
            have hk : takK ((w, ()) :: r) = 0 := takK_none h1 h2 h3 h4 h5
            have hb : takB ((w, ()) :: r) false = true := by unfold takB takY; rw [hk]; rfl
            refine .no (tfin_bad hb) ?_
            have : callW w (wholL r) = callNo := by unfold callW; rw [h1, h2, h3, h4, h5]; rfl
            rw [this]
            cases wholB r <;> rfl


end Go.Proofs.YtedjlbcclhgfmaaDoor

/- One line, read by both: the same, all kinds. No condition. -/
namespace Go.Proofs.YtedjlbcclhgfmaaDoor
open Go.RowKit Go.Lib

theorem takB_t (l : List SD) : takB l true = true := by
  unfold takB takY
  dsimp only
  cases pGt (takK l) 1 <;> cases pEq (takK l) 0 <;> cases pEq (takK l) 2 <;> cases pEq (takK l) 3 <;> rfl
theorem takB_nil (b : Bool) : takB [] b = true := by
  have hk : takK [] = 0 := by kernel_rfl
  unfold takB takY
  rw [hk]; rfl
theorem one_ask (r : List SD) : Alike (oneR 1 (pAtoiN (nextS r)) (nextL r) (numB' r false)) (cond (pLt (pInt (r.length + 1)) 4) lineNo (cond (wholB (r.take 2)) (actY 1 (gN (wholL (r.take 2)) 0) 0 (gN (wholL (r.take 2)) 1) 0 [] (callC (r.drop 2)) (bs []), callB (r.drop 2), ()) lineNo)) := by
  have h : oneR 1 (pAtoiN (nextS r)) (nextL r) (numB' r false) = fin (actY 1 (pAtoiN (nextS r)) 0 (pAtoiN (nextS (nextL r))) 0 [] (takC (nextL (nextL r)) (numB' (nextL r) (numB' r false))) (bs [])) (takL (nextL (nextL r)) (numB' (nextL r) (numB' r false))) (takB (nextL (nextL r)) (numB' (nextL r) (numB' r false))) := rfl
  rw [h]
  match r with
  | [] => exact .no (fin_bad' (takB_nil _)) rfl
  | [_] => exact .no (fin_bad' (takB_nil _)) rfl
  | [_, _] => exact .no (fin_bad' (takB_nil _)) rfl
  | x :: y :: z :: t =>
    have hp : pLt (pInt ((x :: y :: z :: t).length + 1)) 4 = false := decide_eq_false (by show ¬ ((t.length + 1 + 1 + 1 + 1 : Nat) : Int) < 4; omega)
    have h2 : wholB [x, y] = (numOk x.1 && numOk y.1) := by show (numOk x.1 && (numOk y.1 && true)) = _; rw [Bool.and_true]
    have hB : numB' (nextL (x :: y :: z :: t)) (numB' (x :: y :: z :: t) false) = !wholB [x, y] := by
      show numB' (y :: z :: t) (numB' (x :: y :: z :: t) false) = _
      rw [num_cons, num_cons, h2]
      cases numOk x.1 <;> cases numOk y.1 <;> rfl
    rw [hp, cond_false, hB]
    show Alike (fin (actY 1 (pAtoiN x.1) 0 (pAtoiN y.1) 0 [] (takC (z :: t) (!wholB [x, y])) (bs [])) (takL (z :: t) (!wholB [x, y])) (takB (z :: t) (!wholB [x, y]))) (cond (wholB [x, y]) (actY 1 (gN (wholL [x, y]) 0) 0 (gN (wholL [x, y]) 1) 0 [] (callC (z :: t)) (bs []), callB (z :: t), ()) lineNo)
    cases hq : wholB [x, y] with
    | false => exact .no (fin_bad' (takB_t _)) rfl
    | true =>
      rw [cond_true, whol_of hq, Bool.not_true]
      obtain ⟨c1, c2⟩ := call_alike z t
      refine ⟨c1, fun hc => ?_⟩
      have hc : callB (z :: t) = true := hc
      have ce := c2 hc
      have e1 : takC (z :: t) false = callC (z :: t) := congrArg Prod.fst ce
      have e2 : cond (pNot (takB (z :: t) false)) (pEq (pInt (pLen (takL (z :: t) false))) 0) false = callB (z :: t) := c1
      unfold fin
      rw [e1, e2]; rfl
theorem oneK_none {a : SD} {r : List SD} (h1 : pStrEq a.1 (bs [97, 115, 107]) = false) (h2 : pStrEq a.1 (bs [100, 101, 108, 105, 118, 101, 114]) = false) (h3 : pStrEq a.1 (bs [100, 114, 111, 112]) = false) (h4 : pStrEq a.1 (bs [99, 111, 112, 121]) = false) (h5 : pStrEq a.1 (bs [116, 105, 99, 107]) = false) (h6 : pStrEq a.1 (bs [99, 114, 97, 115, 104]) = false) (h7 : pStrEq a.1 (bs [115, 116, 97, 114, 116]) = false) (h8 : pStrEq a.1 (bs [116, 121, 112, 101]) = false) : oneK (a :: r) = 0 := by
  have : idxS (pSub wordsT 1 9) (nextS (a :: r)) = -1 := idxOf_none fun j hj => by
    have hj : j < 8 := hj
    match j, hj with
    | 0, _ => exact h1
    | 1, _ => exact h2
    | 2, _ => exact h3
    | 3, _ => exact h4
    | 4, _ => exact h5
    | 5, _ => exact h6
    | 6, _ => exact h7
    | 7, _ => exact h8
  unfold oneK
  rw [this]; rfl
theorem line_alike (a : SD) (r : List SD) : Alike (oneY (a :: r)) (lineY (a :: r)) := by
  obtain ⟨w, ⟨⟩⟩ := a
  cases h1 : pStrEq w (bs [97, 115, 107]) with
  | true =>
    obtain rfl := eq_bs h1
    have e1 : oneY ((bs [97, 115, 107], ()) :: r) = oneR 1 (pAtoiN (nextS r)) (nextL r) (numB' r false) := by kernel_rfl
    have e2 : lineY ((bs [97, 115, 107], ()) :: r) = cond (pLt (pInt (r.length + 1)) 4) lineNo (cond (wholB (r.take 2)) (actY 1 (gN (wholL (r.take 2)) 0) 0 (gN (wholL (r.take 2)) 1) 0 [] (callC (r.drop 2)) (bs []), callB (r.drop 2), ()) lineNo) := by kernel_rfl
    show Alike (oneY ((bs [97, 115, 107], ()) :: r)) (lineY ((bs [97, 115, 107], ()) :: r))
    rw [e1, e2]
    exact one_ask r
  | false =>
    cases h2 : pStrEq w (bs [100, 101, 108, 105, 118, 101, 114]) with
    | true =>
      obtain rfl := eq_bs h2
      have e1 : oneY ((bs [100, 101, 108, 105, 118, 101, 114], ()) :: r) = oneR 2 (pAtoiN (nextS r)) (nextL r) (numB' r false) := by kernel_rfl
      have e2 : lineY ((bs [100, 101, 108, 105, 118, 101, 114], ()) :: r) = cond (wholB r) (pathY 2 (wholL r)) lineNo := by kernel_rfl
      show Alike (oneY ((bs [100, 101, 108, 105, 118, 101, 114], ()) :: r)) (lineY ((bs [100, 101, 108, 105, 118, 101, 114], ()) :: r))
      rw [e1, e2]
      exact one_path (.inl rfl) r
    | false =>
      cases h3 : pStrEq w (bs [100, 114, 111, 112]) with
      | true =>
        obtain rfl := eq_bs h3
        have e1 : oneY ((bs [100, 114, 111, 112], ()) :: r) = oneR 3 (pAtoiN (nextS r)) (nextL r) (numB' r false) := by kernel_rfl
        have e2 : lineY ((bs [100, 114, 111, 112], ()) :: r) = cond (wholB r) (pathY 3 (wholL r)) lineNo := by kernel_rfl
        show Alike (oneY ((bs [100, 114, 111, 112], ()) :: r)) (lineY ((bs [100, 114, 111, 112], ()) :: r))
        rw [e1, e2]
        exact one_path (.inr (.inl rfl)) r
      | false =>
        cases h4 : pStrEq w (bs [99, 111, 112, 121]) with
        | true =>
          obtain rfl := eq_bs h4
          have e1 : oneY ((bs [99, 111, 112, 121], ()) :: r) = oneR 4 (pAtoiN (nextS r)) (nextL r) (numB' r false) := by kernel_rfl
          have e2 : lineY ((bs [99, 111, 112, 121], ()) :: r) = cond (wholB r) (pathY 4 (wholL r)) lineNo := by kernel_rfl
          show Alike (oneY ((bs [99, 111, 112, 121], ()) :: r)) (lineY ((bs [99, 111, 112, 121], ()) :: r))
          rw [e1, e2]
          exact one_path (.inr (.inr rfl)) r
        | false =>
          cases h5 : pStrEq w (bs [116, 105, 99, 107]) with
          | true =>
            obtain rfl := eq_bs h5
            have e1 : oneY ((bs [116, 105, 99, 107], ()) :: r) = oneR 5 0 r false := by kernel_rfl
            have e2 : lineY ((bs [116, 105, 99, 107], ()) :: r) = cond (wholB r) ((actY 5 0 0 0 0 [] callZ (bs []), pEq (pInt (wholL r).length) 0, ()) : ActD × Bool × Unit) lineNo := by kernel_rfl
            show Alike (oneY ((bs [116, 105, 99, 107], ()) :: r)) (lineY ((bs [116, 105, 99, 107], ()) :: r))
            rw [e1, e2]
            exact one_tick r
          | false =>
            cases h6 : pStrEq w (bs [99, 114, 97, 115, 104]) with
            | true =>
              obtain rfl := eq_bs h6
              have e1 : oneY ((bs [99, 114, 97, 115, 104], ()) :: r) = oneR 6 (pAtoiN (nextS r)) (nextL r) (numB' r false) := by kernel_rfl
              have e2 : lineY ((bs [99, 114, 97, 115, 104], ()) :: r) = cond (wholB r) (cond (pGt (pInt (wholL r).length) 0) (actY 6 (gN (wholL r) 0) 0 0 0 (wholL r).tail callZ (bs []), true, ()) lineNo) lineNo := by kernel_rfl
              show Alike (oneY ((bs [99, 114, 97, 115, 104], ()) :: r)) (lineY ((bs [99, 114, 97, 115, 104], ()) :: r))
              rw [e1, e2]
              exact one_crash r
            | false =>
              cases h7 : pStrEq w (bs [115, 116, 97, 114, 116]) with
              | true =>
                obtain rfl := eq_bs h7
                have e1 : oneY ((bs [115, 116, 97, 114, 116], ()) :: r) = oneR 7 (pAtoiN (nextS r)) (nextL r) (numB' r false) := by kernel_rfl
                have e2 : lineY ((bs [115, 116, 97, 114, 116], ()) :: r) = cond (wholB r) (cond (pEq (pInt (wholL r).length) 1) (actY 7 (gN (wholL r) 0) 0 0 0 [] callZ (bs []), true, ()) lineNo) lineNo := by kernel_rfl
                show Alike (oneY ((bs [115, 116, 97, 114, 116], ()) :: r)) (lineY ((bs [115, 116, 97, 114, 116], ()) :: r))
                rw [e1, e2]
                exact one_start r
              | false =>
                cases h8 : pStrEq w (bs [116, 121, 112, 101]) with
                | true =>
                  obtain rfl := eq_bs h8
                  have e1 : oneY ((bs [116, 121, 112, 101], ()) :: r) = oneR 8 (pAtoiN (nextS r)) (nextL r) (numB' r false) := by kernel_rfl
                  have e2 : lineY ((bs [116, 121, 112, 101], ()) :: r) = cond (pLt (pInt (r.length + 1)) 4) lineNo (cond (wholB (r.take 2)) (lineA (bs [116, 121, 112, 101]) (r.drop 2) (wholL (r.take 2))) lineNo) := by kernel_rfl
                  show Alike (oneY ((bs [116, 121, 112, 101], ()) :: r)) (lineY ((bs [116, 121, 112, 101], ()) :: r))
                  rw [e1, e2]
                  exact one_type r _ (by kernel_rfl)
                | false =>
                  have hk : oneK ((w, ()) :: r) = 0 := oneK_none h1 h2 h3 h4 h5 h6 h7 h8
                  have e1 : (oneY ((w, ()) :: r)).2.1 = false := by unfold oneY; rw [hk]; rfl
                  refine .no e1 ?_
                  show (cond (pStrEq w (bs [97, 115, 107]) || pStrEq w (bs [116, 121, 112, 101])) _ (cond (wholB r) (lineB w (wholL r)) lineNo)).2.1 = false
                  rw [h1, h8, Bool.or_false, cond_false]
                  have : lineB w (wholL r) = lineNo := by unfold lineB; rw [h5, h7, h6, h2, h3, h4]; rfl
                  rw [this]
                  cases wholB r <;> rfl
theorem lines_same (s : ByteArray) : oneB s = linB s ∧ (linB s = true → oneA s = linA s) := by
  obtain ⟨a, r, hW⟩ := split_ne s
  have h := line_alike a r
  rw [← hW] at h
  exact ⟨h.1, fun hb => congrArg Prod.fst (h.2 hb)⟩


end Go.Proofs.YtedjlbcclhgfmaaDoor

/- Lines cut off at the first end of a line; a line's act keeps few numbers. No condition. -/
namespace Go.Proofs.YtedjlbcclhgfmaaDoor
open Go.RowKit Go.Lib

theorem index_at : ∀ (p q : List UInt8), (∀ c ∈ p, c ≠ 10) → index (p ++ 10 :: q) [10] = (p.length : Int)
  | [], q, _ => by
    show index (10 :: q) [10] = 0
    rw [index, if_pos (by simp [List.isPrefixOf])]
  | a :: p, q, h => by
    have ha : a ≠ 10 := h a (by simp)
    have hi := index_at p q fun c hc => h c (by simp [hc])
    have hp : ([10] : List UInt8).isPrefixOf (a :: (p ++ 10 :: q)) = false := by
      simp only [List.isPrefixOf, Bool.and_true]
      exact beq_eq_false_iff_ne.2 fun h => ha h.symm
    show index (a :: (p ++ 10 :: q)) [10] = _
    rw [index, if_neg (by rw [hp]; simp), hi, if_neg (by rw [beq_iff_eq]; omega)]
    rw [List.length_cons]; omega
theorem index_no : ∀ (l : List UInt8), (∀ c ∈ l, c ≠ 10) → index l [10] = -1
  | [], _ => rfl
  | a :: p, h => by
    have ha : a ≠ 10 := h a (by simp)
    have hi := index_no p fun c hc => h c (by simp [hc])
    have hp : ([10] : List UInt8).isPrefixOf (a :: p) = false := by
      simp only [List.isPrefixOf, Bool.and_true]
      exact beq_eq_false_iff_ne.2 fun h => ha h.symm
    rw [index, if_neg (by rw [hp]; simp), hi]; rfl
theorem cut_at (p q : List UInt8) (h : ∀ c ∈ p, c ≠ 10) : Go.Lib.cut (p ++ 10 :: q) [10] = (p, q, true) := by
  unfold Go.Lib.cut
  rw [index_at p q h, if_pos (by omega), Int.toNat_natCast]
  have h1 : (p ++ 10 :: q).take p.length = p := List.take_left
  have h2 : (p ++ 10 :: q).drop (p.length + ([10] : List UInt8).length) = q := by
    show (p ++ 10 :: q).drop (p.length + 1) = q
    rw [← List.drop_drop, List.drop_left]; rfl
  rw [h1, h2]
theorem cut_no (l : List UInt8) (h : ∀ c ∈ l, c ≠ 10) : Go.Lib.cut l [10] = (l, [], false) := by
  unfold Go.Lib.cut
  rw [index_no l h, if_neg (by decide)]
theorem keep_few (s : ByteArray) (h : pShort s) : (linA s).2.2.2.2.2.1.length < 4611686018427387904 := by
  have hf := few_split h
  obtain ⟨a, r, hW⟩ := split_ne s
  unfold linA
  rw [hW] at hf ⊢
  have hl := hf.1
  rw [List.length_cons] at hl
  have hq : (wholL r).tail.length < 4611686018427387904 := by
    unfold wholL numsL
    cases wholB r with
    | false => show (0 : Nat) < _; decide
    | true => rw [cond_true, List.length_tail, List.length_map]; omega
  have h0 : (0 : Nat) < 4611686018427387904 := by decide
  show (cond _ (cond _ lineNo (cond _ (lineA a.1 _ _) lineNo)) (cond _ (lineB a.1 (wholL r)) lineNo)).1.2.2.2.2.2.1.length < _
  generalize (pStrEq a.1 (bs [97, 115, 107]) || pStrEq a.1 (bs [116, 121, 112, 101])) = b1
  cases b1 with
  | true =>
    rw [cond_true]
    generalize pLt (pInt (a :: r).length) 4 = b2
    generalize wholB (r.take 2) = b3
    cases b2 with
    | true => exact h0
    | false =>
      cases b3 with
      | false => exact h0
      | true =>
        unfold lineA
        rw [cond_false, cond_true]
        cases pStrEq a.1 (bs [97, 115, 107]) <;> exact h0
  | false =>
    rw [cond_false]
    generalize wholB r = b2
    cases b2 with
    | false => exact h0
    | true =>
      unfold lineB pathY
      rw [cond_true]
      cases pStrEq a.1 (bs [116, 105, 99, 107]) with
      | true => exact h0
      | false =>
      cases pStrEq a.1 (bs [115, 116, 97, 114, 116]) with
      | true => rw [cond_false, cond_true]; cases pEq (pInt (wholL r).length) 1 <;> exact h0
      | false =>
      cases pStrEq a.1 (bs [99, 114, 97, 115, 104]) with
      | true => rw [cond_false, cond_false, cond_true]; cases pGt (pInt (wholL r).length) 0 <;> first | exact h0 | exact hq
      | false =>
      simp only [cond_false]
      generalize pEq (pInt (wholL r).length) 4 = b4
      cases pStrEq a.1 (bs [100, 101, 108, 105, 118, 101, 114]) <;> cases pStrEq a.1 (bs [100, 114, 111, 112]) <;> cases pStrEq a.1 (bs [99, 111, 112, 121]) <;> cases b4 <;> exact h0


end Go.Proofs.YtedjlbcclhgfmaaDoor

/- Lines are read: the program's function meets its contract. No condition. -/
namespace Go.Proofs.YtedjlbcclhgfmaaDoor
open Go.RowKit Go.Lib
variable {mL : Int}

theorem cut_small (t : ByteArray) : (cutA t (bs [10])).size ≤ t.size ∧ (cutF t (bs [10]) = true → (cutB t (bs [10])).size + 1 ≤ t.size) := by
  have hL := size_eq t
  have hd : (bs [10]).data.toList = [10] := rfl
  unfold cutA cutB cutF
  rw [hd]
  have hz : ∀ l : List UInt8, (ba l).size = l.length := fun l => by show l.toArray.size = _; simp
  rw [hz, hz, hL]
  unfold Go.Lib.cut
  split
  · rename_i h
    refine ⟨by rw [List.length_take]; omega, fun _ => ?_⟩
    show (t.data.toList.drop ((index t.data.toList [10]).toNat + 1)).length + 1 ≤ _
    rw [List.length_drop]
    have : t.data.toList ≠ [] := fun e => by rw [e] at h; exact absurd h (by decide)
    have := List.length_pos_iff.2 this
    omega
  · exact ⟨Nat.le_refl _, fun h => by cases h⟩
theorem Read_ok : MtG (tabsL mL) 13 cRead := Read_meets lCheck_ok.any Cut_ok oneF_ok liCheck_ok.any fun c s hp => by
  have hc : pLen c.2.1 < 4611686018427387904 := hp (pLen c.2.1 < 4611686018427387904) (by simp)
  have hs : s.size < 4294967281 := hp (pShort s) (by simp)
  clear hp
  have hR : ∀ X : ReadD, X = readY c s → X = Read_v0 c s := fun X h => h
  delta Read_VC
  refine ⟨hc, bif_ok (fun a => hR _ ?_) fun a => ⟨⟨s.size, s, [], rfl, Nat.le_refl _, Nat.le_refl _, Nat.zero_le _, rfl⟩, fun y hy => ?_⟩⟩
  · have a : pEq (cfgF c) 0 = false := by have a : (!pEq (cfgF c) 0) = true := a; simpa using a
    unfold readY
    rw [a]; rfl
  have a : pEq (cfgF c) 0 = true := by have a : (!pEq (cfgF c) 0) = false := a; simpa using a
  have hY : readY c s = readR c s.size s 0 [] := by unfold readY; rw [a]; rfl
  obtain ⟨f, t, out, rfl, ht, hf, ho, hr⟩ := hy
  rw [← hY] at hr
  dsimp only
  refine bif_ok (fun b => ?_) fun b => ?_
  · have b : pStrEq t (bs []) = false := by simpa [pNot] using b
    have hts : t.size ≠ 0 := fun e => by
      have : t = bs [] := ba_eq (List.eq_nil_of_length_eq_zero (by rw [← size_eq]; exact e))
      rw [this, strEq_iff.2 rfl] at b; cases b
    obtain ⟨g, rfl⟩ : ∃ g, f = g + 1 := ⟨f - 1, by omega⟩
    obtain ⟨k1, k2⟩ := cut_small t
    obtain ⟨l1, l2⟩ := lines_same (cutA t (bs [10]))
    unfold readR at hr
    rw [b, cond_false] at hr
    refine ⟨(show t.size < 4294967281 by omega), bif_ok (fun d => hR _ ?_) fun d => ⟨(show (cutA t (bs [10])).size < 4294967281 by omega), bif_ok (fun e => hR _ ?_) fun e => bif_ok (fun u => hR _ ?_) fun u => ?_⟩⟩
    · rw [show pEq ((out.length : Nat) : Int) 3000 = true from d, cond_true] at hr; exact hr
    · have e : cutF t (bs [10]) = false := by simpa [pNot] using e
      rw [show pEq ((out.length : Nat) : Int) 3000 = false from d, cond_false, e, cond_false] at hr; exact hr
    · have e : cutF t (bs [10]) = true := by simpa [pNot] using e
      have g : linB (cutA t (bs [10])) = false := by rw [← l1]; simpa [pNot] using u
      rw [show pEq ((out.length : Nat) : Int) 3000 = false from d, cond_false, e, cond_true, g, cond_false] at hr; exact hr
    · have e : cutF t (bs [10]) = true := by simpa [pNot] using e
      have g' : linB (cutA t (bs [10])) = true := by rw [← l1]; simpa [pNot] using u
      have la := l2 g'
      rw [show pEq ((out.length : Nat) : Int) 3000 = false from d, cond_false, e, cond_true, g', cond_true] at hr
      rw [la]
      refine ⟨hc, keep_few _ (show (cutA t (bs [10])).size < 4294967281 by omega), bif_ok (fun p => hR _ ?_) fun p => ?_⟩
      · have p : pEq (actF c (linA (cutA t (bs [10])))) 0 = false := by have p : (!pEq (actF c (linA (cutA t (bs [10])))) 0) = true := p; simpa using p
        rw [p, cond_false] at hr; exact hr
      · have p : pEq (actF c (linA (cutA t (bs [10])))) 0 = true := by have p : (!pEq (actF c (linA (cutA t (bs [10])))) 0) = false := p; simpa using p
        rw [p, cond_true] at hr
        have hn : out.length ≠ 3000 := fun h => by
          have d : (((out.length : Nat) : Int) == 3000) = false := d
          rw [h] at d; cases d
        have hk := k2 e
        delta Read_v1
        dsimp only
        rw [la, pAdd1 (by omega)]
        refine ⟨?_, ⟨g, cutB t (bs [10]), out ++ [linA (cutA t (bs [10]))], ?_, by omega, by omega, ?_, ?_⟩, ?_⟩
        · show (out.length + 1) * 120 ≤ 140737488351232
          omega
        · rw [List.length_append]; rfl
        · rw [List.length_append]; show out.length + 1 ≤ 3000; omega
        · rw [← hY, ← hr, List.length_append]; rfl
        · show (cutB t (bs [10])).size + 1 ≤ t.size; exact hk
  · have b : pStrEq t (bs []) = true := by simpa [pNot] using b
    refine hR _ ?_
    rw [← hr]
    cases f with
    | zero => rfl
    | succ g => unfold readR; rw [b]; rfl


end Go.Proofs.YtedjlbcclhgfmaaDoor

/- Lines are read: the document's function meets its contract. No condition. -/
namespace Go.Proofs.YtedjlbcclhgfmaaDoor
open Go.RowKit Go.Lib

theorem sub_data (s : ByteArray) (a b : Nat) : (pStrSub s a b).data.toList = (s.data.toList.drop a).take (b - a) := by
  unfold pStrSub
  rw [ByteArray.data_extract, Array.toList_extract]
theorem sub_rest (s : ByteArray) (k : Nat) : (pStrSub s k s.size).data.toList = s.data.toList.drop k := by
  rw [sub_data]
  exact List.take_of_length_le (by rw [List.length_drop]; have := size_eq s; omega)
theorem sub_size (s : ByteArray) (a b : Nat) : (pStrSub s a b).size ≤ s.size := by
  rw [size_eq, sub_data, List.length_take, List.length_drop, ← size_eq]; omega
theorem cuts_at {s : ByteArray} {k e : Nat} (he : k ≤ e) (hx : ∀ x ∈ (s.data.toList.drop k).take (e - k), x ≠ 10) (h2 : s.data.toList[e]? = some 10) :
    cutA (pStrSub s k s.size) (bs [10]) = pStrSub s k e ∧ cutF (pStrSub s k s.size) (bs [10]) = true ∧ cutB (pStrSub s k s.size) (bs [10]) = pStrSub s (e + 1) s.size := by
  have h1 : s.data.toList.drop k = (s.data.toList.drop k).take (e - k) ++ 10 :: s.data.toList.drop (e + 1) := by
    have h1 := (List.take_append_drop (e - k) (s.data.toList.drop k)).symm
    rw [List.drop_drop, show k + (e - k) = e by omega] at h1
    rw [List.getElem?_eq_some_iff] at h2
    obtain ⟨hl, hcc⟩ := h2
    rw [List.drop_eq_getElem_cons hl, hcc] at h1
    exact h1
  have h2 := cut_at _ (s.data.toList.drop (e + 1)) hx
  rw [← h1] at h2
  refine ⟨?_, ?_, ?_⟩
  · apply ba_eq
    rw [sub_data]
    show (Go.Lib.cut (pStrSub s k s.size).data.toList [10]).1 = _
    rw [sub_rest, h2]
  · show (Go.Lib.cut (pStrSub s k s.size).data.toList [10]).2.2 = true
    rw [sub_rest, h2]
  · apply ba_eq
    show (Go.Lib.cut (pStrSub s k s.size).data.toList [10]).2.1 = _
    rw [sub_rest, sub_rest, h2]
theorem cuts_no {s : ByteArray} {k : Nat} (hx : ∀ x ∈ (s.data.toList.drop k).take (s.size - k), x ≠ 10) : cutF (pStrSub s k s.size) (bs [10]) = false := by
  show (Go.Lib.cut (pStrSub s k s.size).data.toList [10]).2.2 = false
  rw [sub_rest]
  have : (s.data.toList.drop k).take (s.size - k) = s.data.toList.drop k := List.take_of_length_le (by rw [List.length_drop]; have := size_eq s; omega)
  rw [this] at hx
  rw [cut_no _ hx]
theorem line_end {c : CfgD} {s : ByteArray} (hc : pLen c.2.1 < 4611686018427387904) (hs : s.size < 4294967281) (hR : ∀ X : ReadD, X = readY c s → X = ActsOf_v0 c s) {k e g : Nat} {out : List ActD} (ho : out.length ≤ 3000) (hf : s.size - k ≤ g + 1)
    (hY : readY c s = readR c s.size s 0 [])
    (hr : cond (pEq (out.length : Int) 3000) ([], (out.length : Int), 1, ()) (cond (cutF (pStrSub s k s.size) (bs [10])) (cond (linB (cutA (pStrSub s k s.size) (bs [10])))
      (cond (pEq (actF c (linA (cutA (pStrSub s k s.size) (bs [10])))) 0) (readR c g (cutB (pStrSub s k s.size) (bs [10])) ((out.length : Int) + 1) (out ++ [linA (cutA (pStrSub s k s.size) (bs [10]))])) ([], (out.length : Int), actF c (linA (cutA (pStrSub s k s.size) (bs [10]))), ())) ([], (out.length : Int), 4, ())) ([], (out.length : Int), 4, ())) = readY c s)
    (he : k ≤ e) (hes : e ≤ s.size) (hx : ∀ x ∈ (s.data.toList.drop k).take (e - k), x ≠ 10) (h10 : e < s.size → s.data.toList[e]? = some 10) : ActsOf_v2 c s ((k : Int), (out.length : Int), out, ()) ((e : Int), ()) := by
  delta ActsOf_v2
  refine bif_ok (fun d => hR _ ?_) fun d => bif_ok (fun u => hR _ ?_) fun u => ?_
  · rw [show pEq ((out.length : Nat) : Int) 3000 = true from d, cond_true] at hr; exact hr
  · have u : (e : Int) = (s.size : Int) := beq_iff_eq.1 u
    have u : e = s.size := by omega
    rw [show pEq ((out.length : Nat) : Int) 3000 = false from d, cond_false, cuts_no (by rw [← u]; exact hx), cond_false] at hr; exact hr
  · have hes' : e < s.size := by
      have u : ((e : Int) == (s.size : Int)) = false := u
      have : (e : Int) ≠ s.size := by simpa using u
      omega
    obtain ⟨q1, q2, q3⟩ := cuts_at he hx (h10 hes')
    rw [show pEq ((out.length : Nat) : Int) 3000 = false from d, cond_false, q2, cond_true, q1, q3] at hr
    have hsz := sub_size s k e
    dsimp only
    rw [pNat_coe, pNat_coe]
    refine ⟨pTo_coe.2 hes, pTo_coe.2 he, (show (pStrSub s k e).size < 4294967281 by omega), bif_ok (fun v => hR _ ?_) fun v => ⟨hc, keep_few _ (show (pStrSub s k e).size < 4294967281 by omega), bif_ok (fun p => hR _ ?_) fun p => ?_⟩⟩
    · have g : linB (pStrSub s k e) = false := by simpa [pNot] using v
      rw [g, cond_false] at hr; exact hr
    · have g' : linB (pStrSub s k e) = true := by simpa [pNot] using v
      have p : pEq (actF c (linA (pStrSub s k e))) 0 = false := by have p : (!pEq (actF c (linA (pStrSub s k e))) 0) = true := p; simpa using p
      rw [g', cond_true, p, cond_false] at hr; exact hr
    · have g' : linB (pStrSub s k e) = true := by simpa [pNot] using v
      have p : pEq (actF c (linA (pStrSub s k e))) 0 = true := by have p : (!pEq (actF c (linA (pStrSub s k e))) 0) = false := p; simpa using p
      rw [g', cond_true, p, cond_true] at hr
      have hn : out.length ≠ 3000 := fun h => by
        have d : (((out.length : Nat) : Int) == 3000) = false := d
        rw [h] at d; cases d
      delta ActsOf_v1
      dsimp only
      rw [pNat_coe, pNat_coe, pAdd1 (by omega), pAdd1 (by omega)]
      refine ⟨?_, ⟨g, e + 1, out ++ [linA (pStrSub s k e)], ?_, by omega, by omega, ?_, ?_⟩, ?_⟩
      · show (out.length + 1) * 120 ≤ 140737488351232
        omega
      · rw [List.length_append]; rfl
      · rw [List.length_append]; show out.length + 1 ≤ 3000; omega
      · rw [← hY, ← hr, List.length_append]; rfl
      · show (s.size - (((e + 1 : Nat) : Int)).toNat) + 1 ≤ s.size - ((k : Int)).toNat
        omega
set_option maxHeartbeats 4000000 in
theorem ActsOf_ok : Mt 14 cActsOf := ActsOf_meets cFault_ok lineAct_ok aFault_ok fun c s hp => by
  have hc : pLen c.2.1 < 4611686018427387904 := hp (pLen c.2.1 < 4611686018427387904) (by simp)
  have hs : s.size < 4294967281 := hp (pShort s) (by simp)
  clear hp
  have hL := size_eq s
  have hR : ∀ X : ReadD, X = readY c s → X = ActsOf_v0 c s := fun X h => h
  delta ActsOf_VC
  have h00 : pStrSub s 0 s.size = s := ba_eq (by rw [sub_data, List.drop_zero, Nat.sub_zero, hL, List.take_length])
  refine ⟨hc, bif_ok (fun a => hR _ ?_) fun a => ⟨⟨s.size, 0, [], rfl, Nat.zero_le _, Nat.le_refl _, Nat.zero_le _, by rw [h00]; rfl⟩, fun y hy => ?_⟩⟩
  · have a : pEq (cfgF c) 0 = false := by have a : (!pEq (cfgF c) 0) = true := a; simpa using a
    unfold readY
    rw [a]; rfl
  have a : pEq (cfgF c) 0 = true := by have a : (!pEq (cfgF c) 0) = false := a; simpa using a
  have hY : readY c s = readR c s.size s 0 [] := by unfold readY; rw [a]; rfl
  obtain ⟨f, k, out, rfl, hk, hf, ho, hr⟩ := hy
  rw [← hY] at hr
  refine bif_ok (fun b => ?_) fun b => ?_
  · have b : (k : Int) < (s.size : Int) := of_decide_eq_true b
    have hks : k < s.size := by omega
    have ht : pStrEq (pStrSub s k s.size) (bs []) = false := by
      cases hq : pStrEq (pStrSub s k s.size) (bs []) with
      | false => rfl
      | true =>
        have := congrArg (fun x : ByteArray => x.data.toList) (strEq_iff.1 hq)
        have : (pStrSub s k s.size).data.toList = [] := this
        rw [sub_rest] at this
        have := congrArg List.length this
        rw [List.length_drop] at this
        have : s.data.toList.length - k = 0 := this
        omega
    obtain ⟨g, rfl⟩ : ∃ g, f = g + 1 := ⟨f - 1, by omega⟩
    unfold readR at hr
    rw [ht, cond_false] at hr
    have e0 : endsInv s (k : Int) ((k : Int), ()) := ⟨k, k, rfl, rfl, Nat.le_refl k, hk, fun x hx => by rw [Nat.sub_self, List.take_zero] at hx; exact absurd hx List.not_mem_nil⟩
    refine ⟨e0, fun y hy => ?_⟩
    obtain ⟨k', e, hk', rfl, he, hes, hx⟩ := hy
    obtain rfl : k = k' := Int.ofNat.inj hk'
    have F := line_end (e := e) hc hs hR ho hf hY hr he hes hx
    refine bif_ok (fun d => ?_) fun d => ?_
    · have d : (e : Int) < (s.size : Int) := of_decide_eq_true d
      obtain ⟨z, hz, hg, -⟩ := get_byte (s := s) (k := e) (by omega)
      refine ⟨pIn_coe.2 (show e < s.size by omega), ?_⟩
      refine bif_ok (fun p => ?_) fun p => ?_
      · have p : pNe (pStrGet s (pNat (e : Int))) 10 = true := p
        rw [pNat_coe, hg] at p
        have hz10 : z ≠ 10 := fun h => by rw [h] at p; exact absurd p (by decide)
        have hadd : pAdd .i64 (e : Int) 1 = ((e + 1 : Nat) : Int) := pAdd1 (by omega)
        show endsInv s (k : Int) (pAdd .i64 (e : Int) 1, ()) ∧ endsMu s (k : Int) (pAdd .i64 (e : Int) 1, ()) + 1 ≤ endsMu s (k : Int) ((e : Int), ())
        rw [hadd]
        refine ⟨⟨k, e + 1, rfl, rfl, by omega, by omega, fun x hxx => ?_⟩, ?_⟩
        · rw [show e + 1 - k = (e - k) + 1 by omega] at hxx
          rw [List.take_add_one] at hxx
          rcases List.mem_append.1 hxx with h | h
          · exact hx x h
          · rw [List.getElem?_drop, show k + (e - k) = e by omega, hz] at h
            have h : x ∈ [z] := h
            rw [List.mem_singleton] at h
            rw [h]; exact hz10
        · show (s.size - (((e + 1 : Nat) : Int)).toNat) + 1 ≤ s.size - ((e : Int)).toNat
          omega
      · show ActsOf_v2 c s ((k : Int), (out.length : Int), out, ()) ((e : Int), ())
        refine F fun _ => ?_
        have p : pNe (pStrGet s (pNat (e : Int))) 10 = false := p
        rw [pNat_coe, hg] at p
        have p : ((z.toNat : Int) == 10) = true := by
          have p : (!((z.toNat : Int) == 10)) = false := p
          simpa using p
        have p : (z.toNat : Int) = 10 := beq_iff_eq.1 p
        have : z = 10 := UInt8.toNat_inj.1 (by show z.toNat = 10; omega)
        rw [hz, this]
    · have d : ¬ ((e : Int) < (s.size : Int)) := of_decide_eq_false d
      show ActsOf_v2 c s ((k : Int), (out.length : Int), out, ()) ((e : Int), ())
      exact F fun h => absurd h (by omega)
  · have b : ¬ ((k : Int) < (s.size : Int)) := of_decide_eq_false b
    have hks : k = s.size := by omega
    have ht : pStrEq (pStrSub s k s.size) (bs []) = true := strEq_iff.2 (ba_eq (by rw [sub_rest, hks, hL, List.drop_length]; rfl))
    refine hR _ ?_
    rw [← hr]
    cases f with
    | zero => rfl
    | succ g => unfold readR; rw [ht]; rfl


end Go.Proofs.YtedjlbcclhgfmaaDoor

/- Arguments whose readings are of small bulk: the data that they read as are small, too; laws under that condition. -/
namespace Go.Proofs.YtedjlbcclhgfmaaDoor
open Go.RowKit Go.ChangeShapes Go.WideShapes Go.ChangeAt Go.Deep

/-- places of lists, and bytes of texts, in data -/
def bulkT : (t : Ty) → t.den → Nat
  | .unit, _ => 0
  | .int _, _ => 0
  | .bool, _ => 0
  | .str, s => s.size
  | .sl t, xs => xs.length + (xs.map (bulkT t)).sum
  | .pair a b, x => bulkT a x.1 + bulkT b x.2
  | .mark _ t, x => bulkT t x
/-- Whatever reads as a datum of type t is related by R to a plain value of less bulk. -/
def DecB {α : Type} (P : Program) (t : TypeId) (sz : Nat) (R : ER α) (β : α → Nat) : Prop :=
  P.cellsOf t = sz ∧ ∀ (H : Type) (enc : TypeId × Value → H) (w : World) (held : Bool) (fuel : Nat) (cs : List Value) (y : DataW H × List MemPlace),
    DataW.trod enc P w 0 (fun _ => true) held fuel t cs = some y → okW P t y.1 → cs.length = sz ∧ ∃ x, R w w.heap.size cs x ∧ β x + 1 ≤ Rows.uptoBulk y.1
theorem DecB.imp {α γ : Type} {P : Program} {t : TypeId} {sz : Nat} {R : ER α} {S : ER γ} {β : α → Nat} {b : γ → Nat} (h : DecB P t sz R β) (himp : ∀ w B cs x, R w B cs x → ∃ y, S w B cs y ∧ b y ≤ β x) : DecB P t sz S b :=
  ⟨h.1, fun H enc w held fuel cs y h1 h2 => by
    obtain ⟨hl, x, hx, hb⟩ := h.2 H enc w held fuel cs y h1 h2
    obtain ⟨z, hz, hzb⟩ := himp _ _ _ _ hx
    exact ⟨hl, z, hz, by omega⟩⟩
theorem bulk_pos {H : Type} : ∀ d : DataW H, 1 ≤ Rows.uptoBulk d
  | .lit (.string _) => by unfold Rows.uptoBulk; omega
  | .lit (.int _ _) => by unfold Rows.uptoBulk; omega
  | .lit (.bool _) => by unfold Rows.uptoBulk; omega
  | .nil => by unfold Rows.uptoBulk; omega
  | .ptr _ => by unfold Rows.uptoBulk; omega
  | .slice _ _ => by unfold Rows.uptoBulk; omega
  | .agg _ => by unfold Rows.uptoBulk; omega
  | .iface _ _ => by unfold Rows.uptoBulk; omega
  | .map _ => by unfold Rows.uptoBulk; omega
  | .held _ => by unfold Rows.uptoBulk; omega
  | .lit _ => by unfold Rows.uptoBulk; split <;> omega
/-- one cell, of no bulk -/
theorem decB_one {α : Type} {P : Program} {t : TypeId} {R : ER α} (h : Dec P t 1 R) : DecB P t 1 R fun _ => 0 :=
  ⟨h.1, fun H enc w held fuel cs y h1 h2 => by
    obtain ⟨hl, x, hx⟩ := h.2 H enc w held fuel cs y h1 h2
    exact ⟨hl, x, hx, bulk_pos _⟩⟩
theorem decB_str {P : Program} {t : TypeId} (ht : P.underlying t = some .string) (hc : P.cellsOf t = 1) : DecB P t 1 RStr fun s => s.size :=
  ⟨hc, fun H enc w held fuel cs y h hw => by
    obtain ⟨s, rfl, rfl, _⟩ := DataW.trod_string ht h
    refine ⟨rfl, s, ⟨rfl, ?_⟩, ?_⟩
    · unfold okW at hw
      simp [DataW.weights, reachBytes] at hw
      exact of_decide_eq_true hw
    · unfold Rows.uptoBulk
      show s.data.size + 1 ≤ s.data.toList.length + 1
      rw [Array.length_toList]; exact Nat.le_refl _⟩
theorem bulk_map {H : Type} {α : Type} {β : α → Nat} {f : Nat → α} {D : Nat → DataW H} : ∀ (n : Nat), (∀ i, i < n → β (f i) + 1 ≤ Rows.uptoBulk (D i)) → ∀ l : List Nat, (∀ i ∈ l, i < n) → (l.map f).length + ((l.map f).map β).sum ≤ Rows.uptoBulkAll (l.map D)
  | _, _, [], _ => Nat.zero_le _
  | n, h, i :: l, hl => by
    have h1 := bulk_map n h l fun j hj => hl j (List.mem_cons_of_mem _ hj)
    have h2 := h i (hl i List.mem_cons_self)
    show (l.map f).length + 1 + (β (f i) + ((l.map f).map β).sum) ≤ Rows.uptoBulk (D i) + Rows.uptoBulkAll (l.map D)
    omega
theorem dec_sliceB {α : Type} [Inhabited α] {P : Program} {t e : TypeId} {sz bytes : Nat} {R : ER α} {β : α → Nat} (ht : P.underlying t = some (.slice e)) (hc1 : P.cellsOf t = 1) (hby : P.bytesOf e = bytes) (hpos : 0 < sz) (hE : DecB P e sz R β) :
    DecB P t 1 (RSlice R sz bytes) fun xs => xs.length + (xs.map β).sum := by
  refine ⟨hc1, fun H enc w held fuel cs y h hw => ?_⟩
  have hc := hE.1
  rcases open_slice ht h with ⟨rfl, hy⟩ | ⟨a, len, cap, m, n, D, Pl, rfl, _, hl, hm, hmm, rfl, hi⟩
  · exact ⟨rfl, [], ⟨none, 0, 0, rfl, SlR.nil_⟩, bulk_pos _⟩
  simp only [if_true] at hmm
  subst hmm
  refine ⟨rfl, ?_⟩
  unfold okW at hw
  simp only [DataW.weights, ht, List.all_cons, Bool.and_eq_true, decide_eq_true_eq, List.length_map, List.length_range, List.all_append] at hw
  obtain ⟨hw1, hw2, _⟩ := hw
  have hlen : len * bytes ≤ 140737488351232 := by
    have h1 : len * bytes ≤ (len + (m - len)) * bytes := Nat.mul_le_mul_right _ (by omega)
    rw [hby] at hw1
    have h2 : reachBytes = 140737488351232 := by decide
    omega
  have hx : ∀ i, i < len → ∃ x : α, (∃ cs', cs'.length = sz ∧ R w w.heap.size cs' x ∧ ∀ j, j < sz → w.cell? ((a.add (i * sz)).add j) = cs'[j]?) ∧ β x + 1 ≤ Rows.uptoBulk (D i) := by
    intro i hil
    obtain ⟨cs', h1, h2⟩ := hi i (by omega)
    obtain ⟨hcl, x, hr, hbx⟩ := hE.2 H enc w held n cs' _ h2 (weightsAll_get hw2 (i := i) (by simp [hil]))
    obtain ⟨_, _, hat⟩ := World.cells?_some h1
    rw [hc] at hat
    exact ⟨x, ⟨cs', hcl, hr, hat⟩, hbx⟩
  obtain ⟨f, hf⟩ := choose_lt hx
  have hbulk : ((List.range len).map f).length + (((List.range len).map f).map β).sum + 1 ≤ Rows.uptoBulk (DataW.slice ((List.range len).map D) ((List.range (m - len)).map fun j => D (len + j)) : DataW H) := by
    have := bulk_map (f := f) (D := D) (β := β) len (fun i hi => (hf i hi).2) (List.range len) fun i hi => List.mem_range.1 hi
    show _ ≤ Rows.uptoBulkAll ((List.range len).map D) + Rows.uptoBulkAll _ + 1
    omega
  refine ⟨(List.range len).map f, ⟨some a, len, m, rfl, by simp, hl, hm, hlen, fun hn => ?_⟩, hbulk⟩
  obtain ⟨⟨cs0, hl0, _, hat0⟩, _⟩ := hf 0 hn
  have hc0 : w.cell? a = some (cs0[0]'(by omega)) := by
    have := hat0 0 hpos
    rwa [Nat.zero_mul, show (a.add 0).add 0 = a from rfl, List.getElem?_eq_getElem (by omega)] at this
  obtain ⟨hb, hs⟩ := cell_block_lt hc0
  obtain ⟨b, off, spot⟩ := a
  simp only at hs hb
  subst hs
  refine ⟨b, off, rfl, hb, fun k x hk => ?_⟩
  have hkl : k < len := by
    rcases Nat.lt_or_ge k len with h1 | h1
    · exact h1
    · rw [List.getElem?_eq_none (by simpa using h1)] at hk; cases hk
  simp [hkl] at hk
  subst hk
  obtain ⟨⟨cs', hcl, hr, hat⟩, _⟩ := hf k hkl
  refine ⟨cs', hcl, hr, fun j u hu => ?_⟩
  have hj : j < sz := by
    rcases Nat.lt_or_ge j sz with h1 | h1
    · exact h1
    · rw [List.getElem?_eq_none (by omega)] at hu; cases hu
  have := hat j hj
  rw [hu, add_add] at this
  rw [← this]
  unfold Addr.add
  split
  · rename_i h0; rw [show off + k * sz + j = off by omega]
  · rw [Nat.add_assoc]

/-- a struct's fields, one behind the other -/
def FDecB {α : Type} (P : Program) (l : List Field) (off total : Nat) (R : ER α) (β : α → Nat) : Prop :=
  ∀ (H : Type) (enc : TypeId × Value → H) (w : World) (held : Bool) (fuel : Nat) (cs : List Value) (xs : List (DataW H × List MemPlace)), cs.length = total → xs.length = l.length →
    (∀ (i : Nat) (f : Field) (y : DataW H × List MemPlace), l[i]? = some f → xs[i]? = some y → DataW.trod enc P w 0 (fun _ => true) held fuel f.type ((cs.drop f.offset).take (P.cellsOf f.type)) = some y ∧ okW P f.type y.1) →
    ∃ x, R w w.heap.size (cs.drop off) x ∧ β x ≤ Rows.uptoBulkAll (xs.map (·.1))
theorem FDecB.cons {α γ : Type} {P : Program} {f : Field} {l : List Field} {off total k : Nat} {R : ER α} {S : ER γ} {β : α → Nat} {b : γ → Nat} (ho : f.offset = off) (h1 : DecB P f.type k R β) (h2 : FDecB P l (off + k) total S b) :
    FDecB P (f :: l) off total (RCons R S) fun x => β x.1 + b x.2 := by
  intro H enc w held fuel cs xs hl hxl hf
  match xs, hxl with
  | y :: xs, hxl =>
    obtain ⟨hy, hw⟩ := hf 0 f y rfl rfl
    rw [h1.1, ho] at hy
    obtain ⟨_, x, hx, hbx⟩ := h1.2 H enc w held fuel _ y hy hw
    obtain ⟨z, hz, hbz⟩ := h2 H enc w held fuel cs xs hl (by simpa using hxl) (fun i g v hg hv => hf (i + 1) g v (by simpa using hg) (by simpa using hv))
    refine ⟨(x, z), ⟨(cs.drop off).take k, cs.drop (off + k), ?_, hx, hz⟩, ?_⟩
    · rw [← List.drop_drop, List.take_append_drop]
    · show β x + b z ≤ Rows.uptoBulk y.1 + Rows.uptoBulkAll (xs.map (·.1))
      omega
theorem dec_structB {α : Type} {P : Program} {t : TypeId} {fs : Array Field} {sz : Nat} {R : ER α} {β : α → Nat} (ht : P.underlying t = some (.struct fs)) (hc : P.cellsOf t = sz) (h : FDecB P fs.toList 0 sz R β) : DecB P t sz R β := by
  refine ⟨hc, fun H enc w held fuel cs y hy hw => ?_⟩
  obtain ⟨xs, n, _, rfl, hl, hxl, hf⟩ := DataW.trod_struct ht hy
  rw [hc] at hl
  refine ⟨hl, ?_⟩
  obtain ⟨x, hx, hb⟩ := h H enc w held n cs xs hl (by simpa using hxl) (fun i f y hfi hyi => by
    have hi' : i < fs.size := by
      have := (List.getElem?_eq_some_iff.1 hfi).1
      simpa using this
    have hff : fs[i]? = some f := by simpa using hfi
    have h1 := hf i f hff
    rw [hyi] at h1
    refine ⟨h1, ?_⟩
    unfold okW at hw
    simp only [DataW.weights, ht] at hw
    exact weightsEach_get hw (i := i) (by simp [hff]) (by simp [hyi]))
  refine ⟨x, by simpa using hx, ?_⟩
  show β x + 1 ≤ Rows.uptoBulkAll (xs.map (·.1)) + 1
  omega
theorem bulk_cat : ∀ {a b : Ty} {x : a.den} {y : b.den}, bulkT (Ty.cat a b) (catMk x y) = bulkT a x + bulkT b y
  | .unit, _, _, _ => (Nat.zero_add _).symm
  | .pair p q, b, x, y => by
    show bulkT p x.1 + bulkT (Ty.cat q b) (catMk x.2 y) = bulkT p x.1 + bulkT q x.2 + bulkT b y
    rw [bulk_cat, Nat.add_assoc]
  | .int _, _, _, _ => rfl
  | .bool, _, _, _ => rfl
  | .str, _, _, _ => rfl
  | .sl _, _, _, _ => rfl
  | .mark _ _, _, _, _ => rfl
theorem fields_decB {P : Program} {n : Nat} (hD : ∀ t, readOk P n t = true → DecB P t (tyW P n t).ty.size (RdR (tyW P n t)) (bulkT (tyW P n t).ty)) :
    ∀ {fs : List Field} {off total : Nat}, fieldsOk P (readOk P n) (fun t => (tyW P n t).ty.size) fs off total = true →
      FDecB P fs off total (RdR (fs.foldr (fun f r => (tyW P n f.type).cat r) ⟨.unit, fun _ => True⟩)) (bulkT (fs.foldr (fun f r => (tyW P n f.type).cat r) ⟨.unit, fun _ => True⟩).ty)
  | [], off, total, h => by
    simp only [fieldsOk, Nat.beq_eq] at h
    intro H enc w held fuel cs xs hl _ _
    exact ⟨(), ⟨List.drop_eq_nil_of_le (by omega), trivial⟩, Nat.zero_le _⟩
  | f :: fs, off, total, h => by
    simp only [fieldsOk, Bool.and_eq_true, Nat.beq_eq] at h
    obtain ⟨⟨h1, h2⟩, h3⟩ := h
    have := FDecB.cons h1 (hD _ h2) (fields_decB hD h3)
    intro H enc w held fuel cs xs hl hxl hf
    obtain ⟨⟨x, y⟩, ⟨a, b, e, ⟨ha, hx⟩, hb, hy⟩, hbulk⟩ := this H enc w held fuel cs xs hl hxl hf
    refine ⟨catMk x y, ⟨?_, ?_, ?_⟩, ?_⟩
    · rw [e]; exact rd_cat ha hb
    · rw [catFst_mk]; exact hx
    · rw [catSnd_mk]; exact hy
    · exact Nat.le_trans (Nat.le_of_eq bulk_cat) hbulk
theorem dec_tyB {P : Program} : ∀ {n : Nat} {t : TypeId}, readOk P n t = true → DecB P t (tyW P n t).ty.size (RdR (tyW P n t)) (bulkT (tyW P n t).ty)
  | 0, _, h => by simp [readOk] at h
  | n + 1, t, h => by
    have h0 := h
    unfold readOk at h
    split at h
    · rename_i hu
      simp only [Nat.beq_eq] at h
      have e : tyW P (n + 1) t = ⟨.pair .bool .unit, fun _ => True⟩ := by unfold tyW; rw [hu]
      rw [e]
      exact (decB_one (dec_bool hu h)).imp fun w B cs x hx => ⟨(x, ()), ⟨rd_nilPair (t := .bool) hx, trivial⟩, Nat.le_refl _⟩
    · rename_i k hu
      simp only [Nat.beq_eq] at h
      have e : tyW P (n + 1) t = ⟨.pair (.int k) .unit, fun x => k.min ≤ x.1 ∧ x.1 ≤ k.max⟩ := by unfold tyW; rw [hu]
      have hd := dec_ty h0
      rw [e] at hd ⊢
      exact (decB_one hd).imp fun w B cs x hx => ⟨x, hx, Nat.le_refl _⟩
    · rename_i hu
      simp only [Nat.beq_eq] at h
      have e : tyW P (n + 1) t = ⟨.pair .str .unit, fun x => x.1.size ≤ 140737488351232⟩ := by unfold tyW; rw [hu]
      rw [e]
      exact (decB_str hu h).imp fun w B cs x hx => ⟨(x, ()), ⟨rd_nilPair (t := .str) hx.1, hx.2⟩, Nat.le_refl _⟩
    · rename_i el hu
      simp only [Bool.and_eq_true, Nat.beq_eq, Nat.blt_eq] at h
      obtain ⟨⟨h1, h2⟩, h3⟩ := h
      have e : tyW P (n + 1) t = ⟨.pair (.sl (tyW P n el).ty) .unit, fun x => x.1.length * P.bytesOf el ≤ 140737488351232 ∧ ∀ y ∈ x.1, (tyW P n el).ok y⟩ := by
        conv => lhs; unfold tyW
        rw [hu]
      rw [e]
      letI : Inhabited (tyW P n el).ty.den := ⟨Ty.dflt _⟩
      refine (dec_sliceB hu h1 rfl h3 (dec_tyB h2)).imp fun w B cs x hx => ?_
      obtain ⟨A, m, c, rfl, hl, hc, hmax, hby, hat⟩ := hx
      refine ⟨(x, ()), ⟨rd_nilPair (t := .sl _) ⟨A, m, c, rfl, hl, hc, fun hm => ?_⟩, by rw [hl]; exact hby, fun y hy => ?_⟩, Nat.le_refl _⟩
      · obtain ⟨b, off, hA, hb, he⟩ := hat hm
        refine ⟨b, off, hA, hb, fun k hk => ?_⟩
        obtain ⟨us, hul, hr, hcells⟩ := he k x[k] (List.getElem?_eq_getElem hk)
        exact ⟨us, hr.1, hul, hcells⟩
      · obtain ⟨k, hk, rfl⟩ := List.getElem_of_mem hy
        have hk' : k < m := by rw [← hl]; exact hk
        obtain ⟨b, off, hA, hb, he⟩ := hat (Nat.lt_of_le_of_lt (Nat.zero_le k) hk')
        obtain ⟨us, hul, hr, hcells⟩ := he k x[k] (List.getElem?_eq_getElem hk)
        exact hr.2
    · rename_i fs hu
      simp only [Bool.and_eq_true, Nat.beq_eq] at h
      have e : tyW P (n + 1) t = fs.toList.foldr (fun f r => (tyW P n f.type).cat r) ⟨.unit, fun _ => True⟩ := by
        conv => lhs; unfold tyW
        rw [hu]
      rw [← h.2, e]
      exact dec_structB hu rfl (fields_decB (fun t ht => dec_tyB ht) h.1)
    · cases h

def bulkTs (P : Program) : (ts : List TypeId) → denTs P ts → Nat
  | [], _ => 0
  | t :: ts, x => bulkT (tyW P 8 t).ty x.1 + bulkTs P ts x.2
def bulkL : (l : List (Bool × TyW)) → denL l → Nat
  | [], _ => 0
  | p :: l, x => bulkT p.2.ty x.1 + bulkL l x.2
section
variable {H : Type} {enc : TypeId × Value → H} {P : Program} {W : World} {N : Blk} {ρ : Nat → Pl} {m : Mem}
theorem arg_oneB {base : Nat} {t : TypeId} {v : Value} {d : DataW H} {p : List MemPlace} (hr : readOk P 8 t = true) (hok : Value.okWide P W .any base t v)
    (ht : DataW.Trod enc P W 0 (fun _ => true) true t v d p) (hw : okW P t d) : ∃ x : (tyW P 8 t).ty.den, (tyW P 8 t).ok x ∧ bulkT (tyW P 8 t).ty x ≤ Rows.uptoBulk d ∧ SVR W (fun b => b < W.heap.size) ρ m (.v (isAggT P t) (cellsOf (tyW P 8 t).ty x)) v := by
  obtain ⟨fuel, htr⟩ := ht
  obtain ⟨hl, x, ⟨hx, hxo⟩, hb⟩ := (dec_tyB hr).2 H enc W true fuel _ _ htr hw
  refine ⟨x, hxo, Nat.le_trans (Nat.le_succ _) hb, ?_⟩
  have hc : All2 (CR W (fun b => b < W.heap.size) ρ m) (cellsOf (tyW P 8 t).ty x) v.cells.toList := hx.cells
  cases ha : isAggT P t with
  | true =>
    unfold isAggT at ha
    split at ha
    · rename_i dsc hu
      unfold Value.okWide at hok
      rw [hu] at hok
      cases dsc <;> simp only [isAggD, Bool.false_eq_true] at ha
      all_goals
        obtain ⟨cs, rfl, _⟩ := hok
        exact ⟨cs.toList, by simp, by simpa [Value.cells] using hc⟩
    · cases ha
  | false =>
    have hone : v.cells = #[v] := by
      have hr0 := hr
      unfold readOk at hr0
      split at hr0
      · rename_i hu; obtain ⟨b, rfl⟩ := okWide_bool hu hok; rfl
      · rename_i hu; obtain ⟨b, rfl⟩ := okWide_int hu hok; rfl
      · rename_i hu; obtain ⟨b, rfl⟩ := okWide_string hu hok; rfl
      · rename_i hu; obtain ⟨a, b, c, rfl⟩ := okWide_slice hu hok; rfl
      · rename_i hu; unfold isAggT at ha; rw [hu] at ha; cases ha
      · cases hr0
    rw [hone] at hc
    generalize cellsOf (tyW P 8 t).ty x = cs at hc
    cases hc with
    | cons h1 h2 => cases h2; exact ⟨_, rfl, h1⟩
theorem args_allB {base : Nat} : ∀ {ts : List TypeId} {vs : List Value} {ds : List (DataW H)} {p : List MemPlace}, (∀ t ∈ ts, readOk P 8 t = true) →
    (∀ (j : Nat) (t : TypeId) (v : Value), ts[j]? = some t → vs[j]? = some v → Value.okWide P W .any base t v) → DataW.TrodAll enc P W 0 (fun _ => true) true ts vs ds p → (DataW.weightsEach P ts ds).all (· ≤ reachBytes) = true →
    ∃ x : denTs P ts, okTs P ts x ∧ bulkTs P ts x ≤ Rows.uptoBulkAll ds ∧ All2 (SVR W (fun b => b < W.heap.size) ρ m) (svsOf P ts x) vs
  | [], vs, ds, p, _, _, h, _ => by
    cases vs with
    | nil => exact ⟨(), trivial, Nat.zero_le _, .nil⟩
    | cons v vs => cases ds <;> exact h.elim
  | t :: ts, vs, ds, p, hr, hok, h, hw => by
    obtain ⟨v, vs1, d, ds1, a, b, rfl, rfl, rfl, h1, h2⟩ := trodAll_cons h
    have hw1 : okW P t d := weightsEach_get hw (i := 0) rfl rfl
    have hw2 : (DataW.weightsEach P ts ds1).all (· ≤ reachBytes) = true := by
      rw [DataW.weightsEach, List.all_append, Bool.and_eq_true] at hw; exact hw.2
    obtain ⟨x, hx, hxb, hsv⟩ := arg_oneB (ρ := ρ) (m := m) (hr t (by simp)) (hok 0 t v rfl rfl) h1 hw1
    obtain ⟨y, hy, hyb, hsvs⟩ := args_allB (fun t ht => hr t (by simp [ht])) (fun j t v hj hv => hok (j + 1) t v (by simpa using hj) (by simpa using hv)) h2 hw2
    exact ⟨(x, y), ⟨hx, hy⟩, by show bulkT _ x + bulkTs P ts y ≤ Rows.uptoBulk d + Rows.uptoBulkAll ds1; omega, .cons hsv hsvs⟩
end
theorem svs_LB {P : Program} : ∀ {ts : List TypeId} (x : denTs P ts), ∃ y : denL (readsL P ts), svsL (readsL P ts) y = svsOf P ts x ∧ (okTs P ts x → okL (readsL P ts) y) ∧ bulkL (readsL P ts) y = bulkTs P ts x
  | [], _ => ⟨(), rfl, fun _ => trivial, rfl⟩
  | t :: ts, x => by
    obtain ⟨y, h1, h2, h3⟩ := svs_LB x.2
    refine ⟨(x.1, y), ?_, fun h => ⟨h.1, h2 h.2⟩, ?_⟩
    · show _ :: svsL (readsL P ts) y = _
      rw [h1]
      rfl
    · show bulkT _ x.1 + bulkL (readsL P ts) y = _
      rw [h3]; rfl
/-- THE WALK OF A LAW over tables, where what it reads is of small bulk. -/
theorem law_walkLGU {H : Type} {enc : TypeId × Value → H} {E : Env} (hE : E.Ok) (G : World → Prop) (hg : ∀ W, G W → ∀ g gl, E.glob g = some gl → GlobR W (fun b => b < W.heap.size) g gl) {K : FuncId} {f : Func} (hf : E.P.funcs[K]? = some f) (hr : f.params.toList.all (readOk E.P 8) = true)
    (L : List (Bool × TyW)) (hL : readsL E.P f.params.toList = L) (A : denL L → Nat → St → Option Ann) (VC : denL L → Prop)
    (he : ∀ x : denL L, afn E (A x) f (svsL L x) [] [] [.slot 0 false .bool] (fun y => y = (true, ())) = VC x) (h : ∀ x : denL L, okL L x → bulkL L x ≤ 1048576 → VC x) :
    ∀ (W : World) (base : Nat) (args : Array Value) (ds : List (DataW H)) (p : List MemPlace), DataW.TrodAll enc E.P W 0 (fun _ => true) true f.params.toList args.toList ds p →
      (∀ (j : Nat) (t : TypeId) (v : Value), f.params[j]? = some t → args[j]? = some v → Value.okWide E.P W .any base t v) →
      (DataW.weightsEach E.P f.params.toList ds).all (· ≤ reachBytes) = true → Rows.uptoBulkAll ds ≤ 1048576 → G W →
      Calls E.P K args W fun e W' => e = .returned (.bool true) ∧ Below W.heap.size W W' := by
  subst hL
  intro W base args ds p hA hval hsz hU hG
  obtain ⟨x0, hx0, hxb, hsv⟩ := args_allB (ρ := fun _ => pl0 none 0) (m := memOf []) (fun t ht => by simpa using List.all_eq_true.1 hr t ht) (fun j t v hj hv => hval j t v (by simpa using hj) (by simpa using hv)) hA hsz
  obtain ⟨x, hs1, hs2, hs3⟩ := svs_LB x0
  have hvc := h x (hs2 hx0) (by omega)
  rw [← he x] at hvc
  rw [← hs1] at hsv
  have hids : ∀ s ∈ svsL (readsL E.P f.params.toList) x, idsS s = [] := fun s hs => by
    rw [hs1] at hs
    exact svs_ids s hs
  have hno : ∀ b, ¬ Own (fun _ => pl0 none 0) (memOf []) b := fun b ⟨id, o, ho, _⟩ => by cases ho
  have := spec_of hE (A x) hf hvc (fun y hy => hy) W (fun b => b < W.heap.size) (fun _ => pl0 none 0) args.toList (hg W hG)
    ⟨(fun id o ho => by cases ho), (fun id id' o o' b ho => by cases ho), fun b _ => hno b, fun b hb => hb⟩ hsv (fun s hs id hid => by rw [hids s hs] at hid; cases hid) (fun n o ho => by cases ho)
  rw [show args.toList.toArray = args by simp] at this
  refine this.mono fun e W' he => ?_
  obtain ⟨v, ρ', N', rfl, _, _, _, hv, hs, _, _⟩ := he
  obtain ⟨c, hc, hv⟩ := hv
  have hc : [C.bool true] = [c] := hc
  simp only [List.cons.injEq, and_true] at hc
  subst hc
  have hv : v = .bool true := hv
  subst hv
  exact ⟨rfl, hs.os, hs.tape, hs.output, hs.size, fun k hk => hs.keep k hk (hno k)⟩

/-- what a law's frame hands to its walk, where what is read is of small bulk -/
def WalkU (H : Type) (enc : TypeId × Value → H) (K : FuncId) (f : Func) (laid : List (String × DataW Unit)) : Prop :=
  ∀ (W : World) (base : Nat) (args : Array Value) (ds : List (DataW H)) (p : List MemPlace), DataW.TrodAll enc Tryd.prog W 0 (fun _ => true) true f.params.toList args.toList ds p →
      (∀ (j : Nat) (t : TypeId) (v : Value), f.params[j]? = some t → args[j]? = some v → Value.okWide Tryd.prog W .any base t v) →
      (DataW.weightsEach Tryd.prog f.params.toList ds).all (· ≤ reachBytes) = true → Rows.uptoBulkAll ds ≤ 1048576 → laidMetH Tryd.prog laid W → W.ShapedOpen Tryd.prog →
      Calls Tryd.prog K args W fun e W' => e = .returned (.bool true) ∧ Below W.heap.size W W'
set_option maxRecDepth 100000 in
/-- THE FRAME, where what is read is of small bulk. -/
theorem lift_cardU {H : Type} {enc : TypeId × Value → H} {os : Os} {F : Stop.Interp} (started : os.Started) (K : FuncId) (f : Func) (s : ChangeSpec) (laid : List (String × DataW Unit)) (hfn : Tryd.prog.funcs[K]? = some f) (noInit : Tryd.prog.inits.idxOf? K = none)
    (hvars : s.vars = []) (hrt : f.resultTypes = #[4]) (hread : f.params.toList.all (fun t => Tryd.prog.readableRec t && decide (t < Tryd.prog.types.size)) = true)
    (hspec : ∀ ds : List (DataW H), ds.length = f.params.toList.length → s.fn H ds = { results := [.lit (.bool true)], args := ds })
    (witness : ∃ (w : World) (tape : Tape) (i : Input), w.os = os ∧ (w.forCall tape i).Shaped Tryd.checked.prog ∧ i.vars = [] ∧ Input.okWide Tryd.checked.prog (w.forCall tape i) .any w.heap.size K i ∧
      (Rows.OpenSpec.upto s).preRow enc Tryd.checked.prog f [] false laid (w.forCall tape i).memory i.args ∧ ({} : Assume).holds Tryd.checked.prog (lone (Frame.enter Tryd.checked.prog K i.args .normal) [] (w.forCall tape i)))
    (walk : WalkU H enc K f laid) :
    ReturnsInHanded {} Tryd.checked os K .any ((Rows.OpenSpec.upto s).preRow enc Tryd.prog f [] false laid) (((Rows.OpenSpec.upto s).at F).post enc Tryd.prog f false true false false) := by
  refine returnsInHanded_of_row (C := Tryd.checked) (s := Rows.OpenSpec.upto s) Tryd.own started noInit hfn witness ?_
  intro W base args ds gs before hval0 hW _ hcond hsz hL hSh _
  have hW' := hW
  obtain ⟨p, q, hA0, hV, rfl, hfz, hnd⟩ := hW
  have hV' : DataW.TrodVars enc Tryd.prog W (fun _ => true) [] gs q := by rw [← hvars]; exact hV
  obtain ⟨rfl, rfl⟩ := trodVars_none hV'
  have hU : Rows.uptoBulkAll ds ≤ 1048576 := by
    have := hcond Rows.uptoSmall rfl
    rw [List.append_nil] at this
    exact of_decide_eq_true this
  have hA : DataW.TrodAll enc Tryd.prog W 0 (fun _ => true) true f.params.toList args.toList ds p := hA0
  have hlt : ∀ x ∈ p, x.block < W.heap.size := fun x hx => hW'.lt x (by simpa using hx)
  have hlen : ∀ {ts : List TypeId} {vs : List Value} {ds : List (DataW H)} {p : List MemPlace}, DataW.TrodAll enc Tryd.prog W 0 (fun _ => true) true ts vs ds p → ds.length = ts.length := by
    intro ts
    induction ts with
    | nil => intro vs ds p h; cases vs <;> cases ds <;> first | rfl | exact h.elim
    | cons t ts ih =>
      intro vs ds p h
      obtain ⟨v, vs1, d, ds1, a, b, rfl, rfl, rfl, h1, h2⟩ := trodAll_cons h
      simp [ih h2]
  have hs := hspec ds (hlen hA)
  have hvt : (Rows.OpenSpec.upto s).bare.plain.varTypes Tryd.checked.prog = [] := by
    show DataSpec.varTypes _ s.plain = []
    simp [DataSpec.varTypes, ChangeSpec.plain, hvars]
  rw [hvt, List.append_nil, List.append_nil] at hsz
  refine (walk W base args ds p hA hval0 hsz hU hL hSh).mono fun e W' ⟨he, hb⟩ => ?_
  subst he
  refine ⟨_, rfl, ?_⟩
  show s.post enc Tryd.prog f false true false false W args _ W'
  refine post_of_below (pa := p) (pv := []) hW' ?_ ?_ ?_ (by simp) hb ?_
  · intro b sp hd
    rw [List.append_nil, hs, hrt]
    exact trodAll_mk1 (shut_bool Tryd.underlying4 true)
  · intro sp hsp
    rw [List.append_nil, hs]
    refine trodAll_stays Tryd.laidOut hb (fun t ht => ?_) hA hlt (fun x hx => hsp x (by simpa using hx))
    have := List.all_eq_true.1 hread t ht
    simpa using this
  · intro sp hsp
    rw [hvars, List.append_nil, hs]
    rfl
  · exact ok_one hrt rfl (okWide_bool_mk Tryd.underlying4 true)


end Go.Proofs.YtedjlbcclhgfmaaDoor

/- Closed facts of the whole program, each a theorem of its own (together in one declaration they pass the memory's lid). -/
namespace Go.Proofs.YtedjlbcclhgfmaaDoor
open Go.RowKit Go.ChangeShapes Go.WideShapes Go.ChangeAt

theorem and_b {a b : Bool} (h : a = true) (h' : b = true) : (a && b) = true := by rw [h, h']; rfl
theorem pg_mapsRowed : mapsRowed Tryd.prog = true := by kernel_rfl
theorem pg_stops : (Tryd.prog.stops == []) = true := by kernel_rfl
theorem pg_stopKnobs : (Tryd.prog.stopKnobs == []) = true := by kernel_rfl
theorem pg_plainKeys : (Rows.linesReadsUptoRow.plainKeys == Tryd.prog.plainKeys) = true := by kernel_rfl
theorem pg_stopsHeard : Tryd.prog.stopsHeard = true := by kernel_rfl
theorem pg_mayEnter : Tryd.prog.mayEnter = true := by kernel_rfl
theorem pg_lifted : (Rows.linesReadsUptoRow.lifted == Tryd.prog.liftsFinal) = true := by kernel_rfl
theorem pg_make : (Tryd.prog.make == some Rows.linesReadsUptoRow.make) = true := by kernel_rfl
theorem pg_main : Tryd.pinned.checked.prog.mainIs = some ((true, "5ad421cb08b26c948f2e77e7cdb4a2f0b17b646645aac497d2f1ceeb78a4a55f").1, (true, "5ad421cb08b26c948f2e77e7cdb4a2f0b17b646645aac497d2f1ceeb78a4a55f").2.toList) := by kernel_rfl
theorem pg_looks : true = Tryd.pinned.checked.prog.looks [] := by kernel_rfl


end Go.Proofs.YtedjlbcclhgfmaaDoor
