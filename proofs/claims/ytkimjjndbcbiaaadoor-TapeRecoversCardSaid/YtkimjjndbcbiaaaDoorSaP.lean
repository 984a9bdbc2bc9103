/- Tapes, and what the laws of bytes compare: the functions meet their contracts. No condition. -/
import Derived.Test.YtkimjjndbcbiaaaDoorSaV
import Derived.Test.YtkimjjndbcbiaaaDoorWhP
import Derived.Test.YtkimjjndbcbiaaaDoorWiQ
namespace Go.Proofs.YtkimjjndbcbiaaaDoor
open Go.RowKit

theorem pEq_rfl (n : Int) : pEq n n = true := by simp [pEq]
theorem pNe_rfl (n : Int) : pNe n n = false := by simp [pNe]
theorem upT {n : Nat} {y : Int × Unit} (hn : n < 4611686018427387904) (h : UpInv (fun _ => true) n y) (hl : pLt y.1 (pInt n) = true) : pIn y.1 n ∧ UpInv (fun _ => true) n (pAdd .i64 y.1 1, ()) ∧ Nat.le (Nat.succ (UpMu n (pAdd .i64 y.1 1, ()))) (UpMu n y) := by
  rcases UpInv.round hn h with ⟨k, rfl, hk, hb, -, hF, hT⟩ | ⟨rfl, hT⟩
  · exact ⟨pIn_coe.2 hk, hT rfl⟩
  · exfalso
    simp [pLt, pInt] at hl

theorem sameInts_ok : Meets Tryd.prog (fun _ => none) 64 csameInts := sameInts_meets fun l m hp => by
  have h1 : l = m := (hp _ List.mem_cons_self)
  have hl : l.length < 4611686018427387904 := (hp _ (List.mem_cons_of_mem _ List.mem_cons_self))
  subst h1
  clear hp
  unfold sameInts_VC
  rw [pNe_rfl]
  refine ⟨UpInv.start, fun y hy => bif_ok (fun h => ?_) fun h => rfl⟩
  obtain ⟨a, b, c⟩ := upT hl hy h
  rw [pNe_rfl]
  exact ⟨a, a, b, c⟩
theorem sameRecord_ok : Meets Tryd.prog (fun _ => none) 27 csameRecord := sameRecord_meets sameInts_ok fun pk ps pn py pv pa pd pl qk qs qn qy qv qa qd ql hp => by
  have h1 : pk = qk := (hp _ List.mem_cons_self)
  have h2 : ps = qs := (hp _ (List.mem_cons_of_mem _ List.mem_cons_self))
  have h3 : pn = qn := (hp _ (List.mem_cons_of_mem _ (List.mem_cons_of_mem _ List.mem_cons_self)))
  have h4 : py = qy := (hp _ (List.mem_cons_of_mem _ (List.mem_cons_of_mem _ (List.mem_cons_of_mem _ List.mem_cons_self))))
  have h5 : pv = qv := (hp _ (List.mem_cons_of_mem _ (List.mem_cons_of_mem _ (List.mem_cons_of_mem _ (List.mem_cons_of_mem _ List.mem_cons_self)))))
  have h6 : pa = qa := (hp _ (List.mem_cons_of_mem _ (List.mem_cons_of_mem _ (List.mem_cons_of_mem _ (List.mem_cons_of_mem _ (List.mem_cons_of_mem _ List.mem_cons_self))))))
  have h7 : pd = qd := (hp _ (List.mem_cons_of_mem _ (List.mem_cons_of_mem _ (List.mem_cons_of_mem _ (List.mem_cons_of_mem _ (List.mem_cons_of_mem _ (List.mem_cons_of_mem _ List.mem_cons_self)))))))
  have h8 : pl = ql := (hp _ (List.mem_cons_of_mem _ (List.mem_cons_of_mem _ (List.mem_cons_of_mem _ (List.mem_cons_of_mem _ (List.mem_cons_of_mem _ (List.mem_cons_of_mem _ (List.mem_cons_of_mem _ List.mem_cons_self))))))))
  have hl : pl.length < 4611686018427387904 := (hp _ (List.mem_cons_of_mem _ (List.mem_cons_of_mem _ (List.mem_cons_of_mem _ (List.mem_cons_of_mem _ (List.mem_cons_of_mem _ (List.mem_cons_of_mem _ (List.mem_cons_of_mem _ (List.mem_cons_of_mem _ List.mem_cons_self)))))))))
  subst h1 h2 h3 h4 h5 h6 h7 h8
  clear hp
  unfold sameRecord_VC
  rw [pEq_rfl, pEq_rfl, pEq_rfl, pEq_rfl, pEq_rfl, pEq_rfl, show pBeq pd pd = true by simp [pBeq]]
  exact ⟨rfl, hl, rfl⟩
theorem sameRecords_ok : Meets Tryd.prog (fun _ => none) 36 csameRecords := sameRecords_meets sameRecord_ok fun l m hp => by
  have h1 : l = m := (hp _ List.mem_cons_self)
  have hl : l.length < 4611686018427387904 := (hp _ (List.mem_cons_of_mem _ List.mem_cons_self))
  have hq : ∀ q ∈ l, pLen q.2.2.2.2.2.2.2.1 < 4611686018427387904 := (hp _ (List.mem_cons_of_mem _ (List.mem_cons_of_mem _ List.mem_cons_self)))
  subst h1
  clear hp
  unfold sameRecords_VC
  rw [pNe_rfl]
  refine ⟨UpInv.start, fun y hy => bif_ok (fun h => ?_) fun h => rfl⟩
  obtain ⟨a, b, c⟩ := upT hl hy h
  refine ⟨a, a, rfl, rfl, rfl, rfl, rfl, rfl, rfl, rfl, ?_, b, c⟩
  obtain ⟨a1, a2⟩ := a
  have hk : pNat y.1 < l.length := by unfold pNat; omega
  exact hq _ (by
    have : (pGet tyRec l (pNat y.1)) ∈ l := by
      unfold pGet
      rw [List.getD_eq_getElem?_getD, List.getElem?_eq_getElem hk]
      exact List.getElem_mem hk
    exact this)
theorem sameTape_ok : Meets Tryd.prog (fun _ => none) 33 csameTape := sameTape_meets fun pd pn qd qn hp => by
  have h1 : pd = qd := (hp _ List.mem_cons_self)
  have h2 : pn = qn := (hp _ (List.mem_cons_of_mem _ List.mem_cons_self))
  subst h1 h2
  clear hp
  unfold sameTape_VC
  rw [pEq_rfl]
  show (pStrEq (pBytes pd) (pBytes pd), ()) = _
  rw [show pStrEq (pBytes pd) (pBytes pd) = true by simp [pStrEq]]
theorem octetsR_ok : Meets Tryd.prog (fun _ => none) 25 coctetsR := meets_freeze octets_ok
theorem tapes_ok : Meets Tryd.prog (fun _ => none) 30 ctapes := tapes_meets octets_ok fun td tn hp => by
  have h : pRoom (pLen td) 1 := (hp _ List.mem_cons_self)
  exact ⟨h, rfl⟩
theorem tapesR_ok : Meets Tryd.prog (fun _ => none) 30 ctapesR := tapesR_meets octetsR_ok fun td tn hp => by
  have h : pRoom (pLen td) 1 := (hp _ List.mem_cons_self)
  exact ⟨h, rfl⟩

theorem grow_ok : Meets Tryd.prog (fun _ => none) 78 cgrow := grow_meets fun n hp => by
  have h0 : 0 ≤ n := (hp _ List.mem_cons_self)
  have h1 : pLt n 1000000 = true := (hp _ (List.mem_cons_of_mem _ List.mem_cons_self))
  have h1 : n < 1000000 := of_decide_eq_true h1
  clear hp
  have e : pSubI .i64 n (pSubI .i64 0 0) = n := by
    have e0 : pSubI .i64 0 0 = 0 := by decide
    rw [e0]
    unfold pSubI
    rw [Int.sub_zero]
    exact Go.IntWalk.i64_in _ (by omega)
  unfold grow_VC
  rw [e]
  refine bif_ok (fun h => ?_) fun _ => bif_ok (fun h => ?_) fun h => rfl
  · have : n < 0 := of_decide_eq_true h
    omega
  · refine ⟨h, ?_, ?_, ⟨by decide, Int.natCast_nonneg _⟩, rfl⟩
    · unfold pRoom pNat; omega
    · show n.toNat ≤ 4611686018427387904; omega

theorem joinF_succ {l : List BsD} {j : Nat} (h : j < l.length) : joinF (l.take (j + 1)) = joinF (l.take j) ++ rowB l j := joinF_take h
theorem concat_ok : Meets Tryd.prog (fun _ => none) 66 cconcat := concat_meets grow_ok fun l hp => by
  have h1 : l.length < 1000000 := (hp _ List.mem_cons_self)
  have h2 : (joinF l).length < 1000000 := (hp _ (List.mem_cons_of_mem _ List.mem_cons_self))
  clear hp
  unfold concat_VC
  refine ⟨⟨0, Nat.zero_le _, rfl⟩, fun y hy => ?_⟩
  obtain ⟨j, hj, rfl⟩ := hy
  simp only
  refine bif_ok (fun h => ?_) fun h => ?_
  · have h : j < l.length := by simpa [pLt_coe, pLen] using h
    have hle := joinF_pre (l := l) (i := j + 1)
    have hsuc := joinF_succ h
    rw [hsuc, List.length_append] at hle
    have hpn : pNat (j : Int) = j := pNat_coe j
    have e1 : pAdd .i64 (j : Int) 1 = ((j + 1 : Nat) : Int) := pAdd1 (by omega)
    have e2 : pAdd .i64 (((joinF (l.take j)).length : Nat) : Int) (pInt (pLen (pGet tyBs l j).1)) = (((joinF (l.take (j + 1))).length : Nat) : Int) := by
      rw [hsuc, List.length_append]
      show pAdd .i64 (((joinF (l.take j)).length : Nat) : Int) (((rowB l j).length : Nat) : Int) = _
      rw [pAdd_in (by omega)]
      omega
    rw [hpn, e1, e2]
    refine ⟨pIn_coe.2 h, bif_ok (fun hb => ?_) fun _ => ⟨⟨j + 1, h, rfl⟩, Nat.le_of_eq ?_⟩⟩
    · have : (((joinF (l.take (j + 1))).length : Nat) : Int) < 0 := of_decide_eq_true hb
      omega
    · unfold conAMu
      simp only [Int.toNat_natCast]
      omega
  · have h : ¬ j < l.length := by simpa [pLt_coe, pLen] using h
    have : j = l.length := by omega
    subst this
    rw [List.take_of_length_le (Nat.le_refl _)]
    refine ⟨Int.natCast_nonneg _, decide_eq_true (by omega), ⟨0, Nat.zero_le _, rfl⟩, fun z hz => ?_⟩
    obtain ⟨i, hi, rfl⟩ := hz
    simp only
    refine bif_ok (fun h => ?_) fun h => ?_
    · have h : i < l.length := by simpa [pLt_coe, pLen] using h
      have hle := joinF_pre (l := l) (i := i + 1)
      have hsuc := joinF_succ h
      rw [hsuc, List.length_append] at hle
      have hpn : pNat (i : Int) = i := pNat_coe i
      have e1 : pAdd .i64 (i : Int) 1 = ((i + 1 : Nat) : Int) := pAdd1 (by omega)
      rw [hpn, e1]
      refine ⟨pIn_coe.2 h, ?_, ⟨i + 1, h, ?_⟩, Nat.le_of_eq ?_⟩
      · show ((joinF (l.take i)).length + (rowB l i).length) * 1 ≤ _
        omega
      · rw [hsuc]; rfl
      · unfold conBMu
        simp only [Int.toNat_natCast]
        omega
    · have h : ¬ i < l.length := by simpa [pLt_coe, pLen] using h
      have : i = l.length := by omega
      subst this
      rw [List.take_of_length_le (Nat.le_refl _)]
      rfl

theorem tapeOk_iff {d : List ByteD} {n : Int} : tapeOk d n = true ↔ d.length ≤ 6000 ∧ 0 ≤ n ∧ n ≤ (d.length : Int) := by
  unfold tapeOk
  rw [Bool.and_eq_true, inF_iff]
  unfold pLe pInt
  rw [decide_eq_true_eq]
  omega
theorem topen_VC_ok {td : List ByteD} {tn : Int} (h : pRoom (pLen td) 1) : topen_VC td tn := by
  unfold topen_VC opD opN
  have no : ∀ (hh : ¬ (td.length ≤ 6000 ∧ 0 ≤ tn ∧ tn ≤ (td.length : Int))), tapeOk td tn = false := fun hh => by
    cases hq : tapeOk td tn with
    | false => rfl
    | true => exact absurd (tapeOk_iff.1 hq) hh
  refine bif_ok (fun h1 => ?_) fun h1 => bif_ok (fun h2 => ?_) fun h2 => bif_ok (fun h3 => ?_) fun h3 => ?_
  · have h1 : tn < 0 := of_decide_eq_true h1
    rw [no (by omega)]; rfl
  · have h2 : tn > (td.length : Int) := of_decide_eq_true h2
    rw [no (by omega)]; rfl
  · have h3 : (td.length : Int) > 6000 := of_decide_eq_true h3
    rw [no (by omega)]; rfl
  · have h1 : ¬ tn < 0 := of_decide_eq_false h1
    have h2 : ¬ tn > (td.length : Int) := of_decide_eq_false h2
    have h3 : ¬ (td.length : Int) > 6000 := of_decide_eq_false h3
    rw [tapeOk_iff.2 (by omega)]
    exact ⟨h, rfl⟩
theorem topen_ok : Meets Tryd.prog (fun _ => none) 65 ctopen := topen_meets cloneBo_ok fun td tn hp => topen_VC_ok (hp _ (List.mem_cons_of_mem _ List.mem_cons_self))
theorem topenR_ok : Meets Tryd.prog (fun _ => none) 65 ctopenR := topenR_meets cloneB_ok fun td tn hp => topen_VC_ok (hp _ (List.mem_cons_of_mem _ List.mem_cons_self))
theorem tMay_ok : Meets Tryd.prog (fun _ => none) 67 ctMay := tMay_meets In_ok fun td tn hp => by
  have hl : td.length < 4611686018427387904 := (hp _ List.mem_cons_self)
  clear hp
  unfold tMay_VC
  refine bif_ok (fun h => ?_) fun h => ?_
  · have h' : pLe (pInt td.length) 6000 = true := h
    unfold tapeOk
    rw [h']; rfl
  · have h' : pLe (pInt td.length) 6000 = false := h
    unfold tapeOk
    rw [h']; rfl

end Go.Proofs.YtkimjjndbcbiaaaDoor
