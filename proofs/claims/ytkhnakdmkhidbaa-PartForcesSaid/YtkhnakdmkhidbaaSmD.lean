/- The document's store that may be: its function meets the contract. No condition. -/
import Derived.Test.YtkhnakdmkhidbaaSmC
namespace Go.Proofs.Ytkhnakdmkhidbaa
open Go.RowKit

theorem StoreMay_ok : Meets Try.prog (fun _ => none) 49 cStoreMay := StoreMay_meets In_ok doubtOf_ok plainTxn_ok isOver_ok fun is ls ds os hp => by
  have his : is.length < 4611686018427387904 := hp (pLen is < 4611686018427387904) (by simp)
  have hls : ls.length < 4611686018427387904 := hp (pLen ls < 4611686018427387904) (by simp)
  have hds : ds.length < 4611686018427387904 := hp (pLen ds < 4611686018427387904) (by simp)
  have hl : os.length < 4611686018427387904 := hp (pLen os < 4611686018427387904) (by simp)
  clear hp
  have hS : stoF (is, ls, ds, os, ()) = (allUpto (itemOk is) is.length && (allUpto (doubtOkAt ls ds os) ds.length && allUpto (overOkAt os) os.length) && (allUpto (lockOkAt ls ds) ls.length && pLe (pInt ls.length) 24)) := rfl
  unfold StoreMay_VC
  refine bif_ok (fun h => leafF fun q => ?_) fun h24 => ?_
  · rw [hS] at q; grind [pLt, pLe, pGt, pGe, pEq, pNe, pNot, pAndB, pBeq, pInt, pLen, inF, pIn, pTo, pNat]
  refine ⟨UpInv.start, fun y hy => ?_⟩
  rcases UpInv.round his hy with ⟨k, rfl, hk, hb, -, hF, hT⟩ | ⟨rfl, hA⟩
  · rw [bif_true (by simp [pLt_coe, pLen, hk]), pNat_coe]
    have e1 : 0 < k → pSubI .i64 (k : Int) 1 = ((k - 1 : Nat) : Int) := pSub1 hb
    rw [itemOk_eq] at hT hF
    clear hy
    dsimp only
    rcases Nat.eq_zero_or_pos k with h0 | h0
    rotate_left
    · rw [e1 h0, pNat_coe]
      clear e1
      (repeat' (first | refine bif_ok (fun h => ?_) (fun h => ?_) | refine And.intro ?_ ?_ | fail))
      all_goals first
        | omega
        | (unfold pLen; omega)
        | (refine leafF fun q => ?_; rw [hS] at q; clear hT; grind [pLt, pLe, pGt, pGe, pEq, pNe, pNot, pAndB, pBeq, pInt, pLen, inF, pIn, pTo, pNat])
        | (refine (hT ?_).1; clear hT hF; grind [pLt, pLe, pGt, pGe, pEq, pNe, pNot, pAndB, pBeq, pInt, pLen, inF, pIn, pTo, pNat])
        | (refine (hT ?_).2; clear hT hF; grind [pLt, pLe, pGt, pGe, pEq, pNe, pNot, pAndB, pBeq, pInt, pLen, inF, pIn, pTo, pNat])
    · rw [bif_false (show pGt (k : Int) 0 = false by subst h0; rfl)]
      clear e1
      (repeat' (first | refine bif_ok (fun h => ?_) (fun h => ?_) | refine And.intro ?_ ?_ | fail))
      all_goals first
        | omega
        | (unfold pLen; omega)
        | (refine leafF fun q => ?_; rw [hS] at q; clear hT; grind [pLt, pLe, pGt, pGe, pEq, pNe, pNot, pAndB, pBeq, pInt, pLen, inF, pIn, pTo, pNat])
        | (refine (hT ?_).1; clear hT hF; grind [pLt, pLe, pGt, pGe, pEq, pNe, pNot, pAndB, pBeq, pInt, pLen, inF, pIn, pTo, pNat])
        | (refine (hT ?_).2; clear hT hF; grind [pLt, pLe, pGt, pGe, pEq, pNe, pNot, pAndB, pBeq, pInt, pLen, inF, pIn, pTo, pNat])
  rw [bif_false (by simp [pLt_coe, pLen])]
  clear hy
  refine ⟨UpInv.start, fun y hy => ?_⟩
  rcases UpInv.round hls hy with ⟨k, rfl, hk, hb, -, hF, hT⟩ | ⟨rfl, hB⟩
  · rw [bif_true (by simp [pLt_coe, pLen, hk]), pNat_coe]
    rw [lockOkAt_eq] at hT hF
    have inner : ∀ (X : Prop), (allUpto (fun j => !clash ls j k) k = true → X) → ∀ z, mayCInv is ls ds os (k : Int) z → bif pLt z.1 (k : Int) then pIn z.1 (pLen ls) ∧
        bif pEq (pGet tyLock ls k).2.2.1 (pGet tyLock ls (pNat z.1)).2.2.1 then
          bif pAndB (pEq (pGet tyLock ls k).1 (pGet tyLock ls (pNat z.1)).1) (pEq (pGet tyLock ls k).2.1 (pGet tyLock ls (pNat z.1)).2.1) then (false, ()) = (stoF (is, ls, ds, os, ()), ())
          else bif (pGet tyLock ls k).2.2.2.1 then (false, ()) = (stoF (is, ls, ds, os, ()), ())
          else bif (pGet tyLock ls (pNat z.1)).2.2.2.1 then (false, ()) = (stoF (is, ls, ds, os, ()), ())
          else mayCInv is ls ds os (k : Int) (pAdd .i64 z.1 1, ()) ∧ Nat.le (Nat.succ (mayCMu is ls ds os (k : Int) (pAdd .i64 z.1 1, ()))) (mayCMu is ls ds os (k : Int) z)
        else mayCInv is ls ds os (k : Int) (pAdd .i64 z.1 1, ()) ∧ Nat.le (Nat.succ (mayCMu is ls ds os (k : Int) (pAdd .i64 z.1 1, ()))) (mayCMu is ls ds os (k : Int) z)
      else X := by
      intro X hX z hz
      rcases UpInv.round (p := fun j => !clash ls j k) (n := k) hb hz with ⟨i, rfl, hi, hib, -, hiF, hiT⟩ | ⟨rfl, hiT⟩
      · rw [bif_true (show pLt (i : Int) (k : Int) = true from by simp [pLt, hi])]
        refine ⟨pIn_coe.2 (by unfold pLen; omega), ?_⟩
        rw [pNat_coe]
        clear hz hX hT
        simp only [clash_eq] at hiF hiT
        refine bif_ok (fun h1 => bif_ok (fun h2 => leafF fun q => ?_) fun h2 => bif_ok (fun h3 => leafF fun q => ?_) fun h3 => bif_ok (fun h4 => leafF fun q => ?_) fun h4 => hiT ?_) fun h1 => hiT ?_
        · have hs := hiF (by clear hF hiT hS; grind [pLt, pLe, pGt, pGe, pEq, pNe, pNot, pAndB, pBeq, pInt, pLen, inF, pIn, pTo, pNat]); clear hiF hiT; simp only [clash_eq] at hF; rw [hS] at q; grind [pLt, pLe, pGt, pGe, pEq, pNe, pNot, pAndB, pBeq, pInt, pLen, inF, pIn, pTo, pNat]
        · have hs := hiF (by clear hF hiT hS; grind [pLt, pLe, pGt, pGe, pEq, pNe, pNot, pAndB, pBeq, pInt, pLen, inF, pIn, pTo, pNat]); clear hiF hiT; simp only [clash_eq] at hF; rw [hS] at q; grind [pLt, pLe, pGt, pGe, pEq, pNe, pNot, pAndB, pBeq, pInt, pLen, inF, pIn, pTo, pNat]
        · have hs := hiF (by clear hF hiT hS; grind [pLt, pLe, pGt, pGe, pEq, pNe, pNot, pAndB, pBeq, pInt, pLen, inF, pIn, pTo, pNat]); clear hiF hiT; simp only [clash_eq] at hF; rw [hS] at q; grind [pLt, pLe, pGt, pGe, pEq, pNe, pNot, pAndB, pBeq, pInt, pLen, inF, pIn, pTo, pNat]
        · clear hiF hiT hF hS; grind [pLt, pLe, pGt, pGe, pEq, pNe, pNot, pAndB, pBeq, pInt, pLen, inF, pIn, pTo, pNat]
        · clear hiF hiT hF hS; grind [pLt, pLe, pGt, pGe, pEq, pNe, pNot, pAndB, pBeq, pInt, pLen, inF, pIn, pTo, pNat]
      · rw [bif_false (show pLt (k : Int) (k : Int) = false from by simp [pLt])]
        exact hX hiT
    clear hy
    dsimp only
    (repeat' (first | refine bif_ok (fun h => ?_) (fun h => ?_) | refine And.intro ?_ ?_ | fail))
    all_goals first
      | exact hl
      | exact hls
      | exact his
      | exact hds
      | omega
      | (unfold pLen; omega)
      | exact UpInv.start
      | (refine leafF fun q => ?_; rw [hS] at q; clear hT inner; grind [pLt, pLe, pGt, pGe, pEq, pNe, pNot, pAndB, pBeq, pInt, pLen, inF, pIn, pTo, pNat])
      | (refine inner _ fun ha => hT ?_; clear hT hF inner hS; grind [pLt, pLe, pGt, pGe, pEq, pNe, pNot, pAndB, pBeq, pInt, pLen, inF, pIn, pTo, pNat])
  rw [bif_false (by simp [pLt_coe, pLen])]
  clear hy
  refine ⟨UpInv.start, fun y hy => ?_⟩
  rcases UpInv.round hds hy with ⟨k, rfl, hk, hb, -, hF, hT⟩ | ⟨rfl, hD⟩
  · rw [bif_true (by simp [pLt_coe, pLen, hk]), pNat_coe]
    rw [doubtOkAt_eq] at hT hF
    clear hy
    refine ⟨pIn_coe.2 hk, ⟨0, rfl, Nat.zero_le _, rfl⟩, fun z hz => ?_⟩
    rcases HandInv.round (p := handAt ls ds k) (n := ls.length) hls hz with ⟨i, rfl, hi, hN⟩ | rfl
    · rw [bif_true (by simp [pLt_coe, pLen, hi])]
      refine bif_ok (fun h => ?_) fun h => ⟨pIn_coe.2 hi, ?_⟩
      · exact hN true (by have h' : anyUpto (handAt ls ds k) i = true := h; rw [h']; rfl)
      · refine hN _ ?_
        have h' : anyUpto (handAt ls ds k) i = false := h
        rw [h', pNat_coe]; rfl
    · rw [bif_false (by simp [pLt_coe, pLen])]
      have eh : anyUpto (handAt ls ds k) ls.length = pGe (idxLockF ls ((pGet tyDoubt ds k).1, (pGet tyDoubt ds k).2.1, ())) 0 := idxOf_ge.symm
      dsimp only
      rw [eh, show pNe (idxDoubtF ds ((pGet tyItem ds k).1, (pGet tyItem ds k).2.1, ())) (k : Int) = !allUpto (fun j => !sameD ds j k) k from doubt_first hk]
      clear hz eh
      (repeat' (first | refine bif_ok (fun h => ?_) (fun h => ?_) | refine And.intro ?_ ?_ | fail))
      all_goals first
        | exact hl
        | exact hls
        | exact his
        | exact hds
        | (refine leafF fun q => ?_; rw [hS] at q; clear hT; grind [pLt, pLe, pGt, pGe, pEq, pNe, pNot, pAndB, pBeq, pInt, pLen, inF, pIn, pTo, pNat])
        | (refine (hT ?_).1; clear hT hF hS; grind [pLt, pLe, pGt, pGe, pEq, pNe, pNot, pAndB, pBeq, pInt, pLen, inF, pIn, pTo, pNat])
        | (refine (hT ?_).2; clear hT hF hS; grind [pLt, pLe, pGt, pGe, pEq, pNe, pNot, pAndB, pBeq, pInt, pLen, inF, pIn, pTo, pNat])
  rw [bif_false (by simp [pLt_coe, pLen])]
  clear hy
  refine ⟨UpInv.start, fun y hy => ?_⟩
  rcases UpInv.round hl hy with ⟨k, rfl, hk, hb, -, hF, hT⟩ | ⟨rfl, hO⟩
  · rw [bif_true (by simp [pLt_coe, pLen, hk]), pNat_coe]
    rw [overOkAt_eq] at hT hF
    clear hy
    refine ⟨UpInv.start, fun z hz => ?_⟩
    rcases UpInv.round (p := fun j => !sameT os j k) (n := k) hb hz with ⟨i, rfl, hi, hib, -, hiF, hiT⟩ | ⟨rfl, hiT⟩
    · rw [bif_true (show pLt (i : Int) (k : Int) = true from by simp [pLt, hi])]
      refine ⟨pIn_coe.2 (by unfold pLen; omega), pIn_coe.2 hk, ?_⟩
      rw [pNat_coe]
      refine bif_ok (fun h => ?_) fun h => hiT (by simp only [Bool.not_eq_true']; exact h)
      have hs : allUpto (fun j => !sameT os j k) k = false := hiF (by simp only [Bool.not_eq_false']; exact h)
      clear hz hiF hiT hT
      refine leafF fun q => ?_
      rw [hS] at q
      grind [pLt, pLe, pGt, pGe, pEq, pNe, pNot, pAndB, pBeq, pInt, pLen, inF, pIn, pTo, pNat]
    · rw [bif_false (show pLt (k : Int) (k : Int) = false from by simp [pLt])]
      clear hz
      refine ⟨pIn_coe.2 hk, bif_ok (fun h => leafF fun q => ?_) fun h => hT ?_⟩
      · rw [hS] at q; clear hT; grind [pLt, pLe, pGt, pGe, pEq, pNe, pNot, pAndB, pBeq, pInt, pLen, inF, pIn, pTo, pNat]
      · clear hT hF hS; grind [pLt, pLe, pGt, pGe, pEq, pNe, pNot, pAndB, pBeq, pInt, pLen, inF, pIn, pTo, pNat]
  rw [bif_false (by simp [pLt_coe, pLen])]
  refine leafT fun q => ?_
  rw [hS, hA, hB, hD, hO] at q
  clear hS hy
  grind [pLt, pLe, pGt, pGe, pEq, pNe, pNot, pAndB, pBeq, pInt, pLen, inF, pIn, pTo, pNat]

end Go.Proofs.Ytkhnakdmkhidbaa
