/- Plain words of coordinators' turns: what a client's call does. No condition. -/
import Derived.Test.YtnkcmkegjckncaaDoorJ3
import Derived.Test.YtnkcmkegjckncaaDoorJ1
import Derived.Test.YtnkcmkegjckncaaDoorJ2
import Derived.Deep.LoopGhost
import Derived.Shelf.RegionOpenPlain
import Derived.Shelf.Spec.SlicesInsertGrow

/- What a turn does, piece by piece: to tell, to end. No condition. -/
namespace Go.Proofs.YtnkcmkegjckncaaDoor
open Go.RowKit

theorem saysM_len (me : Int) (yes : Bool) (n : Int) (a : List ND) : (saysM me yes n a).length = a.length := by unfold saysM; rw [List.length_map]
theorem saysM_take {me : Int} {yes : Bool} {n : Int} {a : List ND} {k : Nat} (h : k < a.length) : saysM me yes n (a.take (k + 1)) = saysM me yes n (a.take k) ++ [decM me yes n (pGet tyN a k).1] := by
  unfold saysM
  rw [pGet_lt (t := tyN) h, List.take_succ_eq_append_getElem h, List.map_append]
  rfl
theorem last_pos {α : Type} {xs : List α} {x : α} (h : xs.length < 4611686018427387000) : pSubI .i64 (pInt (pLen (pApp xs [x]))) 1 = (xs.length : Int) := by
  have e : pLen (pApp xs [x]) = xs.length + 1 := by unfold pLen pApp; rw [List.length_append]; rfl
  rw [e]
  unfold pInt
  exact (pSub1 (k := xs.length + 1) (by omega) (by omega)).trans (by simp)
theorem last_get {t : Ty} {xs : List t.den} {x : t.den} : pGet t (pApp xs [x]) xs.length = x := by
  have : xs.length < (pApp xs [x]).length := by unfold pApp; rw [List.length_append]; exact Nat.lt_succ_self _
  rw [pGet_lt this]
  exact List.getElem_concat_length rfl _
theorem last_set {α : Type} {xs : List α} {x y : α} : pSet (pApp xs [x]) xs.length y = xs ++ [y] := by
  unfold pSet pApp
  rw [List.set_append_right _ _ (Nat.le_refl _)]
  simp
theorem app_room {α : Type} {xs : List α} {x : α} {n : Nat} (h : (xs.length + 1) * n ≤ 140737488351232) : pRoom (pPlus (pLen xs) (pLen [x])) n := h

/-- a job ends: its tasks' sites, sorted, are told -/
theorem end_vc (w : WorkD) (ts : List TaskD) (n : Int) (G : Int × List ND × Unit → Prop) (hc : 1 ≤ w.1 ∧ w.1 ≤ 4) (hts : ts.length ≤ 10) (hG : G ((ts.length : Int), sitesK w.1 w.2.2.2.1 ts ts.length, ())) :
    sitesInv w.1 w.2.2.2.1 ts ((0 : Int), [], ()) ∧ ∀ (y : kden false tI × kden true tyN × PUnit), sitesInv w.1 w.2.2.2.1 ts y → bif pLt y.1 (pInt (pLen ts)) then pIn y.1 (pLen ts) ∧ pNz w.1 ∧
      bif pEq (pGet tyTask ts (pNat y.1)).2.1 w.2.2.2.1 then Nat.le (Nat.succ (pLen y.2.1)) 4611686018427387904 ∧ bif pNot (pGe (hasF y.2.1 (pRem (pGet tyTask ts (pNat y.1)).2.2.1 w.1)) 0) then
        pRoom (pPlus (pLen y.2.1) (pLen [(pRem (pGet tyTask ts (pNat y.1)).2.2.1 w.1, ())])) 8 ∧ sitesInv w.1 w.2.2.2.1 ts (pAdd .i64 y.1 1, pApp y.2.1 [(pRem (pGet tyTask ts (pNat y.1)).2.2.1 w.1, ())], ()) ∧
          Nat.le (Nat.succ (sitesMu w.1 w.2.2.2.1 ts (pAdd .i64 y.1 1, pApp y.2.1 [(pRem (pGet tyTask ts (pNat y.1)).2.2.1 w.1, ())], ()))) (sitesMu w.1 w.2.2.2.1 ts y)
        else sitesInv w.1 w.2.2.2.1 ts (pAdd .i64 y.1 1, y.2) ∧ Nat.le (Nat.succ (sitesMu w.1 w.2.2.2.1 ts (pAdd .i64 y.1 1, y.2))) (sitesMu w.1 w.2.2.2.1 ts y)
      else sitesInv w.1 w.2.2.2.1 ts (pAdd .i64 y.1 1, y.2) ∧ Nat.le (Nat.succ (sitesMu w.1 w.2.2.2.1 ts (pAdd .i64 y.1 1, y.2))) (sitesMu w.1 w.2.2.2.1 ts y)
    else Nat.le (Nat.succ (pLen y.2.1)) 12 ∧ pLen (sortN y.2.1) = pLen y.2.1 ∧ G y := by
  refine ⟨StepInv.start rfl, fun y hy => ?_⟩
  rcases StepInv.round (show ts.length < 4611686018427387904 by omega) hy with ⟨k, rfl, hk2, hb, hT⟩ | rfl
  · rw [bif_true (by rw [pLt_coe]; exact decide_eq_true hk2)]
    dsimp only
    rw [pNat_coe]
    have hl := sitesK_len w.1 w.2.2.2.1 ts k
    refine ⟨pIn_coe.2 hk2, by unfold pNz; omega, bif_ok (fun h1 => ⟨show (sitesK w.1 w.2.2.2.1 ts k).length < _ by omega, bif_ok (fun h2 => ⟨app_room (by omega), hT _ ?_⟩) fun h2 => hT _ ?_⟩) fun h1 => hT _ ?_⟩
    · rw [sitesK_succ, h1]
      have : pLt (hasF (sitesK w.1 w.2.2.2.1 ts k) (pRem (pGet tyTask ts k).2.2.1 w.1)) 0 = true := by
        simp only [pNot, pGe, pLt, Bool.not_eq_true', decide_eq_false_iff_not, decide_eq_true_eq] at h2 ⊢; omega
      rw [this]; rfl
    · rw [sitesK_succ, h1]
      have : pLt (hasF (sitesK w.1 w.2.2.2.1 ts k) (pRem (pGet tyTask ts k).2.2.1 w.1)) 0 = false := by
        simp only [pNot, pGe, pLt, Bool.not_eq_false', decide_eq_false_iff_not, decide_eq_true_eq] at h2 ⊢; omega
      rw [this]; rfl
    · rw [sitesK_succ, h1]; rfl
  · rw [bif_false (by rw [pLt_coe]; exact decide_eq_false (Nat.lt_irrefl _))]
    dsimp only
    have hl := sitesK_len w.1 w.2.2.2.1 ts ts.length
    exact ⟨show (sitesK w.1 w.2.2.2.1 ts ts.length).length < 12 by omega, sortN_len _, hG⟩

theorem withoutK_lo {l : List JobD} {i : Nat} : ∀ k, k ≤ i → k ≤ l.length → withoutK l (i : Int) k = l.take k
  | 0, _, _ => rfl
  | k + 1, h1, h2 => by
    rw [withoutK_succ, withoutK_lo k (by omega) (by omega)]
    have : pEq (k : Int) (i : Int) = false := by simp only [pEq, beq_eq_false_iff_ne, ne_eq]; omega
    rw [this, cond_false, pGet_lt (t := tyJob) h2, List.take_succ_eq_append_getElem h2]
theorem withoutK_hi {l : List JobD} {i : Nat} : ∀ m, i + 1 + m ≤ l.length → withoutK l (i : Int) (i + 1 + m) = l.take i ++ (l.drop (i + 1)).take m
  | 0, h => by
    show withoutK l (i : Int) (i + 1) = _
    rw [withoutK_succ]
    have : pEq (i : Int) (i : Int) = true := by simp [pEq]
    rw [this, cond_true, withoutK_lo i (Nat.le_refl _) (by omega)]
    simp
  | m + 1, h => by
    show withoutK l (i : Int) (i + 1 + m + 1) = _
    rw [withoutK_succ, withoutK_hi m (by omega)]
    have : pEq ((i + 1 + m : Nat) : Int) (i : Int) = false := by simp only [pEq, beq_eq_false_iff_ne, ne_eq]; omega
    have hd : m < (l.drop (i + 1)).length := by rw [List.length_drop]; omega
    rw [this, cond_false, pGet_lt (t := tyJob) (show i + 1 + m < l.length by omega), List.take_succ_eq_append_getElem hd, List.append_assoc, List.getElem_drop]
theorem withoutF_del {l : List JobD} {i : Nat} (h : i < l.length) : withoutF l (i : Int) = pDel l i := by
  have := withoutK_hi (l := l) (i := i) (l.length - (i + 1)) (by omega)
  rw [show i + 1 + (l.length - (i + 1)) = l.length by omega] at this
  unfold withoutF pDel
  rw [this]
  congr 1
  exact List.take_of_length_le (by rw [List.length_drop]; exact Nat.le_refl _)


end Go.Proofs.YtnkcmkegjckncaaDoor

/- Contracts, and what the evaluator says, as plain propositions: CuV. Printed by vc.py. -/
namespace Go.Proofs.YtnkcmkegjckncaaDoor
open Go.RowKit Go.ChangeShapes Go.WideShapes Go.Deep

abbrev len64_S : Shape := ⟨[.one (.rd (.int .u64))], []⟩
abbrev len64_f : Shape.den len64_S → denVars [.slot 0 false tI] := fun x => (lenF x.1.1, ())
abbrev len64_p : Shape.den len64_S → List Prop := fun x => [pLt x.1.1 16 = true, pLe 0 x.1.1 = true]
def clen64 : Ctr := shCtr len64_S len64_p [] [.slot 0 false tI] len64_f
def cblen : Ctr := shCtr len64_S len64_p [] [.slot 0 false tI] len64_f
abbrev pdq_S : Shape := ⟨[.one (.own 0), .one (.rd tI), .one (.rd tI), .one (.rd tI)], [.row tyN]⟩
abbrev pdq_f : Shape.den pdq_S → denVars [.row 0 tyN] := fun x => (sortN x.2.1, ())
abbrev pdq_p : Shape.den pdq_S → List Prop := fun x => [x.1.2.1 = 0, x.1.2.2.1 = pInt (pLen x.2.1), pLen x.2.1 < 12]
def cpdq : Ctr := shCtr pdq_S pdq_p [] [.row 0 tyN] pdq_f
abbrev sort_S : Shape := ⟨[.one (.own 0)], [.row tyN]⟩
abbrev sort_f : Shape.den sort_S → denVars [.row 0 tyN] := fun x => (sortN x.2.1, ())
abbrev sort_p : Shape.den sort_S → List Prop := fun x => [pLen x.2.1 < 12]
def csort : Ctr := shCtr sort_S sort_p [] [.row 0 tyN] sort_f
abbrev delJ_S : Shape := ⟨[.one (.own 0), .one (.rd tI), .one (.rd tI)], [.row tyJob]⟩
abbrev delJ_f : Shape.den delJ_S → denVars [.slot 0 true tyJob] := fun x => (pDel x.2.1 (pNat x.1.2.1), ())
abbrev delJ_p : Shape.den delJ_S → List Prop := fun x => [pIn x.1.2.1 (pLen x.2.1), x.1.2.2.1 = pAdd .i64 x.1.2.1 1, pLen x.2.1 < 4611686018427387904]
def cdelJ : Ctr := shCtr delJ_S delJ_p [0] [.slot 0 true tyJob] delJ_f
abbrev sameTasks_S : Shape := ⟨[.one (.rd (.sl tyTask)), .one (.rd (.sl tyTask))], []⟩
abbrev sameTasks_f : Shape.den sameTasks_S → denVars [.slot 0 false .bool] := fun x => (sameTasksF x.1.1 x.1.2.1, ())
abbrev sameTasks_p : Shape.den sameTasks_S → List Prop := fun x => [pLen x.1.1 < 4611686018427387904]
def csameTasks : Ctr := shCtr sameTasks_S sameTasks_p [] [.slot 0 false .bool] sameTasks_f
abbrev sameInts_S : Shape := ⟨[.one (.rd (.sl tyN)), .one (.rd (.sl tyN))], []⟩
abbrev sameInts_f : Shape.den sameInts_S → denVars [.slot 0 false .bool] := fun x => (sameIntsF x.1.1 x.1.2.1, ())
abbrev sameInts_p : Shape.den sameInts_S → List Prop := fun x => [pLen x.1.1 < 4611686018427387904]
def csameInts : Ctr := shCtr sameInts_S sameInts_p [] [.slot 0 false .bool] sameInts_f
abbrev sameDesk_S : Shape := ⟨[pDesk, pDesk], []⟩
abbrev sameDesk_f : Shape.den sameDesk_S → denVars [.slot 0 false .bool] := fun x => (sameDeskF (x.1.1.1, x.1.1.2.1, ()) (x.1.2.1.1, x.1.2.1.2.1, ()), ())
abbrev sameDesk_p : Shape.den sameDesk_S → List Prop := fun x => [pLen x.1.1.2.1 < 4611686018427387904, (∀ q ∈ x.1.1.2.1, pLen q.2.2.1 < 4611686018427387904 ∧ pLen q.2.2.2.1 < 4611686018427387904)]
def csameDesk : Ctr := shCtr sameDesk_S sameDesk_p [] [.slot 0 false .bool] sameDesk_f
abbrev sameMsgs_S : Shape := ⟨[.one (.rd (.sl tyMsg)), .one (.rd (.sl tyMsg))], []⟩
abbrev sameMsgs_f : Shape.den sameMsgs_S → denVars [.slot 0 false .bool] := fun x => (sameMsgsF x.1.1 x.1.2.1, ())
abbrev sameMsgs_p : Shape.den sameMsgs_S → List Prop := fun x => [pLen x.1.1 < 4611686018427387904]
def csameMsgs : Ctr := shCtr sameMsgs_S sameMsgs_p [] [.slot 0 false .bool] sameMsgs_f
abbrev sameRecord_S : Shape := ⟨[pRec, pRec], []⟩
abbrev sameRecord_f : Shape.den sameRecord_S → denVars [.slot 0 false .bool] := fun x => (sameRecF (x.1.1.1, x.1.1.2.1, x.1.1.2.2.1, x.1.1.2.2.2.1, x.1.1.2.2.2.2.1, x.1.1.2.2.2.2.2.1, x.1.1.2.2.2.2.2.2.1, x.1.1.2.2.2.2.2.2.2.1, ()) (x.1.2.1.1, x.1.2.1.2.1, x.1.2.1.2.2.1, x.1.2.1.2.2.2.1, x.1.2.1.2.2.2.2.1, x.1.2.1.2.2.2.2.2.1, x.1.2.1.2.2.2.2.2.2.1, x.1.2.1.2.2.2.2.2.2.2.1, ()), ())
abbrev sameRecord_p : Shape.den sameRecord_S → List Prop := fun x => [pLen x.1.1.2.2.2.2.2.2.2.1 < 4611686018427387904]
def csameRecord : Ctr := shCtr sameRecord_S sameRecord_p [] [.slot 0 false .bool] sameRecord_f
abbrev sameRecords_S : Shape := ⟨[.one (.rd (.sl tyRec)), .one (.rd (.sl tyRec))], []⟩
abbrev sameRecords_f : Shape.den sameRecords_S → denVars [.slot 0 false .bool] := fun x => (sameRecsF x.1.1 x.1.2.1, ())
abbrev sameRecords_p : Shape.den sameRecords_S → List Prop := fun x => [pLen x.1.1 < 4611686018427387904, (∀ q ∈ x.1.1, pLen q.2.2.2.2.2.2.2.1 < 4611686018427387904)]
def csameRecords : Ctr := shCtr sameRecords_S sameRecords_p [] [.slot 0 false .bool] sameRecords_f
abbrev sameReps_S : Shape := ⟨[.one (.rd (.sl tyRep)), .one (.rd (.sl tyRep))], []⟩
abbrev sameReps_f : Shape.den sameReps_S → denVars [.slot 0 false .bool] := fun x => (sameRepsF x.1.1 x.1.2.1, ())
abbrev sameReps_p : Shape.den sameReps_S → List Prop := fun x => [pLen x.1.1 < 4611686018427387904]
def csameReps : Ctr := shCtr sameReps_S sameReps_p [] [.slot 0 false .bool] sameReps_f
abbrev sameTurn_S : Shape := ⟨[pTurn, pTurn], []⟩
abbrev sameTurn_f : Shape.den sameTurn_S → denVars [.slot 0 false .bool] := fun x => (sameTurnF (x.1.1.1, x.1.1.2.1, x.1.1.2.2.1, x.1.1.2.2.2.1, x.1.1.2.2.2.2.1, x.1.1.2.2.2.2.2.1, x.1.1.2.2.2.2.2.2.1, ()) (x.1.2.1.1, x.1.2.1.2.1, x.1.2.1.2.2.1, x.1.2.1.2.2.2.1, x.1.2.1.2.2.2.2.1, x.1.2.1.2.2.2.2.2.1, x.1.2.1.2.2.2.2.2.2.1, ()), ())
abbrev sameTurn_p : Shape.den sameTurn_S → List Prop := fun x => [pLen x.1.1.2.1 < 4611686018427387904, (∀ q ∈ x.1.1.2.1, pLen q.2.2.1 < 4611686018427387904 ∧ pLen q.2.2.2.1 < 4611686018427387904), pLen x.1.1.2.2.1 < 4611686018427387904, pLen x.1.1.2.2.2.1 < 4611686018427387904, (∀ q ∈ x.1.1.2.2.2.1, pLen q.2.2.2.2.2.2.2.1 < 4611686018427387904), pLen x.1.1.2.2.2.2.1 < 4611686018427387904]
def csameTurn : Ctr := shCtr sameTurn_S sameTurn_p [] [.slot 0 false .bool] sameTurn_f
abbrev eqsCuV : List TypeId := [101, 73, 32, 29, 96]

abbrev len64_v0 := (bs [0, 1, 2, 2, 3, 3, 3, 3, 4, 4, 4, 4, 4, 4, 4, 4, 5, 5, 5, 5, 5, 5, 5, 5, 5, 5, 5, 5, 5, 5, 5, 5, 6, 6, 6, 6, 6, 6, 6, 6, 6, 6, 6, 6, 6, 6, 6, 6, 6, 6, 6, 6, 6, 6, 6, 6, 6, 6, 6, 6, 6, 6, 6, 6, 7, 7, 7, 7, 7, 7, 7, 7, 7, 7, 7, 7, 7, 7, 7, 7, 7, 7, 7, 7, 7, 7, 7, 7, 7, 7, 7, 7, 7, 7, 7, 7, 7, 7, 7, 7, 7, 7, 7, 7, 7, 7, 7, 7, 7, 7, 7, 7, 7, 7, 7, 7, 7, 7, 7, 7, 7, 7, 7, 7, 7, 7, 7, 7, 8, 8, 8, 8, 8, 8, 8, 8, 8, 8, 8, 8, 8, 8, 8, 8, 8, 8, 8, 8, 8, 8, 8, 8, 8, 8, 8, 8, 8, 8, 8, 8, 8, 8, 8, 8, 8, 8, 8, 8, 8, 8, 8, 8, 8, 8, 8, 8, 8, 8, 8, 8, 8, 8, 8, 8, 8, 8, 8, 8, 8, 8, 8, 8, 8, 8, 8, 8, 8, 8, 8, 8, 8, 8, 8, 8, 8, 8, 8, 8, 8, 8, 8, 8, 8, 8, 8, 8, 8, 8, 8, 8, 8, 8, 8, 8, 8, 8, 8, 8, 8, 8, 8, 8, 8, 8, 8, 8, 8, 8, 8, 8, 8, 8, 8, 8, 8, 8, 8, 8, 8, 8, 8, 8, 8, 8, 8, 8])
abbrev len64_v1 (a : Int) := (pShr IntKind.u64 (pShr IntKind.u64 a (32 : Int)) (16 : Int))
abbrev len64_v2 (a : Int) := (pShr IntKind.u64 a (32 : Int))

def len64_VC (a : Int) : Prop :=
  bif pGe a (4294967296 : Int) then pGe0 (32 : Int) ∧ bif pGe (len64_v2 a) (65536 : Int) then pGe0 (16 : Int) ∧ bif pGe (len64_v1 a) (256 : Int) then pGe0 (8 : Int) ∧ pIn (pWrap IntKind.u8 (pShr IntKind.u64 (len64_v1 a) (8 : Int))) (pStrLen
 (len64_v0)) ∧ (pAdd IntKind.i64 (pAdd IntKind.i64 (pAdd IntKind.i64 (32 : Int) (16 : Int)) (8 : Int)) (pWrap IntKind.i64 (pStrGet (len64_v0) (pNat (pWrap IntKind.u8 (pShr IntKind.u64 (len64_v1 a) (8 : Int)))))), ()) = (lenF a, ()) else pIn
 (pWrap IntKind.u8 (len64_v1 a)) (pStrLen (len64_v0)) ∧ (pAdd IntKind.i64 (pAdd IntKind.i64 (32 : Int) (16 : Int)) (pWrap IntKind.i64 (pStrGet (len64_v0) (pNat (pWrap IntKind.u8 (len64_v1 a))))), ()) = (lenF a, ()) else bif pGe (len64_v2 a)
 (256 : Int) then pGe0 (8 : Int) ∧ pIn (pWrap IntKind.u8 (pShr IntKind.u64 (len64_v2 a) (8 : Int))) (pStrLen (len64_v0)) ∧ (pAdd IntKind.i64 (pAdd IntKind.i64 (32 : Int) (8 : Int)) (pWrap IntKind.i64 (pStrGet (len64_v0) (pNat (pWrap
 IntKind.u8 (pShr IntKind.u64 (len64_v2 a) (8 : Int)))))), ()) = (lenF a, ()) else pIn (pWrap IntKind.u8 (len64_v2 a)) (pStrLen (len64_v0)) ∧ (pAdd IntKind.i64 (32 : Int) (pWrap IntKind.i64 (pStrGet (len64_v0) (pNat (pWrap IntKind.u8
 (len64_v2 a))))), ()) = (lenF a, ()) else bif pGe a (65536 : Int) then pGe0 (16 : Int) ∧ bif pGe (pShr IntKind.u64 a (16 : Int)) (256 : Int) then pGe0 (8 : Int) ∧ pIn (pWrap IntKind.u8 (pShr IntKind.u64 (pShr IntKind.u64 a (16 : Int)) (8 :
 Int))) (pStrLen (len64_v0)) ∧ (pAdd IntKind.i64 (pAdd IntKind.i64 (pAdd IntKind.i64 (0 : Int) (16 : Int)) (8 : Int)) (pWrap IntKind.i64 (pStrGet (len64_v0) (pNat (pWrap IntKind.u8 (pShr IntKind.u64 (pShr IntKind.u64 a (16 : Int)) (8 :
 Int)))))), ()) = (lenF a, ()) else pIn (pWrap IntKind.u8 (pShr IntKind.u64 a (16 : Int))) (pStrLen (len64_v0)) ∧ (pAdd IntKind.i64 (pAdd IntKind.i64 (0 : Int) (16 : Int)) (pWrap IntKind.i64 (pStrGet (len64_v0) (pNat (pWrap IntKind.u8 (pShr
 IntKind.u64 a (16 : Int)))))), ()) = (lenF a, ()) else bif pGe a (256 : Int) then pGe0 (8 : Int) ∧ pIn (pWrap IntKind.u8 (pShr IntKind.u64 a (8 : Int))) (pStrLen (len64_v0)) ∧ (pAdd IntKind.i64 (pAdd IntKind.i64 (0 : Int) (8 : Int)) (pWrap
 IntKind.i64 (pStrGet (len64_v0) (pNat (pWrap IntKind.u8 (pShr IntKind.u64 a (8 : Int)))))), ()) = (lenF a, ()) else pIn (pWrap IntKind.u8 a) (pStrLen (len64_v0)) ∧ (pAdd IntKind.i64 (0 : Int) (pWrap IntKind.i64 (pStrGet (len64_v0) (pNat
 (pWrap IntKind.u8 a)))), ()) = (lenF a, ())
set_option maxRecDepth 100000 in
theorem len64_meets  (h : ∀ (a : Int), (∀ p ∈ len64_p ⟨(a, ()), ()⟩, p) → len64_VC a) : Mt 87 clen64 :=
  meets_vc (E := envOf Tryd.prog [] eqsCuV) (envOf_ok (fun p hp => by cases hp) (by kernel_rfl)) len64_S (fun x => fun ky9 st9 => look [] ky9) Tryd.func87 (by kernel_rfl) (by kernel_rfl) len64_p [] [.slot 0 false tI] len64_f (fun x => len64_VC x.1.1) (fun x => by kernel_rfl) (fun x hp => h x.1.1 hp)

def blen_VC (a : Int) : Prop :=
  pLt a (16 : Int) = Bool.true ∧ pLe (0 : Int) a = Bool.true ∧ (lenF a, ()) = (lenF a, ())
set_option maxRecDepth 100000 in
theorem blen_meets (hlen64 : Mt 87 clen64) (h : ∀ (a : Int), (∀ p ∈ len64_p ⟨(a, ()), ()⟩, p) → blen_VC a) : Mt 76 cblen :=
  meets_vc (E := envOf Tryd.prog [(87, (false, clen64))] eqsCuV) (envOf_ok (fun p hp => (by simp only [List.mem_cons, List.not_mem_nil, or_false] at hp; rcases hp with rfl; exact hlen64)) (by kernel_rfl)) len64_S (fun x => fun ky9 st9 => look [] ky9) Tryd.func76 (by kernel_rfl) (by kernel_rfl) len64_p [] [.slot 0 false tI] len64_f (fun x => blen_VC x.1.1) (fun x => by kernel_rfl) (fun x hp => h x.1.1 hp)

def pdq_VC (a : Int) (b : Int) (e : Int) (l : List ND) : Prop :=
  pdqInv a b e l (b, a, e, Bool.true, Bool.true, ()) ∧ ∀ (y : kden Bool.false tI × kden Bool.false tI × kden Bool.false tI × kden Bool.false Ty.bool × kden Bool.false Ty.bool × PUnit), pdqInv a b e l y → bif pLe (pSubI IntKind.i64 y.1 y.2.1)
 (12 : Int) then y.2.1 = (0 : Int) ∧ y.1 = pInt (pLen l) ∧ Nat.le (Nat.succ (pLen l)) 1000 ∧ pLen (sortN l) = pLen l ∧ (sortN l, ()) = (sortN l, ()) else bif pEq y.2.2.1 (0 : Int) then False else bif pNot y.2.2.2.1 then False else False
set_option maxRecDepth 100000 in
theorem pdq_meets (hinsort : Mt 77 cinsort) (h : ∀ (a : Int) (b : Int) (e : Int) (l : List ND), (∀ p ∈ pdq_p ⟨((), a, b, e, ()), (l, ())⟩, p) → pdq_VC a b e l) : Mt 75 cpdq :=
  meets_vc (E := envOf Tryd.prog [(77, (true, cinsort))] eqsCuV) (envOf_ok (fun p hp => (by simp only [List.mem_cons, List.not_mem_nil, or_false] at hp; rcases hp with rfl; exact hinsort)) (by kernel_rfl)) pdq_S (fun x => fun ky9 st9 => look [(2, (⟨[.slot 2 false tI, .slot 1 false tI, .slot 3 false tI, .slot 8 false .bool, .slot 9 false .bool], pdqInv x.1.2.1 x.1.2.2.1 x.1.2.2.2.1 x.2.1, pdqMu x.1.2.1 x.1.2.2.1 x.1.2.2.2.1 x.2.1⟩ : Ann))] ky9) Tryd.func75 (by kernel_rfl) (by kernel_rfl) pdq_p [] [.row 0 tyN] pdq_f (fun x => pdq_VC x.1.2.1 x.1.2.2.1 x.1.2.2.2.1 x.2.1) (fun x => by kernel_rfl) (fun x hp => h x.1.2.1 x.1.2.2.1 x.1.2.2.2.1 x.2.1 hp)

def sort_VC (l : List ND) : Prop :=
  pLt (pWrap IntKind.u64 (pInt (pLen l))) (16 : Int) = Bool.true ∧ pLe (0 : Int) (pWrap IntKind.u64 (pInt (pLen l))) = Bool.true ∧ (0 : Int) = (0 : Int) ∧ pInt (pLen l) = pInt (pLen l) ∧ Nat.le (Nat.succ (pLen l)) 12 ∧ pLen (sortN l) = pLen l
 ∧ (sortN l, ()) = (sortN l, ())
set_option maxRecDepth 100000 in
theorem sort_meets (hpdq : Mt 75 cpdq) (hblen : Mt 76 cblen) (h : ∀ (l : List ND), (∀ p ∈ sort_p ⟨((), ()), (l, ())⟩, p) → sort_VC l) : Mt 72 csort :=
  meets_vc (E := envOf Tryd.prog [(75, (true, cpdq)), (76, (false, cblen))] eqsCuV) (envOf_ok (fun p hp => (by simp only [List.mem_cons, List.not_mem_nil, or_false] at hp; rcases hp with rfl | rfl; exact hpdq; exact hblen)) (by kernel_rfl)) sort_S (fun x => fun ky9 st9 => look [] ky9) Tryd.func72 (by kernel_rfl) (by kernel_rfl) sort_p [] [.row 0 tyN] sort_f (fun x => sort_VC x.2.1) (fun x => by kernel_rfl) (fun x hp => h x.2.1 hp)

def sameTasks_VC (l : (List TaskD)) (m : (List TaskD)) : Prop :=
  bif pNe (pInt (pLen l)) (pInt (pLen m)) then (Bool.false, ()) = (sameTasksF l m, ()) else sameTasksInv l m ((0 : Int), ()) ∧ ∀ (y : kden Bool.false tI × PUnit), sameTasksInv l m y → bif pLt y.1 (pInt (pLen l)) then pIn y.1 (pLen l) ∧ pIn
 y.1 (pLen m) ∧ bif pNot (pAndB (pBeq (pGet tyTask l (pNat y.1)).1 (pGet tyTask m (pNat y.1)).1) (pAndB (pEq (pGet tyTask l (pNat y.1)).2.1 (pGet tyTask m (pNat y.1)).2.1) (pAndB (pEq (pGet tyTask l (pNat y.1)).2.2.1 (pGet tyTask m (pNat
 y.1)).2.2.1) (pAndB (pEq (pGet tyTask l (pNat y.1)).2.2.2.1 (pGet tyTask m (pNat y.1)).2.2.2.1) (pAndB (pEq (pGet tyTask l (pNat y.1)).2.2.2.2.1 (pGet tyTask m (pNat y.1)).2.2.2.2.1) (pAndB (pEq (pGet tyTask l (pNat y.1)).2.2.2.2.2.1 (pGet
 tyTask m (pNat y.1)).2.2.2.2.2.1) (pAndB (pBeq (pGet tyTask l (pNat y.1)).2.2.2.2.2.2.1 (pGet tyTask m (pNat y.1)).2.2.2.2.2.2.1) (pBeq (pGet tyTask l (pNat y.1)).2.2.2.2.2.2.2.1 (pGet tyTask m (pNat y.1)).2.2.2.2.2.2.2.1)))))))) then
 (Bool.false, ()) = (sameTasksF l m, ()) else sameTasksInv l m (pAdd IntKind.i64 y.1 (1 : Int), ()) ∧ Nat.le (Nat.succ (sameTasksMu l m (pAdd IntKind.i64 y.1 (1 : Int), ()))) (sameTasksMu l m y) else (Bool.true, ()) = (sameTasksF l m, ())
set_option maxRecDepth 100000 in
theorem sameTasks_meets  (h : ∀ (l : (List TaskD)) (m : (List TaskD)), (∀ p ∈ sameTasks_p ⟨(l, m, ()), ()⟩, p) → sameTasks_VC l m) : Mt 28 csameTasks :=
  meets_vc (E := envOf Tryd.prog [] eqsCuV) (envOf_ok (fun p hp => by cases hp) (by kernel_rfl)) sameTasks_S (fun x => fun ky9 st9 => look [(4, (⟨[.slot 5 false tI], sameTasksInv x.1.1 x.1.2.1, sameTasksMu x.1.1 x.1.2.1⟩ : Ann))] ky9) Tryd.func28 (by kernel_rfl) (by kernel_rfl) sameTasks_p [] [.slot 0 false .bool] sameTasks_f (fun x => sameTasks_VC x.1.1 x.1.2.1) (fun x => by kernel_rfl) (fun x hp => h x.1.1 x.1.2.1 hp)

def sameInts_VC (l : (List ND)) (m : (List ND)) : Prop :=
  bif pNe (pInt (pLen l)) (pInt (pLen m)) then (Bool.false, ()) = (sameIntsF l m, ()) else sameIntsInv l m ((0 : Int), ()) ∧ ∀ (y : kden Bool.false tI × PUnit), sameIntsInv l m y → bif pLt y.1 (pInt (pLen l)) then pIn y.1 (pLen l) ∧ pIn y.1
 (pLen m) ∧ bif pNe (pGet tyN l (pNat y.1)).1 (pGet tyN m (pNat y.1)).1 then (Bool.false, ()) = (sameIntsF l m, ()) else sameIntsInv l m (pAdd IntKind.i64 y.1 (1 : Int), ()) ∧ Nat.le (Nat.succ (sameIntsMu l m (pAdd IntKind.i64 y.1 (1 : Int),
 ()))) (sameIntsMu l m y) else (Bool.true, ()) = (sameIntsF l m, ())
set_option maxRecDepth 100000 in
theorem sameInts_meets  (h : ∀ (l : (List ND)) (m : (List ND)), (∀ p ∈ sameInts_p ⟨(l, m, ()), ()⟩, p) → sameInts_VC l m) : Mt 29 csameInts :=
  meets_vc (E := envOf Tryd.prog [] eqsCuV) (envOf_ok (fun p hp => by cases hp) (by kernel_rfl)) sameInts_S (fun x => fun ky9 st9 => look [(4, (⟨[.slot 5 false tI], sameIntsInv x.1.1 x.1.2.1, sameIntsMu x.1.1 x.1.2.1⟩ : Ann))] ky9) Tryd.func29 (by kernel_rfl) (by kernel_rfl) sameInts_p [] [.slot 0 false .bool] sameInts_f (fun x => sameInts_VC x.1.1 x.1.2.1) (fun x => by kernel_rfl) (fun x hp => h x.1.1 x.1.2.1 hp)

def sameDesk_VC (an : Int) (aj : (List JobD)) (bn : Int) (bj : (List JobD)) : Prop :=
  bif pNe an bn then (Bool.false, ()) = (sameDeskF (an, aj, ()) (bn, bj, ()), ()) else bif pNe (pInt (pLen aj)) (pInt (pLen bj)) then (Bool.false, ()) = (sameDeskF (an, aj, ()) (bn, bj, ()), ()) else sameDeskInv an aj bn bj ((0 : Int), ()) ∧
 ∀ (y : kden Bool.false tI × PUnit), sameDeskInv an aj bn bj y → bif pLt y.1 (pInt (pLen aj)) then pIn y.1 (pLen aj) ∧ pIn y.1 (pLen bj) ∧ bif pNe (pGet tyJob aj (pNat y.1)).1 (pGet tyJob bj (pNat y.1)).1 then (Bool.false, ()) = (sameDeskF
 (an, aj, ()) (bn, bj, ()), ()) else bif pNe (pGet tyJob aj (pNat y.1)).2.1 (pGet tyJob bj (pNat y.1)).2.1 then (Bool.false, ()) = (sameDeskF (an, aj, ()) (bn, bj, ()), ()) else bif pNe (pGet tyJob aj (pNat y.1)).2.2.2.2.1 (pGet tyJob bj
 (pNat y.1)).2.2.2.2.1 then (Bool.false, ()) = (sameDeskF (an, aj, ()) (bn, bj, ()), ()) else bif pNe (pGet tyJob aj (pNat y.1)).2.2.2.2.2.1 (pGet tyJob bj (pNat y.1)).2.2.2.2.2.1 then (Bool.false, ()) = (sameDeskF (an, aj, ()) (bn, bj, ()),
 ()) else Nat.le (Nat.succ (pLen (pGet tyJob aj (pNat y.1)).2.2.1)) 4611686018427387904 ∧ bif pNot (sameTasksF (pGet tyJob aj (pNat y.1)).2.2.1 (pGet tyJob bj (pNat y.1)).2.2.1) then (Bool.false, ()) = (sameDeskF (an, aj, ()) (bn, bj, ()),
 ()) else Nat.le (Nat.succ (pLen (pGet tyJob aj (pNat y.1)).2.2.2.1)) 4611686018427387904 ∧ bif pNot (sameIntsF (pGet tyJob aj (pNat y.1)).2.2.2.1 (pGet tyJob bj (pNat y.1)).2.2.2.1) then (Bool.false, ()) = (sameDeskF (an, aj, ()) (bn, bj,
 ()), ()) else sameDeskInv an aj bn bj (pAdd IntKind.i64 y.1 (1 : Int), ()) ∧ Nat.le (Nat.succ (sameDeskMu an aj bn bj (pAdd IntKind.i64 y.1 (1 : Int), ()))) (sameDeskMu an aj bn bj y) else (Bool.true, ()) = (sameDeskF (an, aj, ()) (bn, bj,
 ()), ())
set_option maxRecDepth 100000 in
theorem sameDesk_meets (hsameTasks : Mt 28 csameTasks) (hsameInts : Mt 29 csameInts) (h : ∀ (an : Int) (aj : (List JobD)) (bn : Int) (bj : (List JobD)), (∀ p ∈ sameDesk_p ⟨((an, aj, ()), (bn, bj, ()), ()), ()⟩, p) → sameDesk_VC an aj bn bj) : Mt 8 csameDesk :=
  meets_vc (E := envOf Tryd.prog [(28, (false, csameTasks)), (29, (false, csameInts))] eqsCuV) (envOf_ok (fun p hp => (by simp only [List.mem_cons, List.not_mem_nil, or_false] at hp; rcases hp with rfl | rfl; exact hsameTasks; exact hsameInts)) (by kernel_rfl)) sameDesk_S (fun x => fun ky9 st9 => look [(4, (⟨[.slot 5 false tI], sameDeskInv x.1.1.1 x.1.1.2.1 x.1.2.1.1 x.1.2.1.2.1, sameDeskMu x.1.1.1 x.1.1.2.1 x.1.2.1.1 x.1.2.1.2.1⟩ : Ann))] ky9) Tryd.func8 (by kernel_rfl) (by kernel_rfl) sameDesk_p [] [.slot 0 false .bool] sameDesk_f (fun x => sameDesk_VC x.1.1.1 x.1.1.2.1 x.1.2.1.1 x.1.2.1.2.1) (fun x => by kernel_rfl) (fun x hp => h x.1.1.1 x.1.1.2.1 x.1.2.1.1 x.1.2.1.2.1 hp)

def sameMsgs_VC (l : (List MsgD)) (m : (List MsgD)) : Prop :=
  bif pNe (pInt (pLen l)) (pInt (pLen m)) then (Bool.false, ()) = (sameMsgsF l m, ()) else sameMsgsInv l m ((0 : Int), ()) ∧ ∀ (y : kden Bool.false tI × PUnit), sameMsgsInv l m y → bif pLt y.1 (pInt (pLen l)) then pIn y.1 (pLen l) ∧ pIn y.1
 (pLen m) ∧ bif pNot (pAndB (pEq (pGet tyMsg l (pNat y.1)).1 (pGet tyMsg m (pNat y.1)).1) (pAndB (pEq (pGet tyMsg l (pNat y.1)).2.1 (pGet tyMsg m (pNat y.1)).2.1) (pAndB (pEq (pGet tyMsg l (pNat y.1)).2.2.1 (pGet tyMsg m (pNat y.1)).2.2.1)
 (pAndB (pEq (pGet tyMsg l (pNat y.1)).2.2.2.1 (pGet tyMsg m (pNat y.1)).2.2.2.1) (pAndB (pEq (pGet tyMsg l (pNat y.1)).2.2.2.2.1 (pGet tyMsg m (pNat y.1)).2.2.2.2.1) (pAndB (pEq (pGet tyMsg l (pNat y.1)).2.2.2.2.2.1 (pGet tyMsg m (pNat
 y.1)).2.2.2.2.2.1) (pAndB (pEq (pGet tyMsg l (pNat y.1)).2.2.2.2.2.2.1 (pGet tyMsg m (pNat y.1)).2.2.2.2.2.2.1) (pAndB (pEq (pGet tyMsg l (pNat y.1)).2.2.2.2.2.2.2.1 (pGet tyMsg m (pNat y.1)).2.2.2.2.2.2.2.1) (pAndB (pEq (pGet tyMsg l (pNat
 y.1)).2.2.2.2.2.2.2.2.1 (pGet tyMsg m (pNat y.1)).2.2.2.2.2.2.2.2.1) (pAndB (pEq (pGet tyMsg l (pNat y.1)).2.2.2.2.2.2.2.2.2.1 (pGet tyMsg m (pNat y.1)).2.2.2.2.2.2.2.2.2.1) (pAndB (pBeq (pGet tyMsg l (pNat y.1)).2.2.2.2.2.2.2.2.2.2.1 (pGet
 tyMsg m (pNat y.1)).2.2.2.2.2.2.2.2.2.2.1) (pEq (pGet tyMsg l (pNat y.1)).2.2.2.2.2.2.2.2.2.2.2.1 (pGet tyMsg m (pNat y.1)).2.2.2.2.2.2.2.2.2.2.2.1)))))))))))) then (Bool.false, ()) = (sameMsgsF l m, ()) else sameMsgsInv l m (pAdd
 IntKind.i64 y.1 (1 : Int), ()) ∧ Nat.le (Nat.succ (sameMsgsMu l m (pAdd IntKind.i64 y.1 (1 : Int), ()))) (sameMsgsMu l m y) else (Bool.true, ()) = (sameMsgsF l m, ())
set_option maxRecDepth 100000 in
theorem sameMsgs_meets  (h : ∀ (l : (List MsgD)) (m : (List MsgD)), (∀ p ∈ sameMsgs_p ⟨(l, m, ()), ()⟩, p) → sameMsgs_VC l m) : Mt 25 csameMsgs :=
  meets_vc (E := envOf Tryd.prog [] eqsCuV) (envOf_ok (fun p hp => by cases hp) (by kernel_rfl)) sameMsgs_S (fun x => fun ky9 st9 => look [(4, (⟨[.slot 5 false tI], sameMsgsInv x.1.1 x.1.2.1, sameMsgsMu x.1.1 x.1.2.1⟩ : Ann))] ky9) Tryd.func25 (by kernel_rfl) (by kernel_rfl) sameMsgs_p [] [.slot 0 false .bool] sameMsgs_f (fun x => sameMsgs_VC x.1.1 x.1.2.1) (fun x => by kernel_rfl) (fun x hp => h x.1.1 x.1.2.1 hp)

def sameRecord_VC (xk : Int) (xs : Int) (xn : Int) (xy : Int) (xv : Int) (xq : Int) (xw : Bool) (xl : (List ND)) (zk : Int) (zs : Int) (zn : Int) (zy : Int) (zv : Int) (zq : Int) (zw : Bool) (zl : (List ND)) : Prop :=
  bif pEq xk zk then bif pAndB (pEq xs zs) (pEq xn zn) then bif pEq xy zy then bif pEq xv zv then bif pEq xq zq then bif pBeq xw zw then Nat.le (Nat.succ (pLen xl)) 4611686018427387904 ∧ (sameIntsF xl zl, ()) = (sameRecF (xk, xs, xn, xy, xv,
 xq, xw, xl, ()) (zk, zs, zn, zy, zv, zq, zw, zl, ()), ()) else (Bool.false, ()) = (sameRecF (xk, xs, xn, xy, xv, xq, xw, xl, ()) (zk, zs, zn, zy, zv, zq, zw, zl, ()), ()) else (Bool.false, ()) = (sameRecF (xk, xs, xn, xy, xv, xq, xw, xl,
 ()) (zk, zs, zn, zy, zv, zq, zw, zl, ()), ()) else (Bool.false, ()) = (sameRecF (xk, xs, xn, xy, xv, xq, xw, xl, ()) (zk, zs, zn, zy, zv, zq, zw, zl, ()), ()) else (Bool.false, ()) = (sameRecF (xk, xs, xn, xy, xv, xq, xw, xl, ()) (zk, zs,
 zn, zy, zv, zq, zw, zl, ()), ()) else (Bool.false, ()) = (sameRecF (xk, xs, xn, xy, xv, xq, xw, xl, ()) (zk, zs, zn, zy, zv, zq, zw, zl, ()), ()) else (Bool.false, ()) = (sameRecF (xk, xs, xn, xy, xv, xq, xw, xl, ()) (zk, zs, zn, zy, zv,
 zq, zw, zl, ()), ())
set_option maxRecDepth 100000 in
theorem sameRecord_meets (hsameInts : Mt 29 csameInts) (h : ∀ (xk : Int) (xs : Int) (xn : Int) (xy : Int) (xv : Int) (xq : Int) (xw : Bool) (xl : (List ND)) (zk : Int) (zs : Int) (zn : Int) (zy : Int) (zv : Int) (zq : Int) (zw : Bool) (zl : (List ND)), (∀ p ∈ sameRecord_p ⟨((xk, xs, xn, xy, xv, xq, xw, xl, ()), (zk, zs, zn, zy, zv, zq, zw, zl, ()), ()), ()⟩, p) → sameRecord_VC xk xs xn xy xv xq xw xl zk zs zn zy zv zq zw zl) : Mt 56 csameRecord :=
  meets_vc (E := envOf Tryd.prog [(29, (false, csameInts))] eqsCuV) (envOf_ok (fun p hp => (by simp only [List.mem_cons, List.not_mem_nil, or_false] at hp; rcases hp with rfl; exact hsameInts)) (by kernel_rfl)) sameRecord_S (fun x => fun ky9 st9 => look [] ky9) Tryd.func56 (by kernel_rfl) (by kernel_rfl) sameRecord_p [] [.slot 0 false .bool] sameRecord_f (fun x => sameRecord_VC x.1.1.1 x.1.1.2.1 x.1.1.2.2.1 x.1.1.2.2.2.1 x.1.1.2.2.2.2.1 x.1.1.2.2.2.2.2.1 x.1.1.2.2.2.2.2.2.1 x.1.1.2.2.2.2.2.2.2.1 x.1.2.1.1 x.1.2.1.2.1 x.1.2.1.2.2.1 x.1.2.1.2.2.2.1 x.1.2.1.2.2.2.2.1 x.1.2.1.2.2.2.2.2.1 x.1.2.1.2.2.2.2.2.2.1 x.1.2.1.2.2.2.2.2.2.2.1) (fun x => by kernel_rfl) (fun x hp => h x.1.1.1 x.1.1.2.1 x.1.1.2.2.1 x.1.1.2.2.2.1 x.1.1.2.2.2.2.1 x.1.1.2.2.2.2.2.1 x.1.1.2.2.2.2.2.2.1 x.1.1.2.2.2.2.2.2.2.1 x.1.2.1.1 x.1.2.1.2.1 x.1.2.1.2.2.1 x.1.2.1.2.2.2.1 x.1.2.1.2.2.2.2.1 x.1.2.1.2.2.2.2.2.1 x.1.2.1.2.2.2.2.2.2.1 x.1.2.1.2.2.2.2.2.2.2.1 hp)

def sameRecords_VC (l : (List RecD)) (m : (List RecD)) : Prop :=
  bif pNe (pInt (pLen l)) (pInt (pLen m)) then (Bool.false, ()) = (sameRecsF l m, ()) else sameRecordsInv l m ((0 : Int), ()) ∧ ∀ (y : kden Bool.false tI × PUnit), sameRecordsInv l m y → bif pLt y.1 (pInt (pLen l)) then pIn y.1 (pLen l) ∧ pIn
 y.1 (pLen m) ∧ Nat.le (Nat.succ (pLen (pGet tyRec l (pNat y.1)).2.2.2.2.2.2.2.1)) 4611686018427387904 ∧ bif pNot (sameRecF (pGet tyRec l (pNat y.1)) (pGet tyRec m (pNat y.1))) then (Bool.false, ()) = (sameRecsF l m, ()) else sameRecordsInv
 l m (pAdd IntKind.i64 y.1 (1 : Int), ()) ∧ Nat.le (Nat.succ (sameRecordsMu l m (pAdd IntKind.i64 y.1 (1 : Int), ()))) (sameRecordsMu l m y) else (Bool.true, ()) = (sameRecsF l m, ())
set_option maxRecDepth 100000 in
theorem sameRecords_meets (hsameRecord : Mt 56 csameRecord) (h : ∀ (l : (List RecD)) (m : (List RecD)), (∀ p ∈ sameRecords_p ⟨(l, m, ()), ()⟩, p) → sameRecords_VC l m) : Mt 26 csameRecords :=
  meets_vc (E := envOf Tryd.prog [(56, (false, csameRecord))] eqsCuV) (envOf_ok (fun p hp => (by simp only [List.mem_cons, List.not_mem_nil, or_false] at hp; rcases hp with rfl; exact hsameRecord)) (by kernel_rfl)) sameRecords_S (fun x => fun ky9 st9 => look [(4, (⟨[.slot 5 false tI], sameRecordsInv x.1.1 x.1.2.1, sameRecordsMu x.1.1 x.1.2.1⟩ : Ann))] ky9) Tryd.func26 (by kernel_rfl) (by kernel_rfl) sameRecords_p [] [.slot 0 false .bool] sameRecords_f (fun x => sameRecords_VC x.1.1 x.1.2.1) (fun x => by kernel_rfl) (fun x hp => h x.1.1 x.1.2.1 hp)

def sameReps_VC (l : (List RepD)) (m : (List RepD)) : Prop :=
  bif pNe (pInt (pLen l)) (pInt (pLen m)) then (Bool.false, ()) = (sameRepsF l m, ()) else sameRepsInv l m ((0 : Int), ()) ∧ ∀ (y : kden Bool.false tI × PUnit), sameRepsInv l m y → bif pLt y.1 (pInt (pLen l)) then pIn y.1 (pLen l) ∧ pIn y.1
 (pLen m) ∧ bif pNot (pAndB (pEq (pGet tyRep l (pNat y.1)).1 (pGet tyRep m (pNat y.1)).1) (pAndB (pEq (pGet tyRep l (pNat y.1)).2.1 (pGet tyRep m (pNat y.1)).2.1) (pAndB (pEq (pGet tyRep l (pNat y.1)).2.2.1 (pGet tyRep m (pNat y.1)).2.2.1)
 (pAndB (pEq (pGet tyRep l (pNat y.1)).2.2.2.1 (pGet tyRep m (pNat y.1)).2.2.2.1) (pAndB (pEq (pGet tyRep l (pNat y.1)).2.2.2.2.1 (pGet tyRep m (pNat y.1)).2.2.2.2.1) (pEq (pGet tyRep l (pNat y.1)).2.2.2.2.2.1 (pGet tyRep m (pNat
 y.1)).2.2.2.2.2.1)))))) then (Bool.false, ()) = (sameRepsF l m, ()) else sameRepsInv l m (pAdd IntKind.i64 y.1 (1 : Int), ()) ∧ Nat.le (Nat.succ (sameRepsMu l m (pAdd IntKind.i64 y.1 (1 : Int), ()))) (sameRepsMu l m y) else (Bool.true, ())
 = (sameRepsF l m, ())
set_option maxRecDepth 100000 in
theorem sameReps_meets  (h : ∀ (l : (List RepD)) (m : (List RepD)), (∀ p ∈ sameReps_p ⟨(l, m, ()), ()⟩, p) → sameReps_VC l m) : Mt 27 csameReps :=
  meets_vc (E := envOf Tryd.prog [] eqsCuV) (envOf_ok (fun p hp => by cases hp) (by kernel_rfl)) sameReps_S (fun x => fun ky9 st9 => look [(4, (⟨[.slot 5 false tI], sameRepsInv x.1.1 x.1.2.1, sameRepsMu x.1.1 x.1.2.1⟩ : Ann))] ky9) Tryd.func27 (by kernel_rfl) (by kernel_rfl) sameReps_p [] [.slot 0 false .bool] sameReps_f (fun x => sameReps_VC x.1.1 x.1.2.1) (fun x => by kernel_rfl) (fun x hp => h x.1.1 x.1.2.1 hp)

def sameTurn_VC (an : Int) (aj : (List JobD)) (am : (List MsgD)) (ar : (List RecD)) (ap : (List RepD)) (au : Int) (ac : Int) (bn : Int) (bj : (List JobD)) (bm : (List MsgD)) (br : (List RecD)) (bp : (List RepD)) (bu : Int) (bc : Int) : Prop :=
  bif pEq au bu then bif pEq ac bc then Nat.le (Nat.succ (pLen aj)) 4611686018427387904 ∧ (∀ (q : Int × Int × List (Bool × Int × Int × Int × Int × Int × Bool × Bool × PUnit) × List (Int × PUnit) × Int × Int × PUnit), List.Mem q aj → Nat.le
 (Nat.succ (pLen q.2.2.1)) 4611686018427387904 ∧ Nat.le (Nat.succ (pLen q.2.2.2.1)) 4611686018427387904) ∧ bif sameDeskF (an, aj, ()) (bn, bj, ()) then Nat.le (Nat.succ (pLen am)) 4611686018427387904 ∧ bif sameMsgsF am bm then Nat.le
 (Nat.succ (pLen ar)) 4611686018427387904 ∧ (∀ (q : Int × Int × Int × Int × Int × Int × Bool × List (Int × PUnit) × PUnit), List.Mem q ar → Nat.le (Nat.succ (pLen q.2.2.2.2.2.2.2.1)) 4611686018427387904) ∧ bif sameRecsF ar br then Nat.le
 (Nat.succ (pLen ap)) 4611686018427387904 ∧ (sameRepsF ap bp, ()) = (sameTurnF (an, aj, am, ar, ap, au, ac, ()) (bn, bj, bm, br, bp, bu, bc, ()), ()) else (Bool.false, ()) = (sameTurnF (an, aj, am, ar, ap, au, ac, ()) (bn, bj, bm, br, bp,
 bu, bc, ()), ()) else (Bool.false, ()) = (sameTurnF (an, aj, am, ar, ap, au, ac, ()) (bn, bj, bm, br, bp, bu, bc, ()), ()) else (Bool.false, ()) = (sameTurnF (an, aj, am, ar, ap, au, ac, ()) (bn, bj, bm, br, bp, bu, bc, ()), ()) else
 (Bool.false, ()) = (sameTurnF (an, aj, am, ar, ap, au, ac, ()) (bn, bj, bm, br, bp, bu, bc, ()), ()) else (Bool.false, ()) = (sameTurnF (an, aj, am, ar, ap, au, ac, ()) (bn, bj, bm, br, bp, bu, bc, ()), ())
set_option maxRecDepth 100000 in
theorem sameTurn_meets (hsameDesk : Mt 8 csameDesk) (hsameMsgs : Mt 25 csameMsgs) (hsameRecords : Mt 26 csameRecords) (hsameReps : Mt 27 csameReps) (h : ∀ (an : Int) (aj : (List JobD)) (am : (List MsgD)) (ar : (List RecD)) (ap : (List RepD)) (au : Int) (ac : Int) (bn : Int) (bj : (List JobD)) (bm : (List MsgD)) (br : (List RecD)) (bp : (List RepD)) (bu : Int) (bc : Int), (∀ p ∈ sameTurn_p ⟨((an, aj, am, ar, ap, au, ac, ()), (bn, bj, bm, br, bp, bu, bc, ()), ()), ()⟩, p) → sameTurn_VC an aj am ar ap au ac bn bj bm br bp bu bc) : Mt 7 csameTurn :=
  meets_vc (E := envOf Tryd.prog [(8, (false, csameDesk)), (25, (false, csameMsgs)), (26, (false, csameRecords)), (27, (false, csameReps))] eqsCuV) (envOf_ok (fun p hp => (by simp only [List.mem_cons, List.not_mem_nil, or_false] at hp; rcases hp with rfl | rfl | rfl | rfl; exact hsameDesk; exact hsameMsgs; exact hsameRecords; exact hsameReps)) (by kernel_rfl)) sameTurn_S (fun x => fun ky9 st9 => look [] ky9) Tryd.func7 (by kernel_rfl) (by kernel_rfl) sameTurn_p [] [.slot 0 false .bool] sameTurn_f (fun x => sameTurn_VC x.1.1.1 x.1.1.2.1 x.1.1.2.2.1 x.1.1.2.2.2.1 x.1.1.2.2.2.2.1 x.1.1.2.2.2.2.2.1 x.1.1.2.2.2.2.2.2.1 x.1.2.1.1 x.1.2.1.2.1 x.1.2.1.2.2.1 x.1.2.1.2.2.2.1 x.1.2.1.2.2.2.2.1 x.1.2.1.2.2.2.2.2.1 x.1.2.1.2.2.2.2.2.2.1) (fun x => by kernel_rfl) (fun x hp => h x.1.1.1 x.1.1.2.1 x.1.1.2.2.1 x.1.1.2.2.2.1 x.1.1.2.2.2.2.1 x.1.1.2.2.2.2.2.1 x.1.1.2.2.2.2.2.2.1 x.1.2.1.1 x.1.2.1.2.1 x.1.2.1.2.2.1 x.1.2.1.2.2.2.1 x.1.2.1.2.2.2.2.1 x.1.2.1.2.2.2.2.2.1 x.1.2.1.2.2.2.2.2.2.1 hp)


end Go.Proofs.YtnkcmkegjckncaaDoor

/- slices.Delete at []api.Job: its walk. No condition. -/
namespace Go.Proofs.YtnkcmkegjckncaaDoor
open Go.RowKit Go.Lib

abbrev delJZ : Value := .agg #[.int .i64 0, .int .i64 0, .slice none 0 0, .slice none 0 0, .int .i64 0, .int .i64 0]
theorem delJI : (Tryd.prog.info? 47).map (fun i => (i.zero, i.size, i.bytes)) = some (some delJZ, 6, 80) := by kernel_rfl
theorem delJV : ∀ w, (zeroValue 47).run Tryd.prog w = .ok delJZ w := fun w => by
  obtain ⟨i0, hi0, hz0, hz1, hz2⟩ := info_parts delJI
  unfold zeroValue typeInfo
  simp [hi0, hz0]

set_option maxHeartbeats 4000000 in
set_option maxRecDepth 100000 in
theorem delJ_shift (b n c i j : Nat) (cs : List Value) (w : World) (hij : j = i + 1) (hj : j ≤ n) (hnc : n ≤ c) (hc63 : c ≤ 9223372036854775807) (hcl : cs.length = n * 6)
    (hcs : ∀ (q : Nat) v, cs[q]? = some v → w.cell? ⟨b, q, none⟩ = some v) (hfz : ∀ q, q < n * 6 → w.frozen? ⟨b, q, none⟩ = false) (h1c : ∀ v ∈ cs, v.oneCell' = true) :
    Calls Tryd.prog 67 #[.slice (some ⟨b, 0, none⟩) n c, .int .i64 (i : Int), .int .i64 (j : Int)] w fun e w' =>
      e = .returned (.slice (some ⟨b, 0, none⟩) (n - 1) c) ∧ w' = (w.drew.setCells b (i * 6) (cs.drop (j * 6))).setCells b ((n - 1) * 6) delJZ.cells.toList := by
  obtain ⟨i0, hi0, hz0, hz1, hz2⟩ := info_parts delJI
  have hlt : i < j := by omega
  have hcell : ∀ q, q < n * 6 → (w.cell? ⟨b, q, none⟩).isSome = true := fun q hq => by rw [hcs q _ (List.getElem?_eq_getElem (by omega))]; rfl
  obtain ⟨news, hnews⟩ : ∃ news, news = cs.drop (j * 6) := ⟨_, rfl⟩
  have hlen : news.length = (n - j) * 6 := by rw [hnews, List.length_drop, hcl, ← Nat.sub_mul]
  obtain ⟨A, hA, hsrc⟩ : ∃ A : Addr, (if c = j then some (⟨b, 0, none⟩ : Addr) else some ⟨b, j * 6, none⟩) = some A ∧ Hid (∀ t u, news[t]? = some u → w.drew.cell? (A.add t) = some u) := by
    by_cases h : c = j
    · refine ⟨⟨b, 0, none⟩, by simp [h], fun t u hu => ?_⟩
      have h0 : news.length = 0 := by rw [hlen, show n - j = 0 by omega, Nat.zero_mul]
      rw [List.length_eq_zero_iff.1 h0] at hu
      simp at hu
    · refine ⟨⟨b, j * 6, none⟩, by simp [h], fun t u hu => ?_⟩
      rw [Addr.add_lit]
      rw [hnews, List.getElem?_drop] at hu
      exact hcs _ _ hu
  have s1 : Hid (news.length = (n - j) * 6) := hlen
  have s2 : Hid (∀ u ∈ news, u.oneCell' = true) := by
    intro u hu
    rw [hnews] at hu
    exact h1c u (List.mem_of_mem_drop hu)
  have hin : i * 6 + (n - j) * 6 ≤ n * 6 := by rw [← Nat.add_mul]; exact Nat.mul_le_mul_right _ (by omega)
  have s3 : Hid (∀ t, t < news.length → (w.drew.cell? ⟨b, 0 + i * 6 + t, none⟩).isSome = true ∧ w.drew.frozen? ⟨b, 0 + i * 6 + t, none⟩ = false) := by
    intro t ht
    rw [hlen] at ht
    rw [Nat.zero_add]
    exact ⟨hcell _ (by omega), hfz _ (by omega)⟩
  obtain ⟨W1, hW1⟩ : ∃ W1, W1 = w.drew.setCells b (0 + i * 6) news := ⟨_, rfl⟩
  have hlo : (i + (n - j)) * 6 + 6 ≤ n * 6 := by
    have h := Nat.mul_le_mul_right 6 (show i + (n - j) + 1 ≤ n by omega)
    rw [Nat.add_mul (i + (n - j)) 1, Nat.one_mul] at h; exact h
  have hcl2 : ∀ ty, (Builtin.clear_ #[25] ty #[.slice (some ⟨b, (i + (n - j)) * 6, none⟩) (n - (i + (n - j))) (c - (i + (n - j)))]).run Tryd.prog W1 = .ok (.tuple #[]) (W1.setCells b ((i + (n - j)) * 6) delJZ.cells.toList) :=
    fun ty => run_clear_K W1 _ _ ty delJZ Tryd.underlying25 delJV (by decide) b _ _ _ (by omega)
      (fun t ht => by
        have ht : t < 6 := ht
        rw [hW1]
        exact isSome_setCells _ _ _ _ (fun q hq => by rw [hlen] at hq; rw [Nat.zero_add]; exact hcell _ (by omega)) _ (hcell _ (by omega)))
      (fun t ht => by
        have ht : t < 6 := ht
        rw [hW1, World.frozen?_setCells]
        exact hfz _ (by omega))
  have hW : Hid (W1 = w.drew.setCells b (0 + i * 6) news) := hW1
  have hX : Hid (W1 = w.drew.setCells b (i * 6) (cs.drop (j * 6))) := by rw [hW1, hnews, Nat.zero_add]; rfl
  have hic : i ≤ c := by omega
  have hjc : j ≤ c := by omega
  have hloc : ¬ (c = i + (n - j)) := by omega
  have mixed : Tryd.prog.follows Departure.mixedOrders = true := by kernel_rfl
  have heq : ¬ ((i : Int) = (j : Int)) := by omega
  have hn1 : Hid (n - 1 = i + (n - j)) := by show n - 1 = i + (n - j); omega
  clear hW1 hnews hlen hcell hcs hfz h1c hij
  go_enter Tryd.func67, Tryd.ntmps67
  go_wp2_with fail
  go_region_law_o (refine step_append_room rfl (.tmp 22) (.tmp 25) 25 rfl 47 i0 6 Tryd.underlying25 hi0 hz1 b 0 i c (by simp [Act.eval, Act.put]) A (n - j) (c - j) news (by simp [Act.eval, Act.put]) s1.out hsrc.out s2.out (by omega) s3.out ?_; rw [← hW.out])
  go_wp2
  go_ret
  refine ⟨by rw [hn1.out]; rfl, ?_⟩
  rw [hn1.out, ← hX.out]; rfl

theorem delJ_walk : DelWalk Tryd.prog 67 6 :=
  delWalk_of (zs := delJZ.cells.toList) rfl delJ_shift


end Go.Proofs.YtnkcmkegjckncaaDoor

/- Sorted numbers; what is the same: the functions meet their contracts. No condition. -/
namespace Go.Proofs.YtnkcmkegjckncaaDoor
open Go.RowKit

theorem len8_len : pStrLen len8 = 256 := by decide +kernel
theorem len64_ok : Meets Tryd.prog (fun _ => none) 87 clen64 := len64_meets fun a hp => by
  have h1 : a < 16 := of_decide_eq_true (hp (pLt a 16 = true) (by simp))
  have h0 : 0 ≤ a := of_decide_eq_true (hp (pLe 0 a = true) (by simp))
  clear hp
  unfold len64_VC len64_v0 len64_v1 len64_v2
  rw [bif_false (show pGe a 4294967296 = false from decide_eq_false (by omega)), bif_false (show pGe a 65536 = false from decide_eq_false (by omega)), bif_false (show pGe a 256 = false from decide_eq_false (by omega))]
  refine ⟨?_, rfl⟩
  show pIn _ (pStrLen len8)
  rw [len8_len]
  unfold pWrap
  have : IntKind.u8.wrap a = a := by
    have : a = 0 ∨ a = 1 ∨ a = 2 ∨ a = 3 ∨ a = 4 ∨ a = 5 ∨ a = 6 ∨ a = 7 ∨ a = 8 ∨ a = 9 ∨ a = 10 ∨ a = 11 ∨ a = 12 ∨ a = 13 ∨ a = 14 ∨ a = 15 := by omega
    rcases this with e | e | e | e | e | e | e | e | e | e | e | e | e | e | e | e <;> subst e <;> rfl
  rw [this]
  exact ⟨h0, by omega⟩
theorem blen_ok : Meets Tryd.prog (fun _ => none) 76 cblen := blen_meets len64_ok fun a hp => ⟨hp _ (by simp), hp _ (by simp), rfl⟩
theorem pdq_ok : Meets Tryd.prog (fun _ => none) 75 cpdq := pdq_meets insort_ok fun a b e l hp => by
  have ha : a = 0 := hp (a = 0) (by simp)
  have hb : b = pInt (pLen l) := hp (b = pInt (pLen l)) (by simp)
  have hl : l.length < 12 := hp (pLen l < 12) (by simp)
  clear hp
  unfold pdq_VC
  refine ⟨rfl, fun y hy => ?_⟩
  unfold pdqInv at hy
  subst hy ha hb
  rw [bif_true]
  · exact ⟨rfl, rfl, show l.length < 1000 by omega, sortN_len l, rfl⟩
  · unfold pInt pLen
    dsimp only
    rw [pSubI_in (by omega)]
    exact decide_eq_true (by omega)
theorem sort_ok : Meets Tryd.prog (fun _ => none) 72 csort := sort_meets pdq_ok blen_ok fun l hp => by
  have hl : l.length < 12 := hp (pLen l < 12) (by simp)
  clear hp
  have e : pWrap .u64 (pInt (pLen l)) = (l.length : Int) := by
    unfold pWrap pInt pLen
    generalize l.length = n at *
    have : n = 0 ∨ n = 1 ∨ n = 2 ∨ n = 3 ∨ n = 4 ∨ n = 5 ∨ n = 6 ∨ n = 7 ∨ n = 8 ∨ n = 9 ∨ n = 10 ∨ n = 11 := by omega
    rcases this with e | e | e | e | e | e | e | e | e | e | e | e <;> subst e <;> rfl
  unfold sort_VC
  rw [e]
  exact ⟨decide_eq_true (by omega), decide_eq_true (by omega), rfl, rfl, hl, sortN_len l, rfl⟩
theorem delJ_ok : Meets Tryd.prog (fun _ => none) 67 cdelJ :=
  meets_del (t := tyJob) Tryd.func67 (by kernel_rfl) (by kernel_rfl) (by decide) (fun _ => rfl) rfl delJ_walk

theorem sameTasks_ok : Meets Tryd.prog (fun _ => none) 28 csameTasks := sameTasks_meets fun l m hp => by
  have hl : l.length < 4611686018427387904 := hp _ List.mem_cons_self
  unfold sameTasks_VC
  refine bif_ok (fun h => leafF fun q => ?_) fun h => ?_
  · unfold sameTasksF at q; simp only [Bool.and_eq_true, decide_eq_true_eq] at q
    have : pNe (pInt l.length) (pInt m.length) = true := h
    rw [q.1] at this; simp [pNe] at this
  have hn : l.length = m.length := by
    have : pNe (pInt l.length) (pInt m.length) = false := h
    simp only [pNe, pInt, bne_eq_false_iff_eq] at this; omega
  refine ⟨⟨hn, UpInv.start⟩, fun y ⟨_, hy⟩ => ?_⟩
  rcases UpInv.round hl hy with ⟨k, rfl, hk, hb, -, hF, hT⟩ | ⟨rfl, hT⟩
  · have hk2 : k < m.length := by omega
    rw [bif_true (by simp [pLt_coe, pLen, hk]), pNat_coe]
    refine ⟨pIn_coe.2 hk, pIn_coe.2 hk2, bif_ok (fun h => leafF fun q => ?_) fun h => ?_⟩
    · have h' : eqTaskAt l m k = false := by have h2 : (!eqTaskAt l m k) = true := h; simpa using h2
      unfold sameTasksF at q
      rw [hF h'] at q; simp at q
    · have h' : eqTaskAt l m k = true := by have h2 : (!eqTaskAt l m k) = false := h; simpa using h2
      exact ⟨⟨hn, (hT h').1⟩, (hT h').2⟩
  · rw [bif_false (by simp [pLt_coe, pLen])]
    refine leafT fun q => ?_
    unfold sameTasksF at q
    rw [hT, hn] at q; simp at q
theorem sameInts_ok : Meets Tryd.prog (fun _ => none) 29 csameInts := sameInts_meets fun l m hp => by
  have hl : l.length < 4611686018427387904 := hp (pLen l < 4611686018427387904) (by simp)
  unfold sameInts_VC
  refine bif_ok (fun h => leafF fun q => ?_) fun h => ?_
  · unfold sameIntsF at q; simp only [Bool.and_eq_true, decide_eq_true_eq] at q
    have : pNe (pInt l.length) (pInt m.length) = true := h
    rw [q.1] at this; simp [pNe] at this
  have hn : l.length = m.length := by
    have : pNe (pInt l.length) (pInt m.length) = false := h
    simp only [pNe, pInt, bne_eq_false_iff_eq] at this; omega
  refine ⟨⟨hn, UpInv.start⟩, fun y ⟨_, hy⟩ => ?_⟩
  rcases UpInv.round hl hy with ⟨k, rfl, hk, hb, -, hF, hT⟩ | ⟨rfl, hT⟩
  · have hk2 : k < m.length := by omega
    rw [bif_true (by simp [pLt_coe, pLen, hk]), pNat_coe]
    refine ⟨pIn_coe.2 hk, pIn_coe.2 hk2, bif_ok (fun h => leafF fun q => ?_) fun h => ?_⟩
    · have h' : eqNAt l m k = false := by have h2 : (!eqNAt l m k) = true := h; simpa using h2
      unfold sameIntsF at q
      rw [hF h'] at q; simp at q
    · have h' : eqNAt l m k = true := by have h2 : (!eqNAt l m k) = false := h; simpa using h2
      exact ⟨⟨hn, (hT h').1⟩, (hT h').2⟩
  · rw [bif_false (by simp [pLt_coe, pLen])]
    refine leafT fun q => ?_
    unfold sameIntsF at q
    rw [hT] at q; simp [hn] at q

theorem sameDesk_ok : Meets Tryd.prog (fun _ => none) 8 csameDesk := sameDesk_meets sameTasks_ok sameInts_ok fun an aj bn bj hp => by
  have hl : aj.length < 4611686018427387904 := hp (pLen aj < 4611686018427387904) (by simp)
  have hq : ∀ q ∈ aj, pLen q.2.2.1 < 4611686018427387904 ∧ pLen q.2.2.2.1 < 4611686018427387904 := hp (∀ q ∈ aj, pLen q.2.2.1 < 4611686018427387904 ∧ pLen q.2.2.2.1 < 4611686018427387904) (by simp)
  clear hp
  unfold sameDesk_VC
  refine bif_ok (fun h => leafF fun q => ?_) fun h0 => bif_ok (fun h => leafF fun q => ?_) fun h => ?_
  · unfold sameDeskF at q
    simp only [Bool.and_eq_true] at q
    have h2 : pEq an bn = true := q.1
    simp only [pNe, pEq, bne_iff_ne, beq_iff_eq] at h h2
    exact h h2
  · unfold sameDeskF at q; simp only [Bool.and_eq_true, decide_eq_true_eq] at q
    have : pNe (pInt aj.length) (pInt bj.length) = true := h
    rw [q.2.1] at this; simp [pNe] at this
  have hn : aj.length = bj.length := by
    have : pNe (pInt aj.length) (pInt bj.length) = false := h
    simp only [pNe, pInt, bne_eq_false_iff_eq] at this; omega
  have h0' : pEq an bn = true := by simpa [pNe, pEq] using h0
  refine ⟨⟨hn, UpInv.start⟩, fun y ⟨_, hy⟩ => ?_⟩
  rcases UpInv.round hl hy with ⟨k, rfl, hk, hb, -, hF, hT⟩ | ⟨rfl, hT⟩
  · have hk2 : k < bj.length := by omega
    rw [bif_true (by simp [pLt_coe, pLen, hk]), pNat_coe]
    have hin := hq (pGet tyJob aj k) (by rw [pGet_lt (t := tyJob) hk]; exact List.getElem_mem hk)
    have no : eqJobAt aj bj k = false → (false, ()) = (sameDeskF (an, aj, ()) (bn, bj, ()), ()) := fun e => leafF fun q => by
      unfold sameDeskF at q
      simp only [Bool.and_eq_true] at q
      have := q.2.2
      rw [hF e] at this; cases this
    have ej : eqJobAt aj bj k = sameJobF (pGet tyJob aj k) (pGet tyJob bj k) := rfl
    refine ⟨pIn_coe.2 hk, pIn_coe.2 hk2, bif_ok (fun a => no (by rw [ej]; unfold sameJobF; rw [a]; rfl)) fun a => bif_ok (fun b => no (by rw [ej]; unfold sameJobF; rw [a, b]; rfl)) fun b =>
      bif_ok (fun c => no (by rw [ej]; unfold sameJobF; rw [a, b, c]; rfl)) fun c => bif_ok (fun d => no (by rw [ej]; unfold sameJobF; rw [a, b, c, d]; rfl)) fun d =>
      ⟨hin.1, bif_ok (fun e => no (by rw [ej]; unfold sameJobF; rw [a, b, c, d, e]; rfl)) fun e => ⟨hin.2, bif_ok (fun f => no (by rw [ej]; unfold sameJobF; rw [a, b, c, d, e, f]; rfl)) fun f => ?_⟩⟩⟩
    have hT' := hT (show eqJobAt aj bj k = true by rw [ej]; unfold sameJobF; rw [a, b, c, d, e, f]; rfl)
    exact ⟨⟨hn, hT'.1⟩, hT'.2⟩
  · rw [bif_false (by simp [pLt_coe, pLen])]
    refine leafT fun q => ?_
    unfold sameDeskF at q
    have q' : (pEq an bn && (decide (aj.length = bj.length) && allUpto (eqJobAt aj bj) aj.length)) = false := q
    rw [h0', hT, hn] at q'; simp at q'

theorem sameMsgs_ok : Meets Tryd.prog (fun _ => none) 25 csameMsgs := sameMsgs_meets fun l m hp => by
  have hl : l.length < 4611686018427387904 := hp _ List.mem_cons_self
  unfold sameMsgs_VC
  refine bif_ok (fun h => leafF fun q => ?_) fun h => ?_
  · unfold sameMsgsF at q; simp only [Bool.and_eq_true, decide_eq_true_eq] at q
    have : pNe (pInt l.length) (pInt m.length) = true := h
    rw [q.1] at this; simp [pNe] at this
  have hn : l.length = m.length := by
    have : pNe (pInt l.length) (pInt m.length) = false := h
    simp only [pNe, pInt, bne_eq_false_iff_eq] at this; omega
  refine ⟨⟨hn, UpInv.start⟩, fun y ⟨_, hy⟩ => ?_⟩
  rcases UpInv.round hl hy with ⟨k, rfl, hk, hb, -, hF, hT⟩ | ⟨rfl, hT⟩
  · have hk2 : k < m.length := by omega
    rw [bif_true (by simp [pLt_coe, pLen, hk]), pNat_coe]
    refine ⟨pIn_coe.2 hk, pIn_coe.2 hk2, bif_ok (fun h => leafF fun q => ?_) fun h => ?_⟩
    · have h' : eqMsgAt l m k = false := by have h2 : (!eqMsgAt l m k) = true := h; simpa using h2
      unfold sameMsgsF at q
      rw [hF h'] at q; simp at q
    · have h' : eqMsgAt l m k = true := by have h2 : (!eqMsgAt l m k) = false := h; simpa using h2
      exact ⟨⟨hn, (hT h').1⟩, (hT h').2⟩
  · rw [bif_false (by simp [pLt_coe, pLen])]
    refine leafT fun q => ?_
    unfold sameMsgsF at q
    rw [hT] at q; simp [hn] at q
theorem sameRecord_ok : Meets Tryd.prog (fun _ => none) 56 csameRecord := sameRecord_meets sameInts_ok fun xk xs xn xy xv xq xw xl zk zs zn zy zv zq zw zl hp => by
  have hl : xl.length < 4611686018427387904 := hp (pLen xl < 4611686018427387904) (by simp)
  clear hp
  unfold sameRecord_VC sameRecF
  (repeat' (first | refine bif_ok (fun h => ?_) (fun h => ?_) | with_reducible refine And.intro ?_ ?_ | fail))
  all_goals first
    | exact hl
    | (refine leafE ?_; simp only [pAndB] at *; simp [*])
theorem sameRecords_ok : Meets Tryd.prog (fun _ => none) 26 csameRecords := sameRecords_meets sameRecord_ok fun l m hp => by
  have hl : l.length < 4611686018427387904 := hp (pLen l < 4611686018427387904) (by simp)
  have hq := hp (∀ q ∈ l, pLen q.2.2.2.2.2.2.2.1 < 4611686018427387904) (by simp)
  unfold sameRecords_VC
  refine bif_ok (fun h => leafF fun q => ?_) fun h => ?_
  · unfold sameRecsF at q; simp only [Bool.and_eq_true, decide_eq_true_eq] at q
    have : pNe (pInt l.length) (pInt m.length) = true := h
    rw [q.1] at this; simp [pNe] at this
  have hn : l.length = m.length := by
    have : pNe (pInt l.length) (pInt m.length) = false := h
    simp only [pNe, pInt, bne_eq_false_iff_eq] at this; omega
  refine ⟨⟨hn, UpInv.start⟩, fun y ⟨_, hy⟩ => ?_⟩
  rcases UpInv.round hl hy with ⟨k, rfl, hk, hb, -, hF, hT⟩ | ⟨rfl, hT⟩
  · have hk2 : k < m.length := by omega
    rw [bif_true (by simp [pLt_coe, pLen, hk]), pNat_coe]
    refine ⟨pIn_coe.2 hk, pIn_coe.2 hk2, hq _ (by rw [pGet_lt hk]; exact List.getElem_mem hk), bif_ok (fun h => leafF fun q => ?_) fun h => ?_⟩
    · have h' : eqRecAt l m k = false := by have h2 : (!eqRecAt l m k) = true := h; simpa using h2
      unfold sameRecsF at q
      rw [hF h'] at q; simp at q
    · have h' : eqRecAt l m k = true := by have h2 : (!eqRecAt l m k) = false := h; simpa using h2
      exact ⟨⟨hn, (hT h').1⟩, (hT h').2⟩
  · rw [bif_false (by simp [pLt_coe, pLen])]
    refine leafT fun q => ?_
    unfold sameRecsF at q
    rw [hT] at q; simp [hn] at q
theorem sameReps_ok : Meets Tryd.prog (fun _ => none) 27 csameReps := sameReps_meets fun l m hp => by
  have hl : l.length < 4611686018427387904 := hp _ List.mem_cons_self
  unfold sameReps_VC
  refine bif_ok (fun h => leafF fun q => ?_) fun h => ?_
  · unfold sameRepsF at q; simp only [Bool.and_eq_true, decide_eq_true_eq] at q
    have : pNe (pInt l.length) (pInt m.length) = true := h
    rw [q.1] at this; simp [pNe] at this
  have hn : l.length = m.length := by
    have : pNe (pInt l.length) (pInt m.length) = false := h
    simp only [pNe, pInt, bne_eq_false_iff_eq] at this; omega
  refine ⟨⟨hn, UpInv.start⟩, fun y ⟨_, hy⟩ => ?_⟩
  rcases UpInv.round hl hy with ⟨k, rfl, hk, hb, -, hF, hT⟩ | ⟨rfl, hT⟩
  · have hk2 : k < m.length := by omega
    rw [bif_true (by simp [pLt_coe, pLen, hk]), pNat_coe]
    refine ⟨pIn_coe.2 hk, pIn_coe.2 hk2, bif_ok (fun h => leafF fun q => ?_) fun h => ?_⟩
    · have h' : eqRepAt l m k = false := by have h2 : (!eqRepAt l m k) = true := h; simpa using h2
      unfold sameRepsF at q
      rw [hF h'] at q; simp at q
    · have h' : eqRepAt l m k = true := by have h2 : (!eqRepAt l m k) = false := h; simpa using h2
      exact ⟨⟨hn, (hT h').1⟩, (hT h').2⟩
  · rw [bif_false (by simp [pLt_coe, pLen])]
    refine leafT fun q => ?_
    unfold sameRepsF at q
    rw [hT] at q; simp [hn] at q
theorem sameTurn_ok : Meets Tryd.prog (fun _ => none) 7 csameTurn := sameTurn_meets sameDesk_ok sameMsgs_ok sameRecords_ok sameReps_ok fun an aj am ar ap au ac bn bj bm br bp bu bc hp => by
  have h1 : aj.length < 4611686018427387904 := hp (pLen aj < 4611686018427387904) (by simp)
  have h2 : ∀ q ∈ aj, pLen q.2.2.1 < 4611686018427387904 ∧ pLen q.2.2.2.1 < 4611686018427387904 := hp (∀ q ∈ aj, pLen q.2.2.1 < 4611686018427387904 ∧ pLen q.2.2.2.1 < 4611686018427387904) (by simp)
  have h3 : am.length < 4611686018427387904 := hp (pLen am < 4611686018427387904) (by simp)
  have h4 : ar.length < 4611686018427387904 := hp (pLen ar < 4611686018427387904) (by simp)
  have h5 : ∀ q ∈ ar, pLen q.2.2.2.2.2.2.2.1 < 4611686018427387904 := hp (∀ q ∈ ar, pLen q.2.2.2.2.2.2.2.1 < 4611686018427387904) (by simp)
  have h6 : ap.length < 4611686018427387904 := hp (pLen ap < 4611686018427387904) (by simp)
  clear hp
  unfold sameTurn_VC sameTurnF
  (repeat' (first | refine bif_ok (fun h => ?_) (fun h => ?_) | with_reducible refine And.intro ?_ ?_ | fail))
  all_goals first
    | exact h1
    | exact h2
    | exact h3
    | exact h4
    | exact h5
    | exact h6
    | (refine leafE ?_; simp only [pAndB] at *; simp [*])


end Go.Proofs.YtnkcmkegjckncaaDoor

/- Plain words of coordinators' turns: what a client's call does. No condition. -/
namespace Go.Proofs.YtnkcmkegjckncaaDoor
open Go.RowKit

abbrev tyTurnX : Ty := .pair tI (.pair (.sl tyMsg) (.pair (.sl tyRec) (.pair (.sl tyRep) (.pair tI (.pair tI .unit)))))
abbrev tyWorkX : Ty := .pair tI (.pair (.sl tyLab) (.pair tI (.pair tI (.pair tI tyTurnX))))
abbrev TurnX := Int × List MsgD × List RecD × List RepD × Int × Int × Unit
abbrev WorkX := Int × List LabD × Int × Int × Int × TurnX
abbrev WorkK := Int × List LabD × Int × Int × Int × Int × Unit × List MsgD × List RecD × List RepD × Int × Int × Unit
abbrev TurnK := Int × Unit × List MsgD × List RecD × List RepD × Int × Int × Unit
abbrev vDeskN : List (Bool × Ty) := [(false, tI), (true, .mark [2, 3] tyJob)]
abbrev kTurnX (n : Nat) : List (Bool × Ty) := [(false, tI), (false, .mark [n] .unit), (true, tyMsg), (true, tyRec), (true, tyRep), (false, tI), (false, tI)]
abbrev kWorkX (n : Nat) : List (Bool × Ty) := [(false, tI), (false, .sl tyLab), (false, tI), (false, tI), (false, tI), (false, tI), (false, .mark [n] .unit), (true, tyMsg), (true, tyRec), (true, tyRep), (false, tI), (false, tI)]

def writeAt (l : List TaskD) (j : Nat) : Bool := (pGet tyTask l j).1
def anyWrite (l : List TaskD) : Int := idxOf (writeAt l) l.length
def keepW (w : WorkX) (ms : List MsgD) : WorkK := (w.1, w.2.1, w.2.2.1, w.2.2.2.1, w.2.2.2.2.1, w.2.2.2.2.2.1, (), ms, w.2.2.2.2.2.2.2)
def keepTn (t : TurnX) (ms : List MsgD) : TurnK := (t.1, (), ms, t.2.2)
/-- a job is committed -/
def commitW (cn l m n : Int) (dj : List JobD) (i : Nat) (j : JobD) (su : Int) : TurnD :=
  cond (pEq (pInt (handsF cn l j.2.2.1).length) 0) (n, pDel dj i, [], [], [(m, 4, j.1, 0, 0, 0, ())], su, j.1, ())
    (n, pSet dj i (j.1, 3, j.2.2.1, handsF cn l j.2.2.1, j.2.2.2.2.1, 0, ()), saysM m true j.1 (handsF cn l j.2.2.1), cond (anyUpto (writeAt j.2.2.1) j.2.2.1.length) [(3, m, j.1, 0, 0, 0, false, handsF cn l j.2.2.1, ())] [],
      [(m, 4, j.1, 0, 0, 0, ())], su, j.1, ())
/- loops -/
def idxWInv (l : List TaskD) : Int × Unit → Prop := FindInv (writeAt l) l.length
def idxWMu (l : List TaskD) : Int × Unit → Nat := UpMu l.length
def tellXInv (w : WorkX) (n : Int) (a : List ND) : Int × WorkK × Unit → Prop := StepInv (fun k => (keepW w (w.2.2.2.2.2.2.1 ++ saysM w.2.2.2.2.1 true n (a.take k)), ())) a.length
def tellXMu (_ : WorkX) (_ : Int) (a : List ND) : Int × WorkK × Unit → Nat := StepMu a.length
def kendXInv (w : WorkX) (n : Int) (a : List ND) : Int × WorkK × Unit → Prop := StepInv (fun k => (keepW w (w.2.2.2.2.2.2.1 ++ saysM w.2.2.2.2.1 false n (a.take k)), ())) a.length
def kendXMu (_ : WorkX) (_ : Int) (a : List ND) : Int × WorkK × Unit → Nat := StepMu a.length
def toldXInv (t : TurnX) (me n : Int) (a : List ND) : Int × TurnK × Unit → Prop := StepInv (fun k => (keepTn t (t.2.1 ++ saysM me true n (a.take k)), ())) a.length
def toldXMu (_ : TurnX) (_ _ : Int) (a : List ND) : Int × TurnK × Unit → Nat := StepMu a.length
def endedXInv (t : TurnX) (me n : Int) (a : List ND) : Int × TurnK × Unit → Prop := StepInv (fun k => (keepTn t (t.2.1 ++ saysM me false n (a.take k)), ())) a.length
def endedXMu (_ : TurnX) (_ _ : Int) (a : List ND) : Int × TurnK × Unit → Nat := StepMu a.length
def writesCInv (ts : List TaskD) : Int × Bool × Unit → Prop := StepInv (fun k => (anyUpto (writeAt ts) k, ())) ts.length
def writesCMu (ts : List TaskD) : Int × Bool × Unit → Nat := StepMu ts.length
end Go.Proofs.YtnkcmkegjckncaaDoor
