/- What is the same as itself; how much a tick holds. No condition. -/
import Derived.Test.YtnkcmkegjckncaaJ6
import Derived.Test.YtnkcmkegjckncaaJ1

/- Contracts, and what the evaluator says, as plain propositions: CwV. Printed by vc.py. -/
namespace Go.Proofs.Ytnkcmkegjckncaa
open Go.RowKit Go.ChangeShapes Go.WideShapes Go.Deep

abbrev DeskCopyF_S : Shape := ⟨[pDesk], []⟩
abbrev DeskCopyF_f : Shape.den DeskCopyF_S → denVars [.agg 0 vDeskF] := fun x => ((x.1.1.1, x.1.1.2.1, ()), ())
abbrev DeskCopyF_p : Shape.den DeskCopyF_S → List Prop := fun x => [pRoom (pLen x.1.1.2.1) 80, (∀ q ∈ x.1.1.2.1, pRoom (pLen q.2.2.1) 56 ∧ pRoom (pLen q.2.2.2.1) 8), pLen x.1.1.2.1 < 4611686018427387904]
def cDeskCopyF : Ctr := shCtr DeskCopyF_S DeskCopyF_p [] [.agg 0 vDeskF] DeskCopyF_f
end Go.Proofs.Ytnkcmkegjckncaa

/- The document's tick meets its contract. No condition. -/
namespace Go.Proofs.Ytnkcmkegjckncaa
open Go.RowKit

end Go.Proofs.Ytnkcmkegjckncaa

/- What is the same as itself; how much a tick holds. No condition. -/
namespace Go.Proofs.Ytnkcmkegjckncaa
open Go.RowKit

theorem sameInts_refl (l : List ND) : sameIntsF l l = true := by
  unfold sameIntsF
  rw [Bool.and_eq_true]
  exact ⟨by simp, allUpto_true fun j _ => by unfold eqNAt; simp [pEq]⟩
theorem sameTasks_refl (l : List TaskD) : sameTasksF l l = true := by
  unfold sameTasksF
  rw [Bool.and_eq_true]
  exact ⟨by simp, allUpto_true fun j _ => by unfold eqTaskAt eqTask; simp [pEq, pBeq, pAndB]⟩
theorem sameJob_refl (j : JobD) : sameJobF j j = true := by
  unfold sameJobF
  rw [sameTasks_refl, sameInts_refl]
  simp [pNe, pNot]
theorem sameDesk_refl (d : DeskD) : sameDeskF d d = true := by
  unfold sameDeskF
  rw [Bool.and_eq_true, Bool.and_eq_true]
  exact ⟨by simp [pEq], by simp, allUpto_true fun j _ => sameJob_refl _⟩
theorem sameMsgs_refl (l : List MsgD) : sameMsgsF l l = true := by
  unfold sameMsgsF
  rw [Bool.and_eq_true]
  exact ⟨by simp, allUpto_true fun j _ => by unfold eqMsgAt eqMsg; simp [pEq, pBeq, pAndB]⟩
theorem sameRec_refl (r : RecD) : sameRecF r r = true := by
  unfold sameRecF
  rw [sameInts_refl]
  simp [pEq, pBeq]
theorem sameRecs_refl (l : List RecD) : sameRecsF l l = true := by
  unfold sameRecsF
  rw [Bool.and_eq_true]
  exact ⟨by simp, allUpto_true fun j _ => sameRec_refl _⟩
theorem sameReps_refl (l : List RepD) : sameRepsF l l = true := by
  unfold sameRepsF
  rw [Bool.and_eq_true]
  exact ⟨by simp, allUpto_true fun j _ => by unfold eqRepAt eqRep; simp [pEq, pAndB]⟩
theorem sameTurn_refl (t : TurnD) : sameTurnF t t = true := by
  unfold sameTurnF
  rw [sameDesk_refl, sameMsgs_refl, sameRecs_refl, sameReps_refl]
  simp [pEq]

/-- a turn that is small -/
def TurnSmall (t : TurnD) : Prop := t.2.1.length < 4611686018427387904 ∧ (∀ q ∈ t.2.1, pLen q.2.2.1 < 4611686018427387904 ∧ pLen q.2.2.2.1 < 4611686018427387904) ∧ t.2.2.1.length < 4611686018427387904 ∧ t.2.2.2.1.length < 4611686018427387904 ∧
  (∀ q ∈ t.2.2.2.1, pLen q.2.2.2.2.2.2.2.1 < 4611686018427387904) ∧ t.2.2.2.2.1.length < 4611686018427387904
theorem noTurn_small : TurnSmall noTurn := ⟨by decide, (fun _ h => by cases h), by decide, by decide, (fun _ h => by cases h), by decide⟩
theorem DeskCopyF_ok : Meets Try.prog (fun _ => none) 5 cDeskCopyF := meets_frz DeskCopy_ok rfl fun _ => rfl
end Go.Proofs.Ytnkcmkegjckncaa
