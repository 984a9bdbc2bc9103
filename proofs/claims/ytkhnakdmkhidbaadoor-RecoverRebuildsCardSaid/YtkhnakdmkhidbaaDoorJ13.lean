/- What comes back from a tape: both functions meet their contracts. No condition. -/
import Derived.Test.YtkhnakdmkhidbaaDoorJ12
import Derived.Test.YtkhnakdmkhidbaaDoorJ1
import Derived.Test.YtkhnakdmkhidbaaDoorJ11
import Derived.Test.YtkhnakdmkhidbaaDoorFH
import Derived.Test.YtkhnakdmkhidbaaDoorJ5

/- Records: the program's check meets its contract. No condition. -/
namespace Go.Proofs.YtkhnakdmkhidbaaDoor
open Go.RowKit

theorem siteAt_prog {cn : Int} {rl : List ND} {k : Nat} (hk : k < 4611686018427387904) : siteAt cn rl k = (!(pLt (pGet tyN rl k).1 0) && (!(pGe (pGet tyN rl k).1 cn) && !(pGt (k : Int) 0 && pGe (pGet tyN rl (k - 1)).1 (pGet tyN rl k).1))) := by
  unfold siteAt
  rw [Bool.eq_iff_iff]
  simp only [pLe, pLt, pGt, pGe, Bool.and_eq_true, Bool.or_eq_true, Bool.not_eq_true', Bool.and_eq_false_iff, decide_eq_true_eq, decide_eq_false_iff_not]
  constructor
  · rintro ⟨⟨h1, h2⟩, h3⟩
    refine ⟨by omega, by omega, ?_⟩
    rcases h3 with h3 | h3
    · left; omega
    · right; omega
  · rintro ⟨h1, h2, h3⟩
    refine ⟨by omega, ?_⟩
    rcases h3 with h3 | h3
    · left; omega
    · right; omega

theorem bif_dup2 {r b : Bool} {X T : Prop} (h1 : r = false → b = true → X) (h2 : (r || !b) = true → T) : bif pNot r then (bif b then X else T) else T := by
  cases r <;> cases b <;> simp_all [pNot]

set_option maxHeartbeats 4000000 in
theorem CheckRecord_ok : Meets Tryd.prog tabsR 36 cCheckRecord := CheckRecord_meets lCheck_ok.any wtxn_ok.any wkey_ok.any wvalue_ok.any wask_ok.any fun cn cl cp rk rs rn ry rv ra rd rl hp => by
  have hl : cl.length < 4611686018427387904 := (hp _ List.mem_cons_self)
  have hr : rl.length < 4611686018427387904 := (hp _ (List.mem_cons_of_mem _ List.mem_cons_self))
  clear hp
  unfold CheckRecord_VC CheckRecord_t0 CheckRecord_t1 CheckRecord_t2 CheckRecord_t3
  refine ⟨hl, bif_ok (fun h => ?_) fun hc => ?_⟩
  · rw [recF_cfg h]
  have h4 := cfgF_sites4 hc
  have hc4 := inF_iff.1 h4
  simp only at hc4
  generalize hrw : pGet tyParts recordsT (pNat rk) = r
  obtain ⟨r1, r2, r3, r4, r5, r6, r7, r8, u⟩ := r
  have hM := recF_eq cn cl cp rk rs rn ry rv ra rd rl r1 r2 r3 r4 r5 r6 r7 r8 hc hrw
  clear hrw
  dsimp only
  generalize hA : allUpto (siteAt cn rl) rl.length = A at hM
  refine bif_ok (fun h => ?_) fun hk1 => ?_
  · refine leafE ?_; rw [hM]; grind [pLt, pLe, pGt, pGe, pEq, pNe, pNot, pAndB, pBeq, pInt, pLen, inF, pIn, pTo, pNat]
  refine bif_ok (fun h => ?_) fun hk2 => ?_
  · refine leafE ?_; rw [hM]; grind [pLt, pLe, pGt, pGe, pEq, pNe, pNot, pAndB, pBeq, pInt, pLen, inF, pIn, pTo, pNat]
  have hk : inF rk 1 6 = true := by rw [inF_iff]; simp only [pLt, pGt, decide_eq_false_iff_not] at hk1 hk2; omega
  rw [hk, cond_true] at hM
  refine bif_ok (fun h => ?_) fun h1 => ?_
  · refine leafE ?_; rw [hM]; grind [pLt, pLe, pGt, pGe, pEq, pNe, pNot, pAndB, pBeq, pInt, pLen, inF, pIn, pTo, pNat]
  refine bif_ok (fun h => ?_) fun h2 => ?_
  · refine leafE ?_; rw [hM]; grind [pLt, pLe, pGt, pGe, pEq, pNe, pNot, pAndB, pBeq, pInt, pLen, inF, pIn, pTo, pNat]
  refine bif_ok (fun h => ?_) fun h3 => ?_
  · refine leafE ?_; rw [hM]; grind [pLt, pLe, pGt, pGe, pEq, pNe, pNot, pAndB, pBeq, pInt, pLen, inF, pIn, pTo, pNat]
  refine bif_ok (fun h => ?_) fun h5 => ?_
  · refine leafE ?_; rw [hM]; grind [pLt, pLe, pGt, pGe, pEq, pNe, pNot, pAndB, pBeq, pInt, pLen, inF, pIn, pTo, pNat]
  refine ⟨UpInv.start, fun y hy => ?_⟩
  rcases UpInv.round hr hy with ⟨k, rfl, hkl, hb, _, hF, hT⟩ | ⟨rfl, hT⟩
  · simp only [pNat_coe]
    rw [bif_true (by simp [pLt_coe, pLen, hkl])]
    rw [hA] at hF
    have hs := siteAt_prog (rl := rl) (cn := cn) hb
    have bad : siteAt cn rl k = false → ((2 : Int), ()) = (recF (cn, cl, cp, ()) (rk, rs, rn, ry, rv, ra, rd, rl, ()), ()) := fun h => by rw [hM, hF h, Bool.and_false]; rfl
    refine ⟨pIn_coe.2 hkl, bif_ok (fun h => ?_) fun h => ?_⟩
    · refine bad ?_
      rw [hs, show pLt (pGet tyN rl k).1 0 = true from h]; rfl
    have g1 : pLt (pGet tyN rl k).1 0 = false := h
    rw [g1, Bool.not_false, Bool.true_and] at hs
    refine bif_ok (fun h => ?_) fun h => ?_
    · refine bad ?_
      rw [hs, show pGe (pGet tyN rl k).1 cn = true from h]; rfl
    have g2 : pGe (pGet tyN rl k).1 cn = false := h
    rw [g2, Bool.not_false, Bool.true_and] at hs
    refine bif_ok (fun h => ?_) fun h => ?_
    · have hk0 : 0 < k := by have h0 : (0 : Int) < (k : Int) := by simpa [pGt] using h
                             exact Int.natCast_pos.1 h0
      rw [pSub1 hb hk0, pNat_coe]
      refine ⟨pIn_coe.2 (Nat.lt_of_le_of_lt (Nat.sub_le _ _) hkl), bif_ok (fun h' => ?_) fun h' => ?_⟩
      · refine bad ?_
        rw [hs, h]
        rw [show pGe (pGet tyN rl (k - 1)).1 (pGet tyN rl k).1 = true from h']; rfl
      · refine hT ?_
        rw [hs, h]
        rw [show pGe (pGet tyN rl (k - 1)).1 (pGet tyN rl k).1 = false from h']; rfl
    · refine hT ?_
      rw [hs, h]; rfl
  · rw [bif_false (by simp [pLt_coe, pLen])]
    rw [hA] at hT
    subst hT
    clear hA hy
    rw [gt0_len]
    have hlen : recordsT.length = 7 := rfl
    refine ⟨?_, ?_⟩
    · unfold pIn; rw [inF_iff] at hk; omega
    (repeat' (first | refine bif_dup2 (fun h1 h2 => ?_) (fun h => ?_) | refine bif_ok (fun h => ?_) (fun h => ?_) | fail))
    all_goals first
      | (refine leafE ?_; rw [hM]; grind [pLt, pLe, pGt, pGe, pEq, pNe, pNot, pAndB, pBeq, pInt, pLen, inF, pIn, pTo, pNat])
      | skip



end Go.Proofs.YtkhnakdmkhidbaaDoor

/- What comes back from a tape: what holds in the loops. No condition. -/
namespace Go.Proofs.YtkhnakdmkhidbaaDoor
open Go.RowKit

def rebAInv (cn : Int) (cl : List LabD) (cp _ : Int) (l : List RecD) : Int × Unit → Prop := FirstInv (recAt (cn, cl, cp, ()) l) l.length
def rebAMu (_ : Int) (_ : List LabD) (_ _ : Int) (l : List RecD) : Int × Unit → Nat := UpMu l.length
def rebBInv (_ : Int) (_ : List LabD) (_ me : Int) (l : List RecD) : Int × (Int × MemD) × Unit → Prop := fun y => ∃ k : Nat, y = ((k : Int), (me, memK me l k), ()) ∧ k ≤ l.length
def rebBMu (_ : Int) (_ : List LabD) (_ _ : Int) (l : List RecD) : Int × (Int × MemD) × Unit → Nat := fun y => l.length - y.1.toNat
/-- what is wrong ahead of the records -/
def rebE0 (c : CfgD) (me : Int) : Int := cond (pEq (cfgF c) 0) (cond (pNot (inF me 0 (pSubI .i64 c.1 1))) 2 0) (cfgF c)
def rebCInv (cn : Int) (cl : List LabD) (cp me : Int) (l : List RecD) : Int × Int × Unit → Prop := fun y => ∃ k : Nat, ∃ e : Int, y = ((k : Int), e, ()) ∧ k ≤ l.length ∧
  ((k = 0 ∧ e = rebE0 (cn, cl, cp, ()) me) ∨ (pEq (rebE0 (cn, cl, cp, ()) me) 0 = true ∧ 0 < k ∧ e = recAt (cn, cl, cp, ()) l (k - 1) ∧ ∀ j, j < k - 1 → pEq (recAt (cn, cl, cp, ()) l j) 0 = true))
def rebCMu (_ : Int) (_ : List LabD) (_ _ : Int) (l : List RecD) : Int × Int × Unit → Nat := fun y => l.length - y.1.toNat
def mNotes (m : MemD) : List NoteD := m.2.2.2.2.2.2.1
def mJobs (m : MemD) : List JobD := m.2.2.2.2.2.1
def mNext (m : MemD) : Int := m.2.2.2.2.1
def mDesk (m : MemD) : Int × List JobD × Unit := (mNext m, mJobs m, ())
def rebDInv (_ : Int) (_ : List LabD) (_ me : Int) (l : List RecD) : Int × List NoteD × (List ItemD × List LockD × List DoubtD × List TxnD × Unit) × (Int × List JobD × Unit) × Unit → Prop :=
  fun y => ∃ k : Nat, y = ((k : Int), mNotes (memK me l k), mSto (memK me l k), mDesk (memK me l k), ()) ∧ k ≤ l.length
def rebDMu (_ : Int) (_ : List LabD) (_ _ : Int) (l : List RecD) : Int × List NoteD × (List ItemD × List LockD × List DoubtD × List TxnD × Unit) × (Int × List JobD × Unit) × Unit → Nat := fun y => l.length - y.1.toNat
def rebFInv (_ : Int) (_ : List LabD) (_ me : Int) (l : List RecD) (i : Int) : Int × List NoteD × Unit → Prop :=
  fun y => ∃ k : Nat, y = ((k : Int), damRK (pGet tyRec l (pNat i)) (mNotes (memK me l (pNat i))) k, ()) ∧ k ≤ (mNotes (memK me l (pNat i))).length ∧ (pEq (pGet tyRec l (pNat i)).1 2 = true ∨ k = 0)
def rebFMu (_ : Int) (_ : List LabD) (_ me : Int) (l : List RecD) (i : Int) : Int × List NoteD × Unit → Nat := fun y => (mNotes (memK me l (pNat i))).length - y.1.toNat
/-- jobs up to a place, with a new one in its place -/
def insK (js : List JobD) (p : Nat) (x : JobD) (k : Nat) : List JobD := cond (decide (p < k)) (js.take p ++ x :: (js.take k).drop p) (js.take k)
def insP (js : List JobD) (r : RecD) : Nat := pNat (posJ js r.2.2.1)
def rebGInv (_ : Int) (_ : List LabD) (_ me : Int) (l : List RecD) (i : Int) : Int × Bool × List JobD × Unit → Prop :=
  fun y => ∃ k : Nat, y = ((k : Int), decide (insP (mJobs (memK me l (pNat i))) (pGet tyRec l (pNat i)) < k), insK (mJobs (memK me l (pNat i))) (insP (mJobs (memK me l (pNat i))) (pGet tyRec l (pNat i))) (jobOf (pGet tyRec l (pNat i))) k, ()) ∧
    k ≤ (mJobs (memK me l (pNat i))).length
def rebGMu (_ : Int) (_ : List LabD) (_ me : Int) (l : List RecD) (i : Int) : Int × Bool × List JobD × Unit → Nat := fun y => (mJobs (memK me l (pNat i))).length - y.1.toNat


end Go.Proofs.YtkhnakdmkhidbaaDoor

/- A write and an end, as the reference does them: weaker conditions. No condition. -/
namespace Go.Proofs.YtkhnakdmkhidbaaDoor
open Go.RowKit Go.ChangeShapes Go.WideShapes Go.Deep

abbrev WriteOfF_S : Shape := ⟨[pSto, pTxn, .one (.rd tI), .one (.rd tI), .one (.rd tI)], []⟩
abbrev WriteOfF_f : Shape.den WriteOfF_S → denVars [.agg 0 vStoR, .slot 1 false tI] := fun x => (writeS x.1.1 x.1.2.1 x.1.2.2.1 x.1.2.2.2.1 x.1.2.2.2.2.1, writeE x.1.1 x.1.2.1 x.1.2.2.1 x.1.2.2.2.1 x.1.2.2.2.2.1, ())
abbrev WriteOfF_p : Shape.den WriteOfF_S → List Prop := fun x => [pLen x.1.1.1 < 4611686018427387904, pLen x.1.1.2.1 < 4611686018427387904, pLen x.1.1.2.2.1 < 4611686018427387904, pLen x.1.1.2.2.2.1 < 4611686018427387904, pRoom (pLen x.1.1.1) 24, pRoom (pLen x.1.1.2.1) 48, pRoom (pLen x.1.1.2.2.1) 24, pRoom (pLen x.1.1.2.2.2.1) 16]
def cWriteOfF : Ctr := shCtr WriteOfF_S WriteOfF_p [] [.agg 0 vStoR, .slot 1 false tI] WriteOfF_f
abbrev EndOfF_S : Shape := ⟨[pSto, pTxn, .one (.rd .bool)], []⟩
abbrev EndOfF_f : Shape.den EndOfF_S → denVars [.agg 0 vStoR, .slot 1 false tI] := fun x => (endS x.1.1 x.1.2.1 x.1.2.2.1, endE x.1.1 x.1.2.1, ())
abbrev EndOfF_p : Shape.den EndOfF_S → List Prop := fun x => [pLen x.1.1.1 < 4611686018427387904, pLen x.1.1.2.1 < 4611686018427387904, pLen x.1.1.2.2.1 < 4611686018427387904, pLen x.1.1.2.2.2.1 < 4611686018427387904, pRoom (pLen x.1.1.1) 24, pRoom (pLen x.1.1.2.1) 48, pRoom (pLen x.1.1.2.2.1) 24, pRoom (pLen x.1.1.2.2.2.1) 16]
def cEndOfF : Ctr := shCtr EndOfF_S EndOfF_p [] [.agg 0 vStoR, .slot 1 false tI] EndOfF_f
abbrev WriteOfW_p : Shape.den WriteOfF_S → List Prop := fun x => [StoOk x.1.1]
def cWriteOfW : Ctr := shCtr WriteOfF_S WriteOfW_p [] [.agg 0 vStoR, .slot 1 false tI] WriteOfF_f
abbrev EndOfW_p : Shape.den EndOfF_S → List Prop := fun x => [StoOk x.1.1]
def cEndOfW : Ctr := shCtr EndOfF_S EndOfW_p [] [.agg 0 vStoR, .slot 1 false tI] EndOfF_f

theorem WriteOfF_ok : Meets Tryd.prog (fun _ => none) 29 cWriteOfF := meets_frz WriteOf_ok rfl fun _ => rfl
theorem EndOfF_ok : Meets Tryd.prog (fun _ => none) 32 cEndOfF := meets_frz EndOf_ok rfl fun _ => rfl
theorem WriteOfW_ok : Meets Tryd.prog (fun _ => none) 29 cWriteOfW := meets_mono WriteOfF_ok fun x hp => by
  have h : StoOk x.1.1 := hp _ List.mem_cons_self
  refine ⟨fun p hq => ?_, rfl⟩
  simp only [List.mem_cons, List.not_mem_nil, or_false] at hq; rcases hq with rfl | rfl | rfl | rfl | rfl | rfl | rfl | rfl
  · exact h.1.1
  · exact h.1.2.1
  · exact h.1.2.2.1
  · exact h.1.2.2.2
  · exact h.2.1
  · exact h.2.2.1
  · exact h.2.2.2.1
  · exact h.2.2.2.2
theorem EndOfW_ok : Meets Tryd.prog (fun _ => none) 32 cEndOfW := meets_mono EndOfF_ok fun x hp => by
  have h : StoOk x.1.1 := hp _ List.mem_cons_self
  refine ⟨fun p hq => ?_, rfl⟩
  simp only [List.mem_cons, List.not_mem_nil, or_false] at hq; rcases hq with rfl | rfl | rfl | rfl | rfl | rfl | rfl | rfl
  · exact h.1.1
  · exact h.1.2.1
  · exact h.1.2.2.1
  · exact h.1.2.2.2
  · exact h.2.1
  · exact h.2.2.1
  · exact h.2.2.2.1
  · exact h.2.2.2.2


end Go.Proofs.YtkhnakdmkhidbaaDoor

/- Contracts, and what the evaluator says, as plain propositions: RdV. Printed by vc.py. -/
namespace Go.Proofs.YtkhnakdmkhidbaaDoor
open Go.RowKit Go.ChangeShapes Go.WideShapes Go.Deep

abbrev Rebuild_S : Shape := ⟨[pCfg, .one (.rd tI), .one (.rd (.sl tyRec))], []⟩
abbrev Rebuild_f : Shape.den Rebuild_S → denVars [.agg 0 vStoR, .agg 1 vDesk, .slot 2 true tyNote, .slot 3 false tI] := fun x => (((rebM x.1.1 x.1.2.1 x.1.2.2.1).1, (rebM x.1.1 x.1.2.1 x.1.2.2.1).2.1, (rebM x.1.1 x.1.2.1 x.1.2.2.1).2.2.1, (rebM x.1.1 x.1.2.1 x.1.2.2.1).2.2.2.1, ()), ((rebM x.1.1 x.1.2.1 x.1.2.2.1).2.2.2.2.1, (rebM x.1.1 x.1.2.1 x.1.2.2.1).2.2.2.2.2.1, ()), (rebM x.1.1 x.1.2.1 x.1.2.2.1).2.2.2.2.2.2.1, rebE x.1.1 x.1.2.1 x.1.2.2.1, ())
abbrev Rebuild_p : Shape.den Rebuild_S → List Prop := fun x => [pLen x.1.1.2.1 < 4611686018427387904, pLen x.1.2.2.1 < 4611686018427387904, RecsOk x.1.2.2.1]
def cRebuild : Ctr := shCtr Rebuild_S Rebuild_p [] [.agg 0 vStoR, .agg 1 vDesk, .slot 2 true tyNote, .slot 3 false tI] Rebuild_f
def cRebuiltOf : Ctr := shCtr Rebuild_S Rebuild_p [] [.agg 0 vStoR, .agg 1 vDesk, .slot 2 true tyNote, .slot 3 false tI] Rebuild_f
abbrev eqsRdV : List TypeId := [28, 103, 105, 107, 65, 31, 57, 139]

abbrev Rebuild_v0 (cn : Int) (cl : (List LabD)) (cp : Int) (me : Int) (l : (List RecD)) := (((rebM (cn, cl, cp, ()) me l).1, (rebM (cn, cl, cp, ()) me l).2.1, (rebM (cn, cl, cp, ()) me l).2.2.1, (rebM (cn, cl, cp, ()) me l).2.2.2.1, ()), ((rebM (cn, cl, cp, ()) me l).2.2.2.2.1, (rebM (cn, cl, cp, ()) me l).2.2.2.2.2.1, ()), (rebM (cn, cl, cp, ()) me l).2.2.2.2.2.2.1, rebE (cn, cl, cp, ()) me l, ())
abbrev Rebuild_t0 (cn : Int) (cl : (List LabD)) (cp : Int) (me : Int) (l : (List RecD)) : Prop := (([], [], [], [], ()), ((0 : Int), [], ()), [], (2 : Int), ()) = (Rebuild_v0 cn cl cp me l)

def Rebuild_VC (cn : Int) (cl : (List LabD)) (cp : Int) (me : Int) (l : (List RecD)) : Prop :=
  Nat.le (Nat.succ (pLen cl)) 4611686018427387904 ∧ bif pNe (cfgF (cn, cl, cp, ())) (0 : Int) then (([], [], [], [], ()), ((0 : Int), [], ()), [], cfgF (cn, cl, cp, ()), ()) = (Rebuild_v0 cn cl cp me l) else bif pLt me (0 : Int) then
 Rebuild_t0 cn cl cp me l else bif pGe me cn then Rebuild_t0 cn cl cp me l else rebAInv cn cl cp me l ((0 : Int), ()) ∧ ∀ (y : kden Bool.false tI × PUnit), rebAInv cn cl cp me l y → bif pLt y.1 (pInt (pLen l)) then pIn y.1 (pLen l) ∧ Nat.le
 (Nat.succ (pLen cl)) 4611686018427387904 ∧ Nat.le (Nat.succ (pLen (pGet tyRec l (pNat y.1)).2.2.2.2.2.2.2.1)) 4611686018427387904 ∧ bif pNe (recF (cn, cl, cp, ()) (pGet tyRec l (pNat y.1))) (0 : Int) then (([], [], [], [], ()), ((0 : Int),
 [], ()), [], recF (cn, cl, cp, ()) (pGet tyRec l (pNat y.1)), ()) = (Rebuild_v0 cn cl cp me l) else rebAInv cn cl cp me l (pAdd IntKind.i64 y.1 (1 : Int), ()) ∧ Nat.le (Nat.succ (rebAMu cn cl cp me l (pAdd IntKind.i64 y.1 (1 : Int), ())))
 (rebAMu cn cl cp me l y) else rebBInv cn cl cp me l ((0 : Int), (me, [], [], [], [], (1 : Int), [], [], ()), ()) ∧ ∀ (y : kden Bool.false tI × denCells vMem × PUnit), rebBInv cn cl cp me l y → bif pLt y.1 (pInt (pLen l)) then pIn y.1 (pLen
 l) ∧ MemOk y.2.1.2 ∧ inF (pGet tyRec l (pNat y.1)).2.2.1 (1 : Int) (1048576 : Int) = Bool.true ∧ Nat.le (Nat.succ (pLen (pGet tyRec l (pNat y.1)).2.2.2.2.2.2.2.1)) 1000000 ∧ rebBInv cn cl cp me l (pAdd IntKind.i64 y.1 (1 : Int), (y.2.1.1,
 (stepM y.2.1.1 y.2.1.2 (pGet tyRec l (pNat y.1))).1, (stepM y.2.1.1 y.2.1.2 (pGet tyRec l (pNat y.1))).2.1, (stepM y.2.1.1 y.2.1.2 (pGet tyRec l (pNat y.1))).2.2.1, (stepM y.2.1.1 y.2.1.2 (pGet tyRec l (pNat y.1))).2.2.2.1, (stepM y.2.1.1
 y.2.1.2 (pGet tyRec l (pNat y.1))).2.2.2.2.1, (stepM y.2.1.1 y.2.1.2 (pGet tyRec l (pNat y.1))).2.2.2.2.2.1, (stepM y.2.1.1 y.2.1.2 (pGet tyRec l (pNat y.1))).2.2.2.2.2.2.1, ()), ()) ∧ Nat.le (Nat.succ (rebBMu cn cl cp me l (pAdd
 IntKind.i64 y.1 (1 : Int), (y.2.1.1, (stepM y.2.1.1 y.2.1.2 (pGet tyRec l (pNat y.1))).1, (stepM y.2.1.1 y.2.1.2 (pGet tyRec l (pNat y.1))).2.1, (stepM y.2.1.1 y.2.1.2 (pGet tyRec l (pNat y.1))).2.2.1, (stepM y.2.1.1 y.2.1.2 (pGet tyRec l
 (pNat y.1))).2.2.2.1, (stepM y.2.1.1 y.2.1.2 (pGet tyRec l (pNat y.1))).2.2.2.2.1, (stepM y.2.1.1 y.2.1.2 (pGet tyRec l (pNat y.1))).2.2.2.2.2.1, (stepM y.2.1.1 y.2.1.2 (pGet tyRec l (pNat y.1))).2.2.2.2.2.2.1, ()), ()))) (rebBMu cn cl cp
 me l y) else ((y.2.1.2.1, y.2.1.2.2.1, y.2.1.2.2.2.1, y.2.1.2.2.2.2.1, ()), (y.2.1.2.2.2.2.2.1, y.2.1.2.2.2.2.2.2.1, ()), y.2.1.2.2.2.2.2.2.2.1, (0 : Int), ()) = (Rebuild_v0 cn cl cp me l)
set_option maxRecDepth 100000 in
theorem Rebuild_meets (hlCheck : MtG tabsR 35 clCheck) (hCheckRecord : MtG tabsR 36 cCheckRecord) (hmone : MtG tabsR 37 cmone) (h : ∀ (cn : Int) (cl : (List LabD)) (cp : Int) (me : Int) (l : (List RecD)), (∀ p ∈ Rebuild_p ⟨((cn, cl, cp, ()), me, l, ()), ()⟩, p) → Rebuild_VC cn cl cp me l) : MtG tabsR 10 cRebuild :=
  meets_vc (E := envOfG Tryd.prog tabsR [(35, (false, clCheck)), (36, (false, cCheckRecord)), (37, (true, cmone))] eqsRdV) (envOfG_ok (fun p hp => (by simp only [List.mem_cons, List.not_mem_nil, or_false] at hp; rcases hp with rfl | rfl | rfl; exact hlCheck; exact hCheckRecord; exact hmone)) (by kernel_rfl)) Rebuild_S (fun x => fun ky9 st9 => look [(7, (⟨[.slot 36 false tI], rebAInv x.1.1.1 x.1.1.2.1 x.1.1.2.2.1 x.1.2.1 x.1.2.2.1, rebAMu x.1.1.1 x.1.1.2.1 x.1.1.2.2.1 x.1.2.1 x.1.2.2.1⟩ : Ann)), (15, (⟨[.slot 55 false tI, .box 200 vMem], rebBInv x.1.1.1 x.1.1.2.1 x.1.1.2.2.1 x.1.2.1 x.1.2.2.1, rebBMu x.1.1.1 x.1.1.2.1 x.1.1.2.2.1 x.1.2.1 x.1.2.2.1⟩ : Ann))] ky9) Tryd.func10 (by kernel_rfl) (by kernel_rfl) Rebuild_p [] [.agg 0 vStoR, .agg 1 vDesk, .slot 2 true tyNote, .slot 3 false tI] Rebuild_f (fun x => Rebuild_VC x.1.1.1 x.1.1.2.1 x.1.1.2.2.1 x.1.2.1 x.1.2.2.1) (fun x => by kernel_rfl) (fun x hp => h x.1.1.1 x.1.1.2.1 x.1.1.2.2.1 x.1.2.1 x.1.2.2.1 hp)





abbrev RebuiltOf_v0 (cn : Int) (cl : (List LabD)) (cp : Int) (me : Int) (l : (List RecD)) := (((rebM (cn, cl, cp, ()) me l).1, (rebM (cn, cl, cp, ()) me l).2.1, (rebM (cn, cl, cp, ()) me l).2.2.1, (rebM (cn, cl, cp, ()) me l).2.2.2.1, ()), ((rebM (cn, cl, cp, ()) me l).2.2.2.2.1, (rebM (cn, cl, cp, ()) me l).2.2.2.2.2.1, ()), (rebM (cn, cl, cp, ()) me l).2.2.2.2.2.2.1, rebE (cn, cl, cp, ()) me l, ())
abbrev RebuiltOf_t0 (cn : Int) (cl : (List LabD)) (cp : Int) (me : Int) (l : (List RecD)) (y : kden Bool.false tI × kden Bool.false tI × PUnit) : Prop := pIn y.1 (pLen l) ∧ Nat.le (Nat.succ (pLen cl)) 4611686018427387904 ∧ Nat.le (Nat.succ (pLen (pGet tyRec l (pNat y.1)).2.2.2.2.2.2.2.1)) 4611686018427387904 ∧ rebCInv cn cl cp me l (pAdd IntKind.i64 y.1 (1 : Int), recF (cn, cl, cp, ()) (pGet
 tyRec l (pNat y.1)), ()) ∧ Nat.le (Nat.succ (rebCMu cn cl cp me l (pAdd IntKind.i64 y.1 (1 : Int), recF (cn, cl, cp, ()) (pGet tyRec l (pNat y.1)), ()))) (rebCMu cn cl cp me l y)
abbrev RebuiltOf_t2 (cn : Int) (cl : (List LabD)) (cp : Int) (me : Int) (l : (List RecD)) (y : kden Bool.false tI × kden Bool.false tI × PUnit) : Prop := (([], [], [], [], ()), ((0 : Int), [], ()), [], y.2.1, ()) = (RebuiltOf_v0 cn cl cp me l)
abbrev RebuiltOf_t1 (cn : Int) (cl : (List LabD)) (cp : Int) (me : Int) (l : (List RecD)) (y : kden Bool.false tI × kden Bool.false tI × PUnit) : Prop := bif pNe y.2.1 (0 : Int) then RebuiltOf_t2 cn cl cp me l y else False
abbrev RebuiltOf_t5 (cn : Int) (cl : (List LabD)) (cp : Int) (me : Int) (l : (List RecD)) (y : kden Bool.false tI × kden Bool.true tyNote × denCells vStoR × denCells vDesk × PUnit) : Prop := rebDInv cn cl cp me l (pAdd IntKind.i64 y.1 (1 : Int), y.2.1, y.2.2.1, y.2.2.2.1, ()) ∧ Nat.le (Nat.succ (rebDMu cn cl cp me l (pAdd IntKind.i64 y.1 (1 : Int), y.2.1, y.2.2.1, y.2.2.2.1, ()))) (rebDMu cn cl cp me l y)
abbrev RebuiltOf_t8 (cn : Int) (cl : (List LabD)) (cp : Int) (me : Int) (l : (List RecD)) (y : kden Bool.false tI × kden Bool.true tyNote × denCells vStoR × denCells vDesk × PUnit) (y_1 : kden Bool.false tI × List (Ty.den tyNote) × PUnit) : Prop := rebFInv cn cl cp me l y.1 (pAdd IntKind.i64 y_1.1 (1 : Int), y_1.2.1, ()) ∧ Nat.le (Nat.succ (rebFMu cn cl cp me l y.1 (pAdd IntKind.i64 y_1.1 (1 : Int), y_1.2.1, ()))) (rebFMu cn cl cp me l y.1 y_1)
abbrev RebuiltOf_t7 (cn : Int) (cl : (List LabD)) (cp : Int) (me : Int) (l : (List RecD)) (y : kden Bool.false tI × kden Bool.true tyNote × denCells vStoR × denCells vDesk × PUnit) (y_1 : kden Bool.false tI × List (Ty.den tyNote) × PUnit) : Prop := pIn y_1.1 (pLen y_1.2.1) ∧ bif pAndB (pEq (pGet tyNote y_1.2.1 (pNat y_1.1)).1 (pGet tyRec l (pNat y.1)).2.1) (pEq (pGet tyNote y_1.2.1 (pNat y_1.1)).2.1 (pGet tyRec l (pNat y.1)).2.2.1) then pIn y_1.1 (pLen y_1.2.1) ∧ bif pNot (pBeq (pGet
 tyNote y_1.2.1 (pNat y_1.1)).2.2.1 (pGet tyRec l (pNat y.1)).2.2.2.2.2.2.1) then pIn y_1.1 (pLen y_1.2.1) ∧ rebFInv cn cl cp me l y.1 (pAdd IntKind.i64 y_1.1 (1 : Int), pSet y_1.2.1 (pNat y_1.1) ((pGet tyNote y_1.2.1 (pNat y_1.1)).1, (pGet
 tyNote y_1.2.1 (pNat y_1.1)).2.1, (pGet tyNote y_1.2.1 (pNat y_1.1)).2.2.1, Bool.true, ()), ()) ∧ Nat.le (Nat.succ (rebFMu cn cl cp me l y.1 (pAdd IntKind.i64 y_1.1 (1 : Int), pSet y_1.2.1 (pNat y_1.1) ((pGet tyNote y_1.2.1 (pNat y_1.1)).1,
 (pGet tyNote y_1.2.1 (pNat y_1.1)).2.1, (pGet tyNote y_1.2.1 (pNat y_1.1)).2.2.1, Bool.true, ()), ()))) (rebFMu cn cl cp me l y.1 y_1) else RebuiltOf_t8 cn cl cp me l y y_1 else RebuiltOf_t8 cn cl cp me l y y_1
abbrev RebuiltOf_t9 (cn : Int) (cl : (List LabD)) (cp : Int) (me : Int) (l : (List RecD)) (y : kden Bool.false tI × kden Bool.true tyNote × denCells vStoR × denCells vDesk × PUnit) (y_1 : kden Bool.false tI × List (Ty.den tyNote) × PUnit) : Prop := bif pEq (pGet tyRec l (pNat y.1)).1 (6 : Int) then pRoom (pPlus (pLen y_1.2.1) (pLen [((pGet tyRec l (pNat y.1)).2.1, (pGet tyRec l (pNat y.1)).2.2.1, (pGet tyRec l (pNat y.1)).2.2.2.2.2.2.1, Bool.false, ())])) 24 ∧ rebDInv cn cl cp me l
 (pAdd IntKind.i64 y.1 (1 : Int), pApp y_1.2.1 [((pGet tyRec l (pNat y.1)).2.1, (pGet tyRec l (pNat y.1)).2.2.1, (pGet tyRec l (pNat y.1)).2.2.2.2.2.2.1, Bool.false, ())], (endS y.2.2.1 ((pGet tyRec l (pNat y.1)).2.1, (pGet tyRec l (pNat
 y.1)).2.2.1, ()) (pGet tyRec l (pNat y.1)).2.2.2.2.2.2.1), y.2.2.2.1, ()) ∧ Nat.le (Nat.succ (rebDMu cn cl cp me l (pAdd IntKind.i64 y.1 (1 : Int), pApp y_1.2.1 [((pGet tyRec l (pNat y.1)).2.1, (pGet tyRec l (pNat y.1)).2.2.1, (pGet tyRec l
 (pNat y.1)).2.2.2.2.2.2.1, Bool.false, ())], (endS y.2.2.1 ((pGet tyRec l (pNat y.1)).2.1, (pGet tyRec l (pNat y.1)).2.2.1, ()) (pGet tyRec l (pNat y.1)).2.2.2.2.2.2.1), y.2.2.2.1, ()))) (rebDMu cn cl cp me l y) else rebDInv cn cl cp me l
 (pAdd IntKind.i64 y.1 (1 : Int), y_1.2.1, (endS y.2.2.1 ((pGet tyRec l (pNat y.1)).2.1, (pGet tyRec l (pNat y.1)).2.2.1, ()) (pGet tyRec l (pNat y.1)).2.2.2.2.2.2.1), y.2.2.2.1, ()) ∧ Nat.le (Nat.succ (rebDMu cn cl cp me l (pAdd IntKind.i64
 y.1 (1 : Int), y_1.2.1, (endS y.2.2.1 ((pGet tyRec l (pNat y.1)).2.1, (pGet tyRec l (pNat y.1)).2.2.1, ()) (pGet tyRec l (pNat y.1)).2.2.2.2.2.2.1), y.2.2.2.1, ()))) (rebDMu cn cl cp me l y)
abbrev RebuiltOf_t10 (cn : Int) (cl : (List LabD)) (cp : Int) (me : Int) (l : (List RecD)) (y : kden Bool.false tI × kden Bool.true tyNote × denCells vStoR × denCells vDesk × PUnit) (y_1 : kden Bool.false tI × List (Ty.den tyNote) × PUnit) : Prop := bif pEq (pGet tyRec l (pNat y.1)).1 (6 : Int) then pRoom (pPlus (pLen y_1.2.1) (pLen [((pGet tyRec l (pNat y.1)).2.1, (pGet tyRec l (pNat y.1)).2.2.1, (pGet tyRec l (pNat y.1)).2.2.2.2.2.2.1, Bool.false, ())])) 24 ∧ rebDInv cn cl cp me l
 (pAdd IntKind.i64 y.1 (1 : Int), pApp y_1.2.1 [((pGet tyRec l (pNat y.1)).2.1, (pGet tyRec l (pNat y.1)).2.2.1, (pGet tyRec l (pNat y.1)).2.2.2.2.2.2.1, Bool.false, ())], y.2.2.1, y.2.2.2.1, ()) ∧ Nat.le (Nat.succ (rebDMu cn cl cp me l
 (pAdd IntKind.i64 y.1 (1 : Int), pApp y_1.2.1 [((pGet tyRec l (pNat y.1)).2.1, (pGet tyRec l (pNat y.1)).2.2.1, (pGet tyRec l (pNat y.1)).2.2.2.2.2.2.1, Bool.false, ())], y.2.2.1, y.2.2.2.1, ()))) (rebDMu cn cl cp me l y) else rebDInv cn cl
 cp me l (pAdd IntKind.i64 y.1 (1 : Int), y_1.2.1, y.2.2.1, y.2.2.2.1, ()) ∧ Nat.le (Nat.succ (rebDMu cn cl cp me l (pAdd IntKind.i64 y.1 (1 : Int), y_1.2.1, y.2.2.1, y.2.2.2.1, ()))) (rebDMu cn cl cp me l y)
abbrev RebuiltOf_t6 (cn : Int) (cl : (List LabD)) (cp : Int) (me : Int) (l : (List RecD)) (y : kden Bool.false tI × kden Bool.true tyNote × denCells vStoR × denCells vDesk × PUnit) : Prop := StoOk y.2.2.1 ∧ bif pEq (endE y.2.2.1 ((pGet tyRec l (pNat y.1)).2.1, (pGet tyRec l (pNat y.1)).2.2.1, ())) (0 : Int) then rebFInv cn cl cp me l y.1 ((0 : Int), y.2.1, ()) ∧ ∀ (y_1 : kden Bool.false tI × List (Ty.den tyNote) × PUnit),
 rebFInv cn cl cp me l y.1 y_1 → bif pLt y_1.1 (pInt (pLen y_1.2.1)) then bif pEq (pGet tyRec l (pNat y.1)).1 (2 : Int) then RebuiltOf_t7 cn cl cp me l y y_1 else RebuiltOf_t9 cn cl cp me l y y_1 else RebuiltOf_t9 cn cl cp me l y y_1 else
 rebFInv cn cl cp me l y.1 ((0 : Int), y.2.1, ()) ∧ ∀ (y_1 : kden Bool.false tI × List (Ty.den tyNote) × PUnit), rebFInv cn cl cp me l y.1 y_1 → bif pLt y_1.1 (pInt (pLen y_1.2.1)) then bif pEq (pGet tyRec l (pNat y.1)).1 (2 : Int) then
 RebuiltOf_t7 cn cl cp me l y y_1 else RebuiltOf_t10 cn cl cp me l y y_1 else RebuiltOf_t10 cn cl cp me l y y_1
abbrev RebuiltOf_t12 (cn : Int) (cl : (List LabD)) (cp : Int) (me : Int) (l : (List RecD)) (y : kden Bool.false tI × kden Bool.true tyNote × denCells vStoR × denCells vDesk × PUnit) (y_1 : kden Bool.false tI × kden Bool.false Ty.bool × kden Bool.true tyJob × PUnit) : Prop := pIn y_1.1 (pLen y.2.2.2.1.2.1) ∧ pRoom (pPlus (pLen y_1.2.2.1) (pLen [(pGet tyJob y.2.2.2.1.2.1 (pNat y_1.1))])) 80 ∧ rebGInv cn cl cp me l y.1 (pAdd IntKind.i64 y_1.1 (1 : Int), y_1.2.1, pApp y_1.2.2.1 [(pGet tyJob y.2.2.2.1.2.1 (pNat
 y_1.1))], ()) ∧ Nat.le (Nat.succ (rebGMu cn cl cp me l y.1 (pAdd IntKind.i64 y_1.1 (1 : Int), y_1.2.1, pApp y_1.2.2.1 [(pGet tyJob y.2.2.2.1.2.1 (pNat y_1.1))], ()))) (rebGMu cn cl cp me l y.1 y_1)
abbrev RebuiltOf_t11 (cn : Int) (cl : (List LabD)) (cp : Int) (me : Int) (l : (List RecD)) (y : kden Bool.false tI × kden Bool.true tyNote × denCells vStoR × denCells vDesk × PUnit) : Prop := bif pEq (pGet tyRec l (pNat y.1)).1 (3 : Int) then bif pNe (pGet tyRec l (pNat y.1)).2.1 me then RebuiltOf_t5 cn cl cp me l y else bif pGe (pGet tyRec l (pNat y.1)).2.2.1 y.2.2.2.1.1 then RebuiltOf_t5 cn cl cp me l y else bif pEq (pInt
 (pLen (pGet tyRec l (pNat y.1)).2.2.2.2.2.2.2.1)) (0 : Int) then RebuiltOf_t5 cn cl cp me l y else bif pGe (pInt (pLen y.2.2.2.1.2.1)) (6 : Int) then RebuiltOf_t5 cn cl cp me l y else Nat.le (Nat.succ (pLen y.2.2.2.1.2.1))
 4611686018427387904 ∧ bif pGe (idxKeyJ y.2.2.2.1.2.1 (pGet tyRec l (pNat y.1)).2.2.1) (0 : Int) then RebuiltOf_t5 cn cl cp me l y else pRoom (pLen (pGet tyRec l (pNat y.1)).2.2.2.2.2.2.2.1) 8 ∧ rebGInv cn cl cp me l y.1 ((0 : Int),
 Bool.false, [], ()) ∧ ∀ (y_1 : kden Bool.false tI × kden Bool.false Ty.bool × kden Bool.true tyJob × PUnit), rebGInv cn cl cp me l y.1 y_1 → bif pLt y_1.1 (pInt (pLen y.2.2.2.1.2.1)) then pIn y_1.1 (pLen y.2.2.2.1.2.1) ∧ bif pGt (pGet tyJob
 y.2.2.2.1.2.1 (pNat y_1.1)).1 (pGet tyRec l (pNat y.1)).2.2.1 then bif pNot y_1.2.1 then pRoom (pPlus (pLen y_1.2.2.1) (pLen [((pGet tyRec l (pNat y.1)).2.2.1, (3 : Int), ([] : List TaskD), (pGet tyRec l (pNat y.1)).2.2.2.2.2.2.2.1, (0 : Int), (0 : Int),
 ())])) 80 ∧ pIn y_1.1 (pLen y.2.2.2.1.2.1) ∧ pRoom (pPlus (pLen (pApp y_1.2.2.1 [((pGet tyRec l (pNat y.1)).2.2.1, (3 : Int), ([] : List TaskD), (pGet tyRec l (pNat y.1)).2.2.2.2.2.2.2.1, (0 : Int), (0 : Int), ())])) (pLen [(pGet tyJob y.2.2.2.1.2.1 (pNat
 y_1.1))])) 80 ∧ rebGInv cn cl cp me l y.1 (pAdd IntKind.i64 y_1.1 (1 : Int), Bool.true, pApp (pApp y_1.2.2.1 [((pGet tyRec l (pNat y.1)).2.2.1, (3 : Int), ([] : List TaskD), (pGet tyRec l (pNat y.1)).2.2.2.2.2.2.2.1, (0 : Int), (0 : Int), ())]) [(pGet
 tyJob y.2.2.2.1.2.1 (pNat y_1.1))], ()) ∧ Nat.le (Nat.succ (rebGMu cn cl cp me l y.1 (pAdd IntKind.i64 y_1.1 (1 : Int), Bool.true, pApp (pApp y_1.2.2.1 [((pGet tyRec l (pNat y.1)).2.2.1, (3 : Int), ([] : List TaskD), (pGet tyRec l (pNat
 y.1)).2.2.2.2.2.2.2.1, (0 : Int), (0 : Int), ())]) [(pGet tyJob y.2.2.2.1.2.1 (pNat y_1.1))], ()))) (rebGMu cn cl cp me l y.1 y_1) else RebuiltOf_t12 cn cl cp me l y y_1 else RebuiltOf_t12 cn cl cp me l y y_1 else bif pNot y_1.2.1 then
 pRoom (pPlus (pLen y_1.2.2.1) (pLen [((pGet tyRec l (pNat y.1)).2.2.1, (3 : Int), ([] : List TaskD), (pGet tyRec l (pNat y.1)).2.2.2.2.2.2.2.1, (0 : Int), (0 : Int), ())])) 80 ∧ rebDInv cn cl cp me l (pAdd IntKind.i64 y.1 (1 : Int), y.2.1, y.2.2.1,
 (y.2.2.2.1.1, pApp y_1.2.2.1 [((pGet tyRec l (pNat y.1)).2.2.1, (3 : Int), ([] : List TaskD), (pGet tyRec l (pNat y.1)).2.2.2.2.2.2.2.1, (0 : Int), (0 : Int), ())], ()), ()) ∧ Nat.le (Nat.succ (rebDMu cn cl cp me l (pAdd IntKind.i64 y.1 (1 : Int), y.2.1,
 y.2.2.1, (y.2.2.2.1.1, pApp y_1.2.2.1 [((pGet tyRec l (pNat y.1)).2.2.1, (3 : Int), ([] : List TaskD), (pGet tyRec l (pNat y.1)).2.2.2.2.2.2.2.1, (0 : Int), (0 : Int), ())], ()), ()))) (rebDMu cn cl cp me l y) else rebDInv cn cl cp me l (pAdd IntKind.i64
 y.1 (1 : Int), y.2.1, y.2.2.1, (y.2.2.2.1.1, y_1.2.2.1, ()), ()) ∧ Nat.le (Nat.succ (rebDMu cn cl cp me l (pAdd IntKind.i64 y.1 (1 : Int), y.2.1, y.2.2.1, (y.2.2.2.1.1, y_1.2.2.1, ()), ()))) (rebDMu cn cl cp me l y) else bif pEq (pGet tyRec
 l (pNat y.1)).1 (4 : Int) then Nat.le (Nat.succ (pLen y.2.2.2.1.2.1)) 4611686018427387904 ∧ bif pEq (pGet tyRec l (pNat y.1)).2.1 me then bif pGe (idxKeyJ y.2.2.2.1.2.1 (pGet tyRec l (pNat y.1)).2.2.1) (0 : Int) then Nat.le (Nat.succ (pLen
 y.2.2.2.1.2.1)) 1000 ∧ rebDInv cn cl cp me l (pAdd IntKind.i64 y.1 (1 : Int), y.2.1, y.2.2.1, (y.2.2.2.1.1, withoutF y.2.2.2.1.2.1 (idxKeyJ y.2.2.2.1.2.1 (pGet tyRec l (pNat y.1)).2.2.1), ()), ()) ∧ Nat.le (Nat.succ (rebDMu cn cl cp me l
 (pAdd IntKind.i64 y.1 (1 : Int), y.2.1, y.2.2.1, (y.2.2.2.1.1, withoutF y.2.2.2.1.2.1 (idxKeyJ y.2.2.2.1.2.1 (pGet tyRec l (pNat y.1)).2.2.1), ()), ()))) (rebDMu cn cl cp me l y) else RebuiltOf_t5 cn cl cp me l y else RebuiltOf_t5 cn cl cp
 me l y else bif pEq (pGet tyRec l (pNat y.1)).2.1 me then bif pGe (pGet tyRec l (pNat y.1)).2.2.1 y.2.2.2.1.1 then rebDInv cn cl cp me l (pAdd IntKind.i64 y.1 (1 : Int), y.2.1, y.2.2.1, (pAdd IntKind.i64 (pGet tyRec l (pNat y.1)).2.2.1 (1 :
 Int), y.2.2.2.1.2.1, ()), ()) ∧ Nat.le (Nat.succ (rebDMu cn cl cp me l (pAdd IntKind.i64 y.1 (1 : Int), y.2.1, y.2.2.1, (pAdd IntKind.i64 (pGet tyRec l (pNat y.1)).2.2.1 (1 : Int), y.2.2.2.1.2.1, ()), ()))) (rebDMu cn cl cp me l y) else
 RebuiltOf_t5 cn cl cp me l y else RebuiltOf_t5 cn cl cp me l y
abbrev RebuiltOf_t4 (cn : Int) (cl : (List LabD)) (cp : Int) (me : Int) (l : (List RecD)) (y : kden Bool.false tI × kden Bool.false tI × PUnit) : Prop := bif pNe y.2.1 (0 : Int) then RebuiltOf_t2 cn cl cp me l y else rebDInv cn cl cp me l ((0 : Int), [], ([], [], [], [], ()), ((1 : Int), [], ()), ()) ∧ ∀ (y : kden Bool.false tI × kden Bool.true tyNote × denCells vStoR × denCells vDesk ×
 PUnit), rebDInv cn cl cp me l y → bif pLt y.1 (pInt (pLen l)) then pIn y.1 (pLen l) ∧ bif pEq (pGet tyRec l (pNat y.1)).1 (1 : Int) then StoOk y.2.2.1 ∧ bif pEq (writeE y.2.2.1 ((pGet tyRec l (pNat y.1)).2.1, (pGet tyRec l (pNat
 y.1)).2.2.1, ()) (pGet tyRec l (pNat y.1)).2.2.2.1 (pGet tyRec l (pNat y.1)).2.2.2.2.1 (pGet tyRec l (pNat y.1)).2.2.2.2.2.1) (0 : Int) then rebDInv cn cl cp me l (pAdd IntKind.i64 y.1 (1 : Int), y.2.1, (writeS y.2.2.1 ((pGet tyRec l (pNat
 y.1)).2.1, (pGet tyRec l (pNat y.1)).2.2.1, ()) (pGet tyRec l (pNat y.1)).2.2.2.1 (pGet tyRec l (pNat y.1)).2.2.2.2.1 (pGet tyRec l (pNat y.1)).2.2.2.2.2.1), y.2.2.2.1, ()) ∧ Nat.le (Nat.succ (rebDMu cn cl cp me l (pAdd IntKind.i64 y.1 (1 :
 Int), y.2.1, (writeS y.2.2.1 ((pGet tyRec l (pNat y.1)).2.1, (pGet tyRec l (pNat y.1)).2.2.1, ()) (pGet tyRec l (pNat y.1)).2.2.2.1 (pGet tyRec l (pNat y.1)).2.2.2.2.1 (pGet tyRec l (pNat y.1)).2.2.2.2.2.1), y.2.2.2.1, ()))) (rebDMu cn cl
 cp me l y) else RebuiltOf_t5 cn cl cp me l y else bif pEq (pGet tyRec l (pNat y.1)).1 (2 : Int) then bif pEq (pGet tyRec l (pNat y.1)).1 (2 : Int) then RebuiltOf_t6 cn cl cp me l y else RebuiltOf_t11 cn cl cp me l y else bif pEq (pGet tyRec
 l (pNat y.1)).1 (6 : Int) then RebuiltOf_t6 cn cl cp me l y else RebuiltOf_t11 cn cl cp me l y else (y.2.2.1, y.2.2.2.1, y.2.1, (0 : Int), ()) = (RebuiltOf_v0 cn cl cp me l)
abbrev RebuiltOf_t3 (cn : Int) (cl : (List LabD)) (cp : Int) (me : Int) (l : (List RecD)) : Prop := rebCInv cn cl cp me l ((0 : Int), cfgF (cn, cl, cp, ()), ()) ∧ ∀ (y : kden Bool.false tI × kden Bool.false tI × PUnit), rebCInv cn cl cp me l y → bif pLt y.1 (pInt (pLen l)) then bif pEq y.2.1 (0 : Int) then RebuiltOf_t0 cn cl cp me l y
 else RebuiltOf_t4 cn cl cp me l y else RebuiltOf_t4 cn cl cp me l y

def RebuiltOf_VC (cn : Int) (cl : (List LabD)) (cp : Int) (me : Int) (l : (List RecD)) : Prop :=
  Nat.le (Nat.succ (pLen cl)) 4611686018427387904 ∧ bif pEq (cfgF (cn, cl, cp, ())) (0 : Int) then bif pNot (inF me (0 : Int) (pSubI IntKind.i64 cn (1 : Int))) then rebCInv cn cl cp me l ((0 : Int), (2 : Int), ()) ∧ ∀ (y : kden Bool.false tI
 × kden Bool.false tI × PUnit), rebCInv cn cl cp me l y → bif pLt y.1 (pInt (pLen l)) then bif pEq y.2.1 (0 : Int) then RebuiltOf_t0 cn cl cp me l y else RebuiltOf_t1 cn cl cp me l y else RebuiltOf_t1 cn cl cp me l y else RebuiltOf_t3 cn cl
 cp me l else RebuiltOf_t3 cn cl cp me l
set_option maxRecDepth 100000 in
theorem RebuiltOf_meets (hcFault : MtG tabsR 38 ccFault) (hIn : MtG tabsR 39 cIn) (hRecordFault : MtG tabsR 40 cRecordFault) (hWriteOfW : MtG tabsR 29 cWriteOfW) (hEndOfW : MtG tabsR 32 cEndOfW) (hjobAt : MtG tabsR 41 cjobAt) (hintsCopyF : MtG tabsR 42 cintsCopyF) (hwithout : MtG tabsR 43 cwithout) (h : ∀ (cn : Int) (cl : (List LabD)) (cp : Int) (me : Int) (l : (List RecD)), (∀ p ∈ Rebuild_p ⟨((cn, cl, cp, ()), me, l, ()), ()⟩, p) → RebuiltOf_VC cn cl cp me l) : MtG tabsR 11 cRebuiltOf :=
  meets_vc (E := envOfG Tryd.prog tabsR [(38, (false, ccFault)), (39, (false, cIn)), (40, (false, cRecordFault)), (29, (false, cWriteOfW)), (32, (false, cEndOfW)), (41, (false, cjobAt)), (42, (false, cintsCopyF)), (43, (false, cwithout))] eqsRdV) (envOfG_ok (fun p hp => (by simp only [List.mem_cons, List.not_mem_nil, or_false] at hp; rcases hp with rfl | rfl | rfl | rfl | rfl | rfl | rfl | rfl; exact hcFault; exact hIn; exact hRecordFault; exact hWriteOfW; exact hEndOfW; exact hjobAt; exact hintsCopyF; exact hwithout)) (by kernel_rfl)) Rebuild_S (fun x => fun ky9 st9 => look [(5, (⟨[.slot 11 false tI, .slot 10 false tI], rebCInv x.1.1.1 x.1.1.2.1 x.1.1.2.2.1 x.1.2.1 x.1.2.2.1, rebCMu x.1.1.1 x.1.1.2.1 x.1.1.2.2.1 x.1.2.1 x.1.2.2.1⟩ : Ann)), (14, (⟨[.slot 15 false tI, .slot 14 true tyNote, .box 240 vStoR, .box 264 vDesk], rebDInv x.1.1.1 x.1.1.2.1 x.1.1.2.2.1 x.1.2.1 x.1.2.2.1, rebDMu x.1.1.1 x.1.1.2.1 x.1.1.2.2.1 x.1.2.1 x.1.2.2.1⟩ : Ann)), (30, (⟨[.slot 21 false tI, .row 296 tyNote], rebFInv x.1.1.1 x.1.1.2.1 x.1.1.2.2.1 x.1.2.1 x.1.2.2.1 (slotI st9 15), rebFMu x.1.1.1 x.1.1.2.1 x.1.1.2.2.1 x.1.2.1 x.1.2.2.1 (slotI st9 15)⟩ : Ann)), (42, (⟨[.slot 25 false tI, .slot 24 false .bool, .slot 23 true tyJob], rebGInv x.1.1.1 x.1.1.2.1 x.1.1.2.2.1 x.1.2.1 x.1.2.2.1 (slotI st9 15), rebGMu x.1.1.1 x.1.1.2.1 x.1.1.2.2.1 x.1.2.1 x.1.2.2.1 (slotI st9 15)⟩ : Ann))] ky9) Tryd.func11 (by kernel_rfl) (by kernel_rfl) Rebuild_p [] [.agg 0 vStoR, .agg 1 vDesk, .slot 2 true tyNote, .slot 3 false tI] Rebuild_f (fun x => RebuiltOf_VC x.1.1.1 x.1.1.2.1 x.1.1.2.2.1 x.1.2.1 x.1.2.2.1) (fun x => by kernel_rfl) (fun x hp => h x.1.1.1 x.1.1.2.1 x.1.1.2.2.1 x.1.2.1 x.1.2.2.1 hp)





def RecoverRebuilds_VC (cn : Int) (cl : (List LabD)) (cp : Int) (me : Int) (l : (List RecD)) : Prop :=
  pRoom (pPlus (pLen ([] : List Unit)) (pLen l)) 80 ∧ Nat.le (Nat.succ (pLen cl)) 4611686018427387904 ∧ Nat.le (Nat.succ (pLen (pApp [] l))) 4611686018427387904 ∧ RecsOk (pApp [] l) ∧ Nat.le (Nat.succ (pLen cl)) 4611686018427387904 ∧ Nat.le
 (Nat.succ (pLen l)) 4611686018427387904 ∧ RecsOk l ∧ bif pEq (rebE (cn, cl, cp, ()) me (pApp [] l)) (rebE (cn, cl, cp, ()) me l) then Nat.le (Nat.succ (pLen (rebM (cn, cl, cp, ()) me (pApp [] l)).1)) 4611686018427387904 ∧ Nat.le (Nat.succ
 (pLen (rebM (cn, cl, cp, ()) me (pApp [] l)).2.1)) 4611686018427387904 ∧ Nat.le (Nat.succ (pLen (rebM (cn, cl, cp, ()) me (pApp [] l)).2.2.1)) 4611686018427387904 ∧ Nat.le (Nat.succ (pLen (rebM (cn, cl, cp, ()) me (pApp [] l)).2.2.2.1))
 4611686018427387904 ∧ bif sameStoF ((rebM (cn, cl, cp, ()) me (pApp [] l)).1, (rebM (cn, cl, cp, ()) me (pApp [] l)).2.1, (rebM (cn, cl, cp, ()) me (pApp [] l)).2.2.1, (rebM (cn, cl, cp, ()) me (pApp [] l)).2.2.2.1, ()) ((rebM (cn, cl, cp,
 ()) me l).1, (rebM (cn, cl, cp, ()) me l).2.1, (rebM (cn, cl, cp, ()) me l).2.2.1, (rebM (cn, cl, cp, ()) me l).2.2.2.1, ()) then Nat.le (Nat.succ (pLen (rebM (cn, cl, cp, ()) me (pApp [] l)).2.2.2.2.2.1)) 4611686018427387904 ∧ (∀ (q : Int
 × Int × List (Bool × Int × Int × Int × Int × Int × Bool × Bool × PUnit) × List (Int × PUnit) × Int × Int × PUnit), List.Mem q (rebM (cn, cl, cp, ()) me (pApp [] l)).2.2.2.2.2.1 → Nat.le (Nat.succ (pLen q.2.2.1)) 4611686018427387904 ∧ Nat.le
 (Nat.succ (pLen q.2.2.2.1)) 4611686018427387904) ∧ bif sameDeskF ((rebM (cn, cl, cp, ()) me (pApp [] l)).2.2.2.2.1, (rebM (cn, cl, cp, ()) me (pApp [] l)).2.2.2.2.2.1, ()) ((rebM (cn, cl, cp, ()) me l).2.2.2.2.1, (rebM (cn, cl, cp, ()) me
 l).2.2.2.2.2.1, ()) then Nat.le (Nat.succ (pLen (rebM (cn, cl, cp, ()) me (pApp [] l)).2.2.2.2.2.2.1)) 4611686018427387904 ∧ (sameNotesF (rebM (cn, cl, cp, ()) me (pApp [] l)).2.2.2.2.2.2.1 (rebM (cn, cl, cp, ()) me l).2.2.2.2.2.2.1, ()) =
 (Bool.true, ()) else (Bool.false, ()) = (Bool.true, ()) else (Bool.false, ()) = (Bool.true, ()) else (Bool.false, ()) = (Bool.true, ())
set_option maxRecDepth 100000 in
theorem RecoverRebuilds_walk {H : Type} {enc : TypeId × Value → H} (hRebuild : MtG tabsR 10 cRebuild) (hRebuiltOf : MtG tabsR 11 cRebuiltOf) (hsameStore : MtG tabsR 12 csameStore) (hsameDesk : MtG tabsR 13 csameDesk) (hsameNotes : MtG tabsR 9 csameNotes) (h : ∀ (x : denL [(true, wCfg), (false, wInt), (false, (wSl wRec 80))]), okL [(true, wCfg), (false, wInt), (false, (wSl wRec 80))] x → RecoverRebuilds_VC x.1.1 x.1.2.1 x.1.2.2.1 x.2.1.1 x.2.2.1.1) : ∀ (W : World) (base : Nat) (args : Array Value) (ds : List (DataW H)) (p : List MemPlace), DataW.TrodAll enc Tryd.prog W 0 (fun _ => true) true Tryd.f4.params.toList args.toList ds p → (∀ (j : Nat) (t : TypeId) (v : Value), Tryd.f4.params[j]? = some t → args[j]? = some v → Value.okWide Tryd.prog W .any base t v) → (∀ x ∈ p, x.block < W.heap.size) → (DataW.weightsEach Tryd.prog Tryd.f4.params.toList ds).all (· ≤ reachBytes) = true → TabsR W → Calls Tryd.prog 4 args W fun e W1 => e = .returned (.bool true) ∧ Below W.heap.size W W1 :=
  law_walkLG (E := envOfG Tryd.prog tabsR [(10, (false, cRebuild)), (11, (false, cRebuiltOf)), (12, (false, csameStore)), (13, (false, csameDesk)), (9, (false, csameNotes))] eqsRdV) (envOfG_ok (fun p hp => (by simp only [List.mem_cons, List.not_mem_nil, or_false] at hp; rcases hp with rfl | rfl | rfl | rfl | rfl; exact hRebuild; exact hRebuiltOf; exact hsameStore; exact hsameDesk; exact hsameNotes)) (by kernel_rfl)) TabsR tabsR_ok Tryd.func4 (by kernel_rfl) [(true, wCfg), (false, wInt), (false, (wSl wRec 80))] (by kernel_rfl) (fun x => fun ky9 st9 => look [] ky9) (fun x => RecoverRebuilds_VC x.1.1 x.1.2.1 x.1.2.2.1 x.2.1.1 x.2.2.1.1) (fun x => by kernel_rfl) h


end Go.Proofs.YtkhnakdmkhidbaaDoor

/- What comes back from a tape: both functions meet their contracts. No condition. -/
namespace Go.Proofs.YtkhnakdmkhidbaaDoor
open Go.RowKit

theorem jobAt_ok : Meets Tryd.prog (fun _ => none) 41 cjobAt := jobAt_meets fun dn dj n hp => by
  have hl : dj.length < 4611686018427387904 := hp _ List.mem_cons_self
  clear hp
  unfold jobAt_VC
  refine ⟨UpInv.start, fun y hy => ?_⟩
  rcases FindInv.round hl hy with ⟨k, rfl, hk, hb, hT, hF⟩ | ⟨rfl, hT⟩
  · rw [bif_true (by simp [pLt_coe, pLen, hk]), pNat_coe]
    refine ⟨pIn_coe.2 hk, bif_ok (fun h => ?_) fun h => hF h⟩
    exact congrArg (·, ()) (hT h).symm
  · rw [bif_false (by simp [pLt_coe, pLen])]
    exact congrArg (·, ()) hT.symm
theorem withoutK_succ {l : List JobD} {n : Int} {k : Nat} : withoutK l n (k + 1) = cond (pEq (k : Int) n) (withoutK l n k) (withoutK l n k ++ [pGet tyJob l k]) := by
  unfold withoutK
  rw [List.range_succ, List.filterMap_append]
  cases h : pEq (k : Int) n <;> simp [h]
theorem withoutK_len (l : List JobD) (n : Int) (k : Nat) : (withoutK l n k).length ≤ k := by
  unfold withoutK
  refine Nat.le_trans (List.length_filterMap_le _ _) ?_
  rw [List.length_range]; exact Nat.le_refl _
theorem without_ok : Meets Tryd.prog (fun _ => none) 43 cwithout := without_meets fun l n hp => by
  have hl : l.length < 1000 := hp _ List.mem_cons_self
  clear hp
  unfold without_VC
  refine ⟨⟨0, rfl, Nat.zero_le _⟩, fun y hy => ?_⟩
  obtain ⟨k, rfl, hk⟩ := hy
  dsimp only
  by_cases hkn : k < l.length
  · rw [bif_true (by simp [pLt_coe, pLen, hkn]), pNat_coe]
    have hb : k < 4611686018427387904 := by omega
    refine bif_ok (fun h => ?_) fun h => ?_
    · have h' : pEq (k : Int) n = false := by simpa [pNe, pEq] using h
      have e : pApp (withoutK l n k) [pGet tyJob l k] = withoutK l n (k + 1) := by rw [withoutK_succ, h']; rfl
      refine ⟨pIn_coe.2 hkn, ?_, ⟨k + 1, by rw [pAdd1 hb, e], hkn⟩, mu_step hkn hb⟩
      have := withoutK_len l n k
      show ((withoutK l n k).length + 1) * 80 ≤ 140737488351232
      omega
    · have h' : pEq (k : Int) n = true := by simpa [pNe, pEq] using h
      exact ⟨⟨k + 1, by rw [pAdd1 hb, withoutK_succ, h']; rfl, hkn⟩, mu_step hkn hb⟩
  · obtain rfl : k = l.length := by omega
    rw [bif_false (by simp [pLt_coe, pLen])]
    rfl
theorem sameTasks_ok : Meets Tryd.prog (fun _ => none) 45 csameTasks := sameTasks_meets fun l m hp => by
  have hl : l.length < 4611686018427387904 := hp _ List.mem_cons_self
  unfold sameTasks_VC
  refine bif_ok (fun h => leafF fun q => ?_) fun h => ?_
  · unfold sameTasksF at q; simp only [Bool.and_eq_true, decide_eq_true_eq] at q
    have : pNe (pInt l.length) (pInt m.length) = true := h
    rw [q.1] at this; simp [pNe] at this
  have hn : l.length = m.length := by
    have : pNe (pInt l.length) (pInt m.length) = false := h
    simp only [pNe, pInt, bne_eq_false_iff_eq] at this; omega
  refine ⟨⟨hn, UpInv.start⟩, fun y ⟨_, hy⟩ => ?_⟩
  rcases UpInv.round hl hy with ⟨k, rfl, hk, hb, -, hF, hT⟩ | ⟨rfl, hT⟩
  · have hk2 : k < m.length := by omega
    rw [bif_true (by simp [pLt_coe, pLen, hk]), pNat_coe]
    refine ⟨pIn_coe.2 hk, pIn_coe.2 hk2, bif_ok (fun h => leafF fun q => ?_) fun h => ?_⟩
    · have h' : eqTaskAt l m k = false := by have h2 : (!eqTaskAt l m k) = true := h; simpa using h2
      unfold sameTasksF at q
      rw [hF h'] at q; simp at q
    · have h' : eqTaskAt l m k = true := by have h2 : (!eqTaskAt l m k) = false := h; simpa using h2
      exact ⟨⟨hn, (hT h').1⟩, (hT h').2⟩
  · rw [bif_false (by simp [pLt_coe, pLen])]
    refine leafT fun q => ?_
    unfold sameTasksF at q
    rw [hT, hn] at q; simp at q
theorem sameDesk_ok : Meets Tryd.prog (fun _ => none) 13 csameDesk := sameDesk_meets sameTasks_ok sameInts_ok fun an aj bn bj hp => by
  have hl : aj.length < 4611686018427387904 := hp (pLen aj < 4611686018427387904) (by simp)
  have hq : ∀ q ∈ aj, pLen q.2.2.1 < 4611686018427387904 ∧ pLen q.2.2.2.1 < 4611686018427387904 := hp (∀ q ∈ aj, pLen q.2.2.1 < 4611686018427387904 ∧ pLen q.2.2.2.1 < 4611686018427387904) (by simp)
  clear hp
  unfold sameDesk_VC
  refine bif_ok (fun h => leafF fun q => ?_) fun h0 => bif_ok (fun h => leafF fun q => ?_) fun h => ?_
  · unfold sameDeskF at q
    simp only [Bool.and_eq_true] at q
    have h2 : pEq an bn = true := q.1
    simp only [pNe, pEq, bne_iff_ne, beq_iff_eq] at h h2
    exact h h2
  · unfold sameDeskF at q; simp only [Bool.and_eq_true, decide_eq_true_eq] at q
    have : pNe (pInt aj.length) (pInt bj.length) = true := h
    rw [q.2.1] at this; simp [pNe] at this
  have hn : aj.length = bj.length := by
    have : pNe (pInt aj.length) (pInt bj.length) = false := h
    simp only [pNe, pInt, bne_eq_false_iff_eq] at this; omega
  have h0' : pEq an bn = true := by simpa [pNe, pEq] using h0
  refine ⟨⟨hn, UpInv.start⟩, fun y ⟨_, hy⟩ => ?_⟩
  rcases UpInv.round hl hy with ⟨k, rfl, hk, hb, -, hF, hT⟩ | ⟨rfl, hT⟩
  · have hk2 : k < bj.length := by omega
    rw [bif_true (by simp [pLt_coe, pLen, hk]), pNat_coe]
    have hin := hq (pGet tyJob aj k) (by rw [pGet_lt (t := tyJob) hk]; exact List.getElem_mem hk)
    have no : eqJobAt aj bj k = false → (false, ()) = (sameDeskF (an, aj, ()) (bn, bj, ()), ()) := fun e => leafF fun q => by
      unfold sameDeskF at q
      simp only [Bool.and_eq_true] at q
      have := q.2.2
      rw [hF e] at this; cases this
    have ej : eqJobAt aj bj k = sameJobF (pGet tyJob aj k) (pGet tyJob bj k) := rfl
    refine ⟨pIn_coe.2 hk, pIn_coe.2 hk2, bif_ok (fun a => no (by rw [ej]; unfold sameJobF; rw [a]; rfl)) fun a => bif_ok (fun b => no (by rw [ej]; unfold sameJobF; rw [a, b]; rfl)) fun b =>
      bif_ok (fun c => no (by rw [ej]; unfold sameJobF; rw [a, b, c]; rfl)) fun c => bif_ok (fun d => no (by rw [ej]; unfold sameJobF; rw [a, b, c, d]; rfl)) fun d =>
      ⟨hin.1, bif_ok (fun e => no (by rw [ej]; unfold sameJobF; rw [a, b, c, d, e]; rfl)) fun e => ⟨hin.2, bif_ok (fun f => no (by rw [ej]; unfold sameJobF; rw [a, b, c, d, e, f]; rfl)) fun f => ?_⟩⟩⟩
    have hT' := hT (show eqJobAt aj bj k = true by rw [ej]; unfold sameJobF; rw [a, b, c, d, e, f]; rfl)
    exact ⟨⟨hn, hT'.1⟩, hT'.2⟩
  · rw [bif_false (by simp [pLt_coe, pLen])]
    refine leafT fun q => ?_
    unfold sameDeskF at q
    have q' : (pEq an bn && (decide (aj.length = bj.length) && allUpto (eqJobAt aj bj) aj.length)) = false := q
    rw [h0', hT, hn] at q'; simp at q'

/-- all records may be: what is there behind some of them -/
theorem allOk {c : CfgD} {l : List RecD} (h : ∀ j, j < l.length → pEq (recAt c l j) 0 = true) : ∀ j, j < l.length → inF (pGet tyRec l j).2.2.1 1 1048576 = true ∧ pLen (pGet tyRec l j).2.2.2.2.2.2.2.1 < 1000000 := fun j hj => rec_ok (h j hj)
theorem recAt_kind {c : CfgD} {r : RecD} (h : pEq (recF c r) 0 = true) : inF r.1 1 6 = true := by
  unfold recF at h
  cases hc : pEq (cfgF c) 0 with
  | false => rw [hc, cond_false] at h; rw [h] at hc; cases hc
  | true =>
    rw [hc, cond_true] at h
    cases hk : inF r.1 1 6 with
    | false => rw [hk] at h; cases h
    | true => rfl
theorem rebE_zero {c : CfgD} {me : Int} {l : List RecD} (h1 : pEq (cfgF c) 0 = true) (h2 : (pLe 0 me && pLt me c.1) = true) : rebE c me l = firstE (recAt c l) l.length := by
  unfold rebE; rw [h1, h2]; rfl
theorem rebM_zero {c : CfgD} {me : Int} {l : List RecD} (h : rebE c me l = 0) : rebM c me l = memK me l l.length := by
  unfold rebM; rw [h]; rfl
theorem rebM_no {c : CfgD} {me : Int} {l : List RecD} (h : pEq (rebE c me l) 0 = false) : rebM c me l = noMem := by
  unfold rebM; rw [h]; rfl

theorem Rebuild_ok : Meets Tryd.prog tabsR 10 cRebuild := Rebuild_meets lCheck_ok.any CheckRecord_ok mone_ok.any fun cn cl cp me l hp => by
  have hc : cl.length < 4611686018427387904 := hp (pLen cl < 4611686018427387904) (by simp)
  have hl : l.length < 4611686018427387904 := hp (pLen l < 4611686018427387904) (by simp)
  have hr : RecsOk l := hp (RecsOk l) (by simp)
  clear hp
  have err : ∀ {e : Int}, rebE (cn, cl, cp, ()) me l = e → pEq e 0 = false → (([], [], [], [], ()), ((0 : Int), [], ()), [], e, ()) = Rebuild_v0 cn cl cp me l := by
    intro e he h0
    unfold Rebuild_v0
    rw [rebM_no (by rw [he]; exact h0), he]; rfl
  have ne : ∀ {e : Int}, pNe e 0 = true → pEq e 0 = false := fun h => by simpa [pNe, pEq] using h
  unfold Rebuild_VC Rebuild_t0 Rebuild_v0
  refine ⟨hc, bif_ok (fun h => ?_) fun h => ?_⟩
  · exact err (by unfold rebE; rw [ne h]; rfl) (ne h)
  have h0 : pEq (cfgF (cn, cl, cp, ())) 0 = true := by simpa [pNe, pEq] using h
  refine bif_ok (fun a => ?_) fun a => bif_ok (fun b => ?_) fun b => ?_
  · refine err (e := 2) ?_ rfl
    have : (pLe 0 me && pLt me cn) = false := by
      have : pLe 0 me = false := by simp only [pLt, pLe, decide_eq_true_eq, decide_eq_false_iff_not] at a ⊢; omega
      rw [this]; rfl
    unfold rebE; rw [h0, show (pLe 0 me && pLt me ((cn, cl, cp, ()) : CfgD).1) = false from this]; rfl
  · refine err (e := 2) ?_ rfl
    have : pLt me cn = false := by simp only [pLt, pGe, decide_eq_true_eq, decide_eq_false_iff_not] at b ⊢; omega
    unfold rebE; rw [h0, show (pLe 0 me && pLt me ((cn, cl, cp, ()) : CfgD).1) = false by rw [show pLt me ((cn, cl, cp, ()) : CfgD).1 = false from this, Bool.and_false]]; rfl
  have hme : (pLe 0 me && pLt me cn) = true := by
    have h1 : pLe 0 me = true := by simp only [pLt, pLe, decide_eq_true_eq, decide_eq_false_iff_not] at a ⊢; omega
    have h2 : pLt me cn = true := by simp only [pLt, pGe, decide_eq_true_eq, decide_eq_false_iff_not] at b ⊢; omega
    rw [h1, h2]; rfl
  have hE := rebE_zero (c := (cn, cl, cp, ())) (l := l) h0 hme
  refine ⟨UpInv.start, fun y hy => ?_⟩
  rcases FirstInv.round hl hy with ⟨k, rfl, hk, hb, hF, hT⟩ | ⟨rfl, hT⟩
  · rw [bif_true (by simp [pLt_coe, pLen, hk]), pNat_coe]
    have hk9 := hr.2 (pGet tyRec l k) (by rw [pGet_lt (t := tyRec) hk]; exact List.getElem_mem hk)
    refine ⟨pIn_coe.2 hk, hc, hk9, bif_ok (fun h => ?_) fun h => hT (by have h' : pNe (recAt (cn, cl, cp, ()) l k) 0 = false := h; simpa [pNe, pEq] using h')⟩
    exact err (by rw [hE]; exact hF (ne h)) (ne h)
  · rw [bif_false (by simp [pLt_coe, pLen])]
    have hz : rebE (cn, cl, cp, ()) me l = 0 := by rw [hE]; exact hT
    have hall : ∀ j, j < l.length → pEq (recAt (cn, cl, cp, ()) l j) 0 = true := fun j hj => by
      obtain ⟨k, hk, hk2, ha⟩ := hy
      have : (l.length : Int) = (k : Int) := hk
      exact ha j (by omega)
    have hok := allOk hall
    refine ⟨⟨0, rfl, Nat.zero_le _⟩, fun y hy => ?_⟩
    obtain ⟨k, rfl, hk⟩ := hy
    dsimp only
    by_cases hkn : k < l.length
    · rw [bif_true (by simp [pLt_coe, pLen, hkn]), pNat_coe]
      have hb : k < 4611686018427387904 := by omega
      have hm : MemOk (memK me l k) := (memK_k (fun j hj => (hok j hj).1) k hk).ok (by have := hr.1; omega)
      refine ⟨pIn_coe.2 hkn, hm, (hok k hkn).1, (hok k hkn).2, ⟨k + 1, ?_, hkn⟩, mu_step hkn hb⟩
      rw [pAdd1 hb, memK_succ hkn]
    · obtain rfl : k = l.length := by omega
      rw [bif_false (by simp [pLt_coe, pLen])]
      show _ = Rebuild_v0 cn cl cp me l
      unfold Rebuild_v0
      rw [hz, rebM_zero hz]


end Go.Proofs.YtkhnakdmkhidbaaDoor
