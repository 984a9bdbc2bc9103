/- Contracts, and what the evaluator says, as plain propositions: CdV. Printed by vc.py. -/
import Derived.Test.YtnkcmkegjckncaaJ4
import Derived.Test.YtnkcmkegjckncaaJ1

/- Plain words of coordinators' turns: what a client's call does. No condition. -/
namespace Go.Proofs.Ytnkcmkegjckncaa
open Go.RowKit

abbrev pCal : Par := .agg [.rd tI, .rd tI, .rd tI, .rd tI, .rd tI]
abbrev CalD := Int × Int × Int × Int × Int × Unit
abbrev tyTurnX : Ty := .pair tI (.pair (.sl tyMsg) (.pair (.sl tyRec) (.pair (.sl tyRep) (.pair tI (.pair tI .unit)))))
abbrev tyWorkX : Ty := .pair tI (.pair (.sl tyLab) (.pair tI (.pair tI (.pair tI tyTurnX))))
abbrev TurnX := Int × List MsgD × List RecD × List RepD × Int × Int × Unit
abbrev WorkX := Int × List LabD × Int × Int × Int × TurnX
abbrev WorkK := Int × List LabD × Int × Int × Int × Int × Unit × List MsgD × List RecD × List RepD × Int × Int × Unit
abbrev TurnK := Int × Unit × List MsgD × List RecD × List RepD × Int × Int × Unit
abbrev vDeskN : List (Bool × Ty) := [(false, tI), (true, .mark [2, 3] tyJob)]
abbrev kTurnX (n : Nat) : List (Bool × Ty) := [(false, tI), (false, .mark [n] .unit), (true, tyMsg), (true, tyRec), (true, tyRep), (false, tI), (false, tI)]
abbrev kWorkX (n : Nat) : List (Bool × Ty) := [(false, tI), (false, .sl tyLab), (false, tI), (false, tI), (false, tI), (false, tI), (false, .mark [n] .unit), (true, tyMsg), (true, tyRec), (true, tyRep), (false, tI), (false, tI)]

def aboveF (a b : LabD) : Bool := pGe a.1 b.1 && pEq (pAnd .i64 a.2.1 b.2.1) b.2.1
def writeAt (l : List TaskD) (j : Nat) : Bool := (pGet tyTask l j).1
def anyWrite (l : List TaskD) : Int := idxOf (writeAt l) l.length
/-- a read that is to be asked again -/
def askAt (ts : List TaskD) (i : Nat) : Bool := !(pGet tyTask ts i).1 && !(pGet tyTask ts i).2.2.2.2.2.2.2.1
def checkM (cn me n : Int) (t : TaskD) : MsgD := (3, me, pRem t.2.2.1 cn, me, n, t.2.1, t.2.2.1, 0, t.2.2.2.2.1, 0, false, 0, ())
def checksM (cn me n : Int) (ts : List TaskD) : Nat → List MsgD
  | 0 => []
  | k + 1 => cond (askAt ts k) (checksM cn me n ts k ++ [checkM cn me n (pGet tyTask ts k)]) (checksM cn me n ts k)
def asksN (ts : List TaskD) : Nat → Nat
  | 0 => 0
  | k + 1 => cond (askAt ts k) (asksN ts k + 1) (asksN ts k)
def keepW (w : WorkX) (ms : List MsgD) : WorkK := (w.1, w.2.1, w.2.2.1, w.2.2.2.1, w.2.2.2.2.1, w.2.2.2.2.2.1, (), ms, w.2.2.2.2.2.2.2)
def keepTn (t : TurnX) (ms : List MsgD) : TurnK := (t.1, (), ms, t.2.2)
/-- why a call may not be; 0: it may -/
def faultC (c : CfgD) (l : Int) (d : DeskD) (x : CalD) : Int :=
  cond (pLt (idxKeyJ d.2.1 x.2.1) 0) 6 (cond (pNe (pGet tyJob d.2.1 (pNat (idxKeyJ d.2.1 x.2.1))).2.1 1) 13
    (cond (openT (pGet tyJob d.2.1 (pNat (idxKeyJ d.2.1 x.2.1))).2.2.1) 14 (cond (pEq x.1 4 || pEq x.1 5) 0
      (cond (pNot (inF x.2.2.2.1 0 7) || pNot (inF x.2.2.2.2.1 0 1073741824)) 2
        (cond (pEq x.1 2 && (pNot (placeF c x.2.2.1) || pNot (aboveF (pGet tyLab c.2.1 (pNat l)) (pGet tyLab c.2.1 (pNat x.2.2.1))))) 10
          (cond (pGe (pInt (pGet tyJob d.2.1 (pNat (idxKeyJ d.2.1 x.2.1))).2.2.1.length) 10 || pGe (pGet tyJob d.2.1 (pNat (idxKeyJ d.2.1 x.2.1))).2.2.2.2.1 1048576) 8 0))))))
def beginT (m : Int) (d : DeskD) (r : Int) : TurnD :=
  cond (pEq (pInt d.2.1.length) 6 || (pGt d.1 1048576 || pLt r 600)) (d.1, d.2.1, [], [], [(m, 1, 0, 0, 0, 8, ())], 0, 0, ())
    (pAdd .i64 d.1 1, d.2.1 ++ [(d.1, 1, [], [], 0, 0, ())], [], [(5, m, d.1, 0, 0, 0, false, [], ())], [(m, 1, d.1, 0, 0, 0, ())], 0, 0, ())
def askT (d : DeskD) (i : Nat) (j : JobD) (t : TaskD) (a : MsgD) : TurnD :=
  (d.1, pSet d.2.1 i (j.1, j.2.1, j.2.2.1 ++ [t], j.2.2.2.1, pAdd .i64 j.2.2.2.2.1 1, 0, ()), [a], [], [], 0, 0, ())
/-- a job is committed -/
def commitW (cn l m n : Int) (dj : List JobD) (i : Nat) (j : JobD) (su : Int) : TurnD :=
  cond (pEq (pInt (handsF cn l j.2.2.1).length) 0) (n, pDel dj i, [], [], [(m, 4, j.1, 0, 0, 0, ())], su, j.1, ())
    (n, pSet dj i (j.1, 3, j.2.2.1, handsF cn l j.2.2.1, j.2.2.2.2.1, 0, ()), saysM m true j.1 (handsF cn l j.2.2.1), cond (anyUpto (writeAt j.2.2.1) j.2.2.1.length) [(3, m, j.1, 0, 0, 0, false, handsF cn l j.2.2.1, ())] [],
      [(m, 4, j.1, 0, 0, 0, ())], su, j.1, ())
def doneT (c : CfgD) (l m : Int) (d : DeskD) (x : CalD) (i : Nat) (j : JobD) : TurnD :=
  cond (pEq x.1 2) (askT d i j (false, x.2.2.1, x.2.2.2.1, 0, 0, pAdd .i64 j.2.2.2.2.1 1, false, false, ()) (1, m, pRem x.2.2.2.1 c.1, m, j.1, x.2.2.1, x.2.2.2.1, 0, 0, pAdd .i64 j.2.2.2.2.1 1, false, 0, ()))
    (cond (pEq x.1 3) (askT d i j (true, l, x.2.2.2.1, x.2.2.2.2.1, 0, pAdd .i64 j.2.2.2.2.1 1, false, false, ()) (2, m, pRem x.2.2.2.1 c.1, m, j.1, 0, x.2.2.2.1, x.2.2.2.2.1, 0, pAdd .i64 j.2.2.2.2.1 1, false, 0, ()))
      (cond (pEq x.1 4) (cond (anyUpto (askAt j.2.2.1) j.2.2.1.length) (d.1, pSet d.2.1 i (j.1, 2, j.2.2.1, j.2.2.2.1, j.2.2.2.2.1, 0, ()), checksM c.1 m j.1 j.2.2.1 j.2.2.1.length, [], [], j.1, 0, ())
          (commitW c.1 l m d.1 d.2.1 i j j.1))
        (d.1, pDel d.2.1 i, saysM m false j.1 (handsF c.1 l j.2.2.1), [], [(m, 5, x.2.1, 0, 0, 0, ())], 0, 0, ())))
def calE (c : CfgD) (l m : Int) (d : DeskD) (x : CalD) : Int := cond (pEq (begE c l m d) 0) (cond (inF x.1 1 5) 0 3) (begE c l m d)
def calT (c : CfgD) (l m : Int) (d : DeskD) (r : Int) (x : CalD) : TurnD :=
  cond (pEq (calE c l m d x) 0) (cond (pEq x.1 1) (beginT m d r)
    (cond (pEq (faultC c l d x) 0) (doneT c l m d x (pNat (idxKeyJ d.2.1 x.2.1)) (pGet tyJob d.2.1 (pNat (idxKeyJ d.2.1 x.2.1))))
      (d.1, d.2.1, [], [], [(m, x.1, x.2.1, x.2.2.2.1, 0, faultC c l d x, ())], 0, 0, ()))) noTurn

/- loops -/
def idxWInv (l : List TaskD) : Int × Unit → Prop := FindInv (writeAt l) l.length
def idxWMu (l : List TaskD) : Int × Unit → Nat := UpMu l.length
def tellXInv (w : WorkX) (n : Int) (a : List ND) : Int × WorkK × Unit → Prop := StepInv (fun k => (keepW w (w.2.2.2.2.2.2.1 ++ saysM w.2.2.2.2.1 true n (a.take k)), ())) a.length
def tellXMu (_ : WorkX) (_ : Int) (a : List ND) : Int × WorkK × Unit → Nat := StepMu a.length
def kendXInv (w : WorkX) (n : Int) (a : List ND) : Int × WorkK × Unit → Prop := StepInv (fun k => (keepW w (w.2.2.2.2.2.2.1 ++ saysM w.2.2.2.2.1 false n (a.take k)), ())) a.length
def kendXMu (_ : WorkX) (_ : Int) (a : List ND) : Int × WorkK × Unit → Nat := StepMu a.length
def againInv (w : WorkX) (js : List JobD) (at_ : Int) (ts : List TaskD) : Int × Bool × WorkK × Unit → Prop :=
  StepInv (fun k => (anyUpto (askAt ts) k, keepW w (w.2.2.2.2.2.2.1 ++ checksM w.1 w.2.2.2.2.1 (pGet tyJob js (pNat at_)).1 ts k), ())) ts.length
def againMu (_ : WorkX) (_ : List JobD) (_ : Int) (ts : List TaskD) : Int × Bool × WorkK × Unit → Nat := StepMu ts.length
def toldXInv (t : TurnX) (me n : Int) (a : List ND) : Int × TurnK × Unit → Prop := StepInv (fun k => (keepTn t (t.2.1 ++ saysM me true n (a.take k)), ())) a.length
def toldXMu (_ : TurnX) (_ _ : Int) (a : List ND) : Int × TurnK × Unit → Nat := StepMu a.length
def endedXInv (t : TurnX) (me n : Int) (a : List ND) : Int × TurnK × Unit → Prop := StepInv (fun k => (keepTn t (t.2.1 ++ saysM me false n (a.take k)), ())) a.length
def endedXMu (_ : TurnX) (_ _ : Int) (a : List ND) : Int × TurnK × Unit → Nat := StepMu a.length
def writesCInv (ts : List TaskD) : Int × Bool × Unit → Prop := StepInv (fun k => (anyUpto (writeAt ts) k, ())) ts.length
def writesCMu (ts : List TaskD) : Int × Bool × Unit → Nat := StepMu ts.length
def calledCInv (cn : Int) (_ : List LabD) (_ _ m dn : Int) (dj : List JobD) (_ xn _ _ _ : Int) : Int × Int × TurnK × Unit → Prop :=
  StepInv (fun k => ((asksN (pGet tyJob dj (pNat (idxKeyJ dj xn))).2.2.1 k : Int), keepTn (dn, [], [], [], xn, 0, ()) (checksM cn m xn (pGet tyJob dj (pNat (idxKeyJ dj xn))).2.2.1 k), ())) (pGet tyJob dj (pNat (idxKeyJ dj xn))).2.2.1.length
def calledCMu (_ : Int) (_ : List LabD) (_ _ _ _ : Int) (dj : List JobD) (_ xn _ _ _ : Int) : Int × Int × TurnK × Unit → Nat := StepMu (pGet tyJob dj (pNat (idxKeyJ dj xn))).2.2.1.length


end Go.Proofs.Ytnkcmkegjckncaa

/- What a tick comes to, job by job. No condition. -/
namespace Go.Proofs.Ytnkcmkegjckncaa
open Go.RowKit

/-- a job that may be, as far as a tick looks at it -/
def JobOk (j : JobD) : Prop := (1 ≤ j.2.1 ∧ j.2.1 ≤ 3) ∧ j.2.2.1.length ≤ 10 ∧ j.2.2.2.1.length ≤ 4 ∧ (∀ t ∈ j.2.2.1, 0 ≤ t.2.2.1) ∧ 0 ≤ j.2.2.2.2.2.1 ∧ j.2.2.2.2.2.1 ≤ 1048576
theorem up_ge {l : List ND} {m : Int} (h : allUpto (upAt l m) l.length = true) : ∀ i, i < l.length → (i : Int) ≤ (pGet tyN l i).1
  | 0, hi => by
    have := allUpto_iff.1 h 0 hi
    unfold upAt at this
    simp only [Bool.and_eq_true, pLe, decide_eq_true_eq] at this
    exact this.1.1
  | i + 1, hi => by
    have ih := up_ge h i (by omega)
    have := allUpto_iff.1 h (i + 1) hi
    unfold upAt at this
    simp only [Bool.and_eq_true, Bool.or_eq_true, pLt, decide_eq_true_eq] at this
    have h2 := this.2.resolve_left (by omega)
    rw [Nat.add_sub_cancel] at h2
    have : ((i + 1 : Nat) : Int) = (i : Int) + 1 := by omega
    omega
theorem up_len {l : List ND} {m : Int} (h : allUpto (upAt l m) l.length = true) (hm : m ≤ 4) : l.length ≤ 4 := by
  rcases Nat.eq_zero_or_pos l.length with h0 | h0
  · omega
  · have h1 := up_ge h (l.length - 1) (by omega)
    have := allUpto_iff.1 h (l.length - 1) (by omega)
    unfold upAt at this
    simp only [Bool.and_eq_true, pLt, decide_eq_true_eq] at this
    omega
theorem deskF_zero {c : CfgD} {d : DeskD} (h : deskF c d = 0) : (1 ≤ c.1 ∧ c.1 ≤ 4) ∧ d.2.1.length ≤ 6 ∧ ∀ i, i < d.2.1.length → jobAt c d i = true := by
  obtain ⟨cn, cl, cp, u⟩ := c; obtain ⟨dn, dj, u2⟩ := d; cases u; cases u2
  have hc : pEq (cfgF (cn, cl, cp, ())) 0 = true := by
    cases hq : pEq (cfgF (cn, cl, cp, ())) 0 with
    | true => rfl
    | false => rw [deskF_eq, hq, cond_false] at h; rw [h] at hq; cases hq
  have hs := inF_iff.1 (cfgF_sites4 (c := (cn, cl, cp, ())) (by simpa [pEq, pNe] using hc))
  rw [deskF_eq, hc, cond_true] at h
  cases hq : (inF dn 1 1048577 && pLe (pInt dj.length) 6 && allUpto (Go.Proofs.Ytnkcmkegjckncaa.jobAt (cn, cl, cp, ()) (dn, dj, ())) dj.length) with
  | false => rw [hq] at h; cases h
  | true =>
    simp only [Bool.and_eq_true] at hq
    refine ⟨hs, ?_, fun i hi => allUpto_iff.1 hq.2 i hi⟩
    have : (dj.length : Int) ≤ 6 := of_decide_eq_true hq.1.2
    show dj.length ≤ 6
    omega
theorem jobs_ok {c : CfgD} {d : DeskD} (h : deskF c d = 0) : ∀ j ∈ d.2.1, JobOk j := by
  obtain ⟨hc, _, hj⟩ := deskF_zero h
  intro j hm
  obtain ⟨i, hi, rfl⟩ := List.getElem_of_mem hm
  have h1 := hj i hi
  unfold Go.Proofs.Ytnkcmkegjckncaa.jobAt at h1
  rw [Bool.and_eq_true, pGet_lt (t := tyJob) hi] at h1
  generalize d.2.1[i] = j at h1
  obtain ⟨jn, js, jt, ja, jq, jg, u⟩ := j
  cases u
  obtain ⟨cn, cl, cp, u⟩ := c; cases u
  have h2 := h1.1
  rw [jobF_eq] at h2
  simp only [Bool.and_eq_true] at h2
  obtain ⟨⟨⟨⟨⟨⟨⟨⟨_, _⟩, hg⟩, hs⟩, ht⟩, _⟩, htk⟩, hup⟩, _⟩ := h2
  have ht' : (jt.length : Int) ≤ 10 := of_decide_eq_true ht
  refine ⟨inF_iff.1 hs, ?_, up_len hup hc.2, fun t htm => ?_, (inF_iff.1 hg).1, (inF_iff.1 hg).2⟩
  · show jt.length ≤ 10; omega
  · obtain ⟨k, hk, rfl⟩ := List.getElem_of_mem htm
    have := allUpto_iff.1 htk k hk
    unfold taskAt at this
    simp only [Bool.and_eq_true] at this
    rw [pGet_lt (t := tyTask) hk] at this
    have h3 := this.1.1.1
    unfold taskF at h3
    simp only [Bool.and_eq_true] at h3
    exact (inF_iff.1 h3.1.1.1.1.2).1
/-- the state of a tick at a job -/
structure TickAt (dj : List JobD) (k : Nat) (s : TS) : Prop where
  jobs : ∃ P : List JobD, s.1 = P ++ dj.drop k ∧ P.length ≤ k ∧ (∀ q ∈ P, JobOk q) ∧ ∀ q ∈ P, ∀ j, k ≤ j → j < dj.length → q.1 < (pGet tyJob dj j).1
  msgs : s.2.1.length ≤ 4 * k
  reps : s.2.2.length ≤ k
end Go.Proofs.Ytnkcmkegjckncaa

/- What a turn's beginning comes to. No condition. -/
namespace Go.Proofs.Ytnkcmkegjckncaa
open Go.RowKit

theorem begE_desk {c : CfgD} {l m : Int} {d : DeskD} (h : pNe (deskF c d) 0 = true) : begE c l m d = deskF c d := by
  rw [begE_eq]
  have : pEq (deskF c d) 0 = false := by simpa [pEq, pNe] using h
  rw [this]; rfl
theorem desk_zero {c : CfgD} {d : DeskD} (h : pNe (deskF c d) 0 = false) : deskF c d = 0 := by simpa [pNe] using h
theorem begE_rest {c : CfgD} {l m : Int} {d : DeskD} (h : deskF c d = 0) : begE c l m d = cond (placeF c l) (cond (pLe 0 m && pLt m c.1) 0 2) 6 := by
  rw [begE_eq, h]; rfl
theorem rooms_ok {c : CfgD} {d : DeskD} (h : deskF c d = 0) : pRoom (pLen d.2.1) 80 ∧ ∀ q ∈ d.2.1, pRoom (pLen q.2.2.1) 56 ∧ pRoom (pLen q.2.2.2.1) 8 := by
  have h1 := (deskF_zero h).2.1
  refine ⟨show d.2.1.length * 80 ≤ _ by omega, fun q hq => ?_⟩
  have := jobs_ok h q hq
  have a := this.2.1
  have b := this.2.2.1
  exact ⟨show q.2.2.1.length * 56 ≤ _ by omega, show q.2.2.2.1.length * 8 ≤ _ by omega⟩


end Go.Proofs.Ytnkcmkegjckncaa

/- A job by its number; its last task; places. No condition. -/
namespace Go.Proofs.Ytnkcmkegjckncaa
open Go.RowKit

theorem find_at {l : List JobD} {n : Int} (h : pLt (idxKeyJ l n) 0 = false) : ∃ i : Nat, idxKeyJ l n = (i : Int) ∧ i < l.length ∧ (pGet tyJob l i).1 = n := by
  have hg : pGe (idxKeyJ l n) 0 = true := by
    unfold pLt at h; unfold pGe
    rw [decide_eq_false_iff_not] at h
    rw [decide_eq_true_eq]
    exact Int.not_lt.1 h
  unfold idxKeyJ at hg ⊢
  rw [idxOf_ge] at hg
  by_cases hx : ∃ i, i < l.length ∧ keyAtJ l n i = true ∧ ∀ j, j < i → keyAtJ l n j = false
  · obtain ⟨i, a, b, c⟩ := hx
    exact ⟨i, idxOf_hit a c b, a, by unfold keyAtJ pEq at b; exact of_decide_eq_true b⟩
  · exfalso
    have all : ∀ k, ∀ j, j < k → j < l.length → keyAtJ l n j = false := by
      intro k
      induction k with
      | zero => intro j hj; omega
      | succ k ih =>
        intro j hj hjl
        by_cases hjk : j < k
        · exact ih j hjk hjl
        · cases hq : keyAtJ l n j with
          | false => rfl
          | true => exact absurd ⟨j, hjl, hq, fun i hi => ih i (by omega) (by omega)⟩ hx
    obtain ⟨j, h1, h2⟩ := anyUpto_iff.1 hg
    rw [all (j + 1) j (by omega) h1] at h2
    cases h2
theorem open_pos {ts : List TaskD} (h : pGt (pInt (pLen ts)) 0 = true) (hn : ts.length < 4611686018427387904) : pSubI .i64 (pInt (pLen ts)) 1 = ((ts.length - 1 : Nat) : Int) ∧ ts.length - 1 < ts.length ∧ openT ts = !(pGet tyTask ts (ts.length - 1)).2.2.2.2.2.2.1 := by
  have h0 : 0 < ts.length := by
    unfold pGt pInt pLen at h
    have := of_decide_eq_true h
    exact Int.ofNat_lt.1 this
  refine ⟨?_, by omega, ?_⟩
  · have := pSub1 (k := ts.length) hn h0
    exact this.trans (by omega)
  · unfold openT
    have : pGt (pInt ts.length) 0 = true := h
    rw [this, Bool.true_and]
theorem open_no {ts : List TaskD} (h : pGt (pInt (pLen ts)) 0 = false) : openT ts = false := by
  unfold openT
  have : pGt (pInt ts.length) 0 = false := h
  rw [this, Bool.false_and]
theorem place_in {c : CfgD} {l : Int} (h : placeF c l = true) : pIn l (pLen c.2.1) := by
  unfold placeF at h; unfold pIn pLen; grind [pLt, pLe, pGt, pGe, pEq, pNe, pNot, pAndB, pBeq, pInt, pLen, inF, pIn, pTo, pNat]


end Go.Proofs.Ytnkcmkegjckncaa

/- Loops of a turn whose desk is kept. No condition. -/
namespace Go.Proofs.Ytnkcmkegjckncaa
open Go.RowKit

/-- those that do not know are told -/
theorem tellX_vc (q : Nat) (w : WorkX) (n : Int) (a : List ND) (Fin : Int × WorkK × Unit → Prop) (ha : a.length ≤ 1000) (hm : w.2.2.2.2.2.2.1.length ≤ 1000000)
    (hF : Fin ((a.length : Int), keepW w (w.2.2.2.2.2.2.1 ++ saysM w.2.2.2.2.1 true n a), ())) :
    tellXInv w n a ((0 : Int), keepW w w.2.2.2.2.2.2.1, ()) ∧ ∀ (y : kden false tI × denCells (kWorkX q) × PUnit), tellXInv w n a y → bif pLt y.1 (pInt (pLen a)) then pIn y.1 (pLen a) ∧
      pRoom (pPlus (pLen y.2.1.2.2.2.2.2.2.2.1) (pLen [((4 : Int), y.2.1.2.2.2.2.1, (pGet tyN a (pNat y.1)).1, y.2.1.2.2.2.2.1, n, (0 : Int), (0 : Int), (0 : Int), (0 : Int), (0 : Int), false, (0 : Int), ())])) 96 ∧
      pIn (pSubI .i64 (pInt (pLen (pApp y.2.1.2.2.2.2.2.2.2.1 [((4 : Int), y.2.1.2.2.2.2.1, (pGet tyN a (pNat y.1)).1, y.2.1.2.2.2.2.1, n, (0 : Int), (0 : Int), (0 : Int), (0 : Int), (0 : Int), false, (0 : Int), ())]))) 1) (pLen (pApp y.2.1.2.2.2.2.2.2.2.1 [((4 : Int), y.2.1.2.2.2.2.1, (pGet tyN a (pNat y.1)).1, y.2.1.2.2.2.2.1, n, (0 : Int), (0 : Int), (0 : Int), (0 : Int), (0 : Int), false, (0 : Int), ())])) ∧
      tellXInv w n a (pAdd .i64 y.1 1, (y.2.1.1, y.2.1.2.1, y.2.1.2.2.1, y.2.1.2.2.2.1, y.2.1.2.2.2.2.1, y.2.1.2.2.2.2.2.1, (),
        (let M := pApp y.2.1.2.2.2.2.2.2.2.1 [((4 : Int), y.2.1.2.2.2.2.1, (pGet tyN a (pNat y.1)).1, y.2.1.2.2.2.2.1, n, (0 : Int), (0 : Int), (0 : Int), (0 : Int), (0 : Int), false, (0 : Int), ())]
         let i := pNat (pSubI .i64 (pInt (pLen M)) 1)
         let m := pGet tyMsg M i
         pSet M i (m.1, m.2.1, m.2.2.1, m.2.2.2.1, m.2.2.2.2.1, m.2.2.2.2.2.1, m.2.2.2.2.2.2.1, m.2.2.2.2.2.2.2.1, m.2.2.2.2.2.2.2.2.1, m.2.2.2.2.2.2.2.2.2.1, true, m.2.2.2.2.2.2.2.2.2.2.2)), y.2.1.2.2.2.2.2.2.2.2), ()) ∧
      Nat.le (Nat.succ (tellXMu w n a (pAdd .i64 y.1 1, (y.2.1.1, y.2.1.2.1, y.2.1.2.2.1, y.2.1.2.2.2.1, y.2.1.2.2.2.2.1, y.2.1.2.2.2.2.2.1, (),
        (let M := pApp y.2.1.2.2.2.2.2.2.2.1 [((4 : Int), y.2.1.2.2.2.2.1, (pGet tyN a (pNat y.1)).1, y.2.1.2.2.2.2.1, n, (0 : Int), (0 : Int), (0 : Int), (0 : Int), (0 : Int), false, (0 : Int), ())]
         let i := pNat (pSubI .i64 (pInt (pLen M)) 1)
         let m := pGet tyMsg M i
         pSet M i (m.1, m.2.1, m.2.2.1, m.2.2.2.1, m.2.2.2.2.1, m.2.2.2.2.2.1, m.2.2.2.2.2.2.1, m.2.2.2.2.2.2.2.1, m.2.2.2.2.2.2.2.2.1, m.2.2.2.2.2.2.2.2.2.1, true, m.2.2.2.2.2.2.2.2.2.2.2)), y.2.1.2.2.2.2.2.2.2.2), ()))) (tellXMu w n a y) else Fin y := by
  refine ⟨StepInv.start ?_, fun y hy => ?_⟩
  · show (keepW w w.2.2.2.2.2.2.1, ()) = (keepW w (w.2.2.2.2.2.2.1 ++ []), ())
    rw [List.append_nil]
  rcases StepInv.round (show a.length < 4611686018427387904 by omega) hy with ⟨k, rfl, hk, hb, hT⟩ | rfl
  · rw [bif_true (by rw [pLt_coe]; exact decide_eq_true hk)]
    have hx : (w.2.2.2.2.2.2.1 ++ saysM w.2.2.2.2.1 true n (a.take k)).length ≤ 1001000 := by
      rw [List.length_append, saysM_len, List.length_take]; omega
    dsimp only [keepW]
    rw [pNat_coe]
    generalize hX : w.2.2.2.2.2.2.1 ++ saysM w.2.2.2.2.1 true n (a.take k) = X at *
    rw [last_pos (by omega), pNat_coe, last_get (t := tyMsg), last_set]
    refine ⟨pIn_coe.2 hk, app_room (by omega), pIn_coe.2 (by unfold pLen pApp; rw [List.length_append]; exact Nat.lt_succ_self _), hT _ ?_⟩
    rw [saysM_take hk, ← List.append_assoc, hX]
    rfl
  · rw [bif_false (by rw [pLt_coe]; exact decide_eq_false (Nat.lt_irrefl _))]
    rw [List.take_length]
    exact hF

/-- what is sent where a job ends -/
theorem endsX_vc (q : Nat) (w : WorkX) (n : Int) (a : List ND) (Fin : Int × WorkK × Unit → Prop) (ha : a.length ≤ 1000) (hm : w.2.2.2.2.2.2.1.length ≤ 1000000)
    (hF : Fin ((a.length : Int), keepW w (w.2.2.2.2.2.2.1 ++ saysM w.2.2.2.2.1 false n a), ())) :
    kendXInv w n a ((0 : Int), keepW w w.2.2.2.2.2.2.1, ()) ∧ ∀ (y : kden false tI × denCells (kWorkX q) × PUnit), kendXInv w n a y → bif pLt y.1 (pInt (pLen a)) then pIn y.1 (pLen a) ∧
      pRoom (pPlus (pLen y.2.1.2.2.2.2.2.2.2.1) (pLen [((4 : Int), y.2.1.2.2.2.2.1, (pGet tyN a (pNat y.1)).1, y.2.1.2.2.2.2.1, n, (0 : Int), (0 : Int), (0 : Int), (0 : Int), (0 : Int), false, (0 : Int), ())])) 96 ∧
      pIn (pSubI .i64 (pInt (pLen (pApp y.2.1.2.2.2.2.2.2.2.1 [((4 : Int), y.2.1.2.2.2.2.1, (pGet tyN a (pNat y.1)).1, y.2.1.2.2.2.2.1, n, (0 : Int), (0 : Int), (0 : Int), (0 : Int), (0 : Int), false, (0 : Int), ())]))) 1) (pLen (pApp y.2.1.2.2.2.2.2.2.2.1 [((4 : Int), y.2.1.2.2.2.2.1, (pGet tyN a (pNat y.1)).1, y.2.1.2.2.2.2.1, n, (0 : Int), (0 : Int), (0 : Int), (0 : Int), (0 : Int), false, (0 : Int), ())])) ∧
      kendXInv w n a (pAdd .i64 y.1 1, (y.2.1.1, y.2.1.2.1, y.2.1.2.2.1, y.2.1.2.2.2.1, y.2.1.2.2.2.2.1, y.2.1.2.2.2.2.2.1, (), pApp y.2.1.2.2.2.2.2.2.2.1 [((4 : Int), y.2.1.2.2.2.2.1, (pGet tyN a (pNat y.1)).1, y.2.1.2.2.2.2.1, n, (0 : Int), (0 : Int), (0 : Int), (0 : Int), (0 : Int), false, (0 : Int), ())], y.2.1.2.2.2.2.2.2.2.2), ()) ∧
      Nat.le (Nat.succ (kendXMu w n a (pAdd .i64 y.1 1, (y.2.1.1, y.2.1.2.1, y.2.1.2.2.1, y.2.1.2.2.2.1, y.2.1.2.2.2.2.1, y.2.1.2.2.2.2.2.1, (), pApp y.2.1.2.2.2.2.2.2.2.1 [((4 : Int), y.2.1.2.2.2.2.1, (pGet tyN a (pNat y.1)).1, y.2.1.2.2.2.2.1, n, (0 : Int), (0 : Int), (0 : Int), (0 : Int), (0 : Int), false, (0 : Int), ())], y.2.1.2.2.2.2.2.2.2.2), ()))) (kendXMu w n a y) else Fin y := by
  refine ⟨StepInv.start ?_, fun y hy => ?_⟩
  · show (keepW w w.2.2.2.2.2.2.1, ()) = (keepW w (w.2.2.2.2.2.2.1 ++ []), ())
    rw [List.append_nil]
  rcases StepInv.round (show a.length < 4611686018427387904 by omega) hy with ⟨k, rfl, hk, hb, hT⟩ | rfl
  · rw [bif_true (by rw [pLt_coe]; exact decide_eq_true hk)]
    have hx : (w.2.2.2.2.2.2.1 ++ saysM w.2.2.2.2.1 false n (a.take k)).length ≤ 1001000 := by
      rw [List.length_append, saysM_len, List.length_take]; omega
    dsimp only [keepW]
    rw [pNat_coe]
    generalize hX : w.2.2.2.2.2.2.1 ++ saysM w.2.2.2.2.1 false n (a.take k) = X at *
    rw [last_pos (by omega)]
    refine ⟨pIn_coe.2 hk, app_room (by omega), pIn_coe.2 (by unfold pLen pApp; rw [List.length_append]; exact Nat.lt_succ_self _), hT _ ?_⟩
    rw [saysM_take hk, ← List.append_assoc, hX]
    rfl
  · rw [bif_false (by rw [pLt_coe]; exact decide_eq_false (Nat.lt_irrefl _))]
    rw [List.take_length]
    exact hF

theorem toldX_vc (q : Nat) (t : TurnX) (me n : Int) (a : List ND) (Fin : Int × TurnK × Unit → Prop) (ha : a.length ≤ 1000) (hm : t.2.1.length ≤ 1000000)
    (hF : Fin ((a.length : Int), keepTn t (t.2.1 ++ saysM me true n a), ())) :
    toldXInv t me n a ((0 : Int), keepTn t t.2.1, ()) ∧ ∀ (y : kden false tI × denCells (kTurnX q) × PUnit), toldXInv t me n a y → bif pLt y.1 (pInt (pLen a)) then pIn y.1 (pLen a) ∧ pRoom (pPlus (pLen y.2.1.2.2.1) (pLen [(let b := aboutF me 4 (pGet tyN a (pNat y.1)).1 n; (b.1, b.2.1, b.2.2.1, b.2.2.2.1, b.2.2.2.2.1, b.2.2.2.2.2.1, b.2.2.2.2.2.2.1, b.2.2.2.2.2.2.2.1, b.2.2.2.2.2.2.2.2.1, b.2.2.2.2.2.2.2.2.2.1, true, b.2.2.2.2.2.2.2.2.2.2.2))])) 96 ∧
      toldXInv t me n a (pAdd .i64 y.1 1, (y.2.1.1, (), pApp y.2.1.2.2.1 [(let b := aboutF me 4 (pGet tyN a (pNat y.1)).1 n; (b.1, b.2.1, b.2.2.1, b.2.2.2.1, b.2.2.2.2.1, b.2.2.2.2.2.1, b.2.2.2.2.2.2.1, b.2.2.2.2.2.2.2.1, b.2.2.2.2.2.2.2.2.1, b.2.2.2.2.2.2.2.2.2.1, true, b.2.2.2.2.2.2.2.2.2.2.2))], y.2.1.2.2.2), ()) ∧
      Nat.le (Nat.succ (toldXMu t me n a (pAdd .i64 y.1 1, (y.2.1.1, (), pApp y.2.1.2.2.1 [(let b := aboutF me 4 (pGet tyN a (pNat y.1)).1 n; (b.1, b.2.1, b.2.2.1, b.2.2.2.1, b.2.2.2.2.1, b.2.2.2.2.2.1, b.2.2.2.2.2.2.1, b.2.2.2.2.2.2.2.1, b.2.2.2.2.2.2.2.2.1, b.2.2.2.2.2.2.2.2.2.1, true, b.2.2.2.2.2.2.2.2.2.2.2))], y.2.1.2.2.2), ()))) (toldXMu t me n a y) else Fin y := by
  refine ⟨StepInv.start ?_, fun y hy => ?_⟩
  · show (keepTn t t.2.1, ()) = (keepTn t (t.2.1 ++ []), ())
    rw [List.append_nil]
  rcases StepInv.round (show a.length < 4611686018427387904 by omega) hy with ⟨k, rfl, hk, hb, hT⟩ | rfl
  · rw [bif_true (by rw [pLt_coe]; exact decide_eq_true hk)]
    have hx : (t.2.1 ++ saysM me true n (a.take k)).length ≤ 1001000 := by
      rw [List.length_append, saysM_len, List.length_take]; omega
    dsimp only [keepTn]
    rw [pNat_coe]
    generalize hX : t.2.1 ++ saysM me true n (a.take k) = X at *
    refine ⟨pIn_coe.2 hk, app_room (by omega), hT _ ?_⟩
    rw [saysM_take hk, ← List.append_assoc, hX]
    rfl
  · rw [bif_false (by rw [pLt_coe]; exact decide_eq_false (Nat.lt_irrefl _))]
    rw [List.take_length]
    exact hF

theorem endedX_vc (q : Nat) (t : TurnX) (me n : Int) (a : List ND) (Fin : Int × TurnK × Unit → Prop) (ha : a.length ≤ 1000) (hm : t.2.1.length ≤ 1000000)
    (hF : Fin ((a.length : Int), keepTn t (t.2.1 ++ saysM me false n a), ())) :
    endedXInv t me n a ((0 : Int), keepTn t t.2.1, ()) ∧ ∀ (y : kden false tI × denCells (kTurnX q) × PUnit), endedXInv t me n a y → bif pLt y.1 (pInt (pLen a)) then pIn y.1 (pLen a) ∧ pRoom (pPlus (pLen y.2.1.2.2.1) (pLen [aboutF me 4 (pGet tyN a (pNat y.1)).1 n])) 96 ∧
      endedXInv t me n a (pAdd .i64 y.1 1, (y.2.1.1, (), pApp y.2.1.2.2.1 [aboutF me 4 (pGet tyN a (pNat y.1)).1 n], y.2.1.2.2.2), ()) ∧
      Nat.le (Nat.succ (endedXMu t me n a (pAdd .i64 y.1 1, (y.2.1.1, (), pApp y.2.1.2.2.1 [aboutF me 4 (pGet tyN a (pNat y.1)).1 n], y.2.1.2.2.2), ()))) (endedXMu t me n a y) else Fin y := by
  refine ⟨StepInv.start ?_, fun y hy => ?_⟩
  · show (keepTn t t.2.1, ()) = (keepTn t (t.2.1 ++ []), ())
    rw [List.append_nil]
  rcases StepInv.round (show a.length < 4611686018427387904 by omega) hy with ⟨k, rfl, hk, hb, hT⟩ | rfl
  · rw [bif_true (by rw [pLt_coe]; exact decide_eq_true hk)]
    have hx : (t.2.1 ++ saysM me false n (a.take k)).length ≤ 1001000 := by
      rw [List.length_append, saysM_len, List.length_take]; omega
    dsimp only [keepTn]
    rw [pNat_coe]
    generalize hX : t.2.1 ++ saysM me false n (a.take k) = X at *
    refine ⟨pIn_coe.2 hk, app_room (by omega), hT _ ?_⟩
    rw [saysM_take hk, ← List.append_assoc, hX]
    rfl
  · rw [bif_false (by rw [pLt_coe]; exact decide_eq_false (Nat.lt_irrefl _))]
    rw [List.take_length]
    exact hF

/-- reads that are asked for again -/
theorem checksM_len (cn me n : Int) (ts : List TaskD) : ∀ k, (checksM cn me n ts k).length ≤ k
  | 0 => Nat.le_refl _
  | k + 1 => by
    have := checksM_len cn me n ts k
    show (cond (askAt ts k) (checksM cn me n ts k ++ [checkM cn me n (pGet tyTask ts k)]) (checksM cn me n ts k)).length ≤ k + 1
    cases askAt ts k
    · rw [cond_false]; omega
    · rw [cond_true, List.length_append]; exact Nat.succ_le_succ this
theorem checksM_none {cn me n : Int} {ts : List TaskD} : ∀ {k : Nat}, anyUpto (askAt ts) k = false → checksM cn me n ts k = []
  | 0, _ => rfl
  | k + 1, h => by
    rw [anyUpto_succ, Bool.or_eq_false_iff] at h
    show cond (askAt ts k) _ (checksM cn me n ts k) = []
    rw [h.2, cond_false]
    exact checksM_none h.1
theorem asksN_le (ts : List TaskD) : ∀ k, asksN ts k ≤ k
  | 0 => Nat.le_refl _
  | k + 1 => by
    have := asksN_le ts k
    show cond (askAt ts k) (asksN ts k + 1) (asksN ts k) ≤ k + 1
    cases askAt ts k
    · rw [cond_false]; omega
    · rw [cond_true]; omega
theorem asksN_any {ts : List TaskD} : ∀ {k : Nat}, anyUpto (askAt ts) k = !decide (asksN ts k = 0)
  | 0 => rfl
  | k + 1 => by
    rw [anyUpto_succ, asksN_any (k := k)]
    show _ = !decide (cond (askAt ts k) (asksN ts k + 1) (asksN ts k) = 0)
    cases askAt ts k
    · rw [cond_false, Bool.or_false]
    · rw [cond_true, Bool.or_true]; simp
theorem last_get' {t : Ty} {xs : List t.den} {x : t.den} : pGet t (xs ++ [x]) xs.length = x := last_get
theorem last_set' {α : Type} {xs : List α} {x y : α} : pSet (xs ++ [x]) xs.length y = xs ++ [y] := last_set
theorem again_vc (q : Nat) (w : WorkX) (js : List JobD) (at_ : Int) (ts : List TaskD) (Fin : Int × Bool × WorkK × Unit → Prop) (hc : 1 ≤ w.1 ∧ w.1 ≤ 4) (hts : ts.length ≤ 10) (hm : w.2.2.2.2.2.2.1.length ≤ 1000000)
    (hF : Fin ((ts.length : Int), anyUpto (askAt ts) ts.length, keepW w (w.2.2.2.2.2.2.1 ++ checksM w.1 w.2.2.2.2.1 (pGet tyJob js (pNat at_)).1 ts ts.length), ())) :
    againInv w js at_ ts ((0 : Int), false, keepW w w.2.2.2.2.2.2.1, ()) ∧ ∀ (y : kden false tI × kden false .bool × denCells (kWorkX q) × PUnit), againInv w js at_ ts y → bif pLt y.1 (pInt (pLen ts)) then pIn y.1 (pLen ts) ∧
      bif (pGet tyTask ts (pNat y.1)).1 then againInv w js at_ ts (pAdd .i64 y.1 1, y.2.1, (y.2.2.1.1, y.2.2.1.2.1, y.2.2.1.2.2.1, y.2.2.1.2.2.2.1, y.2.2.1.2.2.2.2.1, y.2.2.1.2.2.2.2.2.1, (), y.2.2.1.2.2.2.2.2.2.2), ()) ∧ Nat.le (Nat.succ (againMu w js at_ ts (pAdd .i64 y.1 1, y.2.1, (y.2.2.1.1, y.2.2.1.2.1, y.2.2.1.2.2.1, y.2.2.1.2.2.2.1, y.2.2.1.2.2.2.2.1, y.2.2.1.2.2.2.2.2.1, (), y.2.2.1.2.2.2.2.2.2.2), ()))) (againMu w js at_ ts y) else bif (pGet tyTask ts (pNat y.1)).2.2.2.2.2.2.2.1 then againInv w js at_ ts (pAdd .i64 y.1 1, y.2.1, (y.2.2.1.1, y.2.2.1.2.1, y.2.2.1.2.2.1, y.2.2.1.2.2.2.1, y.2.2.1.2.2.2.2.1, y.2.2.1.2.2.2.2.2.1, (), y.2.2.1.2.2.2.2.2.2.2), ()) ∧ Nat.le (Nat.succ (againMu w js at_ ts (pAdd .i64 y.1 1, y.2.1, (y.2.2.1.1, y.2.2.1.2.1, y.2.2.1.2.2.1, y.2.2.1.2.2.2.1, y.2.2.1.2.2.2.2.1, y.2.2.1.2.2.2.2.2.1, (), y.2.2.1.2.2.2.2.2.2.2), ()))) (againMu w js at_ ts y) else pNz y.2.2.1.1 ∧
      pRoom (pPlus (pLen y.2.2.1.2.2.2.2.2.2.2.1) (pLen [((3 : Int), y.2.2.1.2.2.2.2.1, pRem (pGet tyTask ts (pNat y.1)).2.2.1 y.2.2.1.1, y.2.2.1.2.2.2.2.1, (pGet tyJob js (pNat at_)).1, (0 : Int), (0 : Int), (0 : Int), (0 : Int), (0 : Int), false, (0 : Int), ())])) 96 ∧ pIn (pSubI .i64 (pInt (pLen (pApp y.2.2.1.2.2.2.2.2.2.2.1 [((3 : Int), y.2.2.1.2.2.2.2.1, pRem (pGet tyTask ts (pNat y.1)).2.2.1 y.2.2.1.1, y.2.2.1.2.2.2.2.1, (pGet tyJob js (pNat at_)).1, (0 : Int), (0 : Int), (0 : Int), (0 : Int), (0 : Int), false, (0 : Int), ())]))) 1) (pLen (pApp y.2.2.1.2.2.2.2.2.2.2.1 [((3 : Int), y.2.2.1.2.2.2.2.1, pRem (pGet tyTask ts (pNat y.1)).2.2.1 y.2.2.1.1, y.2.2.1.2.2.2.2.1, (pGet tyJob js (pNat at_)).1, (0 : Int), (0 : Int), (0 : Int), (0 : Int), (0 : Int), false, (0 : Int), ())])) ∧ againInv w js at_ ts (pAdd .i64 y.1 1, true, (y.2.2.1.1, y.2.2.1.2.1, y.2.2.1.2.2.1, y.2.2.1.2.2.2.1, y.2.2.1.2.2.2.2.1, y.2.2.1.2.2.2.2.2.1, (), (let M := pApp y.2.2.1.2.2.2.2.2.2.2.1 [((3 : Int), y.2.2.1.2.2.2.2.1, pRem (pGet tyTask ts (pNat y.1)).2.2.1 y.2.2.1.1, y.2.2.1.2.2.2.2.1, (pGet tyJob js (pNat at_)).1, (0 : Int), (0 : Int), (0 : Int), (0 : Int), (0 : Int), false, (0 : Int), ())]
         let i := pNat (pSubI .i64 (pInt (pLen M)) 1)
         let a := pGet tyMsg M i
         let M1 := pSet M i (a.1, a.2.1, a.2.2.1, a.2.2.2.1, a.2.2.2.2.1, (pGet tyTask ts (pNat y.1)).2.1, a.2.2.2.2.2.2)
         let b := pGet tyMsg M1 i
         let M2 := pSet M1 i (b.1, b.2.1, b.2.2.1, b.2.2.2.1, b.2.2.2.2.1, b.2.2.2.2.2.1, (pGet tyTask ts (pNat y.1)).2.2.1, b.2.2.2.2.2.2.2)
         let c := pGet tyMsg M2 i
         pSet M2 i (c.1, c.2.1, c.2.2.1, c.2.2.2.1, c.2.2.2.2.1, c.2.2.2.2.2.1, c.2.2.2.2.2.2.1, c.2.2.2.2.2.2.2.1, (pGet tyTask ts (pNat y.1)).2.2.2.2.1, c.2.2.2.2.2.2.2.2.2)), y.2.2.1.2.2.2.2.2.2.2.2), ()) ∧ Nat.le (Nat.succ (againMu w js at_ ts (pAdd .i64 y.1 1, true, (y.2.2.1.1, y.2.2.1.2.1, y.2.2.1.2.2.1, y.2.2.1.2.2.2.1, y.2.2.1.2.2.2.2.1, y.2.2.1.2.2.2.2.2.1, (), (let M := pApp y.2.2.1.2.2.2.2.2.2.2.1 [((3 : Int), y.2.2.1.2.2.2.2.1, pRem (pGet tyTask ts (pNat y.1)).2.2.1 y.2.2.1.1, y.2.2.1.2.2.2.2.1, (pGet tyJob js (pNat at_)).1, (0 : Int), (0 : Int), (0 : Int), (0 : Int), (0 : Int), false, (0 : Int), ())]
         let i := pNat (pSubI .i64 (pInt (pLen M)) 1)
         let a := pGet tyMsg M i
         let M1 := pSet M i (a.1, a.2.1, a.2.2.1, a.2.2.2.1, a.2.2.2.2.1, (pGet tyTask ts (pNat y.1)).2.1, a.2.2.2.2.2.2)
         let b := pGet tyMsg M1 i
         let M2 := pSet M1 i (b.1, b.2.1, b.2.2.1, b.2.2.2.1, b.2.2.2.2.1, b.2.2.2.2.2.1, (pGet tyTask ts (pNat y.1)).2.2.1, b.2.2.2.2.2.2.2)
         let c := pGet tyMsg M2 i
         pSet M2 i (c.1, c.2.1, c.2.2.1, c.2.2.2.1, c.2.2.2.2.1, c.2.2.2.2.2.1, c.2.2.2.2.2.2.1, c.2.2.2.2.2.2.2.1, (pGet tyTask ts (pNat y.1)).2.2.2.2.1, c.2.2.2.2.2.2.2.2.2)), y.2.2.1.2.2.2.2.2.2.2.2), ()))) (againMu w js at_ ts y) else Fin y := by
  refine ⟨StepInv.start ?_, fun y hy => ?_⟩
  · show (false, keepW w w.2.2.2.2.2.2.1, ()) = (false, keepW w (w.2.2.2.2.2.2.1 ++ []), ())
    rw [List.append_nil]
  rcases StepInv.round (show ts.length < 4611686018427387904 by omega) hy with ⟨k, rfl, hk, hb, hT⟩ | rfl
  · rw [bif_true (by rw [pLt_coe]; exact decide_eq_true hk)]
    have hl := checksM_len w.1 w.2.2.2.2.1 (pGet tyJob js (pNat at_)).1 ts k
    have hx : (w.2.2.2.2.2.2.1 ++ checksM w.1 w.2.2.2.2.1 (pGet tyJob js (pNat at_)).1 ts k).length ≤ 1001000 := by
      rw [List.length_append]; omega
    dsimp only [keepW]
    rw [pNat_coe]
    have hask : ∀ b, askAt ts k = b → anyUpto (askAt ts) (k + 1) = (anyUpto (askAt ts) k || b) ∧ checksM w.1 w.2.2.2.2.1 (pGet tyJob js (pNat at_)).1 ts (k + 1) = cond b (checksM w.1 w.2.2.2.2.1 (pGet tyJob js (pNat at_)).1 ts k ++ [checkM w.1 w.2.2.2.2.1 (pGet tyJob js (pNat at_)).1 (pGet tyTask ts k)]) (checksM w.1 w.2.2.2.2.1 (pGet tyJob js (pNat at_)).1 ts k) := by
      intro b hb
      subst hb
      exact ⟨anyUpto_succ, rfl⟩
    refine ⟨pIn_coe.2 hk, bif_ok (fun c1 => hT _ ?_) fun c1 => bif_ok (fun c2 => hT _ ?_) fun c2 => ?_⟩
    · obtain ⟨u1, u2⟩ := hask false (by unfold askAt; rw [c1]; rfl)
      rw [u1, u2, Bool.or_false, cond_false]
      rfl
    · obtain ⟨u1, u2⟩ := hask false (by unfold askAt; rw [c1, c2]; rfl)
      rw [u1, u2, Bool.or_false, cond_false]
      rfl
    obtain ⟨u1, u2⟩ := hask true (by unfold askAt; rw [c1, c2]; rfl)
    generalize hX : w.2.2.2.2.2.2.1 ++ checksM w.1 w.2.2.2.2.1 (pGet tyJob js (pNat at_)).1 ts k = X at *
    rw [last_pos (by omega), pNat_coe, last_get (t := tyMsg), last_set, last_get' (t := tyMsg), last_set', last_get' (t := tyMsg), last_set']
    refine ⟨by unfold pNz; omega, app_room (by omega), pIn_coe.2 (by unfold pLen pApp; rw [List.length_append]; exact Nat.lt_succ_self _), hT _ ?_⟩
    rw [u1, u2, Bool.or_true, cond_true, ← List.append_assoc, hX]
    rfl
  · rw [bif_false (by rw [pLt_coe]; exact decide_eq_false (Nat.lt_irrefl _))]
    exact hF

end Go.Proofs.Ytnkcmkegjckncaa

/- What a client's call comes to, in plain words. No condition. -/
namespace Go.Proofs.Ytnkcmkegjckncaa
open Go.RowKit

theorem pSet_get {t : Ty} {xs : List t.den} {i : Nat} : pSet xs i (pGet t xs i) = xs := by
  by_cases h : i < xs.length
  · rw [pGet_lt h]; unfold pSet; exact List.set_getElem_self h
  · unfold pSet; exact List.set_eq_of_length_le (Nat.le_of_not_lt h)
theorem pSet_pSet {α : Type} {xs : List α} {i : Nat} {a b : α} : pSet (pSet xs i a) i b = pSet xs i b := by unfold pSet; exact List.set_set ..
theorem pGet_set_eq {t : Ty} {xs : List t.den} {i : Nat} {v : t.den} (hi : i < xs.length) : pGet t (pSet xs i v) i = v := by rw [pGet_set hi, if_pos rfl]
theorem turn_eq {a b : TurnD} (h1 : a.1 = b.1) (h2 : a.2.1 = b.2.1) (h3 : a.2.2.1 = b.2.2.1) (h4 : a.2.2.2.1 = b.2.2.2.1) (h5 : a.2.2.2.2.1 = b.2.2.2.2.1) (h6 : a.2.2.2.2.2.1 = b.2.2.2.2.2.1) (h7 : a.2.2.2.2.2.2.1 = b.2.2.2.2.2.2.1) : a = b := by
  obtain ⟨a1, a2, a3, a4, a5, a6, a7, ⟨⟩⟩ := a
  obtain ⟨b1, b2, b3, b4, b5, b6, b7, ⟨⟩⟩ := b
  have h1 : a1 = b1 := h1
  have h2 : a2 = b2 := h2
  have h3 : a3 = b3 := h3
  have h4 : a4 = b4 := h4
  have h5 : a5 = b5 := h5
  have h6 : a6 = b6 := h6
  have h7 : a7 = b7 := h7
  rw [h1, h2, h3, h4, h5, h6, h7]
theorem turn_to {a b d : TurnD} (hd : d = b) (h1 : a.1 = b.1) (h2 : a.2.1 = b.2.1) (h3 : a.2.2.1 = b.2.2.1) (h4 : a.2.2.2.1 = b.2.2.2.1) (h5 : a.2.2.2.2.1 = b.2.2.2.2.1) (h6 : a.2.2.2.2.2.1 = b.2.2.2.2.2.1) (h7 : a.2.2.2.2.2.2.1 = b.2.2.2.2.2.2.1) : a = d := (turn_eq h1 h2 h3 h4 h5 h6 h7).trans hd.symm
theorem nz_of {a : Int} (h : 1 ≤ a) : pNz a := by unfold pNz; omega
theorem calE_beg {c : CfgD} {l m : Int} {d : DeskD} {x : CalD} (h : begE c l m d ≠ 0) : calE c l m d x = begE c l m d := by
  unfold calE
  have : pEq (begE c l m d) 0 = false := by simpa [pEq] using h
  rw [this]; rfl
theorem calE_kind {c : CfgD} {l m : Int} {d : DeskD} {x : CalD} (h : begE c l m d = 0) : calE c l m d x = cond (inF x.1 1 5) 0 3 := by
  unfold calE; rw [h]; rfl
theorem calT_no {c : CfgD} {l m : Int} {d : DeskD} {r : Int} {x : CalD} (h : calE c l m d x ≠ 0) : calT c l m d r x = noTurn := by
  unfold calT
  have : pEq (calE c l m d x) 0 = false := by simpa [pEq] using h
  rw [this]; rfl
theorem calT_yes {c : CfgD} {l m : Int} {d : DeskD} {r : Int} {x : CalD} (h : calE c l m d x = 0) : calT c l m d r x = cond (pEq x.1 1) (beginT m d r)
    (cond (pEq (faultC c l d x) 0) (doneT c l m d x (pNat (idxKeyJ d.2.1 x.2.1)) (pGet tyJob d.2.1 (pNat (idxKeyJ d.2.1 x.2.1))))
      (d.1, d.2.1, [], [], [(m, x.1, x.2.1, x.2.2.2.1, 0, faultC c l d x, ())], 0, 0, ())) := by
  unfold calT; rw [h]; rfl
theorem calT_err {c : CfgD} {l m : Int} {d : DeskD} {r : Int} {x : CalD} (h : calE c l m d x = 0) (h1 : pEq x.1 1 = false) {e : Int} (he : e ≠ 0) (hf : faultC c l d x = e) : calT c l m d r x = (d.1, d.2.1, [], [], [(m, x.1, x.2.1, x.2.2.2.1, 0, e, ())], 0, 0, ()) := by
  rw [calT_yes h, h1, hf, cond_false]
  have : pEq e 0 = false := by simpa [pEq] using he
  rw [this]; rfl
theorem calT_done {c : CfgD} {l m : Int} {d : DeskD} {r : Int} {x : CalD} {i : Nat} (h : calE c l m d x = 0) (h1 : pEq x.1 1 = false) (hf : faultC c l d x = 0) (hI : idxKeyJ d.2.1 x.2.1 = (i : Int)) : calT c l m d r x = doneT c l m d x i (pGet tyJob d.2.1 i) := by
  rw [calT_yes h, h1, hf, hI, pNat_coe]; rfl
theorem fault_six {cn : Int} {cl : List LabD} {cp l dn : Int} {dj : List JobD} {xk xn xl xy xv : Int} (c1 : pLt (idxKeyJ dj xn) 0 = true) : faultC (cn, cl, cp, ()) l (dn, dj, ()) (xk, xn, xl, xy, xv, ()) = 6 := by
  unfold faultC; dsimp only; rw [c1]; rfl
theorem fault_eq {cn : Int} {cl : List LabD} {cp l dn : Int} {dj : List JobD} {xk xn xl xy xv : Int} {i : Nat} (c1 : pLt (idxKeyJ dj xn) 0 = false) (hI : idxKeyJ dj xn = (i : Int)) : faultC (cn, cl, cp, ()) l (dn, dj, ()) (xk, xn, xl, xy, xv, ()) = cond (pNe (pGet tyJob dj i).2.1 1) 13
    (cond (openT (pGet tyJob dj i).2.2.1) 14 (cond (pEq xk 4 || pEq xk 5) 0
      (cond (pNot (inF xy 0 7) || pNot (inF xv 0 1073741824)) 2
        (cond (pEq xk 2 && (pNot (placeF (cn, cl, cp, ()) xl) || pNot (aboveF (pGet tyLab cl (pNat l)) (pGet tyLab cl (pNat xl))))) 10
          (cond (pGe (pInt (pGet tyJob dj i).2.2.1.length) 10 || pGe (pGet tyJob dj i).2.2.2.2.1 1048576) 8 0))))) := by
  unfold faultC; dsimp only; rw [c1, hI, pNat_coe]; rfl
theorem jobs_asks {c : CfgD} {d : DeskD} (h : deskF c d = 0) : ∀ j ∈ d.2.1, 0 ≤ j.2.2.2.2.1 ∧ j.2.2.2.2.1 ≤ 1048576 := by
  obtain ⟨hc, _, hj⟩ := deskF_zero h
  intro j hm
  obtain ⟨i, hi, rfl⟩ := List.getElem_of_mem hm
  have h1 := hj i hi
  unfold Go.Proofs.Ytnkcmkegjckncaa.jobAt at h1
  rw [Bool.and_eq_true, pGet_lt (t := tyJob) hi] at h1
  generalize d.2.1[i] = j at h1
  obtain ⟨jn, js, jt, ja, jq, jg, u⟩ := j
  cases u
  obtain ⟨cn, cl, cp, u⟩ := c; cases u
  have h2 := h1.1
  rw [jobF_eq] at h2
  simp only [Bool.and_eq_true] at h2
  obtain ⟨⟨⟨⟨⟨⟨⟨⟨_, _⟩, _⟩, _⟩, _⟩, hq⟩, _⟩, _⟩, _⟩ := h2
  exact inF_iff.1 hq
theorem in_lo {x a b : Int} (h : pLt x a = true) : inF x a b = false := Bool.eq_false_iff.2 fun hx => by
  have h1 := (inF_iff.1 hx).1
  have h2 : x < a := of_decide_eq_true h
  omega
theorem in_hi {x a b c : Int} (h : pGe x c = true) (hc : b < c) : inF x a b = false := Bool.eq_false_iff.2 fun hx => by
  have h1 := (inF_iff.1 hx).2
  have h2 : c ≤ x := of_decide_eq_true h
  omega
theorem in_gt {x a b : Int} (h : pGt x b = true) : inF x a b = false := Bool.eq_false_iff.2 fun hx => by
  have h1 := (inF_iff.1 hx).2
  have h2 : b < x := of_decide_eq_true h
  omega
theorem in_yes {x a b : Int} (h1 : pLt x a = false) (h2 : pGt x b = false) : inF x a b = true := by
  have a1 : ¬ x < a := of_decide_eq_false h1
  have a2 : ¬ b < x := of_decide_eq_false h2
  exact inF_iff.2 ⟨by omega, by omega⟩
theorem in_yes' {x a b c : Int} (h1 : pLt x a = false) (h2 : pGe x c = false) (hc : c = b + 1) : inF x a b = true := by
  have a1 : ¬ x < a := of_decide_eq_false h1
  have a2 : ¬ c ≤ x := of_decide_eq_false h2
  exact inF_iff.2 ⟨by omega, by omega⟩
theorem ge_top {x n : Int} (h : x ≤ n) : pGe x n = pEq x n := by
  unfold pGe pEq
  rw [Bool.eq_iff_iff, decide_eq_true_iff, beq_iff_eq]
  omega

end Go.Proofs.Ytnkcmkegjckncaa

/- Contracts, and what the evaluator says, as plain propositions: CdV. Printed by vc.py. -/
namespace Go.Proofs.Ytnkcmkegjckncaa
open Go.RowKit Go.ChangeShapes Go.WideShapes Go.Deep

abbrev above_S : Shape := ⟨[pLab, pLab], []⟩
abbrev above_f : Shape.den above_S → denVars [.slot 0 false .bool] := fun x => (aboveF x.1.1 x.1.2.1, ())
abbrev above_p : Shape.den above_S → List Prop := fun _ => []
def cabove : Ctr := shCtr above_S above_p [] [.slot 0 false .bool] above_f
def cdomin : Ctr := shCtr above_S above_p [] [.slot 0 false .bool] above_f
abbrev cownN_S : Shape := ⟨[pDesk], []⟩
abbrev cownN_f : Shape.den cownN_S → denVars [.agg 0 vDeskN] := fun x => ((x.1.1.1, x.1.1.2.1, ()), ())
abbrev cownN_p : Shape.den cownN_S → List Prop := fun x => [pRoom (pLen x.1.1.2.1) 80, (∀ q ∈ x.1.1.2.1, pRoom (pLen q.2.2.1) 56 ∧ pRoom (pLen q.2.2.2.1) 8), pLen x.1.1.2.1 < 4611686018427387904]
def ccownN : Ctr := shCtr cownN_S cownN_p [] [.agg 0 vDeskN] cownN_f
def cDeskCopyN : Ctr := shCtr cownN_S cownN_p [] [.agg 0 vDeskN] cownN_f
abbrev commit1_S : Shape := ⟨[pTask], []⟩
abbrev commit1_f : Shape.den commit1_S → denVars [.slot 0 false .bool] := fun x => (x.1.1.1, ())
abbrev commit1_p : Shape.den commit1_S → List Prop := fun _ => []
def ccommit1 : Ctr := shCtr commit1_S commit1_p [] [.slot 0 false .bool] commit1_f
abbrev idxW_S : Shape := ⟨[.one (.rd (.sl tyTask)), .one (.lit (.fn 61 []))], []⟩
abbrev idxW_f : Shape.den idxW_S → denVars [.slot 0 false tI] := fun x => (anyWrite x.1.1, ())
abbrev idxW_p : Shape.den idxW_S → List Prop := fun x => [pLen x.1.1 < 4611686018427387904]
def cidxW : Ctr := shCtr idxW_S idxW_p [] [.slot 0 false tI] idxW_f
abbrev anyW_f : Shape.den idxW_S → denVars [.slot 0 false .bool] := fun x => (pGe (anyWrite x.1.1) 0, ())
def canyW : Ctr := shCtr idxW_S idxW_p [] [.slot 0 false .bool] anyW_f
abbrev callFault_S : Shape := ⟨[pCfg, .one (.rd tI), pDesk, pCal], []⟩
abbrev callFault_f : Shape.den callFault_S → denVars [.slot 0 false tI] := fun x => (faultC (x.1.1.1, x.1.1.2.1, x.1.1.2.2.1, ()) x.1.2.1 (x.1.2.2.1.1, x.1.2.2.1.2.1, ()) (x.1.2.2.2.1.1, x.1.2.2.2.1.2.1, x.1.2.2.2.1.2.2.1, x.1.2.2.2.1.2.2.2.1, x.1.2.2.2.1.2.2.2.2.1, ()), ())
abbrev callFault_p : Shape.den callFault_S → List Prop := fun x => [pLen x.1.1.2.1 < 4611686018427387904, pLen x.1.2.2.1.2.1 < 4611686018427387904, (∀ q ∈ x.1.2.2.1.2.1, pLen q.2.2.1 < 4611686018427387904 ∧ pLen q.2.2.2.1 < 4611686018427387904), placeF (x.1.1.1, x.1.1.2.1, x.1.1.2.2.1, ()) x.1.2.1 = true]
def ccallFault : Ctr := shCtr callFault_S callFault_p [] [.slot 0 false tI] callFault_f
abbrev eqsCdV : List TypeId := [96, 64, 81, 76, 62]

def above_VC (al : Int) (ak : Int) (bl : Int) (bk : Int) : Prop :=
  bif pGe al bl then (pEq (pAnd IntKind.i64 ak bk) bk, ()) = (aboveF (al, ak, ()) (bl, bk, ()), ()) else (Bool.false, ()) = (aboveF (al, ak, ()) (bl, bk, ()), ())
set_option maxRecDepth 100000 in
theorem above_meets  (h : ∀ (al : Int) (ak : Int) (bl : Int) (bk : Int), above_VC al ak bl bk) : Mt 47 cabove :=
  meets_vc (E := envN Try.prog (fun _ => none) [] eqsCdV [(25, [2, 3])] []) (envN_ok (fun p hp => by cases hp) (by kernel_rfl)) above_S (fun x => fun ky9 st9 => look [] ky9) Try.func47 (by kernel_rfl) (by kernel_rfl) above_p [] [.slot 0 false .bool] above_f (fun x => above_VC x.1.1.1 x.1.1.2.1 x.1.2.1.1 x.1.2.1.2.1) (fun x => by kernel_rfl) (fun x _ => h x.1.1.1 x.1.1.2.1 x.1.2.1.1 x.1.2.1.2.1)

def domin_VC (al : Int) (ak : Int) (bl : Int) (bk : Int) : Prop :=
  bif pGe al bl then (pEq (pAnd IntKind.i64 ak bk) bk, ()) = (aboveF (al, ak, ()) (bl, bk, ()), ()) else (Bool.false, ()) = (aboveF (al, ak, ()) (bl, bk, ()), ())
set_option maxRecDepth 100000 in
theorem domin_meets  (h : ∀ (al : Int) (ak : Int) (bl : Int) (bk : Int), domin_VC al ak bl bk) : Mt 53 cdomin :=
  meets_vc (E := envN Try.prog (fun _ => none) [] eqsCdV [(25, [2, 3])] []) (envN_ok (fun p hp => by cases hp) (by kernel_rfl)) above_S (fun x => fun ky9 st9 => look [] ky9) Try.func53 (by kernel_rfl) (by kernel_rfl) above_p [] [.slot 0 false .bool] above_f (fun x => domin_VC x.1.1.1 x.1.1.2.1 x.1.2.1.1 x.1.2.1.2.1) (fun x => by kernel_rfl) (fun x _ => h x.1.1.1 x.1.1.2.1 x.1.2.1.1 x.1.2.1.2.1)

abbrev cownN_v0 (dj : List JobD) (y0 : kden Bool.false tI × denCells vDeskN × PUnit) := pGet tyJob dj (pNat y0.1)
abbrev cownN_v1 (dj : List JobD) (y0 : kden Bool.false tI × denCells vDeskN × PUnit) := (pAdd IntKind.i64 y0.1 (1 : Int), (y0.2.1.1, pApp y0.2.1.2.1 (cownN_v0 dj y0 :: vnil (Int × Int × List (Bool × Int × Int × Int × Int × Int × Bool × Bool × PUnit) × List (Int × PUnit) × Int × Int × PUnit)), ()), ())

def cownN_VC (dn : Int) (dj : (List JobD)) : Prop :=
  cownInv dn dj ((0 : Int), (dn, vnil (Int × Int × List (Bool × Int × Int × Int × Int × Int × Bool × Bool × PUnit) × List (Int × PUnit) × Int × Int × PUnit), ()), ()) ∧ ∀ (y0 : kden Bool.false tI × denCells vDeskN × PUnit), cownInv dn dj y0 →
 bif pLt y0.1 (pInt (pLen dj)) then pIn y0.1 (pLen dj) ∧ pRoom (pLen (cownN_v0 dj y0).2.2.1) 56 ∧ pRoom (pLen (cownN_v0 dj y0).2.2.2.1) 8 ∧ pRoom (pPlus (pLen y0.2.1.2.1) (pLen (cownN_v0 dj y0 :: vnil (Int × Int × List (Bool × Int × Int ×
 Int × Int × Int × Bool × Bool × PUnit) × List (Int × PUnit) × Int × Int × PUnit)))) 80 ∧ cownInv dn dj (cownN_v1 dj y0) ∧ Nat.le (Nat.succ (cownMu dn dj (cownN_v1 dj y0))) (cownMu dn dj y0) else y0.2 = ((dn, dj, ()), ())
set_option maxRecDepth 100000 in
theorem cownN_meets (hcloneT : Mt 56 ccloneT) (hcloneN : Mt 57 ccloneN) (h : ∀ (dn : Int) (dj : (List JobD)), (∀ p ∈ cownN_p ⟨((dn, dj, ()), ()), ()⟩, p) → cownN_VC dn dj) : Mt 37 ccownN :=
  meets_vc (E := envN Try.prog (fun _ => none) [(56, (false, ccloneT)), (57, (false, ccloneN))] eqsCdV [(25, [2, 3])] []) (envN_ok (fun p hp => (by simp only [List.mem_cons, List.not_mem_nil, or_false] at hp; rcases hp with rfl | rfl; exact hcloneT; exact hcloneN)) (by kernel_rfl)) cownN_S (fun x => fun ky9 st9 => look [(3, (⟨[.slot 12 false tI, .box 40 vDeskN], cownInv x.1.1.1 x.1.1.2.1, cownMu x.1.1.1 x.1.1.2.1⟩ : Ann))] ky9) Try.func37 (by kernel_rfl) (by kernel_rfl) cownN_p [] [.agg 0 vDeskN] cownN_f (fun x => cownN_VC x.1.1.1 x.1.1.2.1) (fun x => by kernel_rfl) (fun x hp => h x.1.1.1 x.1.1.2.1 hp)

abbrev DeskCopyN_v0 (dj : List JobD) (y0 : kden Bool.false tI × denCells vDeskN × PUnit) := pGet tyJob dj (pNat y0.1)
abbrev DeskCopyN_v1 (dj : List JobD) (y0 : kden Bool.false tI × denCells vDeskN × PUnit) := (pAdd IntKind.i64 y0.1 (1 : Int), (y0.2.1.1, pApp y0.2.1.2.1 (DeskCopyN_v0 dj y0 :: vnil (Int × Int × List (Bool × Int × Int × Int × Int × Int × Bool × Bool × PUnit) × List (Int × PUnit) × Int × Int × PUnit)), ()), ())

def DeskCopyN_VC (dn : Int) (dj : (List JobD)) : Prop :=
  deskCopyInv dn dj ((0 : Int), (dn, vnil (Int × Int × List (Bool × Int × Int × Int × Int × Int × Bool × Bool × PUnit) × List (Int × PUnit) × Int × Int × PUnit), ()), ()) ∧ ∀ (y0 : kden Bool.false tI × denCells vDeskN × PUnit), deskCopyInv dn
 dj y0 → bif pLt y0.1 (pInt (pLen dj)) then pIn y0.1 (pLen dj) ∧ pRoom (pLen (DeskCopyN_v0 dj y0).2.2.1) 56 ∧ pRoom (pLen (DeskCopyN_v0 dj y0).2.2.2.1) 8 ∧ pRoom (pPlus (pLen y0.2.1.2.1) (pLen (DeskCopyN_v0 dj y0 :: vnil (Int × Int × List
 (Bool × Int × Int × Int × Int × Int × Bool × Bool × PUnit) × List (Int × PUnit) × Int × Int × PUnit)))) 80 ∧ deskCopyInv dn dj (DeskCopyN_v1 dj y0) ∧ Nat.le (Nat.succ (deskCopyMu dn dj (DeskCopyN_v1 dj y0))) (deskCopyMu dn dj y0) else y0.2
 = ((dn, dj, ()), ())
set_option maxRecDepth 100000 in
theorem DeskCopyN_meets (hTasksCopy : Mt 12 cTasksCopy) (hintsCopy : Mt 13 cintsCopy) (h : ∀ (dn : Int) (dj : (List JobD)), (∀ p ∈ cownN_p ⟨((dn, dj, ()), ()), ()⟩, p) → DeskCopyN_VC dn dj) : Mt 5 cDeskCopyN :=
  meets_vc (E := envN Try.prog (fun _ => none) [(12, (false, cTasksCopy)), (13, (false, cintsCopy))] eqsCdV [(25, [2, 3])] []) (envN_ok (fun p hp => (by simp only [List.mem_cons, List.not_mem_nil, or_false] at hp; rcases hp with rfl | rfl; exact hTasksCopy; exact hintsCopy)) (by kernel_rfl)) cownN_S (fun x => fun ky9 st9 => look [(3, (⟨[.slot 4 false tI, .box 40 vDeskN], deskCopyInv x.1.1.1 x.1.1.2.1, deskCopyMu x.1.1.1 x.1.1.2.1⟩ : Ann))] ky9) Try.func5 (by kernel_rfl) (by kernel_rfl) cownN_p [] [.agg 0 vDeskN] cownN_f (fun x => DeskCopyN_VC x.1.1.1 x.1.1.2.1) (fun x => by kernel_rfl) (fun x hp => h x.1.1.1 x.1.1.2.1 hp)

def commit1_VC (tw : Bool) (tl : Int) (tk : Int) (tv : Int) (te : Int) (ta : Int) (td : Bool) (ts : Bool) : Prop :=
  (tw, ()) = (tw, ())
set_option maxRecDepth 100000 in
theorem commit1_meets  (h : ∀ (tw : Bool) (tl : Int) (tk : Int) (tv : Int) (te : Int) (ta : Int) (td : Bool) (ts : Bool), commit1_VC tw tl tk tv te ta td ts) : Mt 61 ccommit1 :=
  meets_vc (E := envN Try.prog (fun _ => none) [] eqsCdV [(25, [2, 3])] []) (envN_ok (fun p hp => by cases hp) (by kernel_rfl)) commit1_S (fun x => fun ky9 st9 => look [] ky9) Try.func61 (by kernel_rfl) (by kernel_rfl) commit1_p [] [.slot 0 false .bool] commit1_f (fun x => commit1_VC x.1.1.1 x.1.1.2.1 x.1.1.2.2.1 x.1.1.2.2.2.1 x.1.1.2.2.2.2.1 x.1.1.2.2.2.2.2.1 x.1.1.2.2.2.2.2.2.1 x.1.1.2.2.2.2.2.2.2.1) (fun x => by kernel_rfl) (fun x _ => h x.1.1.1 x.1.1.2.1 x.1.1.2.2.1 x.1.1.2.2.2.1 x.1.1.2.2.2.2.1 x.1.1.2.2.2.2.2.1 x.1.1.2.2.2.2.2.2.1 x.1.1.2.2.2.2.2.2.2.1)

def idxW_VC (l : (List TaskD)) : Prop :=
  idxWInv l ((0 : Int), ()) ∧ ∀ (y0 : kden Bool.false tI × PUnit), idxWInv l y0 → bif pLt y0.1 (pInt (pLen l)) then pIn y0.1 (pLen l) ∧ bif (pGet tyTask l (pNat y0.1)).1 then y0 = (anyWrite l, ()) else idxWInv l (pAdd IntKind.i64 y0.1 (1 :
 Int), ()) ∧ Nat.le (Nat.succ (idxWMu l (pAdd IntKind.i64 y0.1 (1 : Int), ()))) (idxWMu l y0) else ((-1 : Int), ()) = (anyWrite l, ())
set_option maxRecDepth 100000 in
theorem idxW_meets (hcommit1 : Mt 61 ccommit1) (h : ∀ (l : (List TaskD)), (∀ p ∈ idxW_p ⟨(l, (), ()), ()⟩, p) → idxW_VC l) : Mt 68 cidxW :=
  meets_vc (E := envN Try.prog (fun _ => none) [(61, (false, ccommit1))] eqsCdV [(25, [2, 3])] []) (envN_ok (fun p hp => (by simp only [List.mem_cons, List.not_mem_nil, or_false] at hp; rcases hp with rfl; exact hcommit1)) (by kernel_rfl)) idxW_S (fun x => fun ky9 st9 => look [(2, (⟨[.slot 8 false tI], idxWInv x.1.1, idxWMu x.1.1⟩ : Ann))] ky9) Try.func68 (by kernel_rfl) (by kernel_rfl) idxW_p [] [.slot 0 false tI] idxW_f (fun x => idxW_VC x.1.1) (fun x => by kernel_rfl) (fun x hp => h x.1.1 hp)

def anyW_VC (l : (List TaskD)) : Prop :=
  Nat.le (Nat.succ (pLen l)) 4611686018427387904 ∧ (pGe (anyWrite l) (0 : Int), ()) = (pGe (anyWrite l) (0 : Int), ())
set_option maxRecDepth 100000 in
theorem anyW_meets (hidxW : Mt 68 cidxW) (h : ∀ (l : (List TaskD)), (∀ p ∈ idxW_p ⟨(l, (), ()), ()⟩, p) → anyW_VC l) : Mt 60 canyW :=
  meets_vc (E := envN Try.prog (fun _ => none) [(68, (false, cidxW))] eqsCdV [(25, [2, 3])] []) (envN_ok (fun p hp => (by simp only [List.mem_cons, List.not_mem_nil, or_false] at hp; rcases hp with rfl; exact hidxW)) (by kernel_rfl)) idxW_S (fun x => fun ky9 st9 => look [] ky9) Try.func60 (by kernel_rfl) (by kernel_rfl) idxW_p [] [.slot 0 false .bool] anyW_f (fun x => anyW_VC x.1.1) (fun x => by kernel_rfl) (fun x hp => h x.1.1 hp)

abbrev callFault_v0 (cn : Int) (cl : List LabD) (cp : Int) (l : Int) (dn : Int) (dj : List JobD) (xk : Int) (xn : Int) (xl : Int) (xy : Int) (xv : Int) := (faultC (cn, cl, cp, ()) l (dn, dj, ()) (xk, xn, xl, xy, xv, ()), ())
abbrev callFault_v1 (dj : List JobD) (xn : Int) := (pGet tyJob dj (pNat (idxKeyJ dj xn))).2
abbrev callFault_v2 (cn : Int) (cl : List LabD) (cp : Int) (l : Int) (dn : Int) (dj : List JobD) (xk : Int) (xn : Int) (xl : Int) (xy : Int) (xv : Int) := bif pGe (pInt (pLen (callFault_v1 dj xn).2.1)) (10 : Int) then ((8 : Int), ()) = callFault_v0 cn cl cp l dn dj xk xn xl xy xv else bif pGe (callFault_v1 dj xn).2.2.2.1 (1048576 : Int) then ((8 : Int), ()) = callFault_v0 cn cl cp l dn dj xk
 xn xl xy xv else ((0 : Int), ()) = callFault_v0 cn cl cp l dn dj xk xn xl xy xv
abbrev callFault_v3 (cn : Int) (cl : List LabD) (cp : Int) (l : Int) (dn : Int) (dj : List JobD) (xk : Int) (xn : Int) (xl : Int) (xy : Int) (xv : Int) := bif pEq xk (4 : Int) then ((0 : Int), ()) = callFault_v0 cn cl cp l dn dj xk xn xl xy xv else bif pEq xk (5 : Int) then ((0 : Int), ()) = callFault_v0 cn cl cp l dn dj xk xn xl xy xv else bif pNot (inF xy (0 : Int) (7 : Int)) then ((2 :
 Int), ()) = callFault_v0 cn cl cp l dn dj xk xn xl xy xv else bif pNot (inF xv (0 : Int) (1073741824 : Int)) then ((2 : Int), ()) = callFault_v0 cn cl cp l dn dj xk xn xl xy xv else bif pEq xk (2 : Int) then Nat.le (Nat.succ (pLen cl))
 4611686018427387904 ∧ bif pNot (placeF (cn, cl, cp, ()) xl) then ((10 : Int), ()) = callFault_v0 cn cl cp l dn dj xk xn xl xy xv else pIn l (pLen cl) ∧ pIn xl (pLen cl) ∧ bif pNot (aboveF (pGet tyLab cl (pNat l)) (pGet tyLab cl (pNat xl)))
 then ((10 : Int), ()) = callFault_v0 cn cl cp l dn dj xk xn xl xy xv else callFault_v2 cn cl cp l dn dj xk xn xl xy xv else callFault_v2 cn cl cp l dn dj xk xn xl xy xv

def callFault_VC (cn : Int) (cl : (List LabD)) (cp : Int) (l : Int) (dn : Int) (dj : (List JobD)) (xk : Int) (xn : Int) (xl : Int) (xy : Int) (xv : Int) : Prop :=
  Nat.le (Nat.succ (pLen dj)) 4611686018427387904 ∧ bif pLt (idxKeyJ dj xn) (0 : Int) then ((6 : Int), ()) = callFault_v0 cn cl cp l dn dj xk xn xl xy xv else pIn (idxKeyJ dj xn) (pLen dj) ∧ bif pNe (callFault_v1 dj xn).1 (1 : Int) then ((13
 : Int), ()) = callFault_v0 cn cl cp l dn dj xk xn xl xy xv else bif pGt (pInt (pLen (callFault_v1 dj xn).2.1)) (0 : Int) then pIn (pSubI IntKind.i64 (pInt (pLen (callFault_v1 dj xn).2.1)) (1 : Int)) (pLen (callFault_v1 dj xn).2.1) ∧ bif
 pNot (pGet tyTask (callFault_v1 dj xn).2.1 (pNat (pSubI IntKind.i64 (pInt (pLen (callFault_v1 dj xn).2.1)) (1 : Int)))).2.2.2.2.2.2.1 then ((14 : Int), ()) = callFault_v0 cn cl cp l dn dj xk xn xl xy xv else callFault_v3 cn cl cp l dn dj xk
 xn xl xy xv else callFault_v3 cn cl cp l dn dj xk xn xl xy xv
set_option maxRecDepth 100000 in
theorem callFault_meets (hjobAt : Mt 18 cjobAt) (hlabelMay : Mt 42 clabelMay) (hdomin : Mt 53 cdomin) (hIn : Mt 32 cIn) (h : ∀ (cn : Int) (cl : (List LabD)) (cp : Int) (l : Int) (dn : Int) (dj : (List JobD)) (xk : Int) (xn : Int) (xl : Int) (xy : Int) (xv : Int), (∀ p ∈ callFault_p ⟨((cn, cl, cp, ()), l, (dn, dj, ()), (xk, xn, xl, xy, xv, ()), ()), ()⟩, p) → callFault_VC cn cl cp l dn dj xk xn xl xy xv) : Mt 33 ccallFault :=
  meets_vc (E := envN Try.prog (fun _ => none) [(18, (false, cjobAt)), (42, (false, clabelMay)), (53, (false, cdomin)), (32, (false, cIn))] eqsCdV [(25, [2, 3])] []) (envN_ok (fun p hp => (by simp only [List.mem_cons, List.not_mem_nil, or_false] at hp; rcases hp with rfl | rfl | rfl | rfl; exact hjobAt; exact hlabelMay; exact hdomin; exact hIn)) (by kernel_rfl)) callFault_S (fun x => fun ky9 st9 => look [] ky9) Try.func33 (by kernel_rfl) (by kernel_rfl) callFault_p [] [.slot 0 false tI] callFault_f (fun x => callFault_VC x.1.1.1 x.1.1.2.1 x.1.1.2.2.1 x.1.2.1 x.1.2.2.1.1 x.1.2.2.1.2.1 x.1.2.2.2.1.1 x.1.2.2.2.1.2.1 x.1.2.2.2.1.2.2.1 x.1.2.2.2.1.2.2.2.1 x.1.2.2.2.1.2.2.2.2.1) (fun x => by kernel_rfl) (fun x hp => h x.1.1.1 x.1.1.2.1 x.1.1.2.2.1 x.1.2.1 x.1.2.2.1.1 x.1.2.2.1.2.1 x.1.2.2.2.1.1 x.1.2.2.2.1.2.1 x.1.2.2.2.1.2.2.1 x.1.2.2.2.1.2.2.2.1 x.1.2.2.2.1.2.2.2.2.1 hp)


end Go.Proofs.Ytnkcmkegjckncaa
