/- Contracts, and what the evaluator says, as plain propositions: RcV. Printed by vc.py. -/
import Derived.Test.YtkhnakdmkhidbaaDoorJ1
import Derived.Test.YtkhnakdmkhidbaaDoorJ5
import Derived.Test.YtkhnakdmkhidbaaDoorJ6
import Derived.Test.YtkhnakdmkhidbaaDoorJ7
import Derived.Test.YtkhnakdmkhidbaaDoorJ3

/- Contracts, and what the evaluator says, as plain propositions: PcV. Printed by vc.py. -/
namespace Go.Proofs.YtkhnakdmkhidbaaDoor
open Go.RowKit Go.ChangeShapes Go.WideShapes Go.Deep

abbrev WriteF_S : Shape := ⟨[pSto, pTxn, .one (.rd tI), .one (.rd tI), .one (.rd tI)], []⟩
abbrev WriteF_f : Shape.den WriteF_S → denVars [.agg 0 vStoR, .slot 1 false tI] := fun x => (writeS x.1.1 x.1.2.1 x.1.2.2.1 x.1.2.2.2.1 x.1.2.2.2.2.1, writeE x.1.1 x.1.2.1 x.1.2.2.1 x.1.2.2.2.1 x.1.2.2.2.2.1, ())
abbrev WriteF_p : Shape.den WriteF_S → List Prop := fun x => [pLen x.1.1.1 < 4611686018427387904, pLen x.1.1.2.1 < 4611686018427387904, pLen x.1.1.2.2.1 < 4611686018427387904, pLen x.1.1.2.2.2.1 < 4611686018427387904, pRoom (pLen x.1.1.1) 24, pRoom (pLen x.1.1.2.1) 48, pRoom (pLen x.1.1.2.2.1) 24, pRoom (pLen x.1.1.2.2.2.1) 16]
def cWriteF : Ctr := shCtr WriteF_S WriteF_p [] [.agg 0 vStoR, .slot 1 false tI] WriteF_f
abbrev EndF_S : Shape := ⟨[pSto, pTxn, .one (.rd .bool)], []⟩
abbrev EndF_f : Shape.den EndF_S → denVars [.agg 0 vStoR, .slot 1 false tI] := fun x => (endS x.1.1 x.1.2.1 x.1.2.2.1, endE x.1.1 x.1.2.1, ())
abbrev EndF_p : Shape.den EndF_S → List Prop := fun x => [pLen x.1.1.1 < 4611686018427387904, pLen x.1.1.2.1 < 4611686018427387904, pLen x.1.1.2.2.1 < 4611686018427387904, pLen x.1.1.2.2.2.1 < 4611686018427387904, pRoom (pLen x.1.1.1) 24, pRoom (pLen x.1.1.2.1) 48, pRoom (pLen x.1.1.2.2.1) 24, pRoom (pLen x.1.1.2.2.2.1) 16]
def cEndF : Ctr := shCtr EndF_S EndF_p [] [.agg 0 vStoR, .slot 1 false tI] EndF_f
abbrev WriteW_p : Shape.den WriteF_S → List Prop := fun x => [StoOk x.1.1]
def cWriteW : Ctr := shCtr WriteF_S WriteW_p [] [.agg 0 vStoR, .slot 1 false tI] WriteF_f
abbrev EndW_p : Shape.den EndF_S → List Prop := fun x => [StoOk x.1.1]
def cEndW : Ctr := shCtr EndF_S EndW_p [] [.agg 0 vStoR, .slot 1 false tI] EndF_f
end Go.Proofs.YtkhnakdmkhidbaaDoor

/- Contracts, and what the evaluator says, as plain propositions: RcV. Printed by vc.py. -/
namespace Go.Proofs.YtkhnakdmkhidbaaDoor
open Go.RowKit Go.ChangeShapes Go.WideShapes Go.Deep

abbrev comm1_S : Shape := ⟨[pJob, .one (.rd tI)], []⟩
abbrev comm1_f : Shape.den comm1_S → denVars [.slot 0 false tI] := fun x => (pSubI .i64 x.1.1.1 x.1.2.1, ())
abbrev comm1_p : Shape.den comm1_S → List Prop := fun _ => []
def ccomm1 : Ctr := shCtr comm1_S comm1_p [] [.slot 0 false tI] comm1_f
abbrev binJ_S : Shape := ⟨[.one (.rd (.sl tyJob)), .one (.rd tI), .one (.lit (.fn 99 []))], []⟩
abbrev binJ_f : Shape.den binJ_S → denVars [.slot 0 false tI, .slot 1 false .bool] := fun x => (posJ x.1.1 x.1.2.1, pGe (idxKeyJ x.1.1 x.1.2.1) 0, ())
abbrev binJ_p : Shape.den binJ_S → List Prop := fun x => [pLen x.1.1 < 4611686018427387904, sortJ x.1.1 = true, JobsIn x.1.1, inF x.1.2.1 0 1048576 = true]
def cbinJ : Ctr := shCtr binJ_S binJ_p [] [.slot 0 false tI, .slot 1 false .bool] binJ_f
abbrev cloneN_S : Shape := ⟨[.one (.rd (.sl tyN))], []⟩
abbrev cloneN_f : Shape.den cloneN_S → denVars [.slot 0 true tyN] := fun x => (x.1.1, ())
abbrev cloneN_p : Shape.den cloneN_S → List Prop := fun x => [pRoom (pLen x.1.1) 8]
def ccloneN : Ctr := shCtr cloneN_S cloneN_p [] [.slot 0 true tyN] cloneN_f
def cintsCopy : Ctr := shCtr cloneN_S cloneN_p [] [.slot 0 true tyN] cloneN_f
abbrev insJ_S : Shape := ⟨[.one (.own 0), .one (.rd tI), .one (.own 1)], [.row tyJob, .row tyJob]⟩
abbrev insJ_f : Shape.den insJ_S → denVars [.slot 0 true tyJob] := fun x => (pIns x.2.1 (pNat x.1.2.1) (pGet tyJob x.2.2.1 0), ())
abbrev insJ_p : Shape.den insJ_S → List Prop := fun x => [pTo x.1.2.1 (pLen x.2.1), pLen x.2.2.1 = 1, pRoom (pPlus (pLen x.2.1) 1) 80]
def cinsJ : Ctr := shCtr insJ_S insJ_p [0] [.slot 0 true tyJob] insJ_f
abbrev insJA_p : Shape.den insJ_S → List Prop := fun x => [x.1.2.1 = pInt (pLen x.2.1), pLen x.2.2.1 = 1, pRoom (pPlus (pLen x.2.1) 1) 80]
def cinsJA : Ctr := shCtr insJ_S insJA_p [0] [.slot 0 true tyJob] insJ_f
abbrev mend_S : Shape := ⟨[.one (.lit (.pt 0 0)), pTxn, .one (.rd .bool)], [.box [.rd tI, .rd (.sl tyItem), .rd (.sl tyLock), .rd (.sl tyDoubt), .rd (.sl tyTxn), .rd tI, .own 1, .own 2], .row tyJob, .row tyNote]⟩
abbrev mend_f : Shape.den mend_S → denVars [.box 0 vMem] := fun x => ((x.2.1.1, (endM x.2.1.1 (x.2.1.2.1, x.2.1.2.2.1, x.2.1.2.2.2.1, x.2.1.2.2.2.2.1, x.2.1.2.2.2.2.2.1, x.2.2.1, x.2.2.2.1, ()) x.1.2.1 x.1.2.2.1).1, (endM x.2.1.1 (x.2.1.2.1, x.2.1.2.2.1, x.2.1.2.2.2.1, x.2.1.2.2.2.2.1, x.2.1.2.2.2.2.2.1, x.2.2.1, x.2.2.2.1, ()) x.1.2.1 x.1.2.2.1).2.1, (endM x.2.1.1 (x.2.1.2.1, x.2.1.2.2.1, x.2.1.2.2.2.1, x.2.1.2.2.2.2.1, x.2.1.2.2.2.2.2.1, x.2.2.1, x.2.2.2.1, ()) x.1.2.1 x.1.2.2.1).2.2.1, (endM x.2.1.1 (x.2.1.2.1, x.2.1.2.2.1, x.2.1.2.2.2.1, x.2.1.2.2.2.2.1, x.2.1.2.2.2.2.2.1, x.2.2.1, x.2.2.2.1, ()) x.1.2.1 x.1.2.2.1).2.2.2.1, (endM x.2.1.1 (x.2.1.2.1, x.2.1.2.2.1, x.2.1.2.2.2.1, x.2.1.2.2.2.2.1, x.2.1.2.2.2.2.2.1, x.2.2.1, x.2.2.2.1, ()) x.1.2.1 x.1.2.2.1).2.2.2.2.1, (endM x.2.1.1 (x.2.1.2.1, x.2.1.2.2.1, x.2.1.2.2.2.1, x.2.1.2.2.2.2.1, x.2.1.2.2.2.2.2.1, x.2.2.1, x.2.2.2.1, ()) x.1.2.1 x.1.2.2.1).2.2.2.2.2.1, (endM x.2.1.1 (x.2.1.2.1, x.2.1.2.2.1, x.2.1.2.2.2.1, x.2.1.2.2.2.2.1, x.2.1.2.2.2.2.2.1, x.2.2.1, x.2.2.2.1, ()) x.1.2.1 x.1.2.2.1).2.2.2.2.2.2.1, ()), ())
abbrev mend_p : Shape.den mend_S → List Prop := fun x => [StoOk (x.2.1.2.1, x.2.1.2.2.1, x.2.1.2.2.2.1, x.2.1.2.2.2.2.1, ())]
def cmend : Ctr := shCtr mend_S mend_p [1, 2] [.box 0 vMem] mend_f
abbrev cloneNF_f : Shape.den cloneN_S → denVars [.slot 0 false (.sl tyN)] := fun x => (x.1.1, ())
def ccloneNF : Ctr := shCtr cloneN_S cloneN_p [] [.slot 0 false (.sl tyN)] cloneNF_f
def cintsCopyF : Ctr := shCtr cloneN_S cloneN_p [] [.slot 0 false (.sl tyN)] cloneNF_f
abbrev mcomm_S : Shape := ⟨[.one (.lit (.pt 0 0)), pRec], [.box [.rd tI, .rd (.sl tyItem), .rd (.sl tyLock), .rd (.sl tyDoubt), .rd (.sl tyTxn), .rd tI, .own 1, .own 2], .row tyJob, .row tyNote]⟩
abbrev mcomm_f : Shape.den mcomm_S → denVars [.box 0 vMem] := fun x => ((x.2.1.1, (commM x.2.1.1 (x.2.1.2.1, x.2.1.2.2.1, x.2.1.2.2.2.1, x.2.1.2.2.2.2.1, x.2.1.2.2.2.2.2.1, x.2.2.1, x.2.2.2.1, ()) x.1.2.1).1, (commM x.2.1.1 (x.2.1.2.1, x.2.1.2.2.1, x.2.1.2.2.2.1, x.2.1.2.2.2.2.1, x.2.1.2.2.2.2.2.1, x.2.2.1, x.2.2.2.1, ()) x.1.2.1).2.1, (commM x.2.1.1 (x.2.1.2.1, x.2.1.2.2.1, x.2.1.2.2.2.1, x.2.1.2.2.2.2.1, x.2.1.2.2.2.2.2.1, x.2.2.1, x.2.2.2.1, ()) x.1.2.1).2.2.1, (commM x.2.1.1 (x.2.1.2.1, x.2.1.2.2.1, x.2.1.2.2.2.1, x.2.1.2.2.2.2.1, x.2.1.2.2.2.2.2.1, x.2.2.1, x.2.2.2.1, ()) x.1.2.1).2.2.2.1, (commM x.2.1.1 (x.2.1.2.1, x.2.1.2.2.1, x.2.1.2.2.2.1, x.2.1.2.2.2.2.1, x.2.1.2.2.2.2.2.1, x.2.2.1, x.2.2.2.1, ()) x.1.2.1).2.2.2.2.1, (commM x.2.1.1 (x.2.1.2.1, x.2.1.2.2.1, x.2.1.2.2.2.1, x.2.1.2.2.2.2.1, x.2.1.2.2.2.2.2.1, x.2.2.1, x.2.2.2.1, ()) x.1.2.1).2.2.2.2.2.1, (commM x.2.1.1 (x.2.1.2.1, x.2.1.2.2.1, x.2.1.2.2.2.1, x.2.1.2.2.2.2.1, x.2.1.2.2.2.2.2.1, x.2.2.1, x.2.2.2.1, ()) x.1.2.1).2.2.2.2.2.2.1, ()), ())
abbrev mcomm_p : Shape.den mcomm_S → List Prop := fun x => [MemOk (x.2.1.2.1, x.2.1.2.2.1, x.2.1.2.2.2.1, x.2.1.2.2.2.2.1, x.2.1.2.2.2.2.2.1, x.2.2.1, x.2.2.2.1, ()), inF x.1.2.1.2.2.1 1 1048576 = true, pLen x.1.2.1.2.2.2.2.2.2.2.1 < 1000000]
def cmcomm : Ctr := shCtr mcomm_S mcomm_p [1, 2] [.box 0 vMem] mcomm_f
abbrev one1_S : Shape := ⟨[pJob, .one (.lit (.pt 0 0)), .one (.lit (.pt 1 0))], [.box [.rd tI, .rd tI, .rd tI, .rd tI, .rd tI, .rd tI, .rd .bool, .rd (.sl tyN)], .box [.lit (.pt 2 0)], .box [.rd tI, .rd (.sl tyItem), .rd (.sl tyLock), .rd (.sl tyDoubt), .rd (.sl tyTxn), .rd tI, .own 3, .own 4], .row tyJob, .row tyNote]⟩
abbrev one1_f : Shape.den one1_S → denVars [.slot 0 false .bool] := fun x => (isDJ x.1.1 x.2.1.2.1 x.2.1.2.2.1 x.2.2.2.1.1, ())
abbrev one1_p : Shape.den one1_S → List Prop := fun _ => []
def cone1 : Ctr := shCtr one1_S one1_p [] [.slot 0 false .bool] one1_f
abbrev indexDJ_S : Shape := ⟨[.one (.own 0), .one (.lit (.fn 80 [(1, 0), (2, 0)]))], [.row tyJob, .box [.rd tI, .rd tI, .rd tI, .rd tI, .rd tI, .rd tI, .rd .bool, .rd (.sl tyN)], .box [.lit (.pt 3 0)], .box [.rd tI, .rd (.sl tyItem), .rd (.sl tyLock), .rd (.sl tyDoubt), .rd (.sl tyTxn), .rd tI, .own 0, .own 4], .row tyNote]⟩
abbrev indexDJ_f : Shape.den indexDJ_S → denVars [.slot 0 false tI] := fun x => (idxDJ x.2.1 x.2.2.1.2.1 x.2.2.1.2.2.1 x.2.2.2.2.1.1, ())
abbrev indexDJ_p : Shape.den indexDJ_S → List Prop := fun x => [pLen x.2.1 < 4611686018427387904]
def cindexDJ : Ctr := shCtr indexDJ_S indexDJ_p [] [.slot 0 false tI] indexDJ_f
abbrev delDJ_f : Shape.den indexDJ_S → denVars [.slot 0 true tyJob] := fun x => (delJ x.2.1 x.2.2.1.2.1 x.2.2.1.2.2.1 x.2.2.2.2.1.1, ())
def cdelDJ : Ctr := shCtr indexDJ_S indexDJ_p [0] [.slot 0 true tyJob] delDJ_f
abbrev mone_f : Shape.den mcomm_S → denVars [.box 0 vMem] := fun x => ((x.2.1.1, (stepM x.2.1.1 (x.2.1.2.1, x.2.1.2.2.1, x.2.1.2.2.2.1, x.2.1.2.2.2.2.1, x.2.1.2.2.2.2.2.1, x.2.2.1, x.2.2.2.1, ()) x.1.2.1).1, (stepM x.2.1.1 (x.2.1.2.1, x.2.1.2.2.1, x.2.1.2.2.2.1, x.2.1.2.2.2.2.1, x.2.1.2.2.2.2.2.1, x.2.2.1, x.2.2.2.1, ()) x.1.2.1).2.1, (stepM x.2.1.1 (x.2.1.2.1, x.2.1.2.2.1, x.2.1.2.2.2.1, x.2.1.2.2.2.2.1, x.2.1.2.2.2.2.2.1, x.2.2.1, x.2.2.2.1, ()) x.1.2.1).2.2.1, (stepM x.2.1.1 (x.2.1.2.1, x.2.1.2.2.1, x.2.1.2.2.2.1, x.2.1.2.2.2.2.1, x.2.1.2.2.2.2.2.1, x.2.2.1, x.2.2.2.1, ()) x.1.2.1).2.2.2.1, (stepM x.2.1.1 (x.2.1.2.1, x.2.1.2.2.1, x.2.1.2.2.2.1, x.2.1.2.2.2.2.1, x.2.1.2.2.2.2.2.1, x.2.2.1, x.2.2.2.1, ()) x.1.2.1).2.2.2.2.1, (stepM x.2.1.1 (x.2.1.2.1, x.2.1.2.2.1, x.2.1.2.2.2.1, x.2.1.2.2.2.2.1, x.2.1.2.2.2.2.2.1, x.2.2.1, x.2.2.2.1, ()) x.1.2.1).2.2.2.2.2.1, (stepM x.2.1.1 (x.2.1.2.1, x.2.1.2.2.1, x.2.1.2.2.2.1, x.2.1.2.2.2.2.1, x.2.1.2.2.2.2.2.1, x.2.2.1, x.2.2.2.1, ()) x.1.2.1).2.2.2.2.2.2.1, ()), ())
def cmone : Ctr := shCtr mcomm_S mcomm_p [1, 2] [.box 0 vMem] mone_f
abbrev jobAt_S : Shape := ⟨[pDesk, .one (.rd tI)], []⟩
abbrev jobAt_f : Shape.den jobAt_S → denVars [.slot 0 false tI] := fun x => (idxKeyJ x.1.1.2.1 x.1.2.1, ())
abbrev jobAt_p : Shape.den jobAt_S → List Prop := fun x => [pLen x.1.1.2.1 < 4611686018427387904]
def cjobAt : Ctr := shCtr jobAt_S jobAt_p [] [.slot 0 false tI] jobAt_f
abbrev without_S : Shape := ⟨[.one (.rd (.sl tyJob)), .one (.rd tI)], []⟩
abbrev without_f : Shape.den without_S → denVars [.slot 0 true tyJob] := fun x => (withoutF x.1.1 x.1.2.1, ())
abbrev without_p : Shape.den without_S → List Prop := fun x => [pLen x.1.1 < 1000]
def cwithout : Ctr := shCtr without_S without_p [] [.slot 0 true tyJob] without_f
abbrev sameTasks_S : Shape := ⟨[.one (.rd (.sl tyTask)), .one (.rd (.sl tyTask))], []⟩
abbrev sameTasks_f : Shape.den sameTasks_S → denVars [.slot 0 false .bool] := fun x => (sameTasksF x.1.1 x.1.2.1, ())
abbrev sameTasks_p : Shape.den sameTasks_S → List Prop := fun x => [pLen x.1.1 < 4611686018427387904]
def csameTasks : Ctr := shCtr sameTasks_S sameTasks_p [] [.slot 0 false .bool] sameTasks_f
abbrev sameDesk_S : Shape := ⟨[pDesk, pDesk], []⟩
abbrev sameDesk_f : Shape.den sameDesk_S → denVars [.slot 0 false .bool] := fun x => (sameDeskF x.1.1 x.1.2.1, ())
abbrev sameDesk_p : Shape.den sameDesk_S → List Prop := fun x => [pLen x.1.1.2.1 < 4611686018427387904, (∀ q ∈ x.1.1.2.1, pLen q.2.2.1 < 4611686018427387904 ∧ pLen q.2.2.2.1 < 4611686018427387904)]
def csameDesk : Ctr := shCtr sameDesk_S sameDesk_p [] [.slot 0 false .bool] sameDesk_f
abbrev eqsRcV : List TypeId := [28, 103, 105, 107, 65, 31, 57, 139]

def comm1_VC (xn : Int) (xs : Int) (xt : (List TaskD)) (xa : (List ND)) (xq : Int) (xg : Int) (k : Int) : Prop :=
  (pSubI IntKind.i64 xn k, ()) = (pSubI IntKind.i64 xn k, ())
set_option maxRecDepth 100000 in
theorem comm1_meets  (h : ∀ (xn : Int) (xs : Int) (xt : (List TaskD)) (xa : (List ND)) (xq : Int) (xg : Int) (k : Int), comm1_VC xn xs xt xa xq xg k) : Mt 99 ccomm1 :=
  meets_vc (E := envOf Tryd.prog [] eqsRcV) (envOf_ok (fun p hp => by cases hp) (by kernel_rfl)) comm1_S (fun x => fun ky9 st9 => look [] ky9) Tryd.func99 (by kernel_rfl) (by kernel_rfl) comm1_p [] [.slot 0 false tI] comm1_f (fun x => comm1_VC x.1.1.1 x.1.1.2.1 x.1.1.2.2.1 x.1.1.2.2.2.1 x.1.1.2.2.2.2.1 x.1.1.2.2.2.2.2.1 x.1.2.1) (fun x => by kernel_rfl) (fun x _ => h x.1.1.1 x.1.1.2.1 x.1.1.2.2.1 x.1.1.2.2.2.1 x.1.1.2.2.2.2.1 x.1.1.2.2.2.2.2.1 x.1.2.1)

def binJ_VC (l : (List JobD)) (k : Int) : Prop :=
  binJInv l k ((0 : Int), pInt (pLen l), ()) ∧ ∀ (y : kden Bool.false tI × kden Bool.false tI × PUnit), binJInv l k y → bif pLt y.1 y.2.1 then pGe0 (1 : Int) ∧ pIn (pWrap IntKind.i64 (pShr IntKind.u64 (pWrap IntKind.u64 (pAdd IntKind.i64 y.1
 y.2.1)) (1 : Int))) (pLen l) ∧ bif pLt (pSubI IntKind.i64 (pGet tyJob l (pNat (pWrap IntKind.i64 (pShr IntKind.u64 (pWrap IntKind.u64 (pAdd IntKind.i64 y.1 y.2.1)) (1 : Int))))).1 k) (0 : Int) then binJInv l k (pAdd IntKind.i64 (pWrap
 IntKind.i64 (pShr IntKind.u64 (pWrap IntKind.u64 (pAdd IntKind.i64 y.1 y.2.1)) (1 : Int))) (1 : Int), y.2.1, ()) ∧ Nat.le (Nat.succ (binJMu l k (pAdd IntKind.i64 (pWrap IntKind.i64 (pShr IntKind.u64 (pWrap IntKind.u64 (pAdd IntKind.i64 y.1
 y.2.1)) (1 : Int))) (1 : Int), y.2.1, ()))) (binJMu l k y) else binJInv l k (y.1, pWrap IntKind.i64 (pShr IntKind.u64 (pWrap IntKind.u64 (pAdd IntKind.i64 y.1 y.2.1)) (1 : Int)), ()) ∧ Nat.le (Nat.succ (binJMu l k (y.1, pWrap IntKind.i64
 (pShr IntKind.u64 (pWrap IntKind.u64 (pAdd IntKind.i64 y.1 y.2.1)) (1 : Int)), ()))) (binJMu l k y) else bif pLt y.1 (pInt (pLen l)) then pIn y.1 (pLen l) ∧ (y.1, pEq (pSubI IntKind.i64 (pGet tyJob l (pNat y.1)).1 k) (0 : Int), ()) = (posJ
 l k, pGe (idxKeyJ l k) (0 : Int), ()) else (y.1, Bool.false, ()) = (posJ l k, pGe (idxKeyJ l k) (0 : Int), ())
set_option maxRecDepth 100000 in
theorem binJ_meets (hcomm1 : Mt 99 ccomm1) (h : ∀ (l : (List JobD)) (k : Int), (∀ p ∈ binJ_p ⟨(l, k, (), ()), ()⟩, p) → binJ_VC l k) : Mt 98 cbinJ :=
  meets_vc (E := envOf Tryd.prog [(99, (false, ccomm1))] eqsRcV) (envOf_ok (fun p hp => (by simp only [List.mem_cons, List.not_mem_nil, or_false] at hp; rcases hp with rfl; exact hcomm1)) (by kernel_rfl)) binJ_S (fun x => fun ky9 st9 => look [(3, (⟨[.slot 9 false tI, .slot 10 false tI], binJInv x.1.1 x.1.2.1, binJMu x.1.1 x.1.2.1⟩ : Ann))] ky9) Tryd.func98 (by kernel_rfl) (by kernel_rfl) binJ_p [] [.slot 0 false tI, .slot 1 false .bool] binJ_f (fun x => binJ_VC x.1.1 x.1.2.1) (fun x => by kernel_rfl) (fun x hp => h x.1.1 x.1.2.1 hp)

def cloneN_VC (l : (List ND)) : Prop :=
  (pLen l = 0 → ([], ()) = (l, ())) ∧ pRoom (pPlus (pLen ([] : List Unit)) (pLen l)) 8 ∧ (pApp [] l, ()) = (l, ())
set_option maxRecDepth 100000 in
theorem cloneN_meets  (h : ∀ (l : (List ND)), (∀ p ∈ cloneN_p ⟨(l, ()), ()⟩, p) → cloneN_VC l) : Mt 101 ccloneN :=
  meets_vc (E := envOf Tryd.prog [] eqsRcV) (envOf_ok (fun p hp => by cases hp) (by kernel_rfl)) cloneN_S (fun x => fun ky9 st9 => look [] ky9) Tryd.func101 (by kernel_rfl) (by kernel_rfl) cloneN_p [] [.slot 0 true tyN] cloneN_f (fun x => cloneN_VC x.1.1) (fun x => by kernel_rfl) (fun x hp => h x.1.1 hp)

def intsCopy_VC (l : (List ND)) : Prop :=
  intsCopyInv l ((0 : Int), [], ()) ∧ ∀ (y : kden Bool.false tI × kden Bool.true tyN × PUnit), intsCopyInv l y → bif pLt y.1 (pInt (pLen l)) then pIn y.1 (pLen l) ∧ pRoom (pPlus (pLen y.2.1) (pLen [(pGet tyN l (pNat y.1))])) 8 ∧ intsCopyInv l
 (pAdd IntKind.i64 y.1 (1 : Int), pApp y.2.1 [(pGet tyN l (pNat y.1))], ()) ∧ Nat.le (Nat.succ (intsCopyMu l (pAdd IntKind.i64 y.1 (1 : Int), pApp y.2.1 [(pGet tyN l (pNat y.1))], ()))) (intsCopyMu l y) else (y.2.1, ()) = (l, ())
set_option maxRecDepth 100000 in
theorem intsCopy_meets  (h : ∀ (l : (List ND)), (∀ p ∈ cloneN_p ⟨(l, ()), ()⟩, p) → intsCopy_VC l) : Mt 42 cintsCopy :=
  meets_vc (E := envOf Tryd.prog [] eqsRcV) (envOf_ok (fun p hp => by cases hp) (by kernel_rfl)) cloneN_S (fun x => fun ky9 st9 => look [(3, (⟨[.slot 4 false tI, .slot 3 true tyN], intsCopyInv x.1.1, intsCopyMu x.1.1⟩ : Ann))] ky9) Tryd.func42 (by kernel_rfl) (by kernel_rfl) cloneN_p [] [.slot 0 true tyN] cloneN_f (fun x => intsCopy_VC x.1.1) (fun x => by kernel_rfl) (fun x hp => h x.1.1 hp)

def insJA_VC (l : List JobD) (i : Int) (v : List JobD) : Prop :=
  pTo i (pLen l) ∧ bif pEq (pInt (pLen v)) (0 : Int) then (l, ()) = (pIns l (pNat i) (pGet tyJob v 0), ()) else bif pEq i (pInt (pLen l)) then pRoom (pPlus (pLen l) (pLen v)) 80 ∧ (pApp l v, ()) = (pIns l (pNat i) (pGet tyJob v 0), ()) else
 False
set_option maxRecDepth 100000 in
theorem insJA_meets  (h : ∀ (l : List JobD) (i : Int) (v : List JobD), (∀ p ∈ insJA_p ⟨((), i, (), ()), (l, v, ())⟩, p) → insJA_VC l i v) : Mt 100 cinsJA :=
  meets_vc (E := envOf Tryd.prog [] eqsRcV) (envOf_ok (fun p hp => by cases hp) (by kernel_rfl)) insJ_S (fun x => fun ky9 st9 => look [] ky9) Tryd.func100 (by kernel_rfl) (by kernel_rfl) insJA_p [0] [.slot 0 true tyJob] insJ_f (fun x => insJA_VC x.2.1 x.1.2.1 x.2.2.1) (fun x => by kernel_rfl) (fun x hp => h x.2.1 x.1.2.1 x.2.2.1 hp)

abbrev mend_v0 (ts : Int) (tn : Int) (g : Bool) (me : Int) (is : List ItemD) (ls : List LockD) (ds : List DoubtD) (os : List TxnD) (nx : Int) (js : List JobD) (ns : List NoteD) := ((me, (endM me (is, ls, ds, os, nx, js, ns, ()) (ts, tn, ()) g).1, (endM me (is, ls, ds, os, nx, js, ns, ()) (ts, tn, ()) g).2.1, (endM me (is, ls, ds, os, nx, js, ns, ()) (ts, tn, ()) g).2.2.1, (endM me (is, ls, ds, os, nx, js, ns, ()) (ts, tn, ()) g).2.2.2.1, (endM me (is, ls, ds, os, nx, js, ns, ()) (ts, tn, ()) g).2.2.2.2.1, (endM me (is, ls, ds, os, nx, js, ns, ()) (ts, tn, ()) g).2.2.2.2.2.1, (endM me (is, ls, ds, os, nx, js, ns, ()) (ts, tn, ()) g).2.2.2.2.2.2.1, ()), ())

def mend_VC (ts : Int) (tn : Int) (g : Bool) (me : Int) (is : List ItemD) (ls : List LockD) (ds : List DoubtD) (os : List TxnD) (nx : Int) (js : List JobD) (ns : List NoteD) : Prop :=
  StoOk (is, ls, ds, os, ()) ∧ bif pEq (endE (is, ls, ds, os, ()) (ts, tn, ())) (0 : Int) then ((me, (endS (is, ls, ds, os, ()) (ts, tn, ()) g).1, (endS (is, ls, ds, os, ()) (ts, tn, ()) g).2.1, (endS (is, ls, ds, os, ()) (ts, tn, ())
 g).2.2.1, (endS (is, ls, ds, os, ()) (ts, tn, ()) g).2.2.2.1, nx, js, ns, ()), ()) = (mend_v0 ts tn g me is ls ds os nx js ns) else ((me, is, ls, ds, os, nx, js, ns, ()), ()) = (mend_v0 ts tn g me is ls ds os nx js ns)
set_option maxRecDepth 100000 in
theorem mend_meets (hEndW : Mt 60 cEndW) (h : ∀ (ts : Int) (tn : Int) (g : Bool) (me : Int) (is : List ItemD) (ls : List LockD) (ds : List DoubtD) (os : List TxnD) (nx : Int) (js : List JobD) (ns : List NoteD), (∀ p ∈ mend_p ⟨((), (ts, tn, ()), g, ()), ((me, is, ls, ds, os, nx, (), (), ()), js, ns, ())⟩, p) → mend_VC ts tn g me is ls ds os nx js ns) : Mt 77 cmend :=
  meets_vc (E := envOf Tryd.prog [(60, (false, cEndW))] eqsRcV) (envOf_ok (fun p hp => (by simp only [List.mem_cons, List.not_mem_nil, or_false] at hp; rcases hp with rfl; exact hEndW)) (by kernel_rfl)) mend_S (fun x => fun ky9 st9 => look [] ky9) Tryd.func77 (by kernel_rfl) (by kernel_rfl) mend_p [1, 2] [.box 0 vMem] mend_f (fun x => mend_VC x.1.2.1.1 x.1.2.1.2.1 x.1.2.2.1 x.2.1.1 x.2.1.2.1 x.2.1.2.2.1 x.2.1.2.2.2.1 x.2.1.2.2.2.2.1 x.2.1.2.2.2.2.2.1 x.2.2.1 x.2.2.2.1) (fun x => by kernel_rfl) (fun x hp => h x.1.2.1.1 x.1.2.1.2.1 x.1.2.2.1 x.2.1.1 x.2.1.2.1 x.2.1.2.2.1 x.2.1.2.2.2.1 x.2.1.2.2.2.2.1 x.2.1.2.2.2.2.2.1 x.2.2.1 x.2.2.2.1 hp)

abbrev mcomm_v0 (rk : Int) (rs : Int) (rn : Int) (ry : Int) (rv : Int) (ra : Int) (rd : Bool) (rl : (List ND)) (me : Int) (is : List ItemD) (ls : List LockD) (ds : List DoubtD) (os : List TxnD) (nx : Int) (js : List JobD) (ns : List NoteD) := ((me, (commM me (is, ls, ds, os, nx, js, ns, ()) (rk, rs, rn, ry, rv, ra, rd, rl, ())).1, (commM me (is, ls, ds, os, nx, js, ns, ()) (rk, rs, rn, ry, rv, ra, rd, rl, ())).2.1, (commM me (is, ls, ds, os, nx, js, ns, ()) (rk, rs, rn, ry, rv, ra, rd, rl, ())).2.2.1, (commM me (is, ls, ds, os, nx, js, ns, ()) (rk, rs, rn, ry, rv, ra, rd, rl, ())).2.2.2.1, (commM me (is, ls, ds, os, nx, js, ns, ()) (rk, rs, rn, ry, rv, ra, rd, rl, ())).2.2.2.2.1, (commM me (is, ls, ds, os, nx, js, ns, ()) (rk, rs, rn, ry, rv, ra, rd, rl, ())).2.2.2.2.2.1, (commM me (is, ls, ds, os, nx, js, ns, ()) (rk, rs, rn, ry, rv, ra, rd, rl, ())).2.2.2.2.2.2.1, ()), ())
abbrev mcomm_t0 (rk : Int) (rs : Int) (rn : Int) (ry : Int) (rv : Int) (ra : Int) (rd : Bool) (rl : (List ND)) (me : Int) (is : List ItemD) (ls : List LockD) (ds : List DoubtD) (os : List TxnD) (nx : Int) (js : List JobD) (ns : List NoteD) : Prop := ((me, is, ls, ds, os, nx, js, ns, ()), ()) = (mcomm_v0 rk rs rn ry rv ra rd rl me is ls ds os nx js ns)

def mcomm_VC (rk : Int) (rs : Int) (rn : Int) (ry : Int) (rv : Int) (ra : Int) (rd : Bool) (rl : (List ND)) (me : Int) (is : List ItemD) (ls : List LockD) (ds : List DoubtD) (os : List TxnD) (nx : Int) (js : List JobD) (ns : List NoteD) : Prop :=
  Nat.le (Nat.succ (pLen js)) 4611686018427387904 ∧ sortJ js = Bool.true ∧ JobsIn js ∧ inF rn (0 : Int) (1048576 : Int) = Bool.true ∧ bif pGe (idxKeyJ js rn) (0 : Int) then mcomm_t0 rk rs rn ry rv ra rd rl me is ls ds os nx js ns else bif pNe
 rs me then mcomm_t0 rk rs rn ry rv ra rd rl me is ls ds os nx js ns else bif pGe rn nx then mcomm_t0 rk rs rn ry rv ra rd rl me is ls ds os nx js ns else bif pEq (pInt (pLen rl)) (0 : Int) then mcomm_t0 rk rs rn ry rv ra rd rl me is ls ds
 os nx js ns else bif pEq (pInt (pLen js)) (6 : Int) then mcomm_t0 rk rs rn ry rv ra rd rl me is ls ds os nx js ns else pRoom (pLen rl) 8 ∧ pTo (posJ js rn) (pLen js) ∧ pLen [(rn, (3 : Int), ([] : List TaskD), rl, (0 : Int), (0 : Int), ())] = 1 ∧ pRoom
 (pPlus (pLen js) 1) 80 ∧ ((me, is, ls, ds, os, nx, pIns js (pNat (posJ js rn)) (pGet tyJob [(rn, (3 : Int), ([] : List TaskD), rl, (0 : Int), (0 : Int), ())] 0), ns, ()), ()) = (mcomm_v0 rk rs rn ry rv ra rd rl me is ls ds os nx js ns)
set_option maxRecDepth 100000 in
theorem mcomm_meets (hbinJ : Mt 98 cbinJ) (hcloneNF : Mt 101 ccloneNF) (hinsJ : Mt 100 cinsJ) (h : ∀ (rk : Int) (rs : Int) (rn : Int) (ry : Int) (rv : Int) (ra : Int) (rd : Bool) (rl : (List ND)) (me : Int) (is : List ItemD) (ls : List LockD) (ds : List DoubtD) (os : List TxnD) (nx : Int) (js : List JobD) (ns : List NoteD), (∀ p ∈ mcomm_p ⟨((), (rk, rs, rn, ry, rv, ra, rd, rl, ()), ()), ((me, is, ls, ds, os, nx, (), (), ()), js, ns, ())⟩, p) → mcomm_VC rk rs rn ry rv ra rd rl me is ls ds os nx js ns) : Mt 78 cmcomm :=
  meets_vc (E := envOf Tryd.prog [(98, (false, cbinJ)), (101, (false, ccloneNF)), (100, (true, cinsJ))] eqsRcV) (envOf_ok (fun p hp => (by simp only [List.mem_cons, List.not_mem_nil, or_false] at hp; rcases hp with rfl | rfl | rfl; exact hbinJ; exact hcloneNF; exact hinsJ)) (by kernel_rfl)) mcomm_S (fun x => fun ky9 st9 => look [] ky9) Tryd.func78 (by kernel_rfl) (by kernel_rfl) mcomm_p [1, 2] [.box 0 vMem] mcomm_f (fun x => mcomm_VC x.1.2.1.1 x.1.2.1.2.1 x.1.2.1.2.2.1 x.1.2.1.2.2.2.1 x.1.2.1.2.2.2.2.1 x.1.2.1.2.2.2.2.2.1 x.1.2.1.2.2.2.2.2.2.1 x.1.2.1.2.2.2.2.2.2.2.1 x.2.1.1 x.2.1.2.1 x.2.1.2.2.1 x.2.1.2.2.2.1 x.2.1.2.2.2.2.1 x.2.1.2.2.2.2.2.1 x.2.2.1 x.2.2.2.1) (fun x => by kernel_rfl) (fun x hp => h x.1.2.1.1 x.1.2.1.2.1 x.1.2.1.2.2.1 x.1.2.1.2.2.2.1 x.1.2.1.2.2.2.2.1 x.1.2.1.2.2.2.2.2.1 x.1.2.1.2.2.2.2.2.2.1 x.1.2.1.2.2.2.2.2.2.2.1 x.2.1.1 x.2.1.2.1 x.2.1.2.2.1 x.2.1.2.2.2.1 x.2.1.2.2.2.2.1 x.2.1.2.2.2.2.2.1 x.2.2.1 x.2.2.2.1 hp)

def one1_VC (xn : Int) (xs : Int) (xt : (List TaskD)) (xa : (List ND)) (xq : Int) (xg : Int) (rk : Int) (rs : Int) (rn : Int) (ry : Int) (rv : Int) (ra : Int) (rd : Bool) (rl : List ND) (me : Int) (is : List ItemD) (ls : List LockD) (ds : List DoubtD) (os : List TxnD) (nx : Int) (js : List JobD) (ns : List NoteD) : Prop :=
  (pAndB (pEq rs me) (pEq rn xn), ()) = (isDJ (xn, xs, xt, xa, xq, xg, ()) rs rn me, ())
set_option maxRecDepth 100000 in
theorem one1_meets  (h : ∀ (xn : Int) (xs : Int) (xt : (List TaskD)) (xa : (List ND)) (xq : Int) (xg : Int) (rk : Int) (rs : Int) (rn : Int) (ry : Int) (rv : Int) (ra : Int) (rd : Bool) (rl : List ND) (me : Int) (is : List ItemD) (ls : List LockD) (ds : List DoubtD) (os : List TxnD) (nx : Int) (js : List JobD) (ns : List NoteD), one1_VC xn xs xt xa xq xg rk rs rn ry rv ra rd rl me is ls ds os nx js ns) : Mt 80 cone1 :=
  meets_vc (E := envOf Tryd.prog [] eqsRcV) (envOf_ok (fun p hp => by cases hp) (by kernel_rfl)) one1_S (fun x => fun ky9 st9 => look [] ky9) Tryd.func80 (by kernel_rfl) (by kernel_rfl) one1_p [] [.slot 0 false .bool] one1_f (fun x => one1_VC x.1.1.1 x.1.1.2.1 x.1.1.2.2.1 x.1.1.2.2.2.1 x.1.1.2.2.2.2.1 x.1.1.2.2.2.2.2.1 x.2.1.1 x.2.1.2.1 x.2.1.2.2.1 x.2.1.2.2.2.1 x.2.1.2.2.2.2.1 x.2.1.2.2.2.2.2.1 x.2.1.2.2.2.2.2.2.1 x.2.1.2.2.2.2.2.2.2.1 x.2.2.2.1.1 x.2.2.2.1.2.1 x.2.2.2.1.2.2.1 x.2.2.2.1.2.2.2.1 x.2.2.2.1.2.2.2.2.1 x.2.2.2.1.2.2.2.2.2.1 x.2.2.2.2.1 x.2.2.2.2.2.1) (fun x => by kernel_rfl) (fun x _ => h x.1.1.1 x.1.1.2.1 x.1.1.2.2.1 x.1.1.2.2.2.1 x.1.1.2.2.2.2.1 x.1.1.2.2.2.2.2.1 x.2.1.1 x.2.1.2.1 x.2.1.2.2.1 x.2.1.2.2.2.1 x.2.1.2.2.2.2.1 x.2.1.2.2.2.2.2.1 x.2.1.2.2.2.2.2.2.1 x.2.1.2.2.2.2.2.2.2.1 x.2.2.2.1.1 x.2.2.2.1.2.1 x.2.2.2.1.2.2.1 x.2.2.2.1.2.2.2.1 x.2.2.2.1.2.2.2.2.1 x.2.2.2.1.2.2.2.2.2.1 x.2.2.2.2.1 x.2.2.2.2.2.1)

def indexDJ_VC (js : List JobD) (rk : Int) (rs : Int) (rn : Int) (ry : Int) (rv : Int) (ra : Int) (rd : Bool) (rl : List ND) (me : Int) (is : List ItemD) (ls : List LockD) (ds : List DoubtD) (os : List TxnD) (nx : Int) (ns : List NoteD) : Prop :=
  indexDJInv js rk rs rn ry rv ra rd rl me is ls ds os nx ns ((0 : Int), ()) ∧ ∀ (y : kden Bool.false tI × PUnit), indexDJInv js rk rs rn ry rv ra rd rl me is ls ds os nx ns y → bif pLt y.1 (pInt (pLen js)) then pIn y.1 (pLen js) ∧ bif isDJ
 (pGet tyJob js (pNat y.1)) rs rn me then (y.1, ()) = (idxDJ js rs rn me, ()) else indexDJInv js rk rs rn ry rv ra rd rl me is ls ds os nx ns (pAdd IntKind.i64 y.1 (1 : Int), ()) ∧ Nat.le (Nat.succ (indexDJMu js rk rs rn ry rv ra rd rl me is
 ls ds os nx ns (pAdd IntKind.i64 y.1 (1 : Int), ()))) (indexDJMu js rk rs rn ry rv ra rd rl me is ls ds os nx ns y) else ((-1 : Int), ()) = (idxDJ js rs rn me, ())
set_option maxRecDepth 100000 in
theorem indexDJ_meets (hone1 : Mt 80 cone1) (h : ∀ (js : List JobD) (rk : Int) (rs : Int) (rn : Int) (ry : Int) (rv : Int) (ra : Int) (rd : Bool) (rl : List ND) (me : Int) (is : List ItemD) (ls : List LockD) (ds : List DoubtD) (os : List TxnD) (nx : Int) (ns : List NoteD), (∀ p ∈ indexDJ_p ⟨((), (), ()), (js, (rk, rs, rn, ry, rv, ra, rd, rl, ()), ((), ()), (me, is, ls, ds, os, nx, (), (), ()), ns, ())⟩, p) → indexDJ_VC js rk rs rn ry rv ra rd rl me is ls ds os nx ns) : Mt 102 cindexDJ :=
  meets_vc (E := envOf Tryd.prog [(80, (false, cone1))] eqsRcV) (envOf_ok (fun p hp => (by simp only [List.mem_cons, List.not_mem_nil, or_false] at hp; rcases hp with rfl; exact hone1)) (by kernel_rfl)) indexDJ_S (fun x => fun ky9 st9 => look [(2, (⟨[.slot 8 false tI], indexDJInv x.2.1 x.2.2.1.1 x.2.2.1.2.1 x.2.2.1.2.2.1 x.2.2.1.2.2.2.1 x.2.2.1.2.2.2.2.1 x.2.2.1.2.2.2.2.2.1 x.2.2.1.2.2.2.2.2.2.1 x.2.2.1.2.2.2.2.2.2.2.1 x.2.2.2.2.1.1 x.2.2.2.2.1.2.1 x.2.2.2.2.1.2.2.1 x.2.2.2.2.1.2.2.2.1 x.2.2.2.2.1.2.2.2.2.1 x.2.2.2.2.1.2.2.2.2.2.1 x.2.2.2.2.2.1, indexDJMu x.2.1 x.2.2.1.1 x.2.2.1.2.1 x.2.2.1.2.2.1 x.2.2.1.2.2.2.1 x.2.2.1.2.2.2.2.1 x.2.2.1.2.2.2.2.2.1 x.2.2.1.2.2.2.2.2.2.1 x.2.2.1.2.2.2.2.2.2.2.1 x.2.2.2.2.1.1 x.2.2.2.2.1.2.1 x.2.2.2.2.1.2.2.1 x.2.2.2.2.1.2.2.2.1 x.2.2.2.2.1.2.2.2.2.1 x.2.2.2.2.1.2.2.2.2.2.1 x.2.2.2.2.2.1⟩ : Ann))] ky9) Tryd.func102 (by kernel_rfl) (by kernel_rfl) indexDJ_p [] [.slot 0 false tI] indexDJ_f (fun x => indexDJ_VC x.2.1 x.2.2.1.1 x.2.2.1.2.1 x.2.2.1.2.2.1 x.2.2.1.2.2.2.1 x.2.2.1.2.2.2.2.1 x.2.2.1.2.2.2.2.2.1 x.2.2.1.2.2.2.2.2.2.1 x.2.2.1.2.2.2.2.2.2.2.1 x.2.2.2.2.1.1 x.2.2.2.2.1.2.1 x.2.2.2.2.1.2.2.1 x.2.2.2.2.1.2.2.2.1 x.2.2.2.2.1.2.2.2.2.1 x.2.2.2.2.1.2.2.2.2.2.1 x.2.2.2.2.2.1) (fun x => by kernel_rfl) (fun x hp => h x.2.1 x.2.2.1.1 x.2.2.1.2.1 x.2.2.1.2.2.1 x.2.2.1.2.2.2.1 x.2.2.1.2.2.2.2.1 x.2.2.1.2.2.2.2.2.1 x.2.2.1.2.2.2.2.2.2.1 x.2.2.1.2.2.2.2.2.2.2.1 x.2.2.2.2.1.1 x.2.2.2.2.1.2.1 x.2.2.2.2.1.2.2.1 x.2.2.2.2.1.2.2.2.1 x.2.2.2.2.1.2.2.2.2.1 x.2.2.2.2.1.2.2.2.2.2.1 x.2.2.2.2.2.1 hp)

def delDJ_VC (js : List JobD) (rk : Int) (rs : Int) (rn : Int) (ry : Int) (rv : Int) (ra : Int) (rd : Bool) (rl : List ND) (me : Int) (is : List ItemD) (ls : List LockD) (ds : List DoubtD) (os : List TxnD) (nx : Int) (ns : List NoteD) : Prop :=
  Nat.le (Nat.succ (pLen js)) 4611686018427387904 ∧ bif pEq (idxDJ js rs rn me) (-1 : Int) then (js, ()) = (delJ js rs rn me, ()) else delDJInv js rk rs rn ry rv ra rd rl me is ls ds os nx ns (pAdd IntKind.i64 (idxDJ js rs rn me) (1 : Int),
 idxDJ js rs rn me, js, ()) ∧ ∀ (y : kden Bool.false tI × kden Bool.false tI × List (Ty.den tyJob) × PUnit), delDJInv js rk rs rn ry rv ra rd rl me is ls ds os nx ns y → bif pLt y.1 (pInt (pLen y.2.2.1)) then pIn y.1 (pLen y.2.2.1) ∧ bif
 pNot (isDJ (pGet tyJob y.2.2.1 (pNat y.1)) rs rn me) then pIn y.2.1 (pLen y.2.2.1) ∧ delDJInv js rk rs rn ry rv ra rd rl me is ls ds os nx ns (pAdd IntKind.i64 y.1 (1 : Int), pAdd IntKind.i64 y.2.1 (1 : Int), pSet y.2.2.1 (pNat y.2.1) (pGet
 tyJob y.2.2.1 (pNat y.1)), ()) ∧ Nat.le (Nat.succ (delDJMu js rk rs rn ry rv ra rd rl me is ls ds os nx ns (pAdd IntKind.i64 y.1 (1 : Int), pAdd IntKind.i64 y.2.1 (1 : Int), pSet y.2.2.1 (pNat y.2.1) (pGet tyJob y.2.2.1 (pNat y.1)), ())))
 (delDJMu js rk rs rn ry rv ra rd rl me is ls ds os nx ns y) else delDJInv js rk rs rn ry rv ra rd rl me is ls ds os nx ns (pAdd IntKind.i64 y.1 (1 : Int), y.2.1, y.2.2.1, ()) ∧ Nat.le (Nat.succ (delDJMu js rk rs rn ry rv ra rd rl me is ls
 ds os nx ns (pAdd IntKind.i64 y.1 (1 : Int), y.2.1, y.2.2.1, ()))) (delDJMu js rk rs rn ry rv ra rd rl me is ls ds os nx ns y) else pTo y.2.1 (pLen y.2.2.1) ∧ pBelow (pNat y.2.1) (pLen y.2.2.1) ∧ pTo y.2.1 (pLen (pClr y.2.2.1 (pNat y.2.1)
 ((0 : Int), (0 : Int), [], [], (0 : Int), (0 : Int), ()))) ∧ (pSub (pClr y.2.2.1 (pNat y.2.1) ((0 : Int), (0 : Int), [], [], (0 : Int), (0 : Int), ())) 0 (pNat y.2.1), ()) = (delJ js rs rn me, ())
set_option maxRecDepth 100000 in
theorem delDJ_meets (hone1 : Mt 80 cone1) (hindexDJ : Mt 102 cindexDJ) (h : ∀ (js : List JobD) (rk : Int) (rs : Int) (rn : Int) (ry : Int) (rv : Int) (ra : Int) (rd : Bool) (rl : List ND) (me : Int) (is : List ItemD) (ls : List LockD) (ds : List DoubtD) (os : List TxnD) (nx : Int) (ns : List NoteD), (∀ p ∈ indexDJ_p ⟨((), (), ()), (js, (rk, rs, rn, ry, rv, ra, rd, rl, ()), ((), ()), (me, is, ls, ds, os, nx, (), (), ()), ns, ())⟩, p) → delDJ_VC js rk rs rn ry rv ra rd rl me is ls ds os nx ns) : Mt 79 cdelDJ :=
  meets_vc (E := envOf Tryd.prog [(80, (false, cone1)), (102, (true, cindexDJ))] eqsRcV) (envOf_ok (fun p hp => (by simp only [List.mem_cons, List.not_mem_nil, or_false] at hp; rcases hp with rfl | rfl; exact hone1; exact hindexDJ)) (by kernel_rfl)) indexDJ_S (fun x => fun ky9 st9 => look [(5, (⟨[.slot 6 false tI, .slot 5 false tI, .row 0 tyJob], delDJInv x.2.1 x.2.2.1.1 x.2.2.1.2.1 x.2.2.1.2.2.1 x.2.2.1.2.2.2.1 x.2.2.1.2.2.2.2.1 x.2.2.1.2.2.2.2.2.1 x.2.2.1.2.2.2.2.2.2.1 x.2.2.1.2.2.2.2.2.2.2.1 x.2.2.2.2.1.1 x.2.2.2.2.1.2.1 x.2.2.2.2.1.2.2.1 x.2.2.2.2.1.2.2.2.1 x.2.2.2.2.1.2.2.2.2.1 x.2.2.2.2.1.2.2.2.2.2.1 x.2.2.2.2.2.1, delDJMu x.2.1 x.2.2.1.1 x.2.2.1.2.1 x.2.2.1.2.2.1 x.2.2.1.2.2.2.1 x.2.2.1.2.2.2.2.1 x.2.2.1.2.2.2.2.2.1 x.2.2.1.2.2.2.2.2.2.1 x.2.2.1.2.2.2.2.2.2.2.1 x.2.2.2.2.1.1 x.2.2.2.2.1.2.1 x.2.2.2.2.1.2.2.1 x.2.2.2.2.1.2.2.2.1 x.2.2.2.2.1.2.2.2.2.1 x.2.2.2.2.1.2.2.2.2.2.1 x.2.2.2.2.2.1⟩ : Ann))] ky9) Tryd.func79 (by kernel_rfl) (by kernel_rfl) indexDJ_p [0] [.slot 0 true tyJob] delDJ_f (fun x => delDJ_VC x.2.1 x.2.2.1.1 x.2.2.1.2.1 x.2.2.1.2.2.1 x.2.2.1.2.2.2.1 x.2.2.1.2.2.2.2.1 x.2.2.1.2.2.2.2.2.1 x.2.2.1.2.2.2.2.2.2.1 x.2.2.1.2.2.2.2.2.2.2.1 x.2.2.2.2.1.1 x.2.2.2.2.1.2.1 x.2.2.2.2.1.2.2.1 x.2.2.2.2.1.2.2.2.1 x.2.2.2.2.1.2.2.2.2.1 x.2.2.2.2.1.2.2.2.2.2.1 x.2.2.2.2.2.1) (fun x => by kernel_rfl) (fun x hp => h x.2.1 x.2.2.1.1 x.2.2.1.2.1 x.2.2.1.2.2.1 x.2.2.1.2.2.2.1 x.2.2.1.2.2.2.2.1 x.2.2.1.2.2.2.2.2.1 x.2.2.1.2.2.2.2.2.2.1 x.2.2.1.2.2.2.2.2.2.2.1 x.2.2.2.2.1.1 x.2.2.2.2.1.2.1 x.2.2.2.2.1.2.2.1 x.2.2.2.2.1.2.2.2.1 x.2.2.2.2.1.2.2.2.2.1 x.2.2.2.2.1.2.2.2.2.2.1 x.2.2.2.2.2.1 hp)

abbrev mone_v0 (rk : Int) (rs : Int) (rn : Int) (ry : Int) (rv : Int) (ra : Int) (rd : Bool) (rl : (List ND)) (me : Int) (is : List ItemD) (ls : List LockD) (ds : List DoubtD) (os : List TxnD) (nx : Int) (js : List JobD) (ns : List NoteD) := ((me, (stepM me (is, ls, ds, os, nx, js, ns, ()) (rk, rs, rn, ry, rv, ra, rd, rl, ())).1, (stepM me (is, ls, ds, os, nx, js, ns, ()) (rk, rs, rn, ry, rv, ra, rd, rl, ())).2.1, (stepM me (is, ls, ds, os, nx, js, ns, ()) (rk, rs, rn, ry, rv, ra, rd, rl, ())).2.2.1, (stepM me (is, ls, ds, os, nx, js, ns, ()) (rk, rs, rn, ry, rv, ra, rd, rl, ())).2.2.2.1, (stepM me (is, ls, ds, os, nx, js, ns, ()) (rk, rs, rn, ry, rv, ra, rd, rl, ())).2.2.2.2.1, (stepM me (is, ls, ds, os, nx, js, ns, ()) (rk, rs, rn, ry, rv, ra, rd, rl, ())).2.2.2.2.2.1, (stepM me (is, ls, ds, os, nx, js, ns, ()) (rk, rs, rn, ry, rv, ra, rd, rl, ())).2.2.2.2.2.2.1, ()), ())
abbrev mone_v1 (rs : Int) (rn : Int) (rd : Bool) (me : Int) (is : List ItemD) (ls : List LockD) (ds : List DoubtD) (os : List TxnD) (nx : Int) (js : List JobD) (ns : List NoteD) := (endM me (is, ls, ds, os, nx, js, ns, ()) (rs, rn, ()) rd)
abbrev mone_t0 (rk : Int) (rs : Int) (rn : Int) (ry : Int) (rv : Int) (ra : Int) (rd : Bool) (rl : (List ND)) (me : Int) (is : List ItemD) (ls : List LockD) (ds : List DoubtD) (os : List TxnD) (nx : Int) (js : List JobD) (ns : List NoteD) : Prop := ((me, is, ls, ds, os, nx, js, ns, ()), ()) = (mone_v0 rk rs rn ry rv ra rd rl me is ls ds os nx js ns)

def mone_VC (rk : Int) (rs : Int) (rn : Int) (ry : Int) (rv : Int) (ra : Int) (rd : Bool) (rl : (List ND)) (me : Int) (is : List ItemD) (ls : List LockD) (ds : List DoubtD) (os : List TxnD) (nx : Int) (js : List JobD) (ns : List NoteD) : Prop :=
  bif pEq rk (1 : Int) then StoOk (is, ls, ds, os, ()) ∧ bif pEq (writeE (is, ls, ds, os, ()) (rs, rn, ()) ry rv ra) (0 : Int) then ((me, (writeS (is, ls, ds, os, ()) (rs, rn, ()) ry rv ra).1, (writeS (is, ls, ds, os, ()) (rs, rn, ()) ry rv
 ra).2.1, (writeS (is, ls, ds, os, ()) (rs, rn, ()) ry rv ra).2.2.1, (writeS (is, ls, ds, os, ()) (rs, rn, ()) ry rv ra).2.2.2.1, nx, js, ns, ()), ()) = (mone_v0 rk rs rn ry rv ra rd rl me is ls ds os nx js ns) else mone_t0 rk rs rn ry rv ra
 rd rl me is ls ds os nx js ns else bif pEq rk (2 : Int) then StoOk (is, ls, ds, os, ()) ∧ moneInv rk rs rn ry rv ra rd rl me is ls ds os nx js ns ((0 : Int), (mone_v1 rs rn rd me is ls ds os nx js ns).2.2.2.2.2.2.1, ()) ∧ ∀ (y : kden
 Bool.false tI × List (Ty.den tyNote) × PUnit), moneInv rk rs rn ry rv ra rd rl me is ls ds os nx js ns y → bif pLt y.1 (pInt (pLen (mone_v1 rs rn rd me is ls ds os nx js ns).2.2.2.2.2.2.1)) then pIn y.1 (pLen y.2.1) ∧ bif pAndB (pEq (pGet
 tyNote y.2.1 (pNat y.1)).1 rs) (pEq (pGet tyNote y.2.1 (pNat y.1)).2.1 rn) then bif pNot (pBeq (pGet tyNote y.2.1 (pNat y.1)).2.2.1 rd) then pIn y.1 (pLen y.2.1) ∧ moneInv rk rs rn ry rv ra rd rl me is ls ds os nx js ns (pAdd IntKind.i64
 y.1 (1 : Int), pSet y.2.1 (pNat y.1) ((pGet tyNote y.2.1 (pNat y.1)).1, (pGet tyNote y.2.1 (pNat y.1)).2.1, (pGet tyNote y.2.1 (pNat y.1)).2.2.1, Bool.true, ()), ()) ∧ Nat.le (Nat.succ (moneMu rk rs rn ry rv ra rd rl me is ls ds os nx js ns
 (pAdd IntKind.i64 y.1 (1 : Int), pSet y.2.1 (pNat y.1) ((pGet tyNote y.2.1 (pNat y.1)).1, (pGet tyNote y.2.1 (pNat y.1)).2.1, (pGet tyNote y.2.1 (pNat y.1)).2.2.1, Bool.true, ()), ()))) (moneMu rk rs rn ry rv ra rd rl me is ls ds os nx js
 ns y) else moneInv rk rs rn ry rv ra rd rl me is ls ds os nx js ns (pAdd IntKind.i64 y.1 (1 : Int), y.2.1, ()) ∧ Nat.le (Nat.succ (moneMu rk rs rn ry rv ra rd rl me is ls ds os nx js ns (pAdd IntKind.i64 y.1 (1 : Int), y.2.1, ()))) (moneMu
 rk rs rn ry rv ra rd rl me is ls ds os nx js ns y) else moneInv rk rs rn ry rv ra rd rl me is ls ds os nx js ns (pAdd IntKind.i64 y.1 (1 : Int), y.2.1, ()) ∧ Nat.le (Nat.succ (moneMu rk rs rn ry rv ra rd rl me is ls ds os nx js ns (pAdd
 IntKind.i64 y.1 (1 : Int), y.2.1, ()))) (moneMu rk rs rn ry rv ra rd rl me is ls ds os nx js ns y) else ((me, (mone_v1 rs rn rd me is ls ds os nx js ns).1, (mone_v1 rs rn rd me is ls ds os nx js ns).2.1, (mone_v1 rs rn rd me is ls ds os nx
 js ns).2.2.1, (mone_v1 rs rn rd me is ls ds os nx js ns).2.2.2.1, (mone_v1 rs rn rd me is ls ds os nx js ns).2.2.2.2.1, (mone_v1 rs rn rd me is ls ds os nx js ns).2.2.2.2.2.1, y.2.1, ()), ()) = (mone_v0 rk rs rn ry rv ra rd rl me is ls ds
 os nx js ns) else bif pEq rk (6 : Int) then StoOk (is, ls, ds, os, ()) ∧ pRoom (pPlus (pLen (mone_v1 rs rn rd me is ls ds os nx js ns).2.2.2.2.2.2.1) (pLen [(rs, rn, rd, Bool.false, ())])) 24 ∧ ((me, (mone_v1 rs rn rd me is ls ds os nx js
 ns).1, (mone_v1 rs rn rd me is ls ds os nx js ns).2.1, (mone_v1 rs rn rd me is ls ds os nx js ns).2.2.1, (mone_v1 rs rn rd me is ls ds os nx js ns).2.2.2.1, (mone_v1 rs rn rd me is ls ds os nx js ns).2.2.2.2.1, (mone_v1 rs rn rd me is ls ds
 os nx js ns).2.2.2.2.2.1, pApp (mone_v1 rs rn rd me is ls ds os nx js ns).2.2.2.2.2.2.1 [(rs, rn, rd, Bool.false, ())], ()), ()) = (mone_v0 rk rs rn ry rv ra rd rl me is ls ds os nx js ns) else bif pEq rk (3 : Int) then MemOk (is, ls, ds,
 os, nx, js, ns, ()) ∧ inF rn (1 : Int) (1048576 : Int) = Bool.true ∧ Nat.le (Nat.succ (pLen rl)) 1000000 ∧ ((me, (commM me (is, ls, ds, os, nx, js, ns, ()) (rk, rs, rn, ry, rv, ra, rd, rl, ())).1, (commM me (is, ls, ds, os, nx, js, ns, ())
 (rk, rs, rn, ry, rv, ra, rd, rl, ())).2.1, (commM me (is, ls, ds, os, nx, js, ns, ()) (rk, rs, rn, ry, rv, ra, rd, rl, ())).2.2.1, (commM me (is, ls, ds, os, nx, js, ns, ()) (rk, rs, rn, ry, rv, ra, rd, rl, ())).2.2.2.1, (commM me (is, ls,
 ds, os, nx, js, ns, ()) (rk, rs, rn, ry, rv, ra, rd, rl, ())).2.2.2.2.1, (commM me (is, ls, ds, os, nx, js, ns, ()) (rk, rs, rn, ry, rv, ra, rd, rl, ())).2.2.2.2.2.1, (commM me (is, ls, ds, os, nx, js, ns, ()) (rk, rs, rn, ry, rv, ra, rd,
 rl, ())).2.2.2.2.2.2.1, ()), ()) = (mone_v0 rk rs rn ry rv ra rd rl me is ls ds os nx js ns) else bif pEq rk (4 : Int) then Nat.le (Nat.succ (pLen js)) 4611686018427387904 ∧ ((me, is, ls, ds, os, nx, delJ js rs rn me, ns, ()), ()) =
 (mone_v0 rk rs rn ry rv ra rd rl me is ls ds os nx js ns) else bif pEq rk (5 : Int) then bif pEq rs me then ((me, is, ls, ds, os, pMax nx (pAdd IntKind.i64 rn (1 : Int)), js, ns, ()), ()) = (mone_v0 rk rs rn ry rv ra rd rl me is ls ds os nx
 js ns) else mone_t0 rk rs rn ry rv ra rd rl me is ls ds os nx js ns else mone_t0 rk rs rn ry rv ra rd rl me is ls ds os nx js ns
set_option maxRecDepth 100000 in
theorem mone_meets (hWriteW : Mt 57 cWriteW) (hmend : Mt 77 cmend) (hmcomm : Mt 78 cmcomm) (hdelDJ : Mt 79 cdelDJ) (h : ∀ (rk : Int) (rs : Int) (rn : Int) (ry : Int) (rv : Int) (ra : Int) (rd : Bool) (rl : (List ND)) (me : Int) (is : List ItemD) (ls : List LockD) (ds : List DoubtD) (os : List TxnD) (nx : Int) (js : List JobD) (ns : List NoteD), (∀ p ∈ mcomm_p ⟨((), (rk, rs, rn, ry, rv, ra, rd, rl, ()), ()), ((me, is, ls, ds, os, nx, (), (), ()), js, ns, ())⟩, p) → mone_VC rk rs rn ry rv ra rd rl me is ls ds os nx js ns) : Mt 37 cmone :=
  meets_vc (E := envOf Tryd.prog [(57, (false, cWriteW)), (77, (true, cmend)), (78, (true, cmcomm)), (79, (true, cdelDJ))] eqsRcV) (envOf_ok (fun p hp => (by simp only [List.mem_cons, List.not_mem_nil, or_false] at hp; rcases hp with rfl | rfl | rfl | rfl; exact hWriteW; exact hmend; exact hmcomm; exact hdelDJ)) (by kernel_rfl)) mcomm_S (fun x => fun ky9 st9 => look [(9, (⟨[.slot 47 false tI, .row 108 tyNote], moneInv x.1.2.1.1 x.1.2.1.2.1 x.1.2.1.2.2.1 x.1.2.1.2.2.2.1 x.1.2.1.2.2.2.2.1 x.1.2.1.2.2.2.2.2.1 x.1.2.1.2.2.2.2.2.2.1 x.1.2.1.2.2.2.2.2.2.2.1 x.2.1.1 x.2.1.2.1 x.2.1.2.2.1 x.2.1.2.2.2.1 x.2.1.2.2.2.2.1 x.2.1.2.2.2.2.2.1 x.2.2.1 x.2.2.2.1, moneMu x.1.2.1.1 x.1.2.1.2.1 x.1.2.1.2.2.1 x.1.2.1.2.2.2.1 x.1.2.1.2.2.2.2.1 x.1.2.1.2.2.2.2.2.1 x.1.2.1.2.2.2.2.2.2.1 x.1.2.1.2.2.2.2.2.2.2.1 x.2.1.1 x.2.1.2.1 x.2.1.2.2.1 x.2.1.2.2.2.1 x.2.1.2.2.2.2.1 x.2.1.2.2.2.2.2.1 x.2.2.1 x.2.2.2.1⟩ : Ann))] ky9) Tryd.func37 (by kernel_rfl) (by kernel_rfl) mcomm_p [1, 2] [.box 0 vMem] mone_f (fun x => mone_VC x.1.2.1.1 x.1.2.1.2.1 x.1.2.1.2.2.1 x.1.2.1.2.2.2.1 x.1.2.1.2.2.2.2.1 x.1.2.1.2.2.2.2.2.1 x.1.2.1.2.2.2.2.2.2.1 x.1.2.1.2.2.2.2.2.2.2.1 x.2.1.1 x.2.1.2.1 x.2.1.2.2.1 x.2.1.2.2.2.1 x.2.1.2.2.2.2.1 x.2.1.2.2.2.2.2.1 x.2.2.1 x.2.2.2.1) (fun x => by kernel_rfl) (fun x hp => h x.1.2.1.1 x.1.2.1.2.1 x.1.2.1.2.2.1 x.1.2.1.2.2.2.1 x.1.2.1.2.2.2.2.1 x.1.2.1.2.2.2.2.2.1 x.1.2.1.2.2.2.2.2.2.1 x.1.2.1.2.2.2.2.2.2.2.1 x.2.1.1 x.2.1.2.1 x.2.1.2.2.1 x.2.1.2.2.2.1 x.2.1.2.2.2.2.1 x.2.1.2.2.2.2.2.1 x.2.2.1 x.2.2.2.1 hp)

def jobAt_VC (dn : Int) (dj : (List JobD)) (n : Int) : Prop :=
  jobAtInv dn dj n ((0 : Int), ()) ∧ ∀ (y : kden Bool.false tI × PUnit), jobAtInv dn dj n y → bif pLt y.1 (pInt (pLen dj)) then pIn y.1 (pLen dj) ∧ bif pEq (pGet tyJob dj (pNat y.1)).1 n then (y.1, ()) = (idxKeyJ dj n, ()) else jobAtInv dn dj
 n (pAdd IntKind.i64 y.1 (1 : Int), ()) ∧ Nat.le (Nat.succ (jobAtMu dn dj n (pAdd IntKind.i64 y.1 (1 : Int), ()))) (jobAtMu dn dj n y) else ((-1 : Int), ()) = (idxKeyJ dj n, ())
set_option maxRecDepth 100000 in
theorem jobAt_meets  (h : ∀ (dn : Int) (dj : (List JobD)) (n : Int), (∀ p ∈ jobAt_p ⟨((dn, dj, ()), n, ()), ()⟩, p) → jobAt_VC dn dj n) : Mt 41 cjobAt :=
  meets_vc (E := envOf Tryd.prog [] eqsRcV) (envOf_ok (fun p hp => by cases hp) (by kernel_rfl)) jobAt_S (fun x => fun ky9 st9 => look [(2, (⟨[.slot 5 false tI], jobAtInv x.1.1.1 x.1.1.2.1 x.1.2.1, jobAtMu x.1.1.1 x.1.1.2.1 x.1.2.1⟩ : Ann))] ky9) Tryd.func41 (by kernel_rfl) (by kernel_rfl) jobAt_p [] [.slot 0 false tI] jobAt_f (fun x => jobAt_VC x.1.1.1 x.1.1.2.1 x.1.2.1) (fun x => by kernel_rfl) (fun x hp => h x.1.1.1 x.1.1.2.1 x.1.2.1 hp)

def without_VC (l : (List JobD)) (n : Int) : Prop :=
  withoutInv l n ((0 : Int), [], ()) ∧ ∀ (y : kden Bool.false tI × kden Bool.true tyJob × PUnit), withoutInv l n y → bif pLt y.1 (pInt (pLen l)) then bif pNe y.1 n then pIn y.1 (pLen l) ∧ pRoom (pPlus (pLen y.2.1) (pLen [(pGet tyJob l (pNat
 y.1))])) 80 ∧ withoutInv l n (pAdd IntKind.i64 y.1 (1 : Int), pApp y.2.1 [(pGet tyJob l (pNat y.1))], ()) ∧ Nat.le (Nat.succ (withoutMu l n (pAdd IntKind.i64 y.1 (1 : Int), pApp y.2.1 [(pGet tyJob l (pNat y.1))], ()))) (withoutMu l n y)
 else withoutInv l n (pAdd IntKind.i64 y.1 (1 : Int), y.2.1, ()) ∧ Nat.le (Nat.succ (withoutMu l n (pAdd IntKind.i64 y.1 (1 : Int), y.2.1, ()))) (withoutMu l n y) else (y.2.1, ()) = (withoutF l n, ())
set_option maxRecDepth 100000 in
theorem without_meets  (h : ∀ (l : (List JobD)) (n : Int), (∀ p ∈ without_p ⟨(l, n, ()), ()⟩, p) → without_VC l n) : Mt 43 cwithout :=
  meets_vc (E := envOf Tryd.prog [] eqsRcV) (envOf_ok (fun p hp => by cases hp) (by kernel_rfl)) without_S (fun x => fun ky9 st9 => look [(3, (⟨[.slot 6 false tI, .slot 5 true tyJob], withoutInv x.1.1 x.1.2.1, withoutMu x.1.1 x.1.2.1⟩ : Ann))] ky9) Tryd.func43 (by kernel_rfl) (by kernel_rfl) without_p [] [.slot 0 true tyJob] without_f (fun x => without_VC x.1.1 x.1.2.1) (fun x => by kernel_rfl) (fun x hp => h x.1.1 x.1.2.1 hp)

def sameTasks_VC (l : (List TaskD)) (m : (List TaskD)) : Prop :=
  bif pNe (pInt (pLen l)) (pInt (pLen m)) then (Bool.false, ()) = (sameTasksF l m, ()) else sameTasksInv l m ((0 : Int), ()) ∧ ∀ (y : kden Bool.false tI × PUnit), sameTasksInv l m y → bif pLt y.1 (pInt (pLen l)) then pIn y.1 (pLen l) ∧ pIn
 y.1 (pLen m) ∧ bif pNot (pAndB (pBeq (pGet tyTask l (pNat y.1)).1 (pGet tyTask m (pNat y.1)).1) (pAndB (pEq (pGet tyTask l (pNat y.1)).2.1 (pGet tyTask m (pNat y.1)).2.1) (pAndB (pEq (pGet tyTask l (pNat y.1)).2.2.1 (pGet tyTask m (pNat
 y.1)).2.2.1) (pAndB (pEq (pGet tyTask l (pNat y.1)).2.2.2.1 (pGet tyTask m (pNat y.1)).2.2.2.1) (pAndB (pEq (pGet tyTask l (pNat y.1)).2.2.2.2.1 (pGet tyTask m (pNat y.1)).2.2.2.2.1) (pAndB (pEq (pGet tyTask l (pNat y.1)).2.2.2.2.2.1 (pGet
 tyTask m (pNat y.1)).2.2.2.2.2.1) (pAndB (pBeq (pGet tyTask l (pNat y.1)).2.2.2.2.2.2.1 (pGet tyTask m (pNat y.1)).2.2.2.2.2.2.1) (pBeq (pGet tyTask l (pNat y.1)).2.2.2.2.2.2.2.1 (pGet tyTask m (pNat y.1)).2.2.2.2.2.2.2.1)))))))) then
 (Bool.false, ()) = (sameTasksF l m, ()) else sameTasksInv l m (pAdd IntKind.i64 y.1 (1 : Int), ()) ∧ Nat.le (Nat.succ (sameTasksMu l m (pAdd IntKind.i64 y.1 (1 : Int), ()))) (sameTasksMu l m y) else (Bool.true, ()) = (sameTasksF l m, ())
set_option maxRecDepth 100000 in
theorem sameTasks_meets  (h : ∀ (l : (List TaskD)) (m : (List TaskD)), (∀ p ∈ sameTasks_p ⟨(l, m, ()), ()⟩, p) → sameTasks_VC l m) : Mt 45 csameTasks :=
  meets_vc (E := envOf Tryd.prog [] eqsRcV) (envOf_ok (fun p hp => by cases hp) (by kernel_rfl)) sameTasks_S (fun x => fun ky9 st9 => look [(4, (⟨[.slot 5 false tI], sameTasksInv x.1.1 x.1.2.1, sameTasksMu x.1.1 x.1.2.1⟩ : Ann))] ky9) Tryd.func45 (by kernel_rfl) (by kernel_rfl) sameTasks_p [] [.slot 0 false .bool] sameTasks_f (fun x => sameTasks_VC x.1.1 x.1.2.1) (fun x => by kernel_rfl) (fun x hp => h x.1.1 x.1.2.1 hp)

def sameDesk_VC (an : Int) (aj : (List JobD)) (bn : Int) (bj : (List JobD)) : Prop :=
  bif pNe an bn then (Bool.false, ()) = (sameDeskF (an, aj, ()) (bn, bj, ()), ()) else bif pNe (pInt (pLen aj)) (pInt (pLen bj)) then (Bool.false, ()) = (sameDeskF (an, aj, ()) (bn, bj, ()), ()) else sameDeskInv an aj bn bj ((0 : Int), ()) ∧
 ∀ (y : kden Bool.false tI × PUnit), sameDeskInv an aj bn bj y → bif pLt y.1 (pInt (pLen aj)) then pIn y.1 (pLen aj) ∧ pIn y.1 (pLen bj) ∧ bif pNe (pGet tyJob aj (pNat y.1)).1 (pGet tyJob bj (pNat y.1)).1 then (Bool.false, ()) = (sameDeskF
 (an, aj, ()) (bn, bj, ()), ()) else bif pNe (pGet tyJob aj (pNat y.1)).2.1 (pGet tyJob bj (pNat y.1)).2.1 then (Bool.false, ()) = (sameDeskF (an, aj, ()) (bn, bj, ()), ()) else bif pNe (pGet tyJob aj (pNat y.1)).2.2.2.2.1 (pGet tyJob bj
 (pNat y.1)).2.2.2.2.1 then (Bool.false, ()) = (sameDeskF (an, aj, ()) (bn, bj, ()), ()) else bif pNe (pGet tyJob aj (pNat y.1)).2.2.2.2.2.1 (pGet tyJob bj (pNat y.1)).2.2.2.2.2.1 then (Bool.false, ()) = (sameDeskF (an, aj, ()) (bn, bj, ()),
 ()) else Nat.le (Nat.succ (pLen (pGet tyJob aj (pNat y.1)).2.2.1)) 4611686018427387904 ∧ bif pNot (sameTasksF (pGet tyJob aj (pNat y.1)).2.2.1 (pGet tyJob bj (pNat y.1)).2.2.1) then (Bool.false, ()) = (sameDeskF (an, aj, ()) (bn, bj, ()),
 ()) else Nat.le (Nat.succ (pLen (pGet tyJob aj (pNat y.1)).2.2.2.1)) 4611686018427387904 ∧ bif pNot (sameIntsF (pGet tyJob aj (pNat y.1)).2.2.2.1 (pGet tyJob bj (pNat y.1)).2.2.2.1) then (Bool.false, ()) = (sameDeskF (an, aj, ()) (bn, bj,
 ()), ()) else sameDeskInv an aj bn bj (pAdd IntKind.i64 y.1 (1 : Int), ()) ∧ Nat.le (Nat.succ (sameDeskMu an aj bn bj (pAdd IntKind.i64 y.1 (1 : Int), ()))) (sameDeskMu an aj bn bj y) else (Bool.true, ()) = (sameDeskF (an, aj, ()) (bn, bj,
 ()), ())
set_option maxRecDepth 100000 in
theorem sameDesk_meets (hsameTasks : Mt 45 csameTasks) (hsameInts : Mt 46 csameInts) (h : ∀ (an : Int) (aj : (List JobD)) (bn : Int) (bj : (List JobD)), (∀ p ∈ sameDesk_p ⟨((an, aj, ()), (bn, bj, ()), ()), ()⟩, p) → sameDesk_VC an aj bn bj) : Mt 13 csameDesk :=
  meets_vc (E := envOf Tryd.prog [(45, (false, csameTasks)), (46, (false, csameInts))] eqsRcV) (envOf_ok (fun p hp => (by simp only [List.mem_cons, List.not_mem_nil, or_false] at hp; rcases hp with rfl | rfl; exact hsameTasks; exact hsameInts)) (by kernel_rfl)) sameDesk_S (fun x => fun ky9 st9 => look [(4, (⟨[.slot 5 false tI], sameDeskInv x.1.1.1 x.1.1.2.1 x.1.2.1.1 x.1.2.1.2.1, sameDeskMu x.1.1.1 x.1.1.2.1 x.1.2.1.1 x.1.2.1.2.1⟩ : Ann))] ky9) Tryd.func13 (by kernel_rfl) (by kernel_rfl) sameDesk_p [] [.slot 0 false .bool] sameDesk_f (fun x => sameDesk_VC x.1.1.1 x.1.1.2.1 x.1.2.1.1 x.1.2.1.2.1) (fun x => by kernel_rfl) (fun x hp => h x.1.1.1 x.1.1.2.1 x.1.2.1.1 x.1.2.1.2.1 hp)


end Go.Proofs.YtkhnakdmkhidbaaDoor
