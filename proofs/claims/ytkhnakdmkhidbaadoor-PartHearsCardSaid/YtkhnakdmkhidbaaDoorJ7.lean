/- Contracts, and what the evaluator says, as plain propositions: PcV. Printed by vc.py. -/
import Derived.Test.YtkhnakdmkhidbaaDoorJ1
import Derived.Test.YtkhnakdmkhidbaaDoorJ2
import Derived.Test.YtkhnakdmkhidbaaDoorJ5
import Derived.Test.YtkhnakdmkhidbaaDoorJ6
import Derived.Test.YtkhnakdmkhidbaaDoorJ3

/- Contracts, and what the evaluator says, as plain propositions: PcV. Printed by vc.py. -/
namespace Go.Proofs.YtkhnakdmkhidbaaDoor
open Go.RowKit Go.ChangeShapes Go.WideShapes Go.Deep

abbrev ReadF_S : Shape := ⟨[pSto, pTxn, .one (.rd tI)], []⟩
abbrev ReadF_f : Shape.den ReadF_S → denVars [.agg 0 vStoR, .slot 1 false tI, .slot 2 false tI, .slot 3 false tI] := fun x => (readS x.1.1 x.1.2.1 x.1.2.2.1, readV x.1.1 x.1.2.1 x.1.2.2.1, readN x.1.1 x.1.2.1 x.1.2.2.1, readE x.1.1 x.1.2.1 x.1.2.2.1, ())
abbrev ReadF_p : Shape.den ReadF_S → List Prop := fun x => [pLen x.1.1.1 < 4611686018427387904, pLen x.1.1.2.1 < 4611686018427387904, pLen x.1.1.2.2.1 < 4611686018427387904, pLen x.1.1.2.2.2.1 < 4611686018427387904, pRoom (pLen x.1.1.1) 24, pRoom (pLen x.1.1.2.1) 48, pRoom (pLen x.1.1.2.2.1) 24, pRoom (pLen x.1.1.2.2.2.1) 16]
def cReadF : Ctr := shCtr ReadF_S ReadF_p [] [.agg 0 vStoR, .slot 1 false tI, .slot 2 false tI, .slot 3 false tI] ReadF_f
abbrev WriteF_S : Shape := ⟨[pSto, pTxn, .one (.rd tI), .one (.rd tI), .one (.rd tI)], []⟩
abbrev WriteF_f : Shape.den WriteF_S → denVars [.agg 0 vStoR, .slot 1 false tI] := fun x => (writeS x.1.1 x.1.2.1 x.1.2.2.1 x.1.2.2.2.1 x.1.2.2.2.2.1, writeE x.1.1 x.1.2.1 x.1.2.2.1 x.1.2.2.2.1 x.1.2.2.2.2.1, ())
abbrev WriteF_p : Shape.den WriteF_S → List Prop := fun x => [pLen x.1.1.1 < 4611686018427387904, pLen x.1.1.2.1 < 4611686018427387904, pLen x.1.1.2.2.1 < 4611686018427387904, pLen x.1.1.2.2.2.1 < 4611686018427387904, pRoom (pLen x.1.1.1) 24, pRoom (pLen x.1.1.2.1) 48, pRoom (pLen x.1.1.2.2.1) 24, pRoom (pLen x.1.1.2.2.2.1) 16]
def cWriteF : Ctr := shCtr WriteF_S WriteF_p [] [.agg 0 vStoR, .slot 1 false tI] WriteF_f
abbrev EndF_S : Shape := ⟨[pSto, pTxn, .one (.rd .bool)], []⟩
abbrev EndF_f : Shape.den EndF_S → denVars [.agg 0 vStoR, .slot 1 false tI] := fun x => (endS x.1.1 x.1.2.1 x.1.2.2.1, endE x.1.1 x.1.2.1, ())
abbrev EndF_p : Shape.den EndF_S → List Prop := fun x => [pLen x.1.1.1 < 4611686018427387904, pLen x.1.1.2.1 < 4611686018427387904, pLen x.1.1.2.2.1 < 4611686018427387904, pLen x.1.1.2.2.2.1 < 4611686018427387904, pRoom (pLen x.1.1.1) 24, pRoom (pLen x.1.1.2.1) 48, pRoom (pLen x.1.1.2.2.1) 24, pRoom (pLen x.1.1.2.2.2.1) 16]
def cEndF : Ctr := shCtr EndF_S EndF_p [] [.agg 0 vStoR, .slot 1 false tI] EndF_f
abbrev StoreCopyF_S : Shape := ⟨[pSto], []⟩
abbrev StoreCopyF_f : Shape.den StoreCopyF_S → denVars [.agg 0 vStoR] := fun x => ((x.1.1.1, x.1.1.2.1, x.1.1.2.2.1, x.1.1.2.2.2.1, ()), ())
abbrev StoreCopyF_p : Shape.den StoreCopyF_S → List Prop := fun x => [pRoom (pLen x.1.1.1) 24, pRoom (pLen x.1.1.2.1) 48, pRoom (pLen x.1.1.2.2.1) 24, pRoom (pLen x.1.1.2.2.2.1) 16]
def cStoreCopyF : Ctr := shCtr StoreCopyF_S StoreCopyF_p [] [.agg 0 vStoR] StoreCopyF_f
abbrev NotesCopyF_S : Shape := ⟨[.one (.rd (.sl tyNote))], []⟩
abbrev NotesCopyF_f : Shape.den NotesCopyF_S → denVars [.slot 0 false (.sl tyNote)] := fun x => (x.1.1, ())
abbrev NotesCopyF_p : Shape.den NotesCopyF_S → List Prop := fun x => [pRoom (pLen x.1.1) 24]
def cNotesCopyF : Ctr := shCtr NotesCopyF_S NotesCopyF_p [] [.slot 0 false (.sl tyNote)] NotesCopyF_f
abbrev ReadW_p : Shape.den ReadF_S → List Prop := fun x => [StoOk x.1.1]
def cReadW : Ctr := shCtr ReadF_S ReadW_p [] [.agg 0 vStoR, .slot 1 false tI, .slot 2 false tI, .slot 3 false tI] ReadF_f
abbrev WriteW_p : Shape.den WriteF_S → List Prop := fun x => [StoOk x.1.1]
def cWriteW : Ctr := shCtr WriteF_S WriteW_p [] [.agg 0 vStoR, .slot 1 false tI] WriteF_f
abbrev EndW_p : Shape.den EndF_S → List Prop := fun x => [StoOk x.1.1]
def cEndW : Ctr := shCtr EndF_S EndW_p [] [.agg 0 vStoR, .slot 1 false tI] EndF_f
abbrev StoreCopyW_p : Shape.den StoreCopyF_S → List Prop := fun x => [StoOk x.1.1]
def cStoreCopyW : Ctr := shCtr StoreCopyF_S StoreCopyW_p [] [.agg 0 vStoR] StoreCopyF_f
abbrev WritesW_S : Shape := ⟨[pSto, pTxn], []⟩
abbrev WritesW_f : Shape.den WritesW_S → denVars [.slot 0 false tI, .slot 1 false tI] := fun x => (cond (pEq (askE x.1.1 x.1.2.1 0) 0) (cntW x.1.1.2.1 x.1.2.1.1 x.1.2.1.2.1) 0, askE x.1.1 x.1.2.1 0, ())
abbrev WritesW_p : Shape.den WritesW_S → List Prop := fun x => [StoOk x.1.1]
def cWritesW : Ctr := shCtr WritesW_S WritesW_p [] [.slot 0 false tI, .slot 1 false tI] WritesW_f
abbrev above_S : Shape := ⟨[pLab, pLab], []⟩
abbrev above_f : Shape.den above_S → denVars [.slot 0 false .bool] := fun x => (aboveF (x.1.1.1, x.1.1.2.1, ()) (x.1.2.1.1, x.1.2.1.2.1, ()), ())
abbrev above_p : Shape.den above_S → List Prop := fun _ => []
def cabove : Ctr := shCtr above_S above_p [] [.slot 0 false .bool] above_f
def cdominates : Ctr := shCtr above_S above_p [] [.slot 0 false .bool] above_f
abbrev Peek_S : Shape := ⟨[pSto, .one (.rd tI)], []⟩
abbrev Peek_f : Shape.den Peek_S → denVars [.slot 0 false tI, .slot 1 false tI, .slot 2 false tI] := fun x => (peekV x.1.1 x.1.2.1, peekN x.1.1 x.1.2.1, peekE x.1.1 x.1.2.1, ())
abbrev Peek_p : Shape.den Peek_S → List Prop := fun x => [StoOk x.1.1]
def cPeek : Ctr := shCtr Peek_S Peek_p [] [.slot 0 false tI, .slot 1 false tI, .slot 2 false tI] Peek_f
def cPeekOf : Ctr := shCtr Peek_S Peek_p [] [.slot 0 false tI, .slot 1 false tI, .slot 2 false tI] Peek_f
abbrev Still_S : Shape := ⟨[pSto, pTxn, .one (.rd tI), .one (.rd tI)], []⟩
abbrev Still_f : Shape.den Still_S → denVars [.slot 0 false .bool, .slot 1 false tI] := fun x => (stillB x.1.1 x.1.2.1 x.1.2.2.1 x.1.2.2.2.1, stillE x.1.1 x.1.2.1 x.1.2.2.1 x.1.2.2.2.1, ())
abbrev Still_p : Shape.den Still_S → List Prop := fun x => [StoOk x.1.1]
def cStill : Ctr := shCtr Still_S Still_p [] [.slot 0 false .bool, .slot 1 false tI] Still_f
def cStillOf : Ctr := shCtr Still_S Still_p [] [.slot 0 false .bool, .slot 1 false tI] Still_f
abbrev answer_S : Shape := ⟨[.one (.lit (.pt 0 0)), pMsg, .one (.rd tI)], [.box [.rd tI, .rd (.sl tyLab), .rd tI, .rd tI, .rd tI, .rd (.sl tySto)]]⟩
abbrev answer_f : Shape.den answer_S → denVars [.agg 0 vMsg] := fun x => ((x.1.2.2.1, x.2.1.2.2.2.2.1, x.1.2.1.2.1, x.1.2.1.2.2.2.1, x.1.2.1.2.2.2.2.1, 0, 0, 0, 0, 0, false, 0, ()), ())
abbrev answer_p : Shape.den answer_S → List Prop := fun _ => []
def canswer : Ctr := shCtr answer_S answer_p [] [.agg 0 vMsg] answer_f
abbrev refusal_S : Shape := ⟨[.one (.rd tI)], []⟩
abbrev refusal_f : Shape.den refusal_S → denVars [.slot 0 false .bool] := fun x => (refuF x.1.1, ())
abbrev refusal_p : Shape.den refusal_S → List Prop := fun _ => []
def crefusal : Ctr := shCtr refusal_S refusal_p [] [.slot 0 false .bool] refusal_f
abbrev sread_S : Shape := ⟨[.one (.lit (.pt 0 0)), pMsg], [.box [.rd tI, .rd (.sl tyLab), .rd tI, .rd tI, .rd tI, .rd (.sl tySto)]]⟩
abbrev sread_f : Shape.den sread_S → denVars [.agg 0 vAnsF] := fun x => (readA x.2.1.2.2.2.1 x.2.1.2.2.2.2.1 x.2.1.2.2.2.2.2.1 x.1.2.1, ())
abbrev sread_p : Shape.den sread_S → List Prop := fun x => [StosOk x.2.1.2.2.2.2.2.1, pIn x.2.1.2.2.2.1 (pLen x.2.1.2.2.2.2.2.1), pIn x.1.2.1.2.2.2.2.2.1 (pLen x.2.1.2.2.2.2.2.1)]
def csread : Ctr := shCtr sread_S sread_p [] [.agg 0 vAnsF] sread_f
abbrev swrite_f : Shape.den answer_S → denVars [.agg 0 vAnsF] := fun x => (writeA x.2.1.2.2.2.1 x.2.1.2.2.2.2.1 x.2.1.2.2.2.2.2.1 x.1.2.1 x.1.2.2.1, ())
abbrev swrite_p : Shape.den answer_S → List Prop := fun x => [StosOk x.2.1.2.2.2.2.2.1, pIn x.2.1.2.2.2.1 (pLen x.2.1.2.2.2.2.2.1)]
def cswrite : Ctr := shCtr answer_S swrite_p [] [.agg 0 vAnsF] swrite_f
abbrev sstill_f : Shape.den sread_S → denVars [.agg 0 vAnsF] := fun x => (stillA x.2.1.2.2.2.1 x.2.1.2.2.2.2.1 x.2.1.2.2.2.2.2.1 x.1.2.1, ())
def csstill : Ctr := shCtr sread_S sread_p [] [.agg 0 vAnsF] sstill_f
abbrev sdecide_S : Shape := ⟨[.one (.lit (.pt 0 0)), pMsg, .one (.own 1)], [.box [.rd tI, .rd (.sl tyLab), .rd tI, .rd tI, .rd tI, .rd (.sl tySto)], .row tyNote]⟩
abbrev sdecide_f : Shape.den sdecide_S → denVars [.agg 0 vAnsF, .row 1 tyNote] := fun x => (decideA x.2.1.2.2.2.1 x.2.1.2.2.2.2.1 x.2.1.2.2.2.2.2.1 x.1.2.1 x.2.2.1, damN x.2.2.1 x.1.2.1, ())
abbrev sdecide_p : Shape.den sdecide_S → List Prop := fun x => [StosOk x.2.1.2.2.2.2.2.1, pIn x.2.1.2.2.2.1 (pLen x.2.1.2.2.2.2.2.1), pLen x.2.2.1 < 4611686018427387904]
def csdecide : Ctr := shCtr sdecide_S sdecide_p [] [.agg 0 vAnsF, .row 1 tyNote] sdecide_f
abbrev eqsPcV : List TypeId := [28, 103, 105, 107, 65, 31, 57]

def above_VC (al : Int) (ak : Int) (bl : Int) (bk : Int) : Prop :=
  bif pGe al bl then (pEq (pAnd IntKind.i64 ak bk) bk, ()) = (aboveF (al, ak, ()) (bl, bk, ()), ()) else (Bool.false, ()) = (aboveF (al, ak, ()) (bl, bk, ()), ())
set_option maxRecDepth 100000 in
theorem above_meets  (h : ∀ (al : Int) (ak : Int) (bl : Int) (bk : Int), above_VC al ak bl bk) : Mt 16 cabove :=
  meets_vc (E := envOf Tryd.prog [] eqsPcV) (envOf_ok (fun p hp => by cases hp) (by kernel_rfl)) above_S (fun x => fun ky9 st9 => look [] ky9) Tryd.func16 (by kernel_rfl) (by kernel_rfl) above_p [] [.slot 0 false .bool] above_f (fun x => above_VC x.1.1.1 x.1.1.2.1 x.1.2.1.1 x.1.2.1.2.1) (fun x => by kernel_rfl) (fun x _ => h x.1.1.1 x.1.1.2.1 x.1.2.1.1 x.1.2.1.2.1)

def dominates_VC (al : Int) (ak : Int) (bl : Int) (bk : Int) : Prop :=
  bif pGe al bl then (pEq (pAnd IntKind.i64 ak bk) bk, ()) = (aboveF (al, ak, ()) (bl, bk, ()), ()) else (Bool.false, ()) = (aboveF (al, ak, ()) (bl, bk, ()), ())
set_option maxRecDepth 100000 in
theorem dominates_meets  (h : ∀ (al : Int) (ak : Int) (bl : Int) (bk : Int), dominates_VC al ak bl bk) : Mt 25 cdominates :=
  meets_vc (E := envOf Tryd.prog [] eqsPcV) (envOf_ok (fun p hp => by cases hp) (by kernel_rfl)) above_S (fun x => fun ky9 st9 => look [] ky9) Tryd.func25 (by kernel_rfl) (by kernel_rfl) above_p [] [.slot 0 false .bool] above_f (fun x => dominates_VC x.1.1.1 x.1.1.2.1 x.1.2.1.1 x.1.2.1.2.1) (fun x => by kernel_rfl) (fun x _ => h x.1.1.1 x.1.1.2.1 x.1.2.1.1 x.1.2.1.2.1)

abbrev Peek_v0 (si : (List ItemD)) (sl : (List LockD)) (sd : (List DoubtD)) (so : (List TxnD)) (k : Int) := (peekV (si, sl, sd, so, ()) k, peekN (si, sl, sd, so, ()) k, peekE (si, sl, sd, so, ()) k, ())

def Peek_VC (si : (List ItemD)) (sl : (List LockD)) (sd : (List DoubtD)) (so : (List TxnD)) (k : Int) : Prop :=
  Nat.le (Nat.succ (pLen si)) 4611686018427387904 ∧ Nat.le (Nat.succ (pLen sl)) 4611686018427387904 ∧ Nat.le (Nat.succ (pLen sd)) 4611686018427387904 ∧ Nat.le (Nat.succ (pLen so)) 4611686018427387904 ∧ bif pNe (askE (si, sl, sd, so, ()) ((0 :
 Int), (1 : Int), ()) k) (0 : Int) then ((0 : Int), (0 : Int), askE (si, sl, sd, so, ()) ((0 : Int), (1 : Int), ()) k, ()) = (Peek_v0 si sl sd so k) else Nat.le (Nat.succ (pLen si)) 4611686018427387904 ∧ Nat.le (Nat.succ (pLen sl))
 4611686018427387904 ∧ Nat.le (Nat.succ (pLen sd)) 4611686018427387904 ∧ Nat.le (Nat.succ (pLen so)) 4611686018427387904 ∧ bif pGe (idxBusyF sl (0 : Int) (0 : Int) k Bool.false) (0 : Int) then ((0 : Int), (0 : Int), (11 : Int), ()) =
 (Peek_v0 si sl sd so k) else Nat.le (Nat.succ (pLen si)) 4611686018427387904 ∧ Nat.le (Nat.succ (pLen sl)) 4611686018427387904 ∧ Nat.le (Nat.succ (pLen sd)) 4611686018427387904 ∧ Nat.le (Nat.succ (pLen so)) 4611686018427387904 ∧ itemsF si =
 Bool.true ∧ ((itemF si k).2.1, (itemF si k).2.2.1, (0 : Int), ()) = (Peek_v0 si sl sd so k)
set_option maxRecDepth 100000 in
theorem Peek_meets (hcall : Mt 84 ccall) (hbusy : Mt 89 cbusy) (hitem : Mt 85 citem) (h : ∀ (si : (List ItemD)) (sl : (List LockD)) (sd : (List DoubtD)) (so : (List TxnD)) (k : Int), (∀ p ∈ Peek_p ⟨((si, sl, sd, so, ()), k, ()), ()⟩, p) → Peek_VC si sl sd so k) : Mt 55 cPeek :=
  meets_vc (E := envOf Tryd.prog [(84, (false, ccall)), (89, (false, cbusy)), (85, (false, citem))] eqsPcV) (envOf_ok (fun p hp => (by simp only [List.mem_cons, List.not_mem_nil, or_false] at hp; rcases hp with rfl | rfl | rfl; exact hcall; exact hbusy; exact hitem)) (by kernel_rfl)) Peek_S (fun x => fun ky9 st9 => look [] ky9) Tryd.func55 (by kernel_rfl) (by kernel_rfl) Peek_p [] [.slot 0 false tI, .slot 1 false tI, .slot 2 false tI] Peek_f (fun x => Peek_VC x.1.1.1 x.1.1.2.1 x.1.1.2.2.1 x.1.1.2.2.2.1 x.1.2.1) (fun x => by kernel_rfl) (fun x hp => h x.1.1.1 x.1.1.2.1 x.1.1.2.2.1 x.1.1.2.2.2.1 x.1.2.1 hp)

def PeekOf_VC (si : (List ItemD)) (sl : (List LockD)) (sd : (List DoubtD)) (so : (List TxnD)) (k : Int) : Prop :=
  Nat.le (Nat.succ (pLen si)) 4611686018427387904 ∧ Nat.le (Nat.succ (pLen sl)) 4611686018427387904 ∧ Nat.le (Nat.succ (pLen sd)) 4611686018427387904 ∧ Nat.le (Nat.succ (pLen so)) 4611686018427387904 ∧ bif pNe (askE (si, sl, sd, so, ()) ((0 :
 Int), (1 : Int), ()) k) (0 : Int) then ((0 : Int), (0 : Int), askE (si, sl, sd, so, ()) ((0 : Int), (1 : Int), ()) k, ()) = (peekV (si, sl, sd, so, ()) k, peekN (si, sl, sd, so, ()) k, peekE (si, sl, sd, so, ()) k, ()) else Nat.le (Nat.succ
 (pLen si)) 4611686018427387904 ∧ Nat.le (Nat.succ (pLen sl)) 4611686018427387904 ∧ Nat.le (Nat.succ (pLen sd)) 4611686018427387904 ∧ Nat.le (Nat.succ (pLen so)) 4611686018427387904 ∧ bif pGt (othW sl (0 : Int) (0 : Int) k) (0 : Int) then
 ((0 : Int), (0 : Int), (11 : Int), ()) = (peekV (si, sl, sd, so, ()) k, peekN (si, sl, sd, so, ()) k, peekE (si, sl, sd, so, ()) k, ()) else Nat.le (Nat.succ (pLen si)) 4611686018427387904 ∧ Nat.le (Nat.succ (pLen sl)) 4611686018427387904 ∧
 Nat.le (Nat.succ (pLen sd)) 4611686018427387904 ∧ Nat.le (Nat.succ (pLen so)) 4611686018427387904 ∧ Nat.le (Nat.succ (pLen si)) 4611686018427387904 ∧ Nat.le (Nat.succ (pLen sl)) 4611686018427387904 ∧ Nat.le (Nat.succ (pLen sd))
 4611686018427387904 ∧ Nat.le (Nat.succ (pLen so)) 4611686018427387904 ∧ ((itemF si k).2.1, (itemF si k).2.2.1, (0 : Int), ()) = (peekV (si, sl, sd, so, ()) k, peekN (si, sl, sd, so, ()) k, peekE (si, sl, sd, so, ()) k, ())
set_option maxRecDepth 100000 in
theorem PeekOf_meets (haskFault : Mt 68 caskFault) (hothers : Mt 71 cothers) (hitemOf : Mt 69 citemOf) (h : ∀ (si : (List ItemD)) (sl : (List LockD)) (sd : (List DoubtD)) (so : (List TxnD)) (k : Int), (∀ p ∈ Peek_p ⟨((si, sl, sd, so, ()), k, ()), ()⟩, p) → PeekOf_VC si sl sd so k) : Mt 28 cPeekOf :=
  meets_vc (E := envOf Tryd.prog [(68, (false, caskFault)), (71, (false, cothers)), (69, (false, citemOf))] eqsPcV) (envOf_ok (fun p hp => (by simp only [List.mem_cons, List.not_mem_nil, or_false] at hp; rcases hp with rfl | rfl | rfl; exact haskFault; exact hothers; exact hitemOf)) (by kernel_rfl)) Peek_S (fun x => fun ky9 st9 => look [] ky9) Tryd.func28 (by kernel_rfl) (by kernel_rfl) Peek_p [] [.slot 0 false tI, .slot 1 false tI, .slot 2 false tI] Peek_f (fun x => PeekOf_VC x.1.1.1 x.1.1.2.1 x.1.1.2.2.1 x.1.1.2.2.2.1 x.1.2.1) (fun x => by kernel_rfl) (fun x hp => h x.1.1.1 x.1.1.2.1 x.1.1.2.2.1 x.1.1.2.2.2.1 x.1.2.1 hp)

def Still_VC (si : (List ItemD)) (sl : (List LockD)) (sd : (List DoubtD)) (so : (List TxnD)) (ts : Int) (tn : Int) (k : Int) (v : Int) : Prop :=
  Nat.le (Nat.succ (pLen si)) 4611686018427387904 ∧ Nat.le (Nat.succ (pLen sl)) 4611686018427387904 ∧ Nat.le (Nat.succ (pLen sd)) 4611686018427387904 ∧ Nat.le (Nat.succ (pLen so)) 4611686018427387904 ∧ bif pNe (askE (si, sl, sd, so, ()) (ts,
 tn, ()) k) (0 : Int) then (Bool.false, askE (si, sl, sd, so, ()) (ts, tn, ()) k, ()) = (stillB (si, sl, sd, so, ()) (ts, tn, ()) k v, stillE (si, sl, sd, so, ()) (ts, tn, ()) k v, ()) else Nat.le (Nat.succ (pLen si)) 4611686018427387904 ∧
 Nat.le (Nat.succ (pLen sl)) 4611686018427387904 ∧ Nat.le (Nat.succ (pLen sd)) 4611686018427387904 ∧ Nat.le (Nat.succ (pLen so)) 4611686018427387904 ∧ bif pGe (idxLkF sl ts tn k) (0 : Int) then Nat.le (Nat.succ (pLen si)) 4611686018427387904
 ∧ Nat.le (Nat.succ (pLen sl)) 4611686018427387904 ∧ Nat.le (Nat.succ (pLen sd)) 4611686018427387904 ∧ Nat.le (Nat.succ (pLen so)) 4611686018427387904 ∧ itemsF si = Bool.true ∧ (pEq (itemF si k).2.2.1 v, (0 : Int), ()) = (stillB (si, sl, sd,
 so, ()) (ts, tn, ()) k v, stillE (si, sl, sd, so, ()) (ts, tn, ()) k v, ()) else (Bool.false, (0 : Int), ()) = (stillB (si, sl, sd, so, ()) (ts, tn, ()) k v, stillE (si, sl, sd, so, ()) (ts, tn, ()) k v, ())
set_option maxRecDepth 100000 in
theorem Still_meets (hcall : Mt 84 ccall) (hlock : Mt 86 clock) (hitem : Mt 85 citem) (h : ∀ (si : (List ItemD)) (sl : (List LockD)) (sd : (List DoubtD)) (so : (List TxnD)) (ts : Int) (tn : Int) (k : Int) (v : Int), (∀ p ∈ Still_p ⟨((si, sl, sd, so, ()), (ts, tn, ()), k, v, ()), ()⟩, p) → Still_VC si sl sd so ts tn k v) : Mt 58 cStill :=
  meets_vc (E := envOf Tryd.prog [(84, (false, ccall)), (86, (false, clock)), (85, (false, citem))] eqsPcV) (envOf_ok (fun p hp => (by simp only [List.mem_cons, List.not_mem_nil, or_false] at hp; rcases hp with rfl | rfl | rfl; exact hcall; exact hlock; exact hitem)) (by kernel_rfl)) Still_S (fun x => fun ky9 st9 => look [] ky9) Tryd.func58 (by kernel_rfl) (by kernel_rfl) Still_p [] [.slot 0 false .bool, .slot 1 false tI] Still_f (fun x => Still_VC x.1.1.1 x.1.1.2.1 x.1.1.2.2.1 x.1.1.2.2.2.1 x.1.2.1.1 x.1.2.1.2.1 x.1.2.2.1 x.1.2.2.2.1) (fun x => by kernel_rfl) (fun x hp => h x.1.1.1 x.1.1.2.1 x.1.1.2.2.1 x.1.1.2.2.2.1 x.1.2.1.1 x.1.2.1.2.1 x.1.2.2.1 x.1.2.2.2.1 hp)

def StillOf_VC (si : (List ItemD)) (sl : (List LockD)) (sd : (List DoubtD)) (so : (List TxnD)) (ts : Int) (tn : Int) (k : Int) (v : Int) : Prop :=
  Nat.le (Nat.succ (pLen si)) 4611686018427387904 ∧ Nat.le (Nat.succ (pLen sl)) 4611686018427387904 ∧ Nat.le (Nat.succ (pLen sd)) 4611686018427387904 ∧ Nat.le (Nat.succ (pLen so)) 4611686018427387904 ∧ bif pNe (askE (si, sl, sd, so, ()) (ts,
 tn, ()) k) (0 : Int) then (Bool.false, askE (si, sl, sd, so, ()) (ts, tn, ()) k, ()) = (stillB (si, sl, sd, so, ()) (ts, tn, ()) k v, stillE (si, sl, sd, so, ()) (ts, tn, ()) k v, ()) else Nat.le (Nat.succ (pLen si)) 4611686018427387904 ∧
 Nat.le (Nat.succ (pLen sl)) 4611686018427387904 ∧ Nat.le (Nat.succ (pLen sd)) 4611686018427387904 ∧ Nat.le (Nat.succ (pLen so)) 4611686018427387904 ∧ bif pGe (idxLkF sl ts tn k) (0 : Int) then Nat.le (Nat.succ (pLen si)) 4611686018427387904
 ∧ Nat.le (Nat.succ (pLen sl)) 4611686018427387904 ∧ Nat.le (Nat.succ (pLen sd)) 4611686018427387904 ∧ Nat.le (Nat.succ (pLen so)) 4611686018427387904 ∧ (pEq (itemF si k).2.2.1 v, (0 : Int), ()) = (stillB (si, sl, sd, so, ()) (ts, tn, ()) k
 v, stillE (si, sl, sd, so, ()) (ts, tn, ()) k v, ()) else (Bool.false, (0 : Int), ()) = (stillB (si, sl, sd, so, ()) (ts, tn, ()) k v, stillE (si, sl, sd, so, ()) (ts, tn, ()) k v, ())
set_option maxRecDepth 100000 in
theorem StillOf_meets (haskFault : Mt 68 caskFault) (hlockOf : Mt 70 clockOf) (hitemOf : Mt 69 citemOf) (h : ∀ (si : (List ItemD)) (sl : (List LockD)) (sd : (List DoubtD)) (so : (List TxnD)) (ts : Int) (tn : Int) (k : Int) (v : Int), (∀ p ∈ Still_p ⟨((si, sl, sd, so, ()), (ts, tn, ()), k, v, ()), ()⟩, p) → StillOf_VC si sl sd so ts tn k v) : Mt 30 cStillOf :=
  meets_vc (E := envOf Tryd.prog [(68, (false, caskFault)), (70, (false, clockOf)), (69, (false, citemOf))] eqsPcV) (envOf_ok (fun p hp => (by simp only [List.mem_cons, List.not_mem_nil, or_false] at hp; rcases hp with rfl | rfl | rfl; exact haskFault; exact hlockOf; exact hitemOf)) (by kernel_rfl)) Still_S (fun x => fun ky9 st9 => look [] ky9) Tryd.func30 (by kernel_rfl) (by kernel_rfl) Still_p [] [.slot 0 false .bool, .slot 1 false tI] Still_f (fun x => StillOf_VC x.1.1.1 x.1.1.2.1 x.1.1.2.2.1 x.1.1.2.2.2.1 x.1.2.1.1 x.1.2.1.2.1 x.1.2.2.1 x.1.2.2.2.1) (fun x => by kernel_rfl) (fun x hp => h x.1.1.1 x.1.1.2.1 x.1.1.2.2.1 x.1.1.2.2.2.1 x.1.2.1.1 x.1.2.1.2.1 x.1.2.2.1 x.1.2.2.2.1 hp)

def answer_VC (zk : Int) (zf : Int) (zt : Int) (zs : Int) (zn : Int) (zl : Int) (zy : Int) (zv : Int) (ze : Int) (za : Int) (zd : Bool) (zc : Int) (k : Int) (cn : Int) (cl : List LabD) (cp : Int) (l : Int) (me : Int) (ss : List StoD) : Prop :=
  ((k, me, zf, zs, zn, (0 : Int), (0 : Int), (0 : Int), (0 : Int), (0 : Int), Bool.false, (0 : Int), ()), ()) = ((k, me, zf, zs, zn, (0 : Int), (0 : Int), (0 : Int), (0 : Int), (0 : Int), Bool.false, (0 : Int), ()), ())
set_option maxRecDepth 100000 in
theorem answer_meets  (h : ∀ (zk : Int) (zf : Int) (zt : Int) (zs : Int) (zn : Int) (zl : Int) (zy : Int) (zv : Int) (ze : Int) (za : Int) (zd : Bool) (zc : Int) (k : Int) (cn : Int) (cl : List LabD) (cp : Int) (l : Int) (me : Int) (ss : List StoD), answer_VC zk zf zt zs zn zl zy zv ze za zd zc k cn cl cp l me ss) : Mt 53 canswer :=
  meets_vc (E := envOf Tryd.prog [] eqsPcV) (envOf_ok (fun p hp => by cases hp) (by kernel_rfl)) answer_S (fun x => fun ky9 st9 => look [] ky9) Tryd.func53 (by kernel_rfl) (by kernel_rfl) answer_p [] [.agg 0 vMsg] answer_f (fun x => answer_VC x.1.2.1.1 x.1.2.1.2.1 x.1.2.1.2.2.1 x.1.2.1.2.2.2.1 x.1.2.1.2.2.2.2.1 x.1.2.1.2.2.2.2.2.1 x.1.2.1.2.2.2.2.2.2.1 x.1.2.1.2.2.2.2.2.2.2.1 x.1.2.1.2.2.2.2.2.2.2.2.1 x.1.2.1.2.2.2.2.2.2.2.2.2.1 x.1.2.1.2.2.2.2.2.2.2.2.2.2.1 x.1.2.1.2.2.2.2.2.2.2.2.2.2.2.1 x.1.2.2.1 x.2.1.1 x.2.1.2.1 x.2.1.2.2.1 x.2.1.2.2.2.1 x.2.1.2.2.2.2.1 x.2.1.2.2.2.2.2.1) (fun x => by kernel_rfl) (fun x _ => h x.1.2.1.1 x.1.2.1.2.1 x.1.2.1.2.2.1 x.1.2.1.2.2.2.1 x.1.2.1.2.2.2.2.1 x.1.2.1.2.2.2.2.2.1 x.1.2.1.2.2.2.2.2.2.1 x.1.2.1.2.2.2.2.2.2.2.1 x.1.2.1.2.2.2.2.2.2.2.2.1 x.1.2.1.2.2.2.2.2.2.2.2.2.1 x.1.2.1.2.2.2.2.2.2.2.2.2.2.1 x.1.2.1.2.2.2.2.2.2.2.2.2.2.2.1 x.1.2.2.1 x.2.1.1 x.2.1.2.1 x.2.1.2.2.1 x.2.1.2.2.2.1 x.2.1.2.2.2.2.1 x.2.1.2.2.2.2.2.1)

def refusal_VC (e : Int) : Prop :=
  bif pEq e (11 : Int) then (Bool.true, ()) = (refuF e, ()) else (pEq e (8 : Int), ()) = (refuF e, ())
set_option maxRecDepth 100000 in
theorem refusal_meets  (h : ∀ (e : Int), refusal_VC e) : Mt 56 crefusal :=
  meets_vc (E := envOf Tryd.prog [] eqsPcV) (envOf_ok (fun p hp => by cases hp) (by kernel_rfl)) refusal_S (fun x => fun ky9 st9 => look [] ky9) Tryd.func56 (by kernel_rfl) (by kernel_rfl) refusal_p [] [.slot 0 false .bool] refusal_f (fun x => refusal_VC x.1.1) (fun x => by kernel_rfl) (fun x _ => h x.1.1)

abbrev sread_v0 (zs : Int) (zn : Int) (zy : Int) (l : Int) (ss : List StoD) := (readS (pGet tySto ss (pNat l)) (zs, zn, ()) zy)
abbrev sread_t0 (zk : Int) (zf : Int) (zt : Int) (zs : Int) (zn : Int) (zl : Int) (zy : Int) (zv : Int) (ze : Int) (za : Int) (zd : Bool) (zc : Int) (l : Int) (me : Int) (ss : List StoD) : Prop := (((pGet tySto ss (pNat l)).1, (pGet tySto ss (pNat l)).2.1, (pGet tySto ss (pNat l)).2.2.1, (pGet tySto ss (pNat l)).2.2.2.1, [], [], [], ()), ()) = (readA l me ss (zk, zf, zt, zs, zn, zl, zy, zv, ze, za, zd, zc, ()), ())

def sread_VC (zk : Int) (zf : Int) (zt : Int) (zs : Int) (zn : Int) (zl : Int) (zy : Int) (zv : Int) (ze : Int) (za : Int) (zd : Bool) (zc : Int) (cn : Int) (cl : List LabD) (cp : Int) (l : Int) (me : Int) (ss : List StoD) : Prop :=
  pIn l (pLen ss) ∧ bif pEq zl l then StoOk (pGet tySto ss (pNat l)) ∧ bif pEq (readE (pGet tySto ss (pNat l)) (zs, zn, ()) zy) (0 : Int) then bif refuF (readE (pGet tySto ss (pNat l)) (zs, zn, ()) zy) then (((sread_v0 zs zn zy l ss).1,
 (sread_v0 zs zn zy l ss).2.1, (sread_v0 zs zn zy l ss).2.2.1, (sread_v0 zs zn zy l ss).2.2.2.1, [((5 : Int), me, zf, zs, zn, zl, zy, (0 : Int), (0 : Int), za, Bool.false, readE (pGet tySto ss (pNat l)) (zs, zn, ()) zy, ())], [], [], ()),
 ()) = (readA l me ss (zk, zf, zt, zs, zn, zl, zy, zv, ze, za, zd, zc, ()), ()) else bif pNe (readE (pGet tySto ss (pNat l)) (zs, zn, ()) zy) (0 : Int) then (((sread_v0 zs zn zy l ss).1, (sread_v0 zs zn zy l ss).2.1, (sread_v0 zs zn zy l
 ss).2.2.1, (sread_v0 zs zn zy l ss).2.2.2.1, [], [], [], ()), ()) = (readA l me ss (zk, zf, zt, zs, zn, zl, zy, zv, ze, za, zd, zc, ()), ()) else (((sread_v0 zs zn zy l ss).1, (sread_v0 zs zn zy l ss).2.1, (sread_v0 zs zn zy l ss).2.2.1,
 (sread_v0 zs zn zy l ss).2.2.2.1, [((5 : Int), me, zf, zs, zn, zl, zy, readV (pGet tySto ss (pNat l)) (zs, zn, ()) zy, readN (pGet tySto ss (pNat l)) (zs, zn, ()) zy, za, Bool.false, (0 : Int), ())], [], [], ()), ()) = (readA l me ss (zk,
 zf, zt, zs, zn, zl, zy, zv, ze, za, zd, zc, ()), ()) else bif refuF (readE (pGet tySto ss (pNat l)) (zs, zn, ()) zy) then (((pGet tySto ss (pNat l)).1, (pGet tySto ss (pNat l)).2.1, (pGet tySto ss (pNat l)).2.2.1, (pGet tySto ss (pNat
 l)).2.2.2.1, [((5 : Int), me, zf, zs, zn, zl, zy, (0 : Int), (0 : Int), za, Bool.false, readE (pGet tySto ss (pNat l)) (zs, zn, ()) zy, ())], [], [], ()), ()) = (readA l me ss (zk, zf, zt, zs, zn, zl, zy, zv, ze, za, zd, zc, ()), ()) else
 bif pNe (readE (pGet tySto ss (pNat l)) (zs, zn, ()) zy) (0 : Int) then sread_t0 zk zf zt zs zn zl zy zv ze za zd zc l me ss else (((pGet tySto ss (pNat l)).1, (pGet tySto ss (pNat l)).2.1, (pGet tySto ss (pNat l)).2.2.1, (pGet tySto ss
 (pNat l)).2.2.2.1, [((5 : Int), me, zf, zs, zn, zl, zy, readV (pGet tySto ss (pNat l)) (zs, zn, ()) zy, readN (pGet tySto ss (pNat l)) (zs, zn, ()) zy, za, Bool.false, (0 : Int), ())], [], [], ()), ()) = (readA l me ss (zk, zf, zt, zs, zn,
 zl, zy, zv, ze, za, zd, zc, ()), ()) else pIn zl (pLen ss) ∧ StoOk (pGet tySto ss (pNat zl)) ∧ bif refuF (peekE (pGet tySto ss (pNat zl)) zy) then (((pGet tySto ss (pNat l)).1, (pGet tySto ss (pNat l)).2.1, (pGet tySto ss (pNat l)).2.2.1,
 (pGet tySto ss (pNat l)).2.2.2.1, [((5 : Int), me, zf, zs, zn, zl, zy, (0 : Int), (0 : Int), za, Bool.false, peekE (pGet tySto ss (pNat zl)) zy, ())], [], [], ()), ()) = (readA l me ss (zk, zf, zt, zs, zn, zl, zy, zv, ze, za, zd, zc, ()),
 ()) else bif pNe (peekE (pGet tySto ss (pNat zl)) zy) (0 : Int) then sread_t0 zk zf zt zs zn zl zy zv ze za zd zc l me ss else (((pGet tySto ss (pNat l)).1, (pGet tySto ss (pNat l)).2.1, (pGet tySto ss (pNat l)).2.2.1, (pGet tySto ss (pNat
 l)).2.2.2.1, [((5 : Int), me, zf, zs, zn, zl, zy, peekV (pGet tySto ss (pNat zl)) zy, peekN (pGet tySto ss (pNat zl)) zy, za, Bool.false, (0 : Int), ())], [], [], ()), ()) = (readA l me ss (zk, zf, zt, zs, zn, zl, zy, zv, ze, za, zd, zc,
 ()), ())
set_option maxRecDepth 100000 in
theorem sread_meets (hanswer : Mt 53 canswer) (hReadW : Mt 54 cReadW) (hPeek : Mt 55 cPeek) (hrefusal : Mt 56 crefusal) (h : ∀ (zk : Int) (zf : Int) (zt : Int) (zs : Int) (zn : Int) (zl : Int) (zy : Int) (zv : Int) (ze : Int) (za : Int) (zd : Bool) (zc : Int) (cn : Int) (cl : List LabD) (cp : Int) (l : Int) (me : Int) (ss : List StoD), (∀ p ∈ sread_p ⟨((), (zk, zf, zt, zs, zn, zl, zy, zv, ze, za, zd, zc, ()), ()), ((cn, cl, cp, l, me, ss, ()), ())⟩, p) → sread_VC zk zf zt zs zn zl zy zv ze za zd zc cn cl cp l me ss) : Mt 18 csread :=
  meets_vc (E := envOf Tryd.prog [(53, (false, canswer)), (54, (false, cReadW)), (55, (false, cPeek)), (56, (false, crefusal))] eqsPcV) (envOf_ok (fun p hp => (by simp only [List.mem_cons, List.not_mem_nil, or_false] at hp; rcases hp with rfl | rfl | rfl | rfl; exact hanswer; exact hReadW; exact hPeek; exact hrefusal)) (by kernel_rfl)) sread_S (fun x => fun ky9 st9 => look [] ky9) Tryd.func18 (by kernel_rfl) (by kernel_rfl) sread_p [] [.agg 0 vAnsF] sread_f (fun x => sread_VC x.1.2.1.1 x.1.2.1.2.1 x.1.2.1.2.2.1 x.1.2.1.2.2.2.1 x.1.2.1.2.2.2.2.1 x.1.2.1.2.2.2.2.2.1 x.1.2.1.2.2.2.2.2.2.1 x.1.2.1.2.2.2.2.2.2.2.1 x.1.2.1.2.2.2.2.2.2.2.2.1 x.1.2.1.2.2.2.2.2.2.2.2.2.1 x.1.2.1.2.2.2.2.2.2.2.2.2.2.1 x.1.2.1.2.2.2.2.2.2.2.2.2.2.2.1 x.2.1.1 x.2.1.2.1 x.2.1.2.2.1 x.2.1.2.2.2.1 x.2.1.2.2.2.2.1 x.2.1.2.2.2.2.2.1) (fun x => by kernel_rfl) (fun x hp => h x.1.2.1.1 x.1.2.1.2.1 x.1.2.1.2.2.1 x.1.2.1.2.2.2.1 x.1.2.1.2.2.2.2.1 x.1.2.1.2.2.2.2.2.1 x.1.2.1.2.2.2.2.2.2.1 x.1.2.1.2.2.2.2.2.2.2.1 x.1.2.1.2.2.2.2.2.2.2.2.1 x.1.2.1.2.2.2.2.2.2.2.2.2.1 x.1.2.1.2.2.2.2.2.2.2.2.2.2.1 x.1.2.1.2.2.2.2.2.2.2.2.2.2.2.1 x.2.1.1 x.2.1.2.1 x.2.1.2.2.1 x.2.1.2.2.2.1 x.2.1.2.2.2.2.1 x.2.1.2.2.2.2.2.1 hp)

abbrev swrite_t0 (zk : Int) (zf : Int) (zt : Int) (zs : Int) (zn : Int) (zl : Int) (zy : Int) (zv : Int) (ze : Int) (za : Int) (zd : Bool) (zc : Int) (room : Int) (l : Int) (me : Int) (ss : List StoD) : Prop := pIn l (pLen ss) ∧ (((pGet tySto ss (pNat l)).1, (pGet tySto ss (pNat l)).2.1, (pGet tySto ss (pNat l)).2.2.1, (pGet tySto ss (pNat l)).2.2.2.1, [], [], [], ()), ()) = (writeA l me ss (zk, zf, zt, zs, zn, zl, zy, zv, ze, za, zd, zc, ())
 room, ())
abbrev swrite_t1 (zk : Int) (zf : Int) (zt : Int) (zs : Int) (zn : Int) (zl : Int) (zy : Int) (zv : Int) (ze : Int) (za : Int) (zd : Bool) (zc : Int) (room : Int) (l : Int) (me : Int) (ss : List StoD) : Prop := bif refuF (writeE (pGet tySto ss (pNat l)) (zs, zn, ()) zy zv za) then pIn l (pLen ss) ∧ (((pGet tySto ss (pNat l)).1, (pGet tySto ss (pNat l)).2.1, (pGet tySto ss (pNat l)).2.2.1, (pGet tySto ss (pNat l)).2.2.2.1, [((6 : Int), me, zf, zs,
 zn, (0 : Int), zy, (0 : Int), (0 : Int), za, Bool.false, writeE (pGet tySto ss (pNat l)) (zs, zn, ()) zy zv za, ())], [], [], ()), ()) = (writeA l me ss (zk, zf, zt, zs, zn, zl, zy, zv, ze, za, zd, zc, ()) room, ()) else bif pNe (writeE
 (pGet tySto ss (pNat l)) (zs, zn, ()) zy zv za) (0 : Int) then swrite_t0 zk zf zt zs zn zl zy zv ze za zd zc room l me ss else (((writeS (pGet tySto ss (pNat l)) (zs, zn, ()) zy zv za).1, (writeS (pGet tySto ss (pNat l)) (zs, zn, ()) zy zv
 za).2.1, (writeS (pGet tySto ss (pNat l)) (zs, zn, ()) zy zv za).2.2.1, (writeS (pGet tySto ss (pNat l)) (zs, zn, ()) zy zv za).2.2.2.1, [((6 : Int), me, zf, zs, zn, (0 : Int), zy, (0 : Int), (0 : Int), za, Bool.false, (0 : Int), ())], [((1
 : Int), zs, zn, zy, zv, za, Bool.false, [], ())], [], ()), ()) = (writeA l me ss (zk, zf, zt, zs, zn, zl, zy, zv, ze, za, zd, zc, ()) room, ())

def swrite_VC (zk : Int) (zf : Int) (zt : Int) (zs : Int) (zn : Int) (zl : Int) (zy : Int) (zv : Int) (ze : Int) (za : Int) (zd : Bool) (zc : Int) (room : Int) (cn : Int) (cl : List LabD) (cp : Int) (l : Int) (me : Int) (ss : List StoD) : Prop :=
  pIn l (pLen ss) ∧ StoOk (pGet tySto ss (pNat l)) ∧ bif pEq (writeE (pGet tySto ss (pNat l)) (zs, zn, ()) zy zv za) (0 : Int) then bif pLt room (500 : Int) then bif refuF (8 : Int) then pIn l (pLen ss) ∧ (((pGet tySto ss (pNat l)).1, (pGet
 tySto ss (pNat l)).2.1, (pGet tySto ss (pNat l)).2.2.1, (pGet tySto ss (pNat l)).2.2.2.1, [((6 : Int), me, zf, zs, zn, (0 : Int), zy, (0 : Int), (0 : Int), za, Bool.false, (8 : Int), ())], [], [], ()), ()) = (writeA l me ss (zk, zf, zt, zs,
 zn, zl, zy, zv, ze, za, zd, zc, ()) room, ()) else swrite_t0 zk zf zt zs zn zl zy zv ze za zd zc room l me ss else swrite_t1 zk zf zt zs zn zl zy zv ze za zd zc room l me ss else swrite_t1 zk zf zt zs zn zl zy zv ze za zd zc room l me ss
set_option maxRecDepth 100000 in
theorem swrite_meets (hanswer : Mt 53 canswer) (hWriteW : Mt 57 cWriteW) (hrefusal : Mt 56 crefusal) (h : ∀ (zk : Int) (zf : Int) (zt : Int) (zs : Int) (zn : Int) (zl : Int) (zy : Int) (zv : Int) (ze : Int) (za : Int) (zd : Bool) (zc : Int) (room : Int) (cn : Int) (cl : List LabD) (cp : Int) (l : Int) (me : Int) (ss : List StoD), (∀ p ∈ swrite_p ⟨((), (zk, zf, zt, zs, zn, zl, zy, zv, ze, za, zd, zc, ()), room, ()), ((cn, cl, cp, l, me, ss, ()), ())⟩, p) → swrite_VC zk zf zt zs zn zl zy zv ze za zd zc room cn cl cp l me ss) : Mt 19 cswrite :=
  meets_vc (E := envOf Tryd.prog [(53, (false, canswer)), (57, (false, cWriteW)), (56, (false, crefusal))] eqsPcV) (envOf_ok (fun p hp => (by simp only [List.mem_cons, List.not_mem_nil, or_false] at hp; rcases hp with rfl | rfl | rfl; exact hanswer; exact hWriteW; exact hrefusal)) (by kernel_rfl)) answer_S (fun x => fun ky9 st9 => look [] ky9) Tryd.func19 (by kernel_rfl) (by kernel_rfl) swrite_p [] [.agg 0 vAnsF] swrite_f (fun x => swrite_VC x.1.2.1.1 x.1.2.1.2.1 x.1.2.1.2.2.1 x.1.2.1.2.2.2.1 x.1.2.1.2.2.2.2.1 x.1.2.1.2.2.2.2.2.1 x.1.2.1.2.2.2.2.2.2.1 x.1.2.1.2.2.2.2.2.2.2.1 x.1.2.1.2.2.2.2.2.2.2.2.1 x.1.2.1.2.2.2.2.2.2.2.2.2.1 x.1.2.1.2.2.2.2.2.2.2.2.2.2.1 x.1.2.1.2.2.2.2.2.2.2.2.2.2.2.1 x.1.2.2.1 x.2.1.1 x.2.1.2.1 x.2.1.2.2.1 x.2.1.2.2.2.1 x.2.1.2.2.2.2.1 x.2.1.2.2.2.2.2.1) (fun x => by kernel_rfl) (fun x hp => h x.1.2.1.1 x.1.2.1.2.1 x.1.2.1.2.2.1 x.1.2.1.2.2.2.1 x.1.2.1.2.2.2.2.1 x.1.2.1.2.2.2.2.2.1 x.1.2.1.2.2.2.2.2.2.1 x.1.2.1.2.2.2.2.2.2.2.1 x.1.2.1.2.2.2.2.2.2.2.2.1 x.1.2.1.2.2.2.2.2.2.2.2.2.1 x.1.2.1.2.2.2.2.2.2.2.2.2.2.1 x.1.2.1.2.2.2.2.2.2.2.2.2.2.2.1 x.1.2.2.1 x.2.1.1 x.2.1.2.1 x.2.1.2.2.1 x.2.1.2.2.2.1 x.2.1.2.2.2.2.1 x.2.1.2.2.2.2.2.1 hp)

def sstill_VC (zk : Int) (zf : Int) (zt : Int) (zs : Int) (zn : Int) (zl : Int) (zy : Int) (zv : Int) (ze : Int) (za : Int) (zd : Bool) (zc : Int) (cn : Int) (cl : List LabD) (cp : Int) (l : Int) (me : Int) (ss : List StoD) : Prop :=
  bif pEq zl l then pIn l (pLen ss) ∧ StoOk (pGet tySto ss (pNat l)) ∧ pIn l (pLen ss) ∧ (((pGet tySto ss (pNat l)).1, (pGet tySto ss (pNat l)).2.1, (pGet tySto ss (pNat l)).2.2.1, (pGet tySto ss (pNat l)).2.2.2.1, [((7 : Int), me, zf, zs,
 zn, zl, zy, (0 : Int), ze, (0 : Int), stillB (pGet tySto ss (pNat l)) (zs, zn, ()) zy ze, (0 : Int), ())], [], [], ()), ()) = (stillA l me ss (zk, zf, zt, zs, zn, zl, zy, zv, ze, za, zd, zc, ()), ()) else pIn zl (pLen ss) ∧ StoOk (pGet
 tySto ss (pNat zl)) ∧ bif pEq (peekE (pGet tySto ss (pNat zl)) zy) (0 : Int) then pIn l (pLen ss) ∧ (((pGet tySto ss (pNat l)).1, (pGet tySto ss (pNat l)).2.1, (pGet tySto ss (pNat l)).2.2.1, (pGet tySto ss (pNat l)).2.2.2.1, [((7 : Int),
 me, zf, zs, zn, zl, zy, (0 : Int), ze, (0 : Int), pEq (peekN (pGet tySto ss (pNat zl)) zy) ze, (0 : Int), ())], [], [], ()), ()) = (stillA l me ss (zk, zf, zt, zs, zn, zl, zy, zv, ze, za, zd, zc, ()), ()) else pIn l (pLen ss) ∧ (((pGet
 tySto ss (pNat l)).1, (pGet tySto ss (pNat l)).2.1, (pGet tySto ss (pNat l)).2.2.1, (pGet tySto ss (pNat l)).2.2.2.1, [((7 : Int), me, zf, zs, zn, zl, zy, (0 : Int), ze, (0 : Int), Bool.false, (0 : Int), ())], [], [], ()), ()) = (stillA l
 me ss (zk, zf, zt, zs, zn, zl, zy, zv, ze, za, zd, zc, ()), ())
set_option maxRecDepth 100000 in
theorem sstill_meets (hanswer : Mt 53 canswer) (hStill : Mt 58 cStill) (hPeek : Mt 55 cPeek) (h : ∀ (zk : Int) (zf : Int) (zt : Int) (zs : Int) (zn : Int) (zl : Int) (zy : Int) (zv : Int) (ze : Int) (za : Int) (zd : Bool) (zc : Int) (cn : Int) (cl : List LabD) (cp : Int) (l : Int) (me : Int) (ss : List StoD), (∀ p ∈ sread_p ⟨((), (zk, zf, zt, zs, zn, zl, zy, zv, ze, za, zd, zc, ()), ()), ((cn, cl, cp, l, me, ss, ()), ())⟩, p) → sstill_VC zk zf zt zs zn zl zy zv ze za zd zc cn cl cp l me ss) : Mt 20 csstill :=
  meets_vc (E := envOf Tryd.prog [(53, (false, canswer)), (58, (false, cStill)), (55, (false, cPeek))] eqsPcV) (envOf_ok (fun p hp => (by simp only [List.mem_cons, List.not_mem_nil, or_false] at hp; rcases hp with rfl | rfl | rfl; exact hanswer; exact hStill; exact hPeek)) (by kernel_rfl)) sread_S (fun x => fun ky9 st9 => look [] ky9) Tryd.func20 (by kernel_rfl) (by kernel_rfl) sread_p [] [.agg 0 vAnsF] sstill_f (fun x => sstill_VC x.1.2.1.1 x.1.2.1.2.1 x.1.2.1.2.2.1 x.1.2.1.2.2.2.1 x.1.2.1.2.2.2.2.1 x.1.2.1.2.2.2.2.2.1 x.1.2.1.2.2.2.2.2.2.1 x.1.2.1.2.2.2.2.2.2.2.1 x.1.2.1.2.2.2.2.2.2.2.2.1 x.1.2.1.2.2.2.2.2.2.2.2.2.1 x.1.2.1.2.2.2.2.2.2.2.2.2.2.1 x.1.2.1.2.2.2.2.2.2.2.2.2.2.2.1 x.2.1.1 x.2.1.2.1 x.2.1.2.2.1 x.2.1.2.2.2.1 x.2.1.2.2.2.2.1 x.2.1.2.2.2.2.2.1) (fun x => by kernel_rfl) (fun x hp => h x.1.2.1.1 x.1.2.1.2.1 x.1.2.1.2.2.1 x.1.2.1.2.2.2.1 x.1.2.1.2.2.2.2.1 x.1.2.1.2.2.2.2.2.1 x.1.2.1.2.2.2.2.2.2.1 x.1.2.1.2.2.2.2.2.2.2.1 x.1.2.1.2.2.2.2.2.2.2.2.1 x.1.2.1.2.2.2.2.2.2.2.2.2.1 x.1.2.1.2.2.2.2.2.2.2.2.2.2.1 x.1.2.1.2.2.2.2.2.2.2.2.2.2.2.1 x.2.1.1 x.2.1.2.1 x.2.1.2.2.1 x.2.1.2.2.2.1 x.2.1.2.2.2.2.1 x.2.1.2.2.2.2.2.1 hp)

abbrev sdecide_v0 (zs : Int) (zn : Int) (zd : Bool) (l : Int) (ss : List StoD) := (endS (pGet tySto ss (pNat l)) (zs, zn, ()) zd)
abbrev sdecide_v1 (zf : Int) (zs : Int) (zn : Int) (me : Int) := ((8 : Int), me, zf, zs, zn, (0 : Int), (0 : Int), (0 : Int), (0 : Int), (0 : Int), Bool.false, (0 : Int), ())

def sdecide_VC (zk : Int) (zf : Int) (zt : Int) (zs : Int) (zn : Int) (zl : Int) (zy : Int) (zv : Int) (ze : Int) (za : Int) (zd : Bool) (zc : Int) (cn : Int) (cl : List LabD) (cp : Int) (l : Int) (me : Int) (ss : List StoD) (ns : List NoteD) : Prop :=
  pIn l (pLen ss) ∧ StoOk (pGet tySto ss (pNat l)) ∧ pIn l (pLen ss) ∧ StoOk (pGet tySto ss (pNat l)) ∧ sdecInv zk zf zt zs zn zl zy zv ze za zd zc cn cl cp l me ss ns ((0 : Int), Bool.false, ns, ()) ∧ ∀ (y : kden Bool.false tI × kden
 Bool.false Ty.bool × List (Ty.den tyNote) × PUnit), sdecInv zk zf zt zs zn zl zy zv ze za zd zc cn cl cp l me ss ns y → bif pLt y.1 (pInt (pLen ns)) then pIn y.1 (pLen y.2.2.1) ∧ bif pAndB (pEq (pGet tyNote y.2.2.1 (pNat y.1)).1 zs) (pEq
 (pGet tyNote y.2.2.1 (pNat y.1)).2.1 zn) then bif pNot (pBeq (pGet tyNote y.2.2.1 (pNat y.1)).2.2.1 zd) then bif pNot (pGet tyNote y.2.2.1 (pNat y.1)).2.2.2.1 then pIn y.1 (pLen y.2.2.1) ∧ sdecInv zk zf zt zs zn zl zy zv ze za zd zc cn cl
 cp l me ss ns (pAdd IntKind.i64 y.1 (1 : Int), Bool.true, pSet y.2.2.1 (pNat y.1) ((pGet tyNote y.2.2.1 (pNat y.1)).1, (pGet tyNote y.2.2.1 (pNat y.1)).2.1, (pGet tyNote y.2.2.1 (pNat y.1)).2.2.1, Bool.true, ()), ()) ∧ Nat.le (Nat.succ
 (sdecMu zk zf zt zs zn zl zy zv ze za zd zc cn cl cp l me ss ns (pAdd IntKind.i64 y.1 (1 : Int), Bool.true, pSet y.2.2.1 (pNat y.1) ((pGet tyNote y.2.2.1 (pNat y.1)).1, (pGet tyNote y.2.2.1 (pNat y.1)).2.1, (pGet tyNote y.2.2.1 (pNat
 y.1)).2.2.1, Bool.true, ()), ()))) (sdecMu zk zf zt zs zn zl zy zv ze za zd zc cn cl cp l me ss ns y) else sdecInv zk zf zt zs zn zl zy zv ze za zd zc cn cl cp l me ss ns (pAdd IntKind.i64 y.1 (1 : Int), y.2.1, y.2.2.1, ()) ∧ Nat.le
 (Nat.succ (sdecMu zk zf zt zs zn zl zy zv ze za zd zc cn cl cp l me ss ns (pAdd IntKind.i64 y.1 (1 : Int), y.2.1, y.2.2.1, ()))) (sdecMu zk zf zt zs zn zl zy zv ze za zd zc cn cl cp l me ss ns y) else sdecInv zk zf zt zs zn zl zy zv ze za
 zd zc cn cl cp l me ss ns (pAdd IntKind.i64 y.1 (1 : Int), y.2.1, y.2.2.1, ()) ∧ Nat.le (Nat.succ (sdecMu zk zf zt zs zn zl zy zv ze za zd zc cn cl cp l me ss ns (pAdd IntKind.i64 y.1 (1 : Int), y.2.1, y.2.2.1, ()))) (sdecMu zk zf zt zs zn
 zl zy zv ze za zd zc cn cl cp l me ss ns y) else sdecInv zk zf zt zs zn zl zy zv ze za zd zc cn cl cp l me ss ns (pAdd IntKind.i64 y.1 (1 : Int), y.2.1, y.2.2.1, ()) ∧ Nat.le (Nat.succ (sdecMu zk zf zt zs zn zl zy zv ze za zd zc cn cl cp l
 me ss ns (pAdd IntKind.i64 y.1 (1 : Int), y.2.1, y.2.2.1, ()))) (sdecMu zk zf zt zs zn zl zy zv ze za zd zc cn cl cp l me ss ns y) else bif pGt (bif pEq (askE (pGet tySto ss (pNat l)) (zs, zn, ()) (0 : Int)) (0 : Int) then cntW (pGet tySto
 ss (pNat l)).2.1 zs zn else (0 : Int)) (0 : Int) then (((sdecide_v0 zs zn zd l ss).1, (sdecide_v0 zs zn zd l ss).2.1, (sdecide_v0 zs zn zd l ss).2.2.1, (sdecide_v0 zs zn zd l ss).2.2.2.1, [(sdecide_v1 zf zs zn me)], [((2 : Int), zs, zn, (0
 : Int), (0 : Int), (0 : Int), zd, [], ())], [], ()), y.2.2.1, ()) = (decideA l me ss (zk, zf, zt, zs, zn, zl, zy, zv, ze, za, zd, zc, ()) ns, damN ns (zk, zf, zt, zs, zn, zl, zy, zv, ze, za, zd, zc, ()), ()) else bif y.2.1 then
 (((sdecide_v0 zs zn zd l ss).1, (sdecide_v0 zs zn zd l ss).2.1, (sdecide_v0 zs zn zd l ss).2.2.1, (sdecide_v0 zs zn zd l ss).2.2.2.1, [(sdecide_v1 zf zs zn me)], [((2 : Int), zs, zn, (0 : Int), (0 : Int), (0 : Int), zd, [], ())], [], ()),
 y.2.2.1, ()) = (decideA l me ss (zk, zf, zt, zs, zn, zl, zy, zv, ze, za, zd, zc, ()) ns, damN ns (zk, zf, zt, zs, zn, zl, zy, zv, ze, za, zd, zc, ()), ()) else (((sdecide_v0 zs zn zd l ss).1, (sdecide_v0 zs zn zd l ss).2.1, (sdecide_v0 zs
 zn zd l ss).2.2.1, (sdecide_v0 zs zn zd l ss).2.2.2.1, [(sdecide_v1 zf zs zn me)], [], [], ()), y.2.2.1, ()) = (decideA l me ss (zk, zf, zt, zs, zn, zl, zy, zv, ze, za, zd, zc, ()) ns, damN ns (zk, zf, zt, zs, zn, zl, zy, zv, ze, za, zd,
 zc, ()), ())
set_option maxRecDepth 100000 in
theorem sdecide_meets (hWritesW : Mt 59 cWritesW) (hEndW : Mt 60 cEndW) (hanswer : Mt 53 canswer) (h : ∀ (zk : Int) (zf : Int) (zt : Int) (zs : Int) (zn : Int) (zl : Int) (zy : Int) (zv : Int) (ze : Int) (za : Int) (zd : Bool) (zc : Int) (cn : Int) (cl : List LabD) (cp : Int) (l : Int) (me : Int) (ss : List StoD) (ns : List NoteD), (∀ p ∈ sdecide_p ⟨((), (zk, zf, zt, zs, zn, zl, zy, zv, ze, za, zd, zc, ()), (), ()), ((cn, cl, cp, l, me, ss, ()), ns, ())⟩, p) → sdecide_VC zk zf zt zs zn zl zy zv ze za zd zc cn cl cp l me ss ns) : Mt 21 csdecide :=
  meets_vc (E := envOf Tryd.prog [(59, (false, cWritesW)), (60, (false, cEndW)), (53, (false, canswer))] eqsPcV) (envOf_ok (fun p hp => (by simp only [List.mem_cons, List.not_mem_nil, or_false] at hp; rcases hp with rfl | rfl | rfl; exact hWritesW; exact hEndW; exact hanswer)) (by kernel_rfl)) sdecide_S (fun x => fun ky9 st9 => look [(6, (⟨[.slot 57 false tI, .slot 12 false .bool, .row 1 tyNote], sdecInv x.1.2.1.1 x.1.2.1.2.1 x.1.2.1.2.2.1 x.1.2.1.2.2.2.1 x.1.2.1.2.2.2.2.1 x.1.2.1.2.2.2.2.2.1 x.1.2.1.2.2.2.2.2.2.1 x.1.2.1.2.2.2.2.2.2.2.1 x.1.2.1.2.2.2.2.2.2.2.2.1 x.1.2.1.2.2.2.2.2.2.2.2.2.1 x.1.2.1.2.2.2.2.2.2.2.2.2.2.1 x.1.2.1.2.2.2.2.2.2.2.2.2.2.2.1 x.2.1.1 x.2.1.2.1 x.2.1.2.2.1 x.2.1.2.2.2.1 x.2.1.2.2.2.2.1 x.2.1.2.2.2.2.2.1 x.2.2.1, sdecMu x.1.2.1.1 x.1.2.1.2.1 x.1.2.1.2.2.1 x.1.2.1.2.2.2.1 x.1.2.1.2.2.2.2.1 x.1.2.1.2.2.2.2.2.1 x.1.2.1.2.2.2.2.2.2.1 x.1.2.1.2.2.2.2.2.2.2.1 x.1.2.1.2.2.2.2.2.2.2.2.1 x.1.2.1.2.2.2.2.2.2.2.2.2.1 x.1.2.1.2.2.2.2.2.2.2.2.2.2.1 x.1.2.1.2.2.2.2.2.2.2.2.2.2.2.1 x.2.1.1 x.2.1.2.1 x.2.1.2.2.1 x.2.1.2.2.2.1 x.2.1.2.2.2.2.1 x.2.1.2.2.2.2.2.1 x.2.2.1⟩ : Ann))] ky9) Tryd.func21 (by kernel_rfl) (by kernel_rfl) sdecide_p [] [.agg 0 vAnsF, .row 1 tyNote] sdecide_f (fun x => sdecide_VC x.1.2.1.1 x.1.2.1.2.1 x.1.2.1.2.2.1 x.1.2.1.2.2.2.1 x.1.2.1.2.2.2.2.1 x.1.2.1.2.2.2.2.2.1 x.1.2.1.2.2.2.2.2.2.1 x.1.2.1.2.2.2.2.2.2.2.1 x.1.2.1.2.2.2.2.2.2.2.2.1 x.1.2.1.2.2.2.2.2.2.2.2.2.1 x.1.2.1.2.2.2.2.2.2.2.2.2.2.1 x.1.2.1.2.2.2.2.2.2.2.2.2.2.2.1 x.2.1.1 x.2.1.2.1 x.2.1.2.2.1 x.2.1.2.2.2.1 x.2.1.2.2.2.2.1 x.2.1.2.2.2.2.2.1 x.2.2.1) (fun x => by kernel_rfl) (fun x hp => h x.1.2.1.1 x.1.2.1.2.1 x.1.2.1.2.2.1 x.1.2.1.2.2.2.1 x.1.2.1.2.2.2.2.1 x.1.2.1.2.2.2.2.2.1 x.1.2.1.2.2.2.2.2.2.1 x.1.2.1.2.2.2.2.2.2.2.1 x.1.2.1.2.2.2.2.2.2.2.2.1 x.1.2.1.2.2.2.2.2.2.2.2.2.1 x.1.2.1.2.2.2.2.2.2.2.2.2.2.1 x.1.2.1.2.2.2.2.2.2.2.2.2.2.2.1 x.2.1.1 x.2.1.2.1 x.2.1.2.2.1 x.2.1.2.2.2.1 x.2.1.2.2.2.2.1 x.2.1.2.2.2.2.2.1 x.2.2.1 hp)

end Go.Proofs.YtkhnakdmkhidbaaDoor
