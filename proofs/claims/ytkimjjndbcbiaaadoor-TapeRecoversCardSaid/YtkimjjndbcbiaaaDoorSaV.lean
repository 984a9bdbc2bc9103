/- Contracts, and what the evaluator says, as plain propositions: SaV. Printed by vc.py. -/
import Derived.Test.YtkimjjndbcbiaaaDoorTaW
import Derived.Test.YtkimjjndbcbiaaaDoorWhV
namespace Go.Proofs.YtkimjjndbcbiaaaDoor
open Go.RowKit Go.ChangeShapes Go.WideShapes Go.Deep

def csameInts : Ctr := shCtr ⟨[.one (.rd (.sl tyNum)), .one (.rd (.sl tyNum))], []⟩ (fun x => [x.1.1 = x.1.2.1, pLen x.1.1 < 4611686018427387904]) [] [.slot 0 false .bool] (fun x => (true, ()))
def csameRecord : Ctr := shCtr ⟨[pRec, pRec], []⟩ (fun x => [x.1.1.1 = x.1.2.1.1, x.1.1.2.1 = x.1.2.1.2.1, x.1.1.2.2.1 = x.1.2.1.2.2.1, x.1.1.2.2.2.1 = x.1.2.1.2.2.2.1, x.1.1.2.2.2.2.1 = x.1.2.1.2.2.2.2.1, x.1.1.2.2.2.2.2.1 = x.1.2.1.2.2.2.2.2.1, x.1.1.2.2.2.2.2.2.1 = x.1.2.1.2.2.2.2.2.2.1, x.1.1.2.2.2.2.2.2.2.1 = x.1.2.1.2.2.2.2.2.2.2.1, pLen x.1.1.2.2.2.2.2.2.2.1 < 4611686018427387904]) [] [.slot 0 false .bool] (fun x => (true, ()))
def csameRecords : Ctr := shCtr ⟨[.one (.rd (.sl tyRec)), .one (.rd (.sl tyRec))], []⟩ (fun x => [x.1.1 = x.1.2.1, pLen x.1.1 < 4611686018427387904, (∀ q ∈ x.1.1, pLen q.2.2.2.2.2.2.2.1 < 4611686018427387904)]) [] [.slot 0 false .bool] (fun x => (true, ()))
def csameTape : Ctr := shCtr ⟨[pTape, pTape], []⟩ (fun x => [x.1.1.1 = x.1.2.1.1, x.1.1.2.1 = x.1.2.1.2.1]) [] [.slot 0 false .bool] (fun x => (true, ()))
def ctapes : Ctr := shCtr ⟨[pTape], []⟩ (fun x => [pRoom (pLen x.1.1.1) 1]) [] [.agg 0 vTape] (fun x => ((x.1.1.1, x.1.1.2.1, ()), ()))
def coctetsR : Ctr := shCtr ⟨[.one (.rd (.sl tyB))], []⟩ (fun x => [pRoom (pLen x.1.1) 1]) [] [.slot 0 false (.sl tyB)] (fun x => (x.1.1, ()))
def ctapesR : Ctr := shCtr ⟨[pTape], []⟩ (fun x => [pRoom (pLen x.1.1.1) 1]) [] [.agg 0 vTapeR] (fun x => ((x.1.1.1, x.1.1.2.1, ()), ()))
def cgrow : Ctr := shCtr ⟨[.one (.lit .nil), .one (.rd tI)], []⟩ (fun x => [pGe0 x.1.2.1, pLt x.1.2.1 1000000 = true]) [] [.slot 0 true tyB] (fun x => (noBytes, ()))
def cconcat : Ctr := shCtr ⟨[.one (.rd (.sl tyBs))], []⟩ (fun x => [pLen x.1.1 < 1000000, pLen (joinF x.1.1) < 1000000]) [] [.slot 0 true tyB] (fun x => (joinF x.1.1, ()))
def ctopen : Ctr := shCtr ⟨[pTape], []⟩ (fun x => [pLen x.1.1.1 < 4611686018427387904, pRoom (pLen x.1.1.1) 1]) [] [.agg 0 vTape, .slot 1 false .bool] (fun x => ((opD x.1.1.1 x.1.1.2.1, opN x.1.1.1 x.1.1.2.1, ()), tapeOk x.1.1.1 x.1.1.2.1, ()))
def ctopenR : Ctr := shCtr ⟨[pTape], []⟩ (fun x => [pLen x.1.1.1 < 4611686018427387904, pRoom (pLen x.1.1.1) 1]) [] [.agg 0 vTapeR, .slot 1 false .bool] (fun x => ((opD x.1.1.1 x.1.1.2.1, opN x.1.1.1 x.1.1.2.1, ()), tapeOk x.1.1.1 x.1.1.2.1, ()))
def ctMay : Ctr := shCtr ⟨[pTape], []⟩ (fun x => [pLen x.1.1.1 < 4611686018427387904]) [] [.slot 0 false .bool] (fun x => (tapeOk x.1.1.1 x.1.1.2.1, ()))

def sameInts_VC (l : (List NumD)) (m : (List NumD)) : Prop :=
  bif pNe (pInt (pLen l)) (pInt (pLen m)) then (Bool.false, ()) = (Bool.true, ()) else samIInv l m ((0 : Int), ()) ∧ ∀ (y : kden Bool.false tI × PUnit), samIInv l m y → bif pLt y.1 (pInt (pLen l)) then pIn y.1 (pLen l) ∧
    pIn y.1 (pLen m) ∧ bif pNe (pGet tyN l (pNat y.1)).1 (pGet tyN m (pNat y.1)).1 then (Bool.false, ()) = (Bool.true, ()) else samIInv l m (pAdd IntKind.i64 y.1 (1 : Int), ()) ∧ Nat.le (Nat.succ (samIMu l m (pAdd
    IntKind.i64 y.1 (1 : Int), ()))) (samIMu l m y) else (Bool.true, ()) = (Bool.true, ())
set_option maxRecDepth 100000 in
theorem sameInts_meets  (h : ∀ (l : (List NumD)) (m : (List NumD)), (∀ p ∈ (fun x => [x.1.1 = x.1.2.1, pLen x.1.1 < 4611686018427387904] : Shape.den ⟨[.one (.rd (.sl tyNum)), .one (.rd (.sl tyNum))], []⟩ → List Prop) ⟨(l, m, ()), ()⟩, p) → sameInts_VC l m) : Meets Tryd.prog (fun _ => none) 64 csameInts :=
  meets_vc (E := envOf Tryd.prog [] [104, 39, 30]) (envOf_ok (fun p hp => by cases hp) (by kernel_rfl)) ⟨[.one (.rd (.sl tyNum)), .one (.rd (.sl tyNum))], []⟩ (fun x => fun ky9 st9 => look [(4, (⟨[.slot 5 false tI], samIInv x.1.1 x.1.2.1, samIMu x.1.1 x.1.2.1⟩ : Ann))] ky9) Tryd.func64 (by kernel_rfl) (by kernel_rfl) (fun x => [x.1.1 = x.1.2.1, pLen x.1.1 < 4611686018427387904]) [] [.slot 0 false .bool] (fun x => (true, ())) (fun x => sameInts_VC x.1.1 x.1.2.1) (fun x => by kernel_rfl) (fun x hp => h x.1.1 x.1.2.1 hp)

def sameRecord_VC (pk : Int) (ps : Int) (pn : Int) (py : Int) (pv : Int) (pa : Int) (pd : Bool) (pl : (List NumD)) (qk : Int) (qs : Int) (qn : Int) (qy : Int) (qv : Int) (qa : Int) (qd : Bool) (ql : (List NumD)) : Prop :=
  bif pEq pk qk then bif pAndB (pEq ps qs) (pEq pn qn) then bif pEq py qy then bif pEq pv qv then bif pEq pa qa then bif pBeq pd qd then pl = ql ∧ Nat.le (Nat.succ (pLen pl)) 4611686018427387904 ∧ (Bool.true, ()) =
    (Bool.true, ()) else (Bool.false, ()) = (Bool.true, ()) else (Bool.false, ()) = (Bool.true, ()) else (Bool.false, ()) = (Bool.true, ()) else (Bool.false, ()) = (Bool.true, ()) else (Bool.false, ()) = (Bool.true, ()) else
    (Bool.false, ()) = (Bool.true, ())
set_option maxRecDepth 100000 in
theorem sameRecord_meets (hsameInts : Meets Tryd.prog (fun _ => none) 64 csameInts) (h : ∀ (pk : Int) (ps : Int) (pn : Int) (py : Int) (pv : Int) (pa : Int) (pd : Bool) (pl : (List NumD)) (qk : Int) (qs : Int) (qn : Int) (qy : Int) (qv : Int) (qa : Int) (qd : Bool) (ql : (List NumD)), (∀ p ∈ (fun x => [x.1.1.1 = x.1.2.1.1, x.1.1.2.1 = x.1.2.1.2.1, x.1.1.2.2.1 = x.1.2.1.2.2.1, x.1.1.2.2.2.1 = x.1.2.1.2.2.2.1, x.1.1.2.2.2.2.1 = x.1.2.1.2.2.2.2.1, x.1.1.2.2.2.2.2.1 = x.1.2.1.2.2.2.2.2.1, x.1.1.2.2.2.2.2.2.1 = x.1.2.1.2.2.2.2.2.2.1, x.1.1.2.2.2.2.2.2.2.1 = x.1.2.1.2.2.2.2.2.2.2.1, pLen x.1.1.2.2.2.2.2.2.2.1 < 4611686018427387904] : Shape.den ⟨[pRec, pRec], []⟩ → List Prop) ⟨((pk, ps, pn, py, pv, pa, pd, pl, ()), (qk, qs, qn, qy, qv, qa, qd, ql, ()), ()), ()⟩, p) → sameRecord_VC pk ps pn py pv pa pd pl qk qs qn qy qv qa qd ql) : Meets Tryd.prog (fun _ => none) 27 csameRecord :=
  meets_vc (E := envOf Tryd.prog [(64, (false, csameInts))] [104, 39, 30]) (envOf_ok (fun p hp => (by simp only [List.mem_cons, List.not_mem_nil, or_false] at hp; rcases hp with rfl; exact hsameInts)) (by kernel_rfl)) ⟨[pRec, pRec], []⟩ (fun x => fun ky9 st9 => look [] ky9) Tryd.func27 (by kernel_rfl) (by kernel_rfl) (fun x => [x.1.1.1 = x.1.2.1.1, x.1.1.2.1 = x.1.2.1.2.1, x.1.1.2.2.1 = x.1.2.1.2.2.1, x.1.1.2.2.2.1 = x.1.2.1.2.2.2.1, x.1.1.2.2.2.2.1 = x.1.2.1.2.2.2.2.1, x.1.1.2.2.2.2.2.1 = x.1.2.1.2.2.2.2.2.1, x.1.1.2.2.2.2.2.2.1 = x.1.2.1.2.2.2.2.2.2.1, x.1.1.2.2.2.2.2.2.2.1 = x.1.2.1.2.2.2.2.2.2.2.1, pLen x.1.1.2.2.2.2.2.2.2.1 < 4611686018427387904]) [] [.slot 0 false .bool] (fun x => (true, ())) (fun x => sameRecord_VC x.1.1.1 x.1.1.2.1 x.1.1.2.2.1 x.1.1.2.2.2.1 x.1.1.2.2.2.2.1 x.1.1.2.2.2.2.2.1 x.1.1.2.2.2.2.2.2.1 x.1.1.2.2.2.2.2.2.2.1 x.1.2.1.1 x.1.2.1.2.1 x.1.2.1.2.2.1 x.1.2.1.2.2.2.1 x.1.2.1.2.2.2.2.1 x.1.2.1.2.2.2.2.2.1 x.1.2.1.2.2.2.2.2.2.1 x.1.2.1.2.2.2.2.2.2.2.1) (fun x => by kernel_rfl) (fun x hp => h x.1.1.1 x.1.1.2.1 x.1.1.2.2.1 x.1.1.2.2.2.1 x.1.1.2.2.2.2.1 x.1.1.2.2.2.2.2.1 x.1.1.2.2.2.2.2.2.1 x.1.1.2.2.2.2.2.2.2.1 x.1.2.1.1 x.1.2.1.2.1 x.1.2.1.2.2.1 x.1.2.1.2.2.2.1 x.1.2.1.2.2.2.2.1 x.1.2.1.2.2.2.2.2.1 x.1.2.1.2.2.2.2.2.2.1 x.1.2.1.2.2.2.2.2.2.2.1 hp)

def sameRecords_VC (l : (List RecD)) (m : (List RecD)) : Prop :=
  bif pNe (pInt (pLen l)) (pInt (pLen m)) then (Bool.false, ()) = (Bool.true, ()) else samRInv l m ((0 : Int), ()) ∧ ∀ (y : kden Bool.false tI × PUnit), samRInv l m y → bif pLt y.1 (pInt (pLen l)) then pIn y.1 (pLen l) ∧
    pIn y.1 (pLen m) ∧ (pGet tyRec l (pNat y.1)).1 = (pGet tyRec m (pNat y.1)).1 ∧ (pGet tyRec l (pNat y.1)).2.1 = (pGet tyRec m (pNat y.1)).2.1 ∧ (pGet tyRec l (pNat y.1)).2.2.1 = (pGet tyRec m (pNat y.1)).2.2.1 ∧ (pGet
    tyRec l (pNat y.1)).2.2.2.1 = (pGet tyRec m (pNat y.1)).2.2.2.1 ∧ (pGet tyRec l (pNat y.1)).2.2.2.2.1 = (pGet tyRec m (pNat y.1)).2.2.2.2.1 ∧ (pGet tyRec l (pNat y.1)).2.2.2.2.2.1 = (pGet tyRec m (pNat y.1)).2.2.2.2.2.1
    ∧ (pGet tyRec l (pNat y.1)).2.2.2.2.2.2.1 = (pGet tyRec m (pNat y.1)).2.2.2.2.2.2.1 ∧ (pGet tyRec l (pNat y.1)).2.2.2.2.2.2.2.1 = (pGet tyRec m (pNat y.1)).2.2.2.2.2.2.2.1 ∧ Nat.le (Nat.succ (pLen (pGet tyRec l (pNat
    y.1)).2.2.2.2.2.2.2.1)) 4611686018427387904 ∧ samRInv l m (pAdd IntKind.i64 y.1 (1 : Int), ()) ∧ Nat.le (Nat.succ (samRMu l m (pAdd IntKind.i64 y.1 (1 : Int), ()))) (samRMu l m y) else (Bool.true, ()) = (Bool.true, ())
set_option maxRecDepth 100000 in
theorem sameRecords_meets (hsameRecord : Meets Tryd.prog (fun _ => none) 27 csameRecord) (h : ∀ (l : (List RecD)) (m : (List RecD)), (∀ p ∈ (fun x => [x.1.1 = x.1.2.1, pLen x.1.1 < 4611686018427387904, (∀ q ∈ x.1.1, pLen q.2.2.2.2.2.2.2.1 < 4611686018427387904)] : Shape.den ⟨[.one (.rd (.sl tyRec)), .one (.rd (.sl tyRec))], []⟩ → List Prop) ⟨(l, m, ()), ()⟩, p) → sameRecords_VC l m) : Meets Tryd.prog (fun _ => none) 36 csameRecords :=
  meets_vc (E := envOf Tryd.prog [(27, (false, csameRecord))] [104, 39, 30]) (envOf_ok (fun p hp => (by simp only [List.mem_cons, List.not_mem_nil, or_false] at hp; rcases hp with rfl; exact hsameRecord)) (by kernel_rfl)) ⟨[.one (.rd (.sl tyRec)), .one (.rd (.sl tyRec))], []⟩ (fun x => fun ky9 st9 => look [(4, (⟨[.slot 5 false tI], samRInv x.1.1 x.1.2.1, samRMu x.1.1 x.1.2.1⟩ : Ann))] ky9) Tryd.func36 (by kernel_rfl) (by kernel_rfl) (fun x => [x.1.1 = x.1.2.1, pLen x.1.1 < 4611686018427387904, (∀ q ∈ x.1.1, pLen q.2.2.2.2.2.2.2.1 < 4611686018427387904)]) [] [.slot 0 false .bool] (fun x => (true, ())) (fun x => sameRecords_VC x.1.1 x.1.2.1) (fun x => by kernel_rfl) (fun x hp => h x.1.1 x.1.2.1 hp)

def sameTape_VC (pd : (List ByteD)) (pn : Int) (qd : (List ByteD)) (qn : Int) : Prop :=
  bif pEq pn qn then (pStrEq (pBytes pd) (pBytes qd), ()) = (Bool.true, ()) else (Bool.false, ()) = (Bool.true, ())
set_option maxRecDepth 100000 in
theorem sameTape_meets  (h : ∀ (pd : (List ByteD)) (pn : Int) (qd : (List ByteD)) (qn : Int), (∀ p ∈ (fun x => [x.1.1.1 = x.1.2.1.1, x.1.1.2.1 = x.1.2.1.2.1] : Shape.den ⟨[pTape, pTape], []⟩ → List Prop) ⟨((pd, pn, ()), (qd, qn, ()), ()), ()⟩, p) → sameTape_VC pd pn qd qn) : Meets Tryd.prog (fun _ => none) 33 csameTape :=
  meets_vc (E := envOf Tryd.prog [] [104, 39, 30]) (envOf_ok (fun p hp => by cases hp) (by kernel_rfl)) ⟨[pTape, pTape], []⟩ (fun x => fun ky9 st9 => look [] ky9) Tryd.func33 (by kernel_rfl) (by kernel_rfl) (fun x => [x.1.1.1 = x.1.2.1.1, x.1.1.2.1 = x.1.2.1.2.1]) [] [.slot 0 false .bool] (fun x => (true, ())) (fun x => sameTape_VC x.1.1.1 x.1.1.2.1 x.1.2.1.1 x.1.2.1.2.1) (fun x => by kernel_rfl) (fun x hp => h x.1.1.1 x.1.1.2.1 x.1.2.1.1 x.1.2.1.2.1 hp)

def tapes_VC (td : (List ByteD)) (tn : Int) : Prop :=
  pRoom (pLen td) 1 ∧ ((td, tn, ()), ()) = ((td, tn, ()), ())
set_option maxRecDepth 100000 in
theorem tapes_meets (hoctets : Meets Tryd.prog (fun _ => none) 25 coctets) (h : ∀ (td : (List ByteD)) (tn : Int), (∀ p ∈ (fun x => [pRoom (pLen x.1.1.1) 1] : Shape.den ⟨[pTape], []⟩ → List Prop) ⟨((td, tn, ()), ()), ()⟩, p) → tapes_VC td tn) : Meets Tryd.prog (fun _ => none) 30 ctapes :=
  meets_vc (E := envOf Tryd.prog [(25, (false, coctets))] [104, 39, 30]) (envOf_ok (fun p hp => (by simp only [List.mem_cons, List.not_mem_nil, or_false] at hp; rcases hp with rfl; exact hoctets)) (by kernel_rfl)) ⟨[pTape], []⟩ (fun x => fun ky9 st9 => look [] ky9) Tryd.func30 (by kernel_rfl) (by kernel_rfl) (fun x => [pRoom (pLen x.1.1.1) 1]) [] [.agg 0 vTape] (fun x => ((x.1.1.1, x.1.1.2.1, ()), ())) (fun x => tapes_VC x.1.1.1 x.1.1.2.1) (fun x => by kernel_rfl) (fun x hp => h x.1.1.1 x.1.1.2.1 hp)

def tapesR_VC (td : (List ByteD)) (tn : Int) : Prop :=
  pRoom (pLen td) 1 ∧ ((td, tn, ()), ()) = ((td, tn, ()), ())
set_option maxRecDepth 100000 in
theorem tapesR_meets (hoctetsR : Meets Tryd.prog (fun _ => none) 25 coctetsR) (h : ∀ (td : (List ByteD)) (tn : Int), (∀ p ∈ (fun x => [pRoom (pLen x.1.1.1) 1] : Shape.den ⟨[pTape], []⟩ → List Prop) ⟨((td, tn, ()), ()), ()⟩, p) → tapesR_VC td tn) : Meets Tryd.prog (fun _ => none) 30 ctapesR :=
  meets_vc (E := envOf Tryd.prog [(25, (false, coctetsR))] [104, 39, 30]) (envOf_ok (fun p hp => (by simp only [List.mem_cons, List.not_mem_nil, or_false] at hp; rcases hp with rfl; exact hoctetsR)) (by kernel_rfl)) ⟨[pTape], []⟩ (fun x => fun ky9 st9 => look [] ky9) Tryd.func30 (by kernel_rfl) (by kernel_rfl) (fun x => [pRoom (pLen x.1.1.1) 1]) [] [.agg 0 vTapeR] (fun x => ((x.1.1.1, x.1.1.2.1, ()), ())) (fun x => tapesR_VC x.1.1.1 x.1.1.2.1) (fun x => by kernel_rfl) (fun x hp => h x.1.1.1 x.1.1.2.1 hp)

def grow_VC (n : Int) : Prop :=
  bif pLt n (0 : Int) then False else bif pGt (pSubI IntKind.i64 n (pSubI IntKind.i64 (0 : Int) (0 : Int))) (0 : Int) then pLt (0 : Int) (pSubI IntKind.i64 n (pSubI IntKind.i64 (0 : Int) (0 : Int))) = Bool.true ∧ pRoom
    (pNat (pSubI IntKind.i64 n (pSubI IntKind.i64 (0 : Int) (0 : Int)))) 1 ∧ Nat.le (pNat (pSubI IntKind.i64 n (pSubI IntKind.i64 (0 : Int) (0 : Int)))) 4611686018427387904 ∧ pTo (0 : Int) (pLen (pRep (pNat (pSubI
    IntKind.i64 n (pSubI IntKind.i64 (0 : Int) (0 : Int)))) ((0 : Int), ()))) ∧ (pSub (pRep (pNat (pSubI IntKind.i64 n (pSubI IntKind.i64 (0 : Int) (0 : Int)))) ((0 : Int), ())) 0 (pNat (0 : Int)), ()) = (noBytes, ()) else
    ([], ()) = (noBytes, ())
set_option maxRecDepth 100000 in
theorem grow_meets  (h : ∀ (n : Int), (∀ p ∈ (fun x => [pGe0 x.1.2.1, pLt x.1.2.1 1000000 = true] : Shape.den ⟨[.one (.lit .nil), .one (.rd tI)], []⟩ → List Prop) ⟨((), n, ()), ()⟩, p) → grow_VC n) : Meets Tryd.prog (fun _ => none) 78 cgrow :=
  meets_vc (E := envOf Tryd.prog [] [104, 39, 30]) (envOf_ok (fun p hp => by cases hp) (by kernel_rfl)) ⟨[.one (.lit .nil), .one (.rd tI)], []⟩ (fun x => fun ky9 st9 => look [] ky9) Tryd.func78 (by kernel_rfl) (by kernel_rfl) (fun x => [pGe0 x.1.2.1, pLt x.1.2.1 1000000 = true]) [] [.slot 0 true tyB] (fun x => (noBytes, ())) (fun x => grow_VC x.1.2.1) (fun x => by kernel_rfl) (fun x hp => h x.1.2.1 hp)

def concat_VC (l : (List BsD)) : Prop :=
  conAInv l ((0 : Int), (0 : Int), ()) ∧ ∀ (y : kden Bool.false tI × kden Bool.false tI × PUnit), conAInv l y → bif pLt y.1 (pInt (pLen l)) then pIn y.1 (pLen l) ∧ bif pLt (pAdd IntKind.i64 y.2.1 (pInt (pLen (pGet tyBs l
    (pNat y.1)).1))) (0 : Int) then False else conAInv l (pAdd IntKind.i64 y.1 (1 : Int), pAdd IntKind.i64 y.2.1 (pInt (pLen (pGet tyBs l (pNat y.1)).1)), ()) ∧ Nat.le (Nat.succ (conAMu l (pAdd IntKind.i64 y.1 (1 : Int),
    pAdd IntKind.i64 y.2.1 (pInt (pLen (pGet tyBs l (pNat y.1)).1)), ()))) (conAMu l y) else pGe0 y.2.1 ∧ pLt y.2.1 (1000000 : Int) = Bool.true ∧ conBInv l ((0 : Int), noBytes, ()) ∧ ∀ (y : kden Bool.false tI × kden
    Bool.true tyB × PUnit), conBInv l y → bif pLt y.1 (pInt (pLen l)) then pIn y.1 (pLen l) ∧ pRoom (pPlus (pLen y.2.1) (pLen (pGet tyBs l (pNat y.1)).1)) 1 ∧ conBInv l (pAdd IntKind.i64 y.1 (1 : Int), pApp y.2.1 (pGet tyBs
    l (pNat y.1)).1, ()) ∧ Nat.le (Nat.succ (conBMu l (pAdd IntKind.i64 y.1 (1 : Int), pApp y.2.1 (pGet tyBs l (pNat y.1)).1, ()))) (conBMu l y) else (y.2.1, ()) = (joinF l, ())
set_option maxRecDepth 100000 in
theorem concat_meets (hgrow : Meets Tryd.prog (fun _ => none) 78 cgrow) (h : ∀ (l : (List BsD)), (∀ p ∈ (fun x => [pLen x.1.1 < 1000000, pLen (joinF x.1.1) < 1000000] : Shape.den ⟨[.one (.rd (.sl tyBs))], []⟩ → List Prop) ⟨(l, ()), ()⟩, p) → concat_VC l) : Meets Tryd.prog (fun _ => none) 66 cconcat :=
  meets_vc (E := envOf Tryd.prog [(78, (false, cgrow))] [104, 39, 30]) (envOf_ok (fun p hp => (by simp only [List.mem_cons, List.not_mem_nil, or_false] at hp; rcases hp with rfl; exact hgrow)) (by kernel_rfl)) ⟨[.one (.rd (.sl tyBs))], []⟩ (fun x => fun ky9 st9 => look [(3, (⟨[.slot 11 false tI, .slot 3 false tI], conAInv x.1.1, conAMu x.1.1⟩ : Ann)), (11, (⟨[.slot 27 false tI, .slot 6 true tyB], conBInv x.1.1, conBMu x.1.1⟩ : Ann))] ky9) Tryd.func66 (by kernel_rfl) (by kernel_rfl) (fun x => [pLen x.1.1 < 1000000, pLen (joinF x.1.1) < 1000000]) [] [.slot 0 true tyB] (fun x => (joinF x.1.1, ())) (fun x => concat_VC x.1.1) (fun x => by kernel_rfl) (fun x hp => h x.1.1 hp)

def topen_VC (td : (List ByteD)) (tn : Int) : Prop :=
  bif pLt tn (0 : Int) then (([], (0 : Int), ()), Bool.false, ()) = ((opD td tn, opN td tn, ()), tapeOk td tn, ()) else bif pGt tn (pInt (pLen td)) then (([], (0 : Int), ()), Bool.false, ()) = ((opD td tn, opN td tn, ()),
    tapeOk td tn, ()) else bif pGt (pInt (pLen td)) (6000 : Int) then (([], (0 : Int), ()), Bool.false, ()) = ((opD td tn, opN td tn, ()), tapeOk td tn, ()) else pRoom (pLen td) 1 ∧ ((td, tn, ()), Bool.true, ()) = ((opD td
    tn, opN td tn, ()), tapeOk td tn, ())
set_option maxRecDepth 100000 in
theorem topen_meets (hcloneBo : Meets Tryd.prog (fun _ => none) 54 ccloneBo) (h : ∀ (td : (List ByteD)) (tn : Int), (∀ p ∈ (fun x => [pLen x.1.1.1 < 4611686018427387904, pRoom (pLen x.1.1.1) 1] : Shape.den ⟨[pTape], []⟩ → List Prop) ⟨((td, tn, ()), ()), ()⟩, p) → topen_VC td tn) : Meets Tryd.prog (fun _ => none) 65 ctopen :=
  meets_vc (E := envOf Tryd.prog [(54, (false, ccloneBo))] [104, 39, 30]) (envOf_ok (fun p hp => (by simp only [List.mem_cons, List.not_mem_nil, or_false] at hp; rcases hp with rfl; exact hcloneBo)) (by kernel_rfl)) ⟨[pTape], []⟩ (fun x => fun ky9 st9 => look [] ky9) Tryd.func65 (by kernel_rfl) (by kernel_rfl) (fun x => [pLen x.1.1.1 < 4611686018427387904, pRoom (pLen x.1.1.1) 1]) [] [.agg 0 vTape, .slot 1 false .bool] (fun x => ((opD x.1.1.1 x.1.1.2.1, opN x.1.1.1 x.1.1.2.1, ()), tapeOk x.1.1.1 x.1.1.2.1, ())) (fun x => topen_VC x.1.1.1 x.1.1.2.1) (fun x => by kernel_rfl) (fun x hp => h x.1.1.1 x.1.1.2.1 hp)

def topenR_VC (td : (List ByteD)) (tn : Int) : Prop :=
  bif pLt tn (0 : Int) then (([], (0 : Int), ()), Bool.false, ()) = ((opD td tn, opN td tn, ()), tapeOk td tn, ()) else bif pGt tn (pInt (pLen td)) then (([], (0 : Int), ()), Bool.false, ()) = ((opD td tn, opN td tn, ()),
    tapeOk td tn, ()) else bif pGt (pInt (pLen td)) (6000 : Int) then (([], (0 : Int), ()), Bool.false, ()) = ((opD td tn, opN td tn, ()), tapeOk td tn, ()) else pRoom (pLen td) 1 ∧ ((td, tn, ()), Bool.true, ()) = ((opD td
    tn, opN td tn, ()), tapeOk td tn, ())
set_option maxRecDepth 100000 in
theorem topenR_meets (hcloneB : Meets Tryd.prog (fun _ => none) 54 ccloneB) (h : ∀ (td : (List ByteD)) (tn : Int), (∀ p ∈ (fun x => [pLen x.1.1.1 < 4611686018427387904, pRoom (pLen x.1.1.1) 1] : Shape.den ⟨[pTape], []⟩ → List Prop) ⟨((td, tn, ()), ()), ()⟩, p) → topenR_VC td tn) : Meets Tryd.prog (fun _ => none) 65 ctopenR :=
  meets_vc (E := envOf Tryd.prog [(54, (false, ccloneB))] [104, 39, 30]) (envOf_ok (fun p hp => (by simp only [List.mem_cons, List.not_mem_nil, or_false] at hp; rcases hp with rfl; exact hcloneB)) (by kernel_rfl)) ⟨[pTape], []⟩ (fun x => fun ky9 st9 => look [] ky9) Tryd.func65 (by kernel_rfl) (by kernel_rfl) (fun x => [pLen x.1.1.1 < 4611686018427387904, pRoom (pLen x.1.1.1) 1]) [] [.agg 0 vTapeR, .slot 1 false .bool] (fun x => ((opD x.1.1.1 x.1.1.2.1, opN x.1.1.1 x.1.1.2.1, ()), tapeOk x.1.1.1 x.1.1.2.1, ())) (fun x => topenR_VC x.1.1.1 x.1.1.2.1) (fun x => by kernel_rfl) (fun x hp => h x.1.1.1 x.1.1.2.1 hp)

def tMay_VC (td : (List ByteD)) (tn : Int) : Prop :=
  bif pLe (pInt (pLen td)) (6000 : Int) then (inF tn (0 : Int) (pInt (pLen td)), ()) = (tapeOk td tn, ()) else (Bool.false, ()) = (tapeOk td tn, ())
set_option maxRecDepth 100000 in
theorem tMay_meets (hIn : Meets Tryd.prog (fun _ => none) 53 cIn) (h : ∀ (td : (List ByteD)) (tn : Int), (∀ p ∈ (fun x => [pLen x.1.1.1 < 4611686018427387904] : Shape.den ⟨[pTape], []⟩ → List Prop) ⟨((td, tn, ()), ()), ()⟩, p) → tMay_VC td tn) : Meets Tryd.prog (fun _ => none) 67 ctMay :=
  meets_vc (E := envOf Tryd.prog [(53, (false, cIn))] [104, 39, 30]) (envOf_ok (fun p hp => (by simp only [List.mem_cons, List.not_mem_nil, or_false] at hp; rcases hp with rfl; exact hIn)) (by kernel_rfl)) ⟨[pTape], []⟩ (fun x => fun ky9 st9 => look [] ky9) Tryd.func67 (by kernel_rfl) (by kernel_rfl) (fun x => [pLen x.1.1.1 < 4611686018427387904]) [] [.slot 0 false .bool] (fun x => (tapeOk x.1.1.1 x.1.1.2.1, ())) (fun x => tMay_VC x.1.1.1 x.1.1.2.1) (fun x => by kernel_rfl) (fun x hp => h x.1.1.1 x.1.1.2.1 hp)

end Go.Proofs.YtkimjjndbcbiaaaDoor
