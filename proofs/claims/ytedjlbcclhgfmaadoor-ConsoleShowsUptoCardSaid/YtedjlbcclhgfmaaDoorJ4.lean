/- What operators see, the document's side: functions meet their contracts. No condition. -/
import Derived.Test.YtedjlbcclhgfmaaDoorJ3
import Derived.Test.YtedjlbcclhgfmaaDoorJ1

/- Contracts, and what the evaluator says, as plain propositions: CsV. Printed by vc.py. -/
namespace Go.Proofs.YtedjlbcclhgfmaaDoor
open Go.RowKit Go.ChangeShapes Go.WideShapes Go.Deep

abbrev prepared_S : Shape := ⟨[pSto, pTxn], []⟩
abbrev prepared_f : Shape.den prepared_S → denVars [.slot 0 false .bool] := fun x => (prepF x.1.1 x.1.2.1, ())
abbrev prepared_p : Shape.den prepared_S → List Prop := fun x => [pLen x.1.1.1 < 4611686018427387904, pLen x.1.1.2.1 < 4611686018427387904, pLen x.1.1.2.2.1 < 4611686018427387904, pLen x.1.1.2.2.2.1 < 4611686018427387904]
def cprepared : Ctr := shCtr prepared_S prepared_p [] [.slot 0 false .bool] prepared_f
def cpreparedAt : Ctr := shCtr prepared_S prepared_p [] [.slot 0 false .bool] prepared_f
abbrev cFault0_S : Shape := ⟨[pCfg], []⟩
abbrev cFault0_f : Shape.den cFault0_S → denVars [.slot 0 false tI] := fun x => (0, ())
abbrev cFault0_p : Shape.den cFault0_S → List Prop := fun x => [pLen x.1.1.2.1 < 4611686018427387904, cfgF x.1.1 = 0]
def ccFault0 : Ctr := shCtr cFault0_S cFault0_p [] [.slot 0 false tI] cFault0_f
abbrev labelMay1_S : Shape := ⟨[pCfg, .one (.rd tI)], []⟩
abbrev labelMay1_f : Shape.den labelMay1_S → denVars [.slot 0 false .bool] := fun x => (true, ())
abbrev labelMay1_p : Shape.den labelMay1_S → List Prop := fun x => [pLen x.1.1.2.1 < 4611686018427387904, placeF x.1.1 x.1.2.1 = true]
def clabelMay1 : Ctr := shCtr labelMay1_S labelMay1_p [] [.slot 0 false .bool] labelMay1_f
abbrev StoreMay1_S : Shape := ⟨[pSto], []⟩
abbrev StoreMay1_f : Shape.den StoreMay1_S → denVars [.slot 0 false .bool] := fun x => (true, ())
abbrev StoreMay1_p : Shape.den StoreMay1_S → List Prop := fun x => [pLen x.1.1.1 < 4611686018427387904, pLen x.1.1.2.1 < 4611686018427387904, pLen x.1.1.2.2.1 < 4611686018427387904, pLen x.1.1.2.2.2.1 < 4611686018427387904, stoF x.1.1 = true]
def cStoreMay1 : Ctr := shCtr StoreMay1_S StoreMay1_p [] [.slot 0 false .bool] StoreMay1_f
abbrev plainTxn1_S : Shape := ⟨[pTxn], []⟩
abbrev plainTxn1_f : Shape.den plainTxn1_S → denVars [.slot 0 false .bool] := fun x => (true, ())
abbrev plainTxn1_p : Shape.den plainTxn1_S → List Prop := fun x => [txnF x.1.1 = true]
def cplainTxn1 : Ctr := shCtr plainTxn1_S plainTxn1_p [] [.slot 0 false .bool] plainTxn1_f
abbrev Shown1_S : Shape := ⟨[pCfg, .one (.rd tI), .one (.rd (.sl tySto)), .one (.rd (.sl tyNotes)), pCmd], []⟩
abbrev Shown1_f : Shape.den Shown1_S → denVars [.slot 0 false .str, .slot 1 false tI] := fun x => (shwS x.1.1 x.1.2.1 x.1.2.2.1 x.1.2.2.2.1 (x.1.2.2.2.2.1.1, x.1.2.2.2.2.1.2), 0, ())
abbrev Shown1_p : Shape.den Shown1_S → List Prop := fun x => [x.1.2.2.2.2.1.1 = 1, pLen x.1.1.2.1 < 4611686018427387904, pLen x.1.2.2.1 < 4611686018427387904, pLen x.1.2.2.2.1 < 4611686018427387904, (∀ q ∈ x.1.2.2.1, pLen q.1 < 4611686018427387904 ∧ pLen q.2.1 < 4611686018427387904 ∧ pLen q.2.2.1 < 4611686018427387904 ∧ pLen q.2.2.2.1 < 4611686018427387904), (∀ q ∈ x.1.2.2.2.1, pLen q.1 < 4611686018427387904), pBulk x.1.2.2.1 x.1.2.2.2.1, shwE x.1.1 x.1.2.1 x.1.2.2.1 x.1.2.2.2.1 (x.1.2.2.2.2.1.1, x.1.2.2.2.2.1.2) = 0]
def cShown1 : Ctr := shCtr Shown1_S Shown1_p [] [.slot 0 false .str, .slot 1 false tI] Shown1_f
abbrev Shown2_p : Shape.den Shown1_S → List Prop := fun x => [x.1.2.2.2.2.1.1 = 2, pLen x.1.1.2.1 < 4611686018427387904, pLen x.1.2.2.1 < 4611686018427387904, pLen x.1.2.2.2.1 < 4611686018427387904, (∀ q ∈ x.1.2.2.1, pLen q.1 < 4611686018427387904 ∧ pLen q.2.1 < 4611686018427387904 ∧ pLen q.2.2.1 < 4611686018427387904 ∧ pLen q.2.2.2.1 < 4611686018427387904), (∀ q ∈ x.1.2.2.2.1, pLen q.1 < 4611686018427387904), pBulk x.1.2.2.1 x.1.2.2.2.1, shwE x.1.1 x.1.2.1 x.1.2.2.1 x.1.2.2.2.1 (x.1.2.2.2.2.1.1, x.1.2.2.2.2.1.2) = 0]
def cShown2 : Ctr := shCtr Shown1_S Shown2_p [] [.slot 0 false .str, .slot 1 false tI] Shown1_f
abbrev Shown4_p : Shape.den Shown1_S → List Prop := fun x => [x.1.2.2.2.2.1.1 = 4, pLen x.1.1.2.1 < 4611686018427387904, pLen x.1.2.2.1 < 4611686018427387904, pLen x.1.2.2.2.1 < 4611686018427387904, (∀ q ∈ x.1.2.2.1, pLen q.1 < 4611686018427387904 ∧ pLen q.2.1 < 4611686018427387904 ∧ pLen q.2.2.1 < 4611686018427387904 ∧ pLen q.2.2.2.1 < 4611686018427387904), (∀ q ∈ x.1.2.2.2.1, pLen q.1 < 4611686018427387904), pBulk x.1.2.2.1 x.1.2.2.2.1, shwE x.1.1 x.1.2.1 x.1.2.2.1 x.1.2.2.2.1 (x.1.2.2.2.2.1.1, x.1.2.2.2.2.1.2) = 0]
def cShown4 : Ctr := shCtr Shown1_S Shown4_p [] [.slot 0 false .str, .slot 1 false tI] Shown1_f
abbrev cFault1_f : Shape.den cFault0_S → denVars [.slot 0 false tI] := fun x => (1, ())
abbrev cFault1_p : Shape.den cFault0_S → List Prop := fun x => [pLen x.1.1.2.1 < 4611686018427387904, cfgF x.1.1 = 1]
def ccFault1 : Ctr := shCtr cFault0_S cFault1_p [] [.slot 0 false tI] cFault1_f
abbrev cFault2_f : Shape.den cFault0_S → denVars [.slot 0 false tI] := fun x => (2, ())
abbrev cFault2_p : Shape.den cFault0_S → List Prop := fun x => [pLen x.1.1.2.1 < 4611686018427387904, cfgF x.1.1 = 2]
def ccFault2 : Ctr := shCtr cFault0_S cFault2_p [] [.slot 0 false tI] cFault2_f
abbrev cFault7_f : Shape.den cFault0_S → denVars [.slot 0 false tI] := fun x => (7, ())
abbrev cFault7_p : Shape.den cFault0_S → List Prop := fun x => [pLen x.1.1.2.1 < 4611686018427387904, cfgF x.1.1 = 7]
def ccFault7 : Ctr := shCtr cFault0_S cFault7_p [] [.slot 0 false tI] cFault7_f
abbrev labelMay0_f : Shape.den labelMay1_S → denVars [.slot 0 false .bool] := fun x => (false, ())
abbrev labelMay0_p : Shape.den labelMay1_S → List Prop := fun x => [pLen x.1.1.2.1 < 4611686018427387904, placeF x.1.1 x.1.2.1 = false]
def clabelMay0 : Ctr := shCtr labelMay1_S labelMay0_p [] [.slot 0 false .bool] labelMay0_f
abbrev ShownE1_f : Shape.den Shown1_S → denVars [.slot 0 false .str, .slot 1 false tI] := fun x => (bs [], 1, ())
abbrev ShownE1_p : Shape.den Shown1_S → List Prop := fun x => [pLen x.1.1.2.1 < 4611686018427387904, pLen x.1.2.2.1 < 4611686018427387904, pLen x.1.2.2.2.1 < 4611686018427387904, (∀ q ∈ x.1.2.2.1, pLen q.1 < 4611686018427387904 ∧ pLen q.2.1 < 4611686018427387904 ∧ pLen q.2.2.1 < 4611686018427387904 ∧ pLen q.2.2.2.1 < 4611686018427387904), (∀ q ∈ x.1.2.2.2.1, pLen q.1 < 4611686018427387904), pBulk x.1.2.2.1 x.1.2.2.2.1, cfgF x.1.1 = 1]
def cShownE1 : Ctr := shCtr Shown1_S ShownE1_p [] [.slot 0 false .str, .slot 1 false tI] ShownE1_f
abbrev ShownE2_f : Shape.den Shown1_S → denVars [.slot 0 false .str, .slot 1 false tI] := fun x => (bs [], 2, ())
abbrev ShownE2_p : Shape.den Shown1_S → List Prop := fun x => [pLen x.1.1.2.1 < 4611686018427387904, pLen x.1.2.2.1 < 4611686018427387904, pLen x.1.2.2.2.1 < 4611686018427387904, (∀ q ∈ x.1.2.2.1, pLen q.1 < 4611686018427387904 ∧ pLen q.2.1 < 4611686018427387904 ∧ pLen q.2.2.1 < 4611686018427387904 ∧ pLen q.2.2.2.1 < 4611686018427387904), (∀ q ∈ x.1.2.2.2.1, pLen q.1 < 4611686018427387904), pBulk x.1.2.2.1 x.1.2.2.2.1, cfgF x.1.1 = 2]
def cShownE2 : Ctr := shCtr Shown1_S ShownE2_p [] [.slot 0 false .str, .slot 1 false tI] ShownE2_f
abbrev ShownE7_f : Shape.den Shown1_S → denVars [.slot 0 false .str, .slot 1 false tI] := fun x => (bs [], 7, ())
abbrev ShownE7_p : Shape.den Shown1_S → List Prop := fun x => [pLen x.1.1.2.1 < 4611686018427387904, pLen x.1.2.2.1 < 4611686018427387904, pLen x.1.2.2.2.1 < 4611686018427387904, (∀ q ∈ x.1.2.2.1, pLen q.1 < 4611686018427387904 ∧ pLen q.2.1 < 4611686018427387904 ∧ pLen q.2.2.1 < 4611686018427387904 ∧ pLen q.2.2.2.1 < 4611686018427387904), (∀ q ∈ x.1.2.2.2.1, pLen q.1 < 4611686018427387904), pBulk x.1.2.2.1 x.1.2.2.2.1, cfgF x.1.1 = 7]
def cShownE7 : Ctr := shCtr Shown1_S ShownE7_p [] [.slot 0 false .str, .slot 1 false tI] ShownE7_f
abbrev ShownE6_f : Shape.den Shown1_S → denVars [.slot 0 false .str, .slot 1 false tI] := fun x => (bs [], 6, ())
abbrev ShownE6_p : Shape.den Shown1_S → List Prop := fun x => [pLen x.1.1.2.1 < 4611686018427387904, pLen x.1.2.2.1 < 4611686018427387904, pLen x.1.2.2.2.1 < 4611686018427387904, (∀ q ∈ x.1.2.2.1, pLen q.1 < 4611686018427387904 ∧ pLen q.2.1 < 4611686018427387904 ∧ pLen q.2.2.1 < 4611686018427387904 ∧ pLen q.2.2.2.1 < 4611686018427387904), (∀ q ∈ x.1.2.2.2.1, pLen q.1 < 4611686018427387904), pBulk x.1.2.2.1 x.1.2.2.2.1, cfgF x.1.1 = 0, placeF x.1.1 x.1.2.1 = false]
def cShownE6 : Ctr := shCtr Shown1_S ShownE6_p [] [.slot 0 false .str, .slot 1 false tI] ShownE6_f
abbrev ShownEL_f : Shape.den Shown1_S → denVars [.slot 0 false .str, .slot 1 false tI] := fun x => (bs [], 9, ())
abbrev ShownEL_p : Shape.den Shown1_S → List Prop := fun x => [pLen x.1.1.2.1 < 4611686018427387904, pLen x.1.2.2.1 < 4611686018427387904, pLen x.1.2.2.2.1 < 4611686018427387904, (∀ q ∈ x.1.2.2.1, pLen q.1 < 4611686018427387904 ∧ pLen q.2.1 < 4611686018427387904 ∧ pLen q.2.2.1 < 4611686018427387904 ∧ pLen q.2.2.2.1 < 4611686018427387904), (∀ q ∈ x.1.2.2.2.1, pLen q.1 < 4611686018427387904), pBulk x.1.2.2.1 x.1.2.2.2.1, cfgF x.1.1 = 0, placeF x.1.1 x.1.2.1 = true, lensF x.1.1 x.1.2.2.1 x.1.2.2.2.1 = false]
def cShownEL : Ctr := shCtr Shown1_S ShownEL_p [] [.slot 0 false .str, .slot 1 false tI] ShownEL_f
abbrev ShownES_p : Shape.den Shown1_S → List Prop := fun x => [pLen x.1.1.2.1 < 4611686018427387904, pLen x.1.2.2.1 < 4611686018427387904, pLen x.1.2.2.2.1 < 4611686018427387904, (∀ q ∈ x.1.2.2.1, pLen q.1 < 4611686018427387904 ∧ pLen q.2.1 < 4611686018427387904 ∧ pLen q.2.2.1 < 4611686018427387904 ∧ pLen q.2.2.2.1 < 4611686018427387904), (∀ q ∈ x.1.2.2.2.1, pLen q.1 < 4611686018427387904), pBulk x.1.2.2.1 x.1.2.2.2.1, cfgF x.1.1 = 0, placeF x.1.1 x.1.2.1 = true, pLen x.1.2.2.1 = pLen x.1.1.2.1, pLen x.1.2.2.2.1 = pLen x.1.1.2.1, stosF x.1.2.2.1 = false]
def cShownES : Ctr := shCtr Shown1_S ShownES_p [] [.slot 0 false .str, .slot 1 false tI] ShownEL_f
abbrev ShownEN_p : Shape.den Shown1_S → List Prop := fun x => [pLen x.1.1.2.1 < 4611686018427387904, pLen x.1.2.2.1 < 4611686018427387904, pLen x.1.2.2.2.1 < 4611686018427387904, (∀ q ∈ x.1.2.2.1, pLen q.1 < 4611686018427387904 ∧ pLen q.2.1 < 4611686018427387904 ∧ pLen q.2.2.1 < 4611686018427387904 ∧ pLen q.2.2.2.1 < 4611686018427387904), (∀ q ∈ x.1.2.2.2.1, pLen q.1 < 4611686018427387904), pBulk x.1.2.2.1 x.1.2.2.2.1, cfgF x.1.1 = 0, placeF x.1.1 x.1.2.1 = true, pLen x.1.2.2.1 = pLen x.1.1.2.1, pLen x.1.2.2.2.1 = pLen x.1.1.2.1, stosF x.1.2.2.1 = true, notsF x.1.2.2.2.1 = false]
def cShownEN : Ctr := shCtr Shown1_S ShownEN_p [] [.slot 0 false .str, .slot 1 false tI] ShownEL_f
abbrev ShownEK_f : Shape.den Shown1_S → denVars [.slot 0 false .str, .slot 1 false tI] := fun x => (bs [], 3, ())
abbrev ShownEK_p : Shape.den Shown1_S → List Prop := fun x => [pLen x.1.1.2.1 < 4611686018427387904, pLen x.1.2.2.1 < 4611686018427387904, pLen x.1.2.2.2.1 < 4611686018427387904, (∀ q ∈ x.1.2.2.1, pLen q.1 < 4611686018427387904 ∧ pLen q.2.1 < 4611686018427387904 ∧ pLen q.2.2.1 < 4611686018427387904 ∧ pLen q.2.2.2.1 < 4611686018427387904), (∀ q ∈ x.1.2.2.2.1, pLen q.1 < 4611686018427387904), pBulk x.1.2.2.1 x.1.2.2.2.1, cfgF x.1.1 = 0, placeF x.1.1 x.1.2.1 = true, pLen x.1.2.2.1 = pLen x.1.1.2.1, pLen x.1.2.2.2.1 = pLen x.1.1.2.1, stosF x.1.2.2.1 = true, notsF x.1.2.2.2.1 = true, kindF x.1.2.2.2.2.1.1 = false]
def cShownEK : Ctr := shCtr Shown1_S ShownEK_p [] [.slot 0 false .str, .slot 1 false tI] ShownEK_f
abbrev eqsCsV : List TypeId := [83]

def prepared_VC (s : StoD) (t : TxnD) : Prop :=
  Nat.le (Nat.succ (pLen s.1)) 4611686018427387904 ∧ Nat.le (Nat.succ (pLen s.2.1)) 4611686018427387904 ∧ Nat.le (Nat.succ (pLen s.2.2.1)) 4611686018427387904 ∧ Nat.le (Nat.succ (pLen s.2.2.2.1)) 4611686018427387904 ∧ bif pEq (askE s t (0 :
 Int)) (0 : Int) then (pGt (bif pEq (askE s t (0 : Int)) (0 : Int) then cntW s.2.1 t.1 t.2.1 else (0 : Int)) (0 : Int), ()) = (prepF s t, ()) else (Bool.false, ()) = (prepF s t, ())
set_option maxRecDepth 100000 in
theorem prepared_meets (hWrites : Mt 29 cWrites) (h : ∀ (s : StoD) (t : TxnD), (∀ p ∈ prepared_p ⟨(s, t, ()), ()⟩, p) → prepared_VC s t) : Mt 33 cprepared :=
  meets_vc (E := envOf Tryd.prog [(29, (false, cWrites))] eqsCsV) (envOf_ok (fun p hp => (by simp only [List.mem_cons, List.not_mem_nil, or_false] at hp; rcases hp with rfl; exact hWrites)) (by kernel_rfl)) prepared_S (fun x => fun ky9 st9 => look [] ky9) Tryd.func33 (by kernel_rfl) (by kernel_rfl) prepared_p [] [.slot 0 false .bool] prepared_f (fun x => prepared_VC x.1.1 x.1.2.1) (fun x => by kernel_rfl) (fun x hp => h x.1.1 x.1.2.1 hp)

def preparedAt_VC (s : StoD) (t : TxnD) : Prop :=
  Nat.le (Nat.succ (pLen s.1)) 4611686018427387904 ∧ Nat.le (Nat.succ (pLen s.2.1)) 4611686018427387904 ∧ Nat.le (Nat.succ (pLen s.2.2.1)) 4611686018427387904 ∧ Nat.le (Nat.succ (pLen s.2.2.2.1)) 4611686018427387904 ∧ bif pEq (askE s t (0 :
 Int)) (0 : Int) then (pGt (bif pEq (askE s t (0 : Int)) (0 : Int) then cntW s.2.1 t.1 t.2.1 else (0 : Int)) (0 : Int), ()) = (prepF s t, ()) else (Bool.false, ()) = (prepF s t, ())
set_option maxRecDepth 100000 in
theorem preparedAt_meets (hWritesOf : Mt 68 cWritesOf) (h : ∀ (s : StoD) (t : TxnD), (∀ p ∈ prepared_p ⟨(s, t, ()), ()⟩, p) → preparedAt_VC s t) : Mt 38 cpreparedAt :=
  meets_vc (E := envOf Tryd.prog [(68, (false, cWritesOf))] eqsCsV) (envOf_ok (fun p hp => (by simp only [List.mem_cons, List.not_mem_nil, or_false] at hp; rcases hp with rfl; exact hWritesOf)) (by kernel_rfl)) prepared_S (fun x => fun ky9 st9 => look [] ky9) Tryd.func38 (by kernel_rfl) (by kernel_rfl) prepared_p [] [.slot 0 false .bool] prepared_f (fun x => preparedAt_VC x.1.1 x.1.2.1) (fun x => by kernel_rfl) (fun x hp => h x.1.1 x.1.2.1 hp)

abbrev Shown1_v0 (ss : List StoD) (y0 : kden Bool.false tI × kden Bool.false (litT 0) × PUnit) := pGet tySto ss (pNat y0.1)
abbrev Shown1_v1 (ns : List NotesD) (y1 : kden Bool.false tI × kden Bool.false (litT 0) × PUnit) := (pGet tyNotes ns (pNat y1.1)).1
abbrev Shown1_v2 (ss : List StoD) (y2 : kden Bool.false tI × kden Bool.false Ty.str × PUnit) := pGet tySto ss (pNat y2.1)
abbrev Shown1_v3 (ss : List StoD) (y2 : kden Bool.false tI × kden Bool.false Ty.str × PUnit) (y3 : kden Bool.false tI × kden Bool.false Ty.str × PUnit) := (pGet tyItem (Shown1_v2 ss y2).2.2.1 (pNat y3.1)).1
abbrev Shown1_v4 (ss : List StoD) (y2 : kden Bool.false tI × kden Bool.false Ty.str × PUnit) (y3 : kden Bool.false tI × kden Bool.false Ty.str × PUnit) := (pGet tyItem (Shown1_v2 ss y2).2.2.1 (pNat y3.1)).2
abbrev Shown1_v5 (ss : List StoD) (y2 : kden Bool.false tI × kden Bool.false Ty.str × PUnit) (y3 : kden Bool.false tI × kden Bool.false Ty.str × PUnit) := pStrApp (pStrApp (pStrApp (pStrApp (pStrApp y3.2.1 (pItoa y2.1)) (bs [32])) (pItoa (Shown1_v3 ss y2 y3))) (bs [32])) (pItoa (Shown1_v4 ss y2 y3).1)
abbrev Shown1_v6 (ss : List StoD) (y2 : kden Bool.false tI × kden Bool.false Ty.str × PUnit) (y3 : kden Bool.false tI × kden Bool.false Ty.str × PUnit) := (pAdd IntKind.i64 y3.1 (1 : Int), pStrApp (pStrApp (pStrApp (Shown1_v5 ss y2 y3) (bs [32])) (pItoa (Shown1_v4 ss y2 y3).2.1)) (bs [10]), ())
abbrev Shown1_t7 (c : CfgD) (l : Int) (ss : List StoD) (y2 : kden Bool.false tI × kden Bool.false Ty.str × PUnit) (y4 : kden Bool.false tI × kden Bool.false Ty.str × PUnit) : Prop := so1DInv c l ss (pAdd IntKind.i64 y2.1 (1 : Int), y4.2) ∧ Nat.le (Nat.succ (so1DMu c l ss (pAdd IntKind.i64 y2.1 (1 : Int), y4.2))) (so1DMu c l ss y2)

def Shown1_VC (c : CfgD) (l : Int) (ss : (List StoD)) (ns : (List NotesD)) (xr : CmdR) : Prop :=
  Nat.le (Nat.succ (pLen c.2.1)) 4611686018427387904 ∧ cfgF c = (0 : Int) ∧ Nat.le (Nat.succ (pLen c.2.1)) 4611686018427387904 ∧ placeF c l = Bool.true ∧ bif pNe (pInt (pLen ss)) (pInt (pLen c.2.1)) then False else bif pNe (pInt (pLen ns))
 (pInt (pLen c.2.1)) then False else zoAInv ss ((0 : Int), (), ()) ∧ ∀ (y0 : kden Bool.false tI × kden Bool.false (litT 0) × PUnit), zoAInv ss y0 → bif pLt y0.1 (pInt (pLen ss)) then pIn y0.1 (pLen ss) ∧ Nat.le (Nat.succ (pLen (Shown1_v0 ss
 y0).1)) 4611686018427387904 ∧ Nat.le (Nat.succ (pLen (Shown1_v0 ss y0).2.1)) 4611686018427387904 ∧ Nat.le (Nat.succ (pLen (Shown1_v0 ss y0).2.2.1)) 4611686018427387904 ∧ Nat.le (Nat.succ (pLen (Shown1_v0 ss y0).2.2.2.1)) 4611686018427387904
 ∧ stoF (Shown1_v0 ss y0) = Bool.true ∧ zoAInv ss (pAdd IntKind.i64 y0.1 (1 : Int), (), ()) ∧ Nat.le (Nat.succ (zoAMu ss (pAdd IntKind.i64 y0.1 (1 : Int), (), ()))) (zoAMu ss y0) else zoBInv ns ((0 : Int), (), ()) ∧ ∀ (y1 : kden Bool.false
 tI × kden Bool.false (litT 0) × PUnit), zoBInv ns y1 → bif pLt y1.1 (pInt (pLen ns)) then zoCInv ns y1.1 ((0 : Int), (), ()) ∧ ∀ (y5 : kden Bool.false tI × kden Bool.false (litT 0) × PUnit), zoCInv ns y1.1 y5 → pIn y1.1 (pLen ns) ∧ bif pLt
 y5.1 (pInt (pLen (Shown1_v1 ns y1))) then pIn y1.1 (pLen ns) ∧ pIn y5.1 (pLen (Shown1_v1 ns y1)) ∧ txnF ((pGet tyNote (Shown1_v1 ns y1) (pNat y5.1)).1, (pGet tyNote (Shown1_v1 ns y1) (pNat y5.1)).2.1, ()) = Bool.true ∧ zoCInv ns y1.1 (pAdd
 IntKind.i64 y5.1 (1 : Int), (), ()) ∧ Nat.le (Nat.succ (zoCMu ns y1.1 (pAdd IntKind.i64 y5.1 (1 : Int), (), ()))) (zoCMu ns y1.1 y5) else zoBInv ns (pAdd IntKind.i64 y1.1 (1 : Int), (), ()) ∧ Nat.le (Nat.succ (zoBMu ns (pAdd IntKind.i64
 y1.1 (1 : Int), (), ()))) (zoBMu ns y1) else so1DInv c l ss ((0 : Int), (bs []), ()) ∧ ∀ (y2 : kden Bool.false tI × kden Bool.false Ty.str × PUnit), so1DInv c l ss y2 → bif pLt y2.1 (pInt (pLen c.2.1)) then pIn l (pLen c.2.1) ∧ pIn y2.1
 (pLen c.2.1) ∧ bif pNot (aboveF (pGet tyTxn c.2.1 (pNat l)) (pGet tyTxn c.2.1 (pNat y2.1))) then so1DInv c l ss (pAdd IntKind.i64 y2.1 (1 : Int), y2.2) ∧ Nat.le (Nat.succ (so1DMu c l ss (pAdd IntKind.i64 y2.1 (1 : Int), y2.2))) (so1DMu c l
 ss y2) else so1EInv ss y2.2.1 y2.1 ((0 : Int), y2.2) ∧ ∀ (y3 : kden Bool.false tI × kden Bool.false Ty.str × PUnit), so1EInv ss y2.2.1 y2.1 y3 → pIn y2.1 (pLen ss) ∧ bif pLt y3.1 (pInt (pLen (Shown1_v2 ss y2).2.2.1)) then pIn y2.1 (pLen ss)
 ∧ pIn y3.1 (pLen (Shown1_v2 ss y2).2.2.1) ∧ pIn y2.1 (pLen ss) ∧ Nat.le (Nat.succ (pLen (Shown1_v2 ss y2).1)) 4611686018427387904 ∧ Nat.le (Nat.succ (pLen (Shown1_v2 ss y2).2.1)) 4611686018427387904 ∧ Nat.le (Nat.succ (pLen (Shown1_v2 ss
 y2).2.2.1)) 4611686018427387904 ∧ Nat.le (Nat.succ (pLen (Shown1_v2 ss y2).2.2.2.1)) 4611686018427387904 ∧ bif prepF (Shown1_v2 ss y2) (Shown1_v3 ss y2 y3, (Shown1_v4 ss y2 y3).1, ()) then pLe (0 : Int) y2.1 = Bool.true ∧ pLe y2.1
 (9223372036854775807 : Int) = Bool.true ∧ pStrFits y3.2.1 (pItoa y2.1) ∧ pStrFits (pStrApp y3.2.1 (pItoa y2.1)) (bs [32]) ∧ pLe (0 : Int) (Shown1_v3 ss y2 y3) = Bool.true ∧ pLe (Shown1_v3 ss y2 y3) (9223372036854775807 : Int) = Bool.true ∧
 pStrFits (pStrApp (pStrApp y3.2.1 (pItoa y2.1)) (bs [32])) (pItoa (Shown1_v3 ss y2 y3)) ∧ pStrFits (pStrApp (pStrApp (pStrApp y3.2.1 (pItoa y2.1)) (bs [32])) (pItoa (Shown1_v3 ss y2 y3))) (bs [32]) ∧ pLe (0 : Int) (Shown1_v4 ss y2 y3).1 =
 Bool.true ∧ pLe (Shown1_v4 ss y2 y3).1 (9223372036854775807 : Int) = Bool.true ∧ pStrFits (pStrApp (pStrApp (pStrApp (pStrApp y3.2.1 (pItoa y2.1)) (bs [32])) (pItoa (Shown1_v3 ss y2 y3))) (bs [32])) (pItoa (Shown1_v4 ss y2 y3).1) ∧ pStrFits
 (Shown1_v5 ss y2 y3) (bs [32]) ∧ pLe (0 : Int) (Shown1_v4 ss y2 y3).2.1 = Bool.true ∧ pLe (Shown1_v4 ss y2 y3).2.1 (9223372036854775807 : Int) = Bool.true ∧ pStrFits (pStrApp (Shown1_v5 ss y2 y3) (bs [32])) (pItoa (Shown1_v4 ss y2 y3).2.1)
 ∧ pStrFits (pStrApp (pStrApp (Shown1_v5 ss y2 y3) (bs [32])) (pItoa (Shown1_v4 ss y2 y3).2.1)) (bs [10]) ∧ so1EInv ss y2.2.1 y2.1 (Shown1_v6 ss y2 y3) ∧ Nat.le (Nat.succ (so1EMu ss y2.2.1 y2.1 (Shown1_v6 ss y2 y3))) (so1EMu ss y2.2.1 y2.1
 y3) else so1EInv ss y2.2.1 y2.1 (pAdd IntKind.i64 y3.1 (1 : Int), y3.2) ∧ Nat.le (Nat.succ (so1EMu ss y2.2.1 y2.1 (pAdd IntKind.i64 y3.1 (1 : Int), y3.2))) (so1EMu ss y2.2.1 y2.1 y3) else so1FInv ns y3.2.1 y2.1 ((0 : Int), y3.2) ∧ ∀ (y4 :
 kden Bool.false tI × kden Bool.false Ty.str × PUnit), so1FInv ns y3.2.1 y2.1 y4 → pIn y2.1 (pLen ns) ∧ bif pLt y4.1 (pInt (pLen (pGet tyNotes ns (pNat y2.1)).1)) then Shown1_t7 c l ss y2 y4 else Shown1_t7 c l ss y2 y4 else (y2.2.1, (0 :
 Int), ()) = (shwS c l ss ns ((1 : Int), xr), (0 : Int), ())
set_option maxRecDepth 100000 in
theorem Shown1_meets (hcFault0 : Mt 25 ccFault0) (hlabelMay1 : Mt 34 clabelMay1) (hStoreMay1 : Mt 35 cStoreMay1) (hplainTxn1 : Mt 36 cplainTxn1) (hdomin : Mt 37 cdomin) (hpreparedAt : Mt 38 cpreparedAt) (hDec : Mt 39 cDec) (h : ∀ (c : CfgD) (l : Int) (ss : (List StoD)) (ns : (List NotesD)) (xr : CmdR), (∀ p ∈ Shown1_p ⟨(c, l, ss, ns, ((1 : Int), xr), ()), ()⟩, p) → Shown1_VC c l ss ns xr) : Mt 10 cShown1 :=
  meets_vcAt (E := envOf Tryd.prog [(25, (false, ccFault0)), (34, (false, clabelMay1)), (35, (false, cStoreMay1)), (36, (false, cplainTxn1)), (37, (false, cdomin)), (38, (false, cpreparedAt)), (39, (false, cDec))] eqsCsV) (envOf_ok (fun p hp => (by simp only [List.mem_cons, List.not_mem_nil, or_false] at hp; rcases hp with rfl | rfl | rfl | rfl | rfl | rfl | rfl; exact hcFault0; exact hlabelMay1; exact hStoreMay1; exact hplainTxn1; exact hdomin; exact hpreparedAt; exact hDec)) (by kernel_rfl)) Shown1_S (fun b => fun ky9 st9 => look [(7, (⟨[.slot 13 false tI, .slot 12 false (litT 0)], zoAInv b.2.2.1, zoAMu b.2.2.1⟩ : Ann)), (12, (⟨[.slot 14 false tI, .slot 12 false (litT 0)], zoBInv b.2.2.2.1, zoBMu b.2.2.2.1⟩ : Ann)), (15, (⟨[.slot 15 false tI, .slot 12 false (litT 0)], zoCInv b.2.2.2.1 (slotI st9 14), zoCMu b.2.2.2.1 (slotI st9 14)⟩ : Ann)), (29, (⟨[.slot 17 false tI, .slot 16 false .str], so1DInv b.1 b.2.1 b.2.2.1, so1DMu b.1 b.2.1 b.2.2.1⟩ : Ann)), (33, (⟨[.slot 18 false tI, .slot 16 false .str], so1EInv b.2.2.1 (slotD .str st9 16) (slotI st9 17), so1EMu b.2.2.1 (slotD .str st9 16) (slotI st9 17)⟩ : Ann)), (39, (⟨[.slot 20 false tI, .slot 16 false .str], so1FInv b.2.2.2.1 (slotD .str st9 16) (slotI st9 17), so1FMu b.2.2.2.1 (slotD .str st9 16) (slotI st9 17)⟩ : Ann))] ky9) Tryd.func10 (by kernel_rfl) (by kernel_rfl) Shown1_p [] [.slot 0 false .str, .slot 1 false tI] Shown1_f (fun b : (CfgD) × (Int) × ((List StoD)) × ((List NotesD)) × (CmdR) => ⟨(b.1, b.2.1, b.2.2.1, b.2.2.2.1, ((1 : Int), b.2.2.2.2), ()), ()⟩) (fun b => Shown1_VC b.1 b.2.1 b.2.2.1 b.2.2.2.1 b.2.2.2.2) (fun b => by kernel_rfl) (by
    rintro ⟨⟨c, l, ss, ns, ⟨xk, xr⟩, ⟨⟩⟩, ⟨⟩⟩ hp
    have e : xk = (1 : Int) := hp _ List.mem_cons_self
    subst e
    exact ⟨(c, l, ss, ns, xr), rfl⟩) (fun b hp => h b.1 b.2.1 b.2.2.1 b.2.2.2.1 b.2.2.2.2 hp)

abbrev Shown2_v0 (ss : List StoD) (y0 : kden Bool.false tI × kden Bool.false (litT 0) × PUnit) := pGet tySto ss (pNat y0.1)
abbrev Shown2_v1 (ns : List NotesD) (y1 : kden Bool.false tI × kden Bool.false (litT 0) × PUnit) := (pGet tyNotes ns (pNat y1.1)).1
abbrev Shown2_v2 (ss : List StoD) (xr : CmdR) := pGet tySto ss (pNat xr.1)
abbrev Shown2_t3 (c : CfgD) (l : Int) (ss : List StoD) (ns : List NotesD) (xr : CmdR) : Prop := ((bs [117, 110, 107, 110, 111, 119, 110, 10]), (0 : Int), ()) = (shwS c l ss ns ((2 : Int), xr), (0 : Int), ())

def Shown2_VC (c : CfgD) (l : Int) (ss : (List StoD)) (ns : (List NotesD)) (xr : CmdR) : Prop :=
  Nat.le (Nat.succ (pLen c.2.1)) 4611686018427387904 ∧ cfgF c = (0 : Int) ∧ Nat.le (Nat.succ (pLen c.2.1)) 4611686018427387904 ∧ bif pNot (placeF c l) then False else bif pNe (pInt (pLen ss)) (pInt (pLen c.2.1)) then False else bif pNe (pInt
 (pLen ns)) (pInt (pLen c.2.1)) then False else zoAInv ss ((0 : Int), (), ()) ∧ ∀ (y0 : kden Bool.false tI × kden Bool.false (litT 0) × PUnit), zoAInv ss y0 → bif pLt y0.1 (pInt (pLen ss)) then pIn y0.1 (pLen ss) ∧ Nat.le (Nat.succ (pLen
 (Shown2_v0 ss y0).1)) 4611686018427387904 ∧ Nat.le (Nat.succ (pLen (Shown2_v0 ss y0).2.1)) 4611686018427387904 ∧ Nat.le (Nat.succ (pLen (Shown2_v0 ss y0).2.2.1)) 4611686018427387904 ∧ Nat.le (Nat.succ (pLen (Shown2_v0 ss y0).2.2.2.1))
 4611686018427387904 ∧ stoF (Shown2_v0 ss y0) = Bool.true ∧ zoAInv ss (pAdd IntKind.i64 y0.1 (1 : Int), (), ()) ∧ Nat.le (Nat.succ (zoAMu ss (pAdd IntKind.i64 y0.1 (1 : Int), (), ()))) (zoAMu ss y0) else zoBInv ns ((0 : Int), (), ()) ∧ ∀ (y1
 : kden Bool.false tI × kden Bool.false (litT 0) × PUnit), zoBInv ns y1 → bif pLt y1.1 (pInt (pLen ns)) then zoCInv ns y1.1 ((0 : Int), (), ()) ∧ ∀ (y2 : kden Bool.false tI × kden Bool.false (litT 0) × PUnit), zoCInv ns y1.1 y2 → pIn y1.1
 (pLen ns) ∧ bif pLt y2.1 (pInt (pLen (Shown2_v1 ns y1))) then pIn y1.1 (pLen ns) ∧ pIn y2.1 (pLen (Shown2_v1 ns y1)) ∧ txnF ((pGet tyNote (Shown2_v1 ns y1) (pNat y2.1)).1, (pGet tyNote (Shown2_v1 ns y1) (pNat y2.1)).2.1, ()) = Bool.true ∧
 zoCInv ns y1.1 (pAdd IntKind.i64 y2.1 (1 : Int), (), ()) ∧ Nat.le (Nat.succ (zoCMu ns y1.1 (pAdd IntKind.i64 y2.1 (1 : Int), (), ()))) (zoCMu ns y1.1 y2) else zoBInv ns (pAdd IntKind.i64 y1.1 (1 : Int), (), ()) ∧ Nat.le (Nat.succ (zoBMu ns
 (pAdd IntKind.i64 y1.1 (1 : Int), (), ()))) (zoBMu ns y1) else Nat.le (Nat.succ (pLen c.2.1)) 4611686018427387904 ∧ bif placeF c xr.1 then pIn l (pLen c.2.1) ∧ pIn xr.1 (pLen c.2.1) ∧ bif aboveF (pGet tyTxn c.2.1 (pNat l)) (pGet tyTxn c.2.1
 (pNat xr.1)) then pIn xr.1 (pLen ss) ∧ Nat.le (Nat.succ (pLen (Shown2_v2 ss xr).1)) 4611686018427387904 ∧ Nat.le (Nat.succ (pLen (Shown2_v2 ss xr).2.1)) 4611686018427387904 ∧ Nat.le (Nat.succ (pLen (Shown2_v2 ss xr).2.2.1))
 4611686018427387904 ∧ Nat.le (Nat.succ (pLen (Shown2_v2 ss xr).2.2.2.1)) 4611686018427387904 ∧ bif prepF (Shown2_v2 ss xr) (xr.2.1, xr.2.2.1, ()) then ((bs [112, 114, 101, 112, 97, 114, 101, 100, 10]), (0 : Int), ()) = (shwS c l ss ns ((2 :
 Int), xr), (0 : Int), ()) else Shown2_t3 c l ss ns xr else Shown2_t3 c l ss ns xr else Shown2_t3 c l ss ns xr
set_option maxRecDepth 100000 in
theorem Shown2_meets (hcFault0 : Mt 25 ccFault0) (hlabelMay : Mt 34 clabelMay) (hStoreMay1 : Mt 35 cStoreMay1) (hplainTxn1 : Mt 36 cplainTxn1) (hdomin : Mt 37 cdomin) (hpreparedAt : Mt 38 cpreparedAt) (hDec : Mt 39 cDec) (h : ∀ (c : CfgD) (l : Int) (ss : (List StoD)) (ns : (List NotesD)) (xr : CmdR), (∀ p ∈ Shown2_p ⟨(c, l, ss, ns, ((2 : Int), xr), ()), ()⟩, p) → Shown2_VC c l ss ns xr) : Mt 10 cShown2 :=
  meets_vcAt (E := envOf Tryd.prog [(25, (false, ccFault0)), (34, (false, clabelMay)), (35, (false, cStoreMay1)), (36, (false, cplainTxn1)), (37, (false, cdomin)), (38, (false, cpreparedAt)), (39, (false, cDec))] eqsCsV) (envOf_ok (fun p hp => (by simp only [List.mem_cons, List.not_mem_nil, or_false] at hp; rcases hp with rfl | rfl | rfl | rfl | rfl | rfl | rfl; exact hcFault0; exact hlabelMay; exact hStoreMay1; exact hplainTxn1; exact hdomin; exact hpreparedAt; exact hDec)) (by kernel_rfl)) Shown1_S (fun b => fun ky9 st9 => look [(7, (⟨[.slot 13 false tI, .slot 12 false (litT 0)], zoAInv b.2.2.1, zoAMu b.2.2.1⟩ : Ann)), (12, (⟨[.slot 14 false tI, .slot 12 false (litT 0)], zoBInv b.2.2.2.1, zoBMu b.2.2.2.1⟩ : Ann)), (15, (⟨[.slot 15 false tI, .slot 12 false (litT 0)], zoCInv b.2.2.2.1 (slotI st9 14), zoCMu b.2.2.2.1 (slotI st9 14)⟩ : Ann))] ky9) Tryd.func10 (by kernel_rfl) (by kernel_rfl) Shown2_p [] [.slot 0 false .str, .slot 1 false tI] Shown1_f (fun b : (CfgD) × (Int) × ((List StoD)) × ((List NotesD)) × (CmdR) => ⟨(b.1, b.2.1, b.2.2.1, b.2.2.2.1, ((2 : Int), b.2.2.2.2), ()), ()⟩) (fun b => Shown2_VC b.1 b.2.1 b.2.2.1 b.2.2.2.1 b.2.2.2.2) (fun b => by kernel_rfl) (by
    rintro ⟨⟨c, l, ss, ns, ⟨xk, xr⟩, ⟨⟩⟩, ⟨⟩⟩ hp
    have e : xk = (2 : Int) := hp _ List.mem_cons_self
    subst e
    exact ⟨(c, l, ss, ns, xr), rfl⟩) (fun b hp => h b.1 b.2.1 b.2.2.1 b.2.2.2.1 b.2.2.2.2 hp)

abbrev Shown4_v0 (ss : List StoD) (y0 : kden Bool.false tI × kden Bool.false (litT 0) × PUnit) := pGet tySto ss (pNat y0.1)
abbrev Shown4_v1 (ns : List NotesD) (y1 : kden Bool.false tI × kden Bool.false (litT 0) × PUnit) := (pGet tyNotes ns (pNat y1.1)).1
abbrev Shown4_v2 (ns : List NotesD) (y2 : kden Bool.false tI × kden Bool.false Ty.str × PUnit) := (pGet tyNotes ns (pNat y2.1)).1
abbrev Shown4_v3 (ns : List NotesD) (y2 : kden Bool.false tI × kden Bool.false Ty.str × PUnit) (y5 : kden Bool.false tI × kden Bool.false Ty.str × PUnit) := (pGet tyNote (Shown4_v2 ns y2) (pNat y5.1)).1
abbrev Shown4_v4 (ns : List NotesD) (y2 : kden Bool.false tI × kden Bool.false Ty.str × PUnit) (y5 : kden Bool.false tI × kden Bool.false Ty.str × PUnit) := (pGet tyNote (Shown4_v2 ns y2) (pNat y5.1)).2.1
abbrev Shown4_v5 (ns : List NotesD) (y2 : kden Bool.false tI × kden Bool.false Ty.str × PUnit) (y5 : kden Bool.false tI × kden Bool.false Ty.str × PUnit) := pStrApp (pStrApp (pStrApp (pStrApp (pStrApp y5.2.1 (pItoa y2.1)) (bs [32])) (pItoa (Shown4_v3 ns y2 y5))) (bs [32])) (pItoa (Shown4_v4 ns y2 y5))
abbrev Shown4_v6 (ns : List NotesD) (y2 : kden Bool.false tI × kden Bool.false Ty.str × PUnit) (y5 : kden Bool.false tI × kden Bool.false Ty.str × PUnit) := (pGet tyNote (Shown4_v2 ns y2) (pNat y5.1)).2.2.2.1
abbrev Shown4_v7 (ns : List NotesD) (y2 : kden Bool.false tI × kden Bool.false Ty.str × PUnit) (y4 : kden Bool.false tI × kden Bool.false Ty.str × PUnit) := (pGet tyNote (Shown4_v2 ns y2) (pNat y4.1)).1
abbrev Shown4_v8 (ns : List NotesD) (y2 : kden Bool.false tI × kden Bool.false Ty.str × PUnit) (y4 : kden Bool.false tI × kden Bool.false Ty.str × PUnit) := (pGet tyNote (Shown4_v2 ns y2) (pNat y4.1)).2.1
abbrev Shown4_v9 (ns : List NotesD) (y2 : kden Bool.false tI × kden Bool.false Ty.str × PUnit) (y4 : kden Bool.false tI × kden Bool.false Ty.str × PUnit) := pStrApp (pStrApp (pStrApp (pStrApp (pStrApp y4.2.1 (pItoa y2.1)) (bs [32])) (pItoa (Shown4_v7 ns y2 y4))) (bs [32])) (pItoa (Shown4_v8 ns y2 y4))
abbrev Shown4_v10 (ns : List NotesD) (y2 : kden Bool.false tI × kden Bool.false Ty.str × PUnit) (y4 : kden Bool.false tI × kden Bool.false Ty.str × PUnit) := (pGet tyNote (Shown4_v2 ns y2) (pNat y4.1)).2.2.2.1

def Shown4_VC (c : CfgD) (l : Int) (ss : (List StoD)) (ns : (List NotesD)) (xr : CmdR) : Prop :=
  Nat.le (Nat.succ (pLen c.2.1)) 4611686018427387904 ∧ cfgF c = (0 : Int) ∧ Nat.le (Nat.succ (pLen c.2.1)) 4611686018427387904 ∧ placeF c l = Bool.true ∧ bif pNe (pInt (pLen ss)) (pInt (pLen c.2.1)) then False else bif pNe (pInt (pLen ns))
 (pInt (pLen c.2.1)) then False else zoAInv ss ((0 : Int), (), ()) ∧ ∀ (y0 : kden Bool.false tI × kden Bool.false (litT 0) × PUnit), zoAInv ss y0 → bif pLt y0.1 (pInt (pLen ss)) then pIn y0.1 (pLen ss) ∧ Nat.le (Nat.succ (pLen (Shown4_v0 ss
 y0).1)) 4611686018427387904 ∧ Nat.le (Nat.succ (pLen (Shown4_v0 ss y0).2.1)) 4611686018427387904 ∧ Nat.le (Nat.succ (pLen (Shown4_v0 ss y0).2.2.1)) 4611686018427387904 ∧ Nat.le (Nat.succ (pLen (Shown4_v0 ss y0).2.2.2.1)) 4611686018427387904
 ∧ stoF (Shown4_v0 ss y0) = Bool.true ∧ zoAInv ss (pAdd IntKind.i64 y0.1 (1 : Int), (), ()) ∧ Nat.le (Nat.succ (zoAMu ss (pAdd IntKind.i64 y0.1 (1 : Int), (), ()))) (zoAMu ss y0) else zoBInv ns ((0 : Int), (), ()) ∧ ∀ (y1 : kden Bool.false
 tI × kden Bool.false (litT 0) × PUnit), zoBInv ns y1 → bif pLt y1.1 (pInt (pLen ns)) then zoCInv ns y1.1 ((0 : Int), (), ()) ∧ ∀ (y6 : kden Bool.false tI × kden Bool.false (litT 0) × PUnit), zoCInv ns y1.1 y6 → pIn y1.1 (pLen ns) ∧ bif pLt
 y6.1 (pInt (pLen (Shown4_v1 ns y1))) then pIn y1.1 (pLen ns) ∧ pIn y6.1 (pLen (Shown4_v1 ns y1)) ∧ txnF ((pGet tyNote (Shown4_v1 ns y1) (pNat y6.1)).1, (pGet tyNote (Shown4_v1 ns y1) (pNat y6.1)).2.1, ()) = Bool.true ∧ zoCInv ns y1.1 (pAdd
 IntKind.i64 y6.1 (1 : Int), (), ()) ∧ Nat.le (Nat.succ (zoCMu ns y1.1 (pAdd IntKind.i64 y6.1 (1 : Int), (), ()))) (zoCMu ns y1.1 y6) else zoBInv ns (pAdd IntKind.i64 y1.1 (1 : Int), (), ()) ∧ Nat.le (Nat.succ (zoBMu ns (pAdd IntKind.i64
 y1.1 (1 : Int), (), ()))) (zoBMu ns y1) else so4DInv c l ns ((0 : Int), (bs []), ()) ∧ ∀ (y2 : kden Bool.false tI × kden Bool.false Ty.str × PUnit), so4DInv c l ns y2 → bif pLt y2.1 (pInt (pLen c.2.1)) then pIn l (pLen c.2.1) ∧ pIn y2.1
 (pLen c.2.1) ∧ bif pNot (aboveF (pGet tyTxn c.2.1 (pNat l)) (pGet tyTxn c.2.1 (pNat y2.1))) then so4DInv c l ns (pAdd IntKind.i64 y2.1 (1 : Int), y2.2) ∧ Nat.le (Nat.succ (so4DMu c l ns (pAdd IntKind.i64 y2.1 (1 : Int), y2.2))) (so4DMu c l
 ns y2) else so4EInv ss y2.2.1 y2.1 ((0 : Int), y2.2) ∧ ∀ (y3 : kden Bool.false tI × kden Bool.false Ty.str × PUnit), so4EInv ss y2.2.1 y2.1 y3 → pIn y2.1 (pLen ss) ∧ bif pLt y3.1 (pInt (pLen (pGet tySto ss (pNat y2.1)).2.2.1)) then so4FInv
 ns y3.2.1 y2.1 ((0 : Int), y3.2) ∧ ∀ (y5 : kden Bool.false tI × kden Bool.false Ty.str × PUnit), so4FInv ns y3.2.1 y2.1 y5 → pIn y2.1 (pLen ns) ∧ bif pLt y5.1 (pInt (pLen (Shown4_v2 ns y2))) then pIn y2.1 (pLen ns) ∧ pIn y5.1 (pLen
 (Shown4_v2 ns y2)) ∧ pLe (0 : Int) y2.1 = Bool.true ∧ pLe y2.1 (9223372036854775807 : Int) = Bool.true ∧ pStrFits y5.2.1 (pItoa y2.1) ∧ pStrFits (pStrApp y5.2.1 (pItoa y2.1)) (bs [32]) ∧ pLe (0 : Int) (Shown4_v3 ns y2 y5) = Bool.true ∧ pLe
 (Shown4_v3 ns y2 y5) (9223372036854775807 : Int) = Bool.true ∧ pStrFits (pStrApp (pStrApp y5.2.1 (pItoa y2.1)) (bs [32])) (pItoa (Shown4_v3 ns y2 y5)) ∧ pStrFits (pStrApp (pStrApp (pStrApp y5.2.1 (pItoa y2.1)) (bs [32])) (pItoa (Shown4_v3
 ns y2 y5))) (bs [32]) ∧ pLe (0 : Int) (Shown4_v4 ns y2 y5) = Bool.true ∧ pLe (Shown4_v4 ns y2 y5) (9223372036854775807 : Int) = Bool.true ∧ pStrFits (pStrApp (pStrApp (pStrApp (pStrApp y5.2.1 (pItoa y2.1)) (bs [32])) (pItoa (Shown4_v3 ns y2
 y5))) (bs [32])) (pItoa (Shown4_v4 ns y2 y5)) ∧ bif (pGet tyNote (Shown4_v2 ns y2) (pNat y5.1)).2.2.1 then pStrFits (Shown4_v5 ns y2 y5) (bs [32, 99, 111, 109, 109, 105, 116]) ∧ bif Shown4_v6 ns y2 y5 then pStrFits (pStrApp (Shown4_v5 ns y2
 y5) (bs [32, 99, 111, 109, 109, 105, 116])) (bs [32, 100, 97, 109, 97, 103, 101]) ∧ pStrFits (pStrApp (pStrApp (Shown4_v5 ns y2 y5) (bs [32, 99, 111, 109, 109, 105, 116])) (bs [32, 100, 97, 109, 97, 103, 101])) (bs [10]) ∧ so4FInv ns y3.2.1
 y2.1 (pAdd IntKind.i64 y5.1 (1 : Int), pStrApp (pStrApp (pStrApp (Shown4_v5 ns y2 y5) (bs [32, 99, 111, 109, 109, 105, 116])) (bs [32, 100, 97, 109, 97, 103, 101])) (bs [10]), ()) ∧ Nat.le (Nat.succ (so4FMu ns y3.2.1 y2.1 (pAdd IntKind.i64
 y5.1 (1 : Int), pStrApp (pStrApp (pStrApp (Shown4_v5 ns y2 y5) (bs [32, 99, 111, 109, 109, 105, 116])) (bs [32, 100, 97, 109, 97, 103, 101])) (bs [10]), ()))) (so4FMu ns y3.2.1 y2.1 y5) else pStrFits (pStrApp (Shown4_v5 ns y2 y5) (bs [32,
 99, 111, 109, 109, 105, 116])) (bs [10]) ∧ so4FInv ns y3.2.1 y2.1 (pAdd IntKind.i64 y5.1 (1 : Int), pStrApp (pStrApp (Shown4_v5 ns y2 y5) (bs [32, 99, 111, 109, 109, 105, 116])) (bs [10]), ()) ∧ Nat.le (Nat.succ (so4FMu ns y3.2.1 y2.1 (pAdd
 IntKind.i64 y5.1 (1 : Int), pStrApp (pStrApp (Shown4_v5 ns y2 y5) (bs [32, 99, 111, 109, 109, 105, 116])) (bs [10]), ()))) (so4FMu ns y3.2.1 y2.1 y5) else pStrFits (Shown4_v5 ns y2 y5) (bs [32, 97, 98, 111, 114, 116]) ∧ bif Shown4_v6 ns y2
 y5 then pStrFits (pStrApp (Shown4_v5 ns y2 y5) (bs [32, 97, 98, 111, 114, 116])) (bs [32, 100, 97, 109, 97, 103, 101]) ∧ pStrFits (pStrApp (pStrApp (Shown4_v5 ns y2 y5) (bs [32, 97, 98, 111, 114, 116])) (bs [32, 100, 97, 109, 97, 103,
 101])) (bs [10]) ∧ so4FInv ns y3.2.1 y2.1 (pAdd IntKind.i64 y5.1 (1 : Int), pStrApp (pStrApp (pStrApp (Shown4_v5 ns y2 y5) (bs [32, 97, 98, 111, 114, 116])) (bs [32, 100, 97, 109, 97, 103, 101])) (bs [10]), ()) ∧ Nat.le (Nat.succ (so4FMu ns
 y3.2.1 y2.1 (pAdd IntKind.i64 y5.1 (1 : Int), pStrApp (pStrApp (pStrApp (Shown4_v5 ns y2 y5) (bs [32, 97, 98, 111, 114, 116])) (bs [32, 100, 97, 109, 97, 103, 101])) (bs [10]), ()))) (so4FMu ns y3.2.1 y2.1 y5) else pStrFits (pStrApp
 (Shown4_v5 ns y2 y5) (bs [32, 97, 98, 111, 114, 116])) (bs [10]) ∧ so4FInv ns y3.2.1 y2.1 (pAdd IntKind.i64 y5.1 (1 : Int), pStrApp (pStrApp (Shown4_v5 ns y2 y5) (bs [32, 97, 98, 111, 114, 116])) (bs [10]), ()) ∧ Nat.le (Nat.succ (so4FMu ns
 y3.2.1 y2.1 (pAdd IntKind.i64 y5.1 (1 : Int), pStrApp (pStrApp (Shown4_v5 ns y2 y5) (bs [32, 97, 98, 111, 114, 116])) (bs [10]), ()))) (so4FMu ns y3.2.1 y2.1 y5) else so4DInv c l ns (pAdd IntKind.i64 y2.1 (1 : Int), y5.2) ∧ Nat.le (Nat.succ
 (so4DMu c l ns (pAdd IntKind.i64 y2.1 (1 : Int), y5.2))) (so4DMu c l ns y2) else so4FInv ns y3.2.1 y2.1 ((0 : Int), y3.2) ∧ ∀ (y4 : kden Bool.false tI × kden Bool.false Ty.str × PUnit), so4FInv ns y3.2.1 y2.1 y4 → pIn y2.1 (pLen ns) ∧ bif
 pLt y4.1 (pInt (pLen (Shown4_v2 ns y2))) then pIn y2.1 (pLen ns) ∧ pIn y4.1 (pLen (Shown4_v2 ns y2)) ∧ pLe (0 : Int) y2.1 = Bool.true ∧ pLe y2.1 (9223372036854775807 : Int) = Bool.true ∧ pStrFits y4.2.1 (pItoa y2.1) ∧ pStrFits (pStrApp
 y4.2.1 (pItoa y2.1)) (bs [32]) ∧ pLe (0 : Int) (Shown4_v7 ns y2 y4) = Bool.true ∧ pLe (Shown4_v7 ns y2 y4) (9223372036854775807 : Int) = Bool.true ∧ pStrFits (pStrApp (pStrApp y4.2.1 (pItoa y2.1)) (bs [32])) (pItoa (Shown4_v7 ns y2 y4)) ∧
 pStrFits (pStrApp (pStrApp (pStrApp y4.2.1 (pItoa y2.1)) (bs [32])) (pItoa (Shown4_v7 ns y2 y4))) (bs [32]) ∧ pLe (0 : Int) (Shown4_v8 ns y2 y4) = Bool.true ∧ pLe (Shown4_v8 ns y2 y4) (9223372036854775807 : Int) = Bool.true ∧ pStrFits
 (pStrApp (pStrApp (pStrApp (pStrApp y4.2.1 (pItoa y2.1)) (bs [32])) (pItoa (Shown4_v7 ns y2 y4))) (bs [32])) (pItoa (Shown4_v8 ns y2 y4)) ∧ bif (pGet tyNote (Shown4_v2 ns y2) (pNat y4.1)).2.2.1 then pStrFits (Shown4_v9 ns y2 y4) (bs [32,
 99, 111, 109, 109, 105, 116]) ∧ bif Shown4_v10 ns y2 y4 then pStrFits (pStrApp (Shown4_v9 ns y2 y4) (bs [32, 99, 111, 109, 109, 105, 116])) (bs [32, 100, 97, 109, 97, 103, 101]) ∧ pStrFits (pStrApp (pStrApp (Shown4_v9 ns y2 y4) (bs [32, 99,
 111, 109, 109, 105, 116])) (bs [32, 100, 97, 109, 97, 103, 101])) (bs [10]) ∧ so4FInv ns y3.2.1 y2.1 (pAdd IntKind.i64 y4.1 (1 : Int), pStrApp (pStrApp (pStrApp (Shown4_v9 ns y2 y4) (bs [32, 99, 111, 109, 109, 105, 116])) (bs [32, 100, 97,
 109, 97, 103, 101])) (bs [10]), ()) ∧ Nat.le (Nat.succ (so4FMu ns y3.2.1 y2.1 (pAdd IntKind.i64 y4.1 (1 : Int), pStrApp (pStrApp (pStrApp (Shown4_v9 ns y2 y4) (bs [32, 99, 111, 109, 109, 105, 116])) (bs [32, 100, 97, 109, 97, 103, 101]))
 (bs [10]), ()))) (so4FMu ns y3.2.1 y2.1 y4) else pStrFits (pStrApp (Shown4_v9 ns y2 y4) (bs [32, 99, 111, 109, 109, 105, 116])) (bs [10]) ∧ so4FInv ns y3.2.1 y2.1 (pAdd IntKind.i64 y4.1 (1 : Int), pStrApp (pStrApp (Shown4_v9 ns y2 y4) (bs
 [32, 99, 111, 109, 109, 105, 116])) (bs [10]), ()) ∧ Nat.le (Nat.succ (so4FMu ns y3.2.1 y2.1 (pAdd IntKind.i64 y4.1 (1 : Int), pStrApp (pStrApp (Shown4_v9 ns y2 y4) (bs [32, 99, 111, 109, 109, 105, 116])) (bs [10]), ()))) (so4FMu ns y3.2.1
 y2.1 y4) else pStrFits (Shown4_v9 ns y2 y4) (bs [32, 97, 98, 111, 114, 116]) ∧ bif Shown4_v10 ns y2 y4 then pStrFits (pStrApp (Shown4_v9 ns y2 y4) (bs [32, 97, 98, 111, 114, 116])) (bs [32, 100, 97, 109, 97, 103, 101]) ∧ pStrFits (pStrApp
 (pStrApp (Shown4_v9 ns y2 y4) (bs [32, 97, 98, 111, 114, 116])) (bs [32, 100, 97, 109, 97, 103, 101])) (bs [10]) ∧ so4FInv ns y3.2.1 y2.1 (pAdd IntKind.i64 y4.1 (1 : Int), pStrApp (pStrApp (pStrApp (Shown4_v9 ns y2 y4) (bs [32, 97, 98, 111,
 114, 116])) (bs [32, 100, 97, 109, 97, 103, 101])) (bs [10]), ()) ∧ Nat.le (Nat.succ (so4FMu ns y3.2.1 y2.1 (pAdd IntKind.i64 y4.1 (1 : Int), pStrApp (pStrApp (pStrApp (Shown4_v9 ns y2 y4) (bs [32, 97, 98, 111, 114, 116])) (bs [32, 100, 97,
 109, 97, 103, 101])) (bs [10]), ()))) (so4FMu ns y3.2.1 y2.1 y4) else pStrFits (pStrApp (Shown4_v9 ns y2 y4) (bs [32, 97, 98, 111, 114, 116])) (bs [10]) ∧ so4FInv ns y3.2.1 y2.1 (pAdd IntKind.i64 y4.1 (1 : Int), pStrApp (pStrApp (Shown4_v9
 ns y2 y4) (bs [32, 97, 98, 111, 114, 116])) (bs [10]), ()) ∧ Nat.le (Nat.succ (so4FMu ns y3.2.1 y2.1 (pAdd IntKind.i64 y4.1 (1 : Int), pStrApp (pStrApp (Shown4_v9 ns y2 y4) (bs [32, 97, 98, 111, 114, 116])) (bs [10]), ()))) (so4FMu ns
 y3.2.1 y2.1 y4) else so4DInv c l ns (pAdd IntKind.i64 y2.1 (1 : Int), y4.2) ∧ Nat.le (Nat.succ (so4DMu c l ns (pAdd IntKind.i64 y2.1 (1 : Int), y4.2))) (so4DMu c l ns y2) else (y2.2.1, (0 : Int), ()) = (shwS c l ss ns ((4 : Int), xr), (0 :
 Int), ())
set_option maxRecDepth 100000 in
theorem Shown4_meets (hcFault0 : Mt 25 ccFault0) (hlabelMay1 : Mt 34 clabelMay1) (hStoreMay1 : Mt 35 cStoreMay1) (hplainTxn1 : Mt 36 cplainTxn1) (hdomin : Mt 37 cdomin) (hpreparedAt : Mt 38 cpreparedAt) (hDec : Mt 39 cDec) (h : ∀ (c : CfgD) (l : Int) (ss : (List StoD)) (ns : (List NotesD)) (xr : CmdR), (∀ p ∈ Shown4_p ⟨(c, l, ss, ns, ((4 : Int), xr), ()), ()⟩, p) → Shown4_VC c l ss ns xr) : Mt 10 cShown4 :=
  meets_vcAt (E := envOf Tryd.prog [(25, (false, ccFault0)), (34, (false, clabelMay1)), (35, (false, cStoreMay1)), (36, (false, cplainTxn1)), (37, (false, cdomin)), (38, (false, cpreparedAt)), (39, (false, cDec))] eqsCsV) (envOf_ok (fun p hp => (by simp only [List.mem_cons, List.not_mem_nil, or_false] at hp; rcases hp with rfl | rfl | rfl | rfl | rfl | rfl | rfl; exact hcFault0; exact hlabelMay1; exact hStoreMay1; exact hplainTxn1; exact hdomin; exact hpreparedAt; exact hDec)) (by kernel_rfl)) Shown1_S (fun b => fun ky9 st9 => look [(7, (⟨[.slot 13 false tI, .slot 12 false (litT 0)], zoAInv b.2.2.1, zoAMu b.2.2.1⟩ : Ann)), (12, (⟨[.slot 14 false tI, .slot 12 false (litT 0)], zoBInv b.2.2.2.1, zoBMu b.2.2.2.1⟩ : Ann)), (15, (⟨[.slot 15 false tI, .slot 12 false (litT 0)], zoCInv b.2.2.2.1 (slotI st9 14), zoCMu b.2.2.2.1 (slotI st9 14)⟩ : Ann)), (29, (⟨[.slot 17 false tI, .slot 16 false .str], so4DInv b.1 b.2.1 b.2.2.2.1, so4DMu b.1 b.2.1 b.2.2.2.1⟩ : Ann)), (33, (⟨[.slot 18 false tI, .slot 16 false .str], so4EInv b.2.2.1 (slotD .str st9 16) (slotI st9 17), so4EMu b.2.2.1 (slotD .str st9 16) (slotI st9 17)⟩ : Ann)), (39, (⟨[.slot 20 false tI, .slot 16 false .str], so4FInv b.2.2.2.1 (slotD .str st9 16) (slotI st9 17), so4FMu b.2.2.2.1 (slotD .str st9 16) (slotI st9 17)⟩ : Ann))] ky9) Tryd.func10 (by kernel_rfl) (by kernel_rfl) Shown4_p [] [.slot 0 false .str, .slot 1 false tI] Shown1_f (fun b : (CfgD) × (Int) × ((List StoD)) × ((List NotesD)) × (CmdR) => ⟨(b.1, b.2.1, b.2.2.1, b.2.2.2.1, ((4 : Int), b.2.2.2.2), ()), ()⟩) (fun b => Shown4_VC b.1 b.2.1 b.2.2.1 b.2.2.2.1 b.2.2.2.2) (fun b => by kernel_rfl) (by
    rintro ⟨⟨c, l, ss, ns, ⟨xk, xr⟩, ⟨⟩⟩, ⟨⟩⟩ hp
    have e : xk = (4 : Int) := hp _ List.mem_cons_self
    subst e
    exact ⟨(c, l, ss, ns, xr), rfl⟩) (fun b hp => h b.1 b.2.1 b.2.2.1 b.2.2.2.1 b.2.2.2.2 hp)

abbrev ShownE1_t0 : Prop := ((bs []), (1 : Int), ()) = (bs (vnil Nat), (1 : Int), ())

def ShownE1_VC (c : CfgD) (l : Int) (ss : (List StoD)) (ns : (List NotesD)) (x : CmdD) : Prop :=
  Nat.le (Nat.succ (pLen c.2.1)) 4611686018427387904 ∧ cfgF c = (1 : Int) ∧ zoAInv ss ((0 : Int), (), ()) ∧ ∀ (y0 : kden Bool.false tI × kden Bool.false (litT 1) × PUnit), zoAInv ss y0 → bif pLt y0.1 (pInt (pLen ss)) then zoBInv ns ((0 :
 Int), (), ()) ∧ ∀ (y2 : kden Bool.false tI × kden Bool.false (litT 1) × PUnit), zoBInv ns y2 → bif pLt y2.1 (pInt (pLen ns)) then ShownE1_t0 else ShownE1_t0 else zoBInv ns ((0 : Int), (), ()) ∧ ∀ (y1 : kden Bool.false tI × kden Bool.false
 (litT 1) × PUnit), zoBInv ns y1 → bif pLt y1.1 (pInt (pLen ns)) then ShownE1_t0 else ShownE1_t0
set_option maxRecDepth 100000 in
theorem ShownE1_meets (hcFault1 : Mt 25 ccFault1) (h : ∀ (c : CfgD) (l : Int) (ss : (List StoD)) (ns : (List NotesD)) (x : CmdD), (∀ p ∈ ShownE1_p ⟨(c, l, ss, ns, x, ()), ()⟩, p) → ShownE1_VC c l ss ns x) : Mt 10 cShownE1 :=
  meets_vc (E := envOf Tryd.prog [(25, (false, ccFault1))] eqsCsV) (envOf_ok (fun p hp => (by simp only [List.mem_cons, List.not_mem_nil, or_false] at hp; rcases hp with rfl; exact hcFault1)) (by kernel_rfl)) Shown1_S (fun x => fun ky9 st9 => look [(7, (⟨[.slot 13 false tI, .slot 12 false (litT 1)], zoAInv x.1.2.2.1, zoAMu x.1.2.2.1⟩ : Ann)), (12, (⟨[.slot 14 false tI, .slot 12 false (litT 1)], zoBInv x.1.2.2.2.1, zoBMu x.1.2.2.2.1⟩ : Ann)), (15, (⟨[.slot 15 false tI, .slot 12 false (litT 1)], zoCInv x.1.2.2.2.1 (slotI st9 14), zoCMu x.1.2.2.2.1 (slotI st9 14)⟩ : Ann))] ky9) Tryd.func10 (by kernel_rfl) (by kernel_rfl) ShownE1_p [] [.slot 0 false .str, .slot 1 false tI] ShownE1_f (fun x => ShownE1_VC x.1.1 x.1.2.1 x.1.2.2.1 x.1.2.2.2.1 x.1.2.2.2.2.1) (fun x => by kernel_rfl) (fun x hp => h x.1.1 x.1.2.1 x.1.2.2.1 x.1.2.2.2.1 x.1.2.2.2.2.1 hp)

abbrev ShownE2_t0 : Prop := ((bs []), (2 : Int), ()) = (bs (vnil Nat), (2 : Int), ())

def ShownE2_VC (c : CfgD) (l : Int) (ss : (List StoD)) (ns : (List NotesD)) (x : CmdD) : Prop :=
  Nat.le (Nat.succ (pLen c.2.1)) 4611686018427387904 ∧ cfgF c = (2 : Int) ∧ zoAInv ss ((0 : Int), (), ()) ∧ ∀ (y0 : kden Bool.false tI × kden Bool.false (litT 2) × PUnit), zoAInv ss y0 → bif pLt y0.1 (pInt (pLen ss)) then zoBInv ns ((0 :
 Int), (), ()) ∧ ∀ (y2 : kden Bool.false tI × kden Bool.false (litT 2) × PUnit), zoBInv ns y2 → bif pLt y2.1 (pInt (pLen ns)) then ShownE2_t0 else ShownE2_t0 else zoBInv ns ((0 : Int), (), ()) ∧ ∀ (y1 : kden Bool.false tI × kden Bool.false
 (litT 2) × PUnit), zoBInv ns y1 → bif pLt y1.1 (pInt (pLen ns)) then ShownE2_t0 else ShownE2_t0
set_option maxRecDepth 100000 in
theorem ShownE2_meets (hcFault2 : Mt 25 ccFault2) (h : ∀ (c : CfgD) (l : Int) (ss : (List StoD)) (ns : (List NotesD)) (x : CmdD), (∀ p ∈ ShownE2_p ⟨(c, l, ss, ns, x, ()), ()⟩, p) → ShownE2_VC c l ss ns x) : Mt 10 cShownE2 :=
  meets_vc (E := envOf Tryd.prog [(25, (false, ccFault2))] eqsCsV) (envOf_ok (fun p hp => (by simp only [List.mem_cons, List.not_mem_nil, or_false] at hp; rcases hp with rfl; exact hcFault2)) (by kernel_rfl)) Shown1_S (fun x => fun ky9 st9 => look [(7, (⟨[.slot 13 false tI, .slot 12 false (litT 2)], zoAInv x.1.2.2.1, zoAMu x.1.2.2.1⟩ : Ann)), (12, (⟨[.slot 14 false tI, .slot 12 false (litT 2)], zoBInv x.1.2.2.2.1, zoBMu x.1.2.2.2.1⟩ : Ann)), (15, (⟨[.slot 15 false tI, .slot 12 false (litT 2)], zoCInv x.1.2.2.2.1 (slotI st9 14), zoCMu x.1.2.2.2.1 (slotI st9 14)⟩ : Ann))] ky9) Tryd.func10 (by kernel_rfl) (by kernel_rfl) ShownE2_p [] [.slot 0 false .str, .slot 1 false tI] ShownE2_f (fun x => ShownE2_VC x.1.1 x.1.2.1 x.1.2.2.1 x.1.2.2.2.1 x.1.2.2.2.2.1) (fun x => by kernel_rfl) (fun x hp => h x.1.1 x.1.2.1 x.1.2.2.1 x.1.2.2.2.1 x.1.2.2.2.2.1 hp)

abbrev ShownE7_t0 : Prop := ((bs []), (7 : Int), ()) = (bs (vnil Nat), (7 : Int), ())

def ShownE7_VC (c : CfgD) (l : Int) (ss : (List StoD)) (ns : (List NotesD)) (x : CmdD) : Prop :=
  Nat.le (Nat.succ (pLen c.2.1)) 4611686018427387904 ∧ cfgF c = (7 : Int) ∧ zoAInv ss ((0 : Int), (), ()) ∧ ∀ (y0 : kden Bool.false tI × kden Bool.false (litT 7) × PUnit), zoAInv ss y0 → bif pLt y0.1 (pInt (pLen ss)) then zoBInv ns ((0 :
 Int), (), ()) ∧ ∀ (y2 : kden Bool.false tI × kden Bool.false (litT 7) × PUnit), zoBInv ns y2 → bif pLt y2.1 (pInt (pLen ns)) then ShownE7_t0 else ShownE7_t0 else zoBInv ns ((0 : Int), (), ()) ∧ ∀ (y1 : kden Bool.false tI × kden Bool.false
 (litT 7) × PUnit), zoBInv ns y1 → bif pLt y1.1 (pInt (pLen ns)) then ShownE7_t0 else ShownE7_t0
set_option maxRecDepth 100000 in
theorem ShownE7_meets (hcFault7 : Mt 25 ccFault7) (h : ∀ (c : CfgD) (l : Int) (ss : (List StoD)) (ns : (List NotesD)) (x : CmdD), (∀ p ∈ ShownE7_p ⟨(c, l, ss, ns, x, ()), ()⟩, p) → ShownE7_VC c l ss ns x) : Mt 10 cShownE7 :=
  meets_vc (E := envOf Tryd.prog [(25, (false, ccFault7))] eqsCsV) (envOf_ok (fun p hp => (by simp only [List.mem_cons, List.not_mem_nil, or_false] at hp; rcases hp with rfl; exact hcFault7)) (by kernel_rfl)) Shown1_S (fun x => fun ky9 st9 => look [(7, (⟨[.slot 13 false tI, .slot 12 false (litT 7)], zoAInv x.1.2.2.1, zoAMu x.1.2.2.1⟩ : Ann)), (12, (⟨[.slot 14 false tI, .slot 12 false (litT 7)], zoBInv x.1.2.2.2.1, zoBMu x.1.2.2.2.1⟩ : Ann)), (15, (⟨[.slot 15 false tI, .slot 12 false (litT 7)], zoCInv x.1.2.2.2.1 (slotI st9 14), zoCMu x.1.2.2.2.1 (slotI st9 14)⟩ : Ann))] ky9) Tryd.func10 (by kernel_rfl) (by kernel_rfl) ShownE7_p [] [.slot 0 false .str, .slot 1 false tI] ShownE7_f (fun x => ShownE7_VC x.1.1 x.1.2.1 x.1.2.2.1 x.1.2.2.2.1 x.1.2.2.2.2.1) (fun x => by kernel_rfl) (fun x hp => h x.1.1 x.1.2.1 x.1.2.2.1 x.1.2.2.2.1 x.1.2.2.2.2.1 hp)

abbrev ShownE6_t0 : Prop := ((bs []), (6 : Int), ()) = (bs (vnil Nat), (6 : Int), ())

def ShownE6_VC (c : CfgD) (l : Int) (ss : (List StoD)) (ns : (List NotesD)) (x : CmdD) : Prop :=
  Nat.le (Nat.succ (pLen c.2.1)) 4611686018427387904 ∧ cfgF c = (0 : Int) ∧ Nat.le (Nat.succ (pLen c.2.1)) 4611686018427387904 ∧ placeF c l = Bool.false ∧ zoAInv ss ((0 : Int), (), ()) ∧ ∀ (y0 : kden Bool.false tI × kden Bool.false (litT 6) ×
 PUnit), zoAInv ss y0 → bif pLt y0.1 (pInt (pLen ss)) then zoBInv ns ((0 : Int), (), ()) ∧ ∀ (y2 : kden Bool.false tI × kden Bool.false (litT 6) × PUnit), zoBInv ns y2 → bif pLt y2.1 (pInt (pLen ns)) then ShownE6_t0 else ShownE6_t0 else
 zoBInv ns ((0 : Int), (), ()) ∧ ∀ (y1 : kden Bool.false tI × kden Bool.false (litT 6) × PUnit), zoBInv ns y1 → bif pLt y1.1 (pInt (pLen ns)) then ShownE6_t0 else ShownE6_t0
set_option maxRecDepth 100000 in
theorem ShownE6_meets (hcFault0 : Mt 25 ccFault0) (hlabelMay0 : Mt 34 clabelMay0) (h : ∀ (c : CfgD) (l : Int) (ss : (List StoD)) (ns : (List NotesD)) (x : CmdD), (∀ p ∈ ShownE6_p ⟨(c, l, ss, ns, x, ()), ()⟩, p) → ShownE6_VC c l ss ns x) : Mt 10 cShownE6 :=
  meets_vc (E := envOf Tryd.prog [(25, (false, ccFault0)), (34, (false, clabelMay0))] eqsCsV) (envOf_ok (fun p hp => (by simp only [List.mem_cons, List.not_mem_nil, or_false] at hp; rcases hp with rfl | rfl; exact hcFault0; exact hlabelMay0)) (by kernel_rfl)) Shown1_S (fun x => fun ky9 st9 => look [(7, (⟨[.slot 13 false tI, .slot 12 false (litT 6)], zoAInv x.1.2.2.1, zoAMu x.1.2.2.1⟩ : Ann)), (12, (⟨[.slot 14 false tI, .slot 12 false (litT 6)], zoBInv x.1.2.2.2.1, zoBMu x.1.2.2.2.1⟩ : Ann)), (15, (⟨[.slot 15 false tI, .slot 12 false (litT 6)], zoCInv x.1.2.2.2.1 (slotI st9 14), zoCMu x.1.2.2.2.1 (slotI st9 14)⟩ : Ann))] ky9) Tryd.func10 (by kernel_rfl) (by kernel_rfl) ShownE6_p [] [.slot 0 false .str, .slot 1 false tI] ShownE6_f (fun x => ShownE6_VC x.1.1 x.1.2.1 x.1.2.2.1 x.1.2.2.2.1 x.1.2.2.2.2.1) (fun x => by kernel_rfl) (fun x hp => h x.1.1 x.1.2.1 x.1.2.2.1 x.1.2.2.2.1 x.1.2.2.2.2.1 hp)

abbrev ShownEL_t0 : Prop := ((bs []), (9 : Int), ()) = (bs (vnil Nat), (9 : Int), ())

def ShownEL_VC (c : CfgD) (l : Int) (ss : (List StoD)) (ns : (List NotesD)) (x : CmdD) : Prop :=
  Nat.le (Nat.succ (pLen c.2.1)) 4611686018427387904 ∧ cfgF c = (0 : Int) ∧ Nat.le (Nat.succ (pLen c.2.1)) 4611686018427387904 ∧ placeF c l = Bool.true ∧ bif pNe (pInt (pLen ss)) (pInt (pLen c.2.1)) then zoAInv ss ((0 : Int), (), ()) ∧ ∀ (y3
 : kden Bool.false tI × kden Bool.false (litT 9) × PUnit), zoAInv ss y3 → bif pLt y3.1 (pInt (pLen ss)) then zoBInv ns ((0 : Int), (), ()) ∧ ∀ (y5 : kden Bool.false tI × kden Bool.false (litT 9) × PUnit), zoBInv ns y5 → bif pLt y5.1 (pInt
 (pLen ns)) then ShownEL_t0 else ShownEL_t0 else zoBInv ns ((0 : Int), (), ()) ∧ ∀ (y4 : kden Bool.false tI × kden Bool.false (litT 9) × PUnit), zoBInv ns y4 → bif pLt y4.1 (pInt (pLen ns)) then ShownEL_t0 else ShownEL_t0 else bif pNe (pInt
 (pLen ns)) (pInt (pLen c.2.1)) then zoAInv ss ((0 : Int), (), ()) ∧ ∀ (y0 : kden Bool.false tI × kden Bool.false (litT 9) × PUnit), zoAInv ss y0 → bif pLt y0.1 (pInt (pLen ss)) then zoBInv ns ((0 : Int), (), ()) ∧ ∀ (y2 : kden Bool.false tI
 × kden Bool.false (litT 9) × PUnit), zoBInv ns y2 → bif pLt y2.1 (pInt (pLen ns)) then ShownEL_t0 else ShownEL_t0 else zoBInv ns ((0 : Int), (), ()) ∧ ∀ (y1 : kden Bool.false tI × kden Bool.false (litT 9) × PUnit), zoBInv ns y1 → bif pLt
 y1.1 (pInt (pLen ns)) then ShownEL_t0 else ShownEL_t0 else False
set_option maxRecDepth 100000 in
theorem ShownEL_meets (hcFault0 : Mt 25 ccFault0) (hlabelMay1 : Mt 34 clabelMay1) (h : ∀ (c : CfgD) (l : Int) (ss : (List StoD)) (ns : (List NotesD)) (x : CmdD), (∀ p ∈ ShownEL_p ⟨(c, l, ss, ns, x, ()), ()⟩, p) → ShownEL_VC c l ss ns x) : Mt 10 cShownEL :=
  meets_vc (E := envOf Tryd.prog [(25, (false, ccFault0)), (34, (false, clabelMay1))] eqsCsV) (envOf_ok (fun p hp => (by simp only [List.mem_cons, List.not_mem_nil, or_false] at hp; rcases hp with rfl | rfl; exact hcFault0; exact hlabelMay1)) (by kernel_rfl)) Shown1_S (fun x => fun ky9 st9 => look [(7, (⟨[.slot 13 false tI, .slot 12 false (litT 9)], zoAInv x.1.2.2.1, zoAMu x.1.2.2.1⟩ : Ann)), (12, (⟨[.slot 14 false tI, .slot 12 false (litT 9)], zoBInv x.1.2.2.2.1, zoBMu x.1.2.2.2.1⟩ : Ann)), (15, (⟨[.slot 15 false tI, .slot 12 false (litT 9)], zoCInv x.1.2.2.2.1 (slotI st9 14), zoCMu x.1.2.2.2.1 (slotI st9 14)⟩ : Ann))] ky9) Tryd.func10 (by kernel_rfl) (by kernel_rfl) ShownEL_p [] [.slot 0 false .str, .slot 1 false tI] ShownEL_f (fun x => ShownEL_VC x.1.1 x.1.2.1 x.1.2.2.1 x.1.2.2.2.1 x.1.2.2.2.2.1) (fun x => by kernel_rfl) (fun x hp => h x.1.1 x.1.2.1 x.1.2.2.1 x.1.2.2.2.1 x.1.2.2.2.2.1 hp)

abbrev ShownES_v0 (ss : List StoD) (y6 : kden Bool.false tI × kden Bool.false tI × PUnit) := pGet tySto ss (pNat y6.1)
abbrev ShownES_t1 : Prop := ((bs []), (3 : Int), ()) = (bs (vnil Nat), (9 : Int), ())
abbrev ShownES_v2 (c : CfgD) (l : Int) (_ : List StoD) (_ : List NotesD) (x : CmdD) := bif pEq x.1 (2 : Int) then Nat.le (Nat.succ (pLen c.2.1)) 4611686018427387904 ∧ placeF c x.2.1 = Bool.true ∧ pIn l (pLen c.2.1) ∧ pIn x.2.1 (pLen c.2.1) ∧ False else False
abbrev ShownES_v3 (c : CfgD) (l : Int) (ss : List StoD) (ns : List NotesD) (x : CmdD) (y8 : kden Bool.false tI × kden Bool.false tI × PUnit) := bif pNe y8.2.1 (0 : Int) then ((bs []), y8.2) = (bs (vnil Nat), (9 : Int), ()) else ShownES_v2 c l ss ns x
abbrev ShownES_v4 (c : CfgD) (l : Int) (ss : List StoD) (ns : List NotesD) (x : CmdD) (y8 : kden Bool.false tI × kden Bool.false tI × PUnit) := bif pEq y8.2.1 (0 : Int) then bif pNe x.1 (1 : Int) then bif pNe x.1 (2 : Int) then bif pNe x.1 (4 : Int) then ShownES_t1 else ShownES_v3 c l ss ns x y8 else ShownES_v3 c l ss ns x y8 else ShownES_v3 c l ss ns x y8 else ShownES_v3 c l ss ns
 x y8
abbrev ShownES_v5 (c : CfgD) (l : Int) (ss : List StoD) (ns : List NotesD) (x : CmdD) (y7 : kden Bool.false tI × kden Bool.false tI × PUnit) := bif pNe y7.2.1 (0 : Int) then ((bs []), y7.2) = (bs (vnil Nat), (9 : Int), ()) else ShownES_v2 c l ss ns x
abbrev ShownES_v6 (c : CfgD) (l : Int) (ss : List StoD) (ns : List NotesD) (x : CmdD) (y7 : kden Bool.false tI × kden Bool.false tI × PUnit) := bif pEq y7.2.1 (0 : Int) then bif pNe x.1 (1 : Int) then bif pNe x.1 (2 : Int) then bif pNe x.1 (4 : Int) then ShownES_t1 else ShownES_v5 c l ss ns x y7 else ShownES_v5 c l ss ns x y7 else ShownES_v5 c l ss ns x y7 else ShownES_v5 c l ss ns
 x y7
abbrev ShownES_v7 (ss : List StoD) (y3 : kden Bool.false tI × kden Bool.false tI × PUnit) := pGet tySto ss (pNat y3.1)
abbrev ShownES_v8 (c : CfgD) (l : Int) (ss : List StoD) (ns : List NotesD) (x : CmdD) (y5 : kden Bool.false tI × kden Bool.false tI × PUnit) := bif pNe y5.2.1 (0 : Int) then ((bs []), y5.2) = (bs (vnil Nat), (9 : Int), ()) else ShownES_v2 c l ss ns x
abbrev ShownES_v9 (c : CfgD) (l : Int) (ss : List StoD) (ns : List NotesD) (x : CmdD) (y5 : kden Bool.false tI × kden Bool.false tI × PUnit) := bif pEq y5.2.1 (0 : Int) then bif pNe x.1 (1 : Int) then bif pNe x.1 (2 : Int) then bif pNe x.1 (4 : Int) then ShownES_t1 else ShownES_v8 c l ss ns x y5 else ShownES_v8 c l ss ns x y5 else ShownES_v8 c l ss ns x y5 else ShownES_v8 c l ss ns
 x y5
abbrev ShownES_v10 (c : CfgD) (l : Int) (ss : List StoD) (ns : List NotesD) (x : CmdD) (y4 : kden Bool.false tI × kden Bool.false tI × PUnit) := bif pNe y4.2.1 (0 : Int) then ((bs []), y4.2) = (bs (vnil Nat), (9 : Int), ()) else ShownES_v2 c l ss ns x
abbrev ShownES_v11 (c : CfgD) (l : Int) (ss : List StoD) (ns : List NotesD) (x : CmdD) (y4 : kden Bool.false tI × kden Bool.false tI × PUnit) := bif pEq y4.2.1 (0 : Int) then bif pNe x.1 (1 : Int) then bif pNe x.1 (2 : Int) then bif pNe x.1 (4 : Int) then ShownES_t1 else ShownES_v10 c l ss ns x y4 else ShownES_v10 c l ss ns x y4 else ShownES_v10 c l ss ns x y4 else ShownES_v10 c l
 ss ns x y4
abbrev ShownES_v12 (ss : List StoD) (y0 : kden Bool.false tI × kden Bool.false tI × PUnit) := pGet tySto ss (pNat y0.1)
abbrev ShownES_v13 (c : CfgD) (l : Int) (ss : List StoD) (ns : List NotesD) (x : CmdD) (y2 : kden Bool.false tI × kden Bool.false tI × PUnit) := bif pNe y2.2.1 (0 : Int) then ((bs []), y2.2) = (bs (vnil Nat), (9 : Int), ()) else ShownES_v2 c l ss ns x
abbrev ShownES_v14 (c : CfgD) (l : Int) (ss : List StoD) (ns : List NotesD) (x : CmdD) (y2 : kden Bool.false tI × kden Bool.false tI × PUnit) := bif pEq y2.2.1 (0 : Int) then bif pNe x.1 (1 : Int) then bif pNe x.1 (2 : Int) then bif pNe x.1 (4 : Int) then ShownES_t1 else ShownES_v13 c l ss ns x y2 else ShownES_v13 c l ss ns x y2 else ShownES_v13 c l ss ns x y2 else ShownES_v13 c l
 ss ns x y2
abbrev ShownES_v15 (c : CfgD) (l : Int) (ss : List StoD) (ns : List NotesD) (x : CmdD) (y1 : kden Bool.false tI × kden Bool.false tI × PUnit) := bif pNe y1.2.1 (0 : Int) then ((bs []), y1.2) = (bs (vnil Nat), (9 : Int), ()) else ShownES_v2 c l ss ns x
abbrev ShownES_v16 (c : CfgD) (l : Int) (ss : List StoD) (ns : List NotesD) (x : CmdD) (y1 : kden Bool.false tI × kden Bool.false tI × PUnit) := bif pEq y1.2.1 (0 : Int) then bif pNe x.1 (1 : Int) then bif pNe x.1 (2 : Int) then bif pNe x.1 (4 : Int) then ShownES_t1 else ShownES_v15 c l ss ns x y1 else ShownES_v15 c l ss ns x y1 else ShownES_v15 c l ss ns x y1 else ShownES_v15 c l
 ss ns x y1

def ShownES_VC (c : CfgD) (l : Int) (ss : (List StoD)) (ns : (List NotesD)) (x : CmdD) : Prop :=
  Nat.le (Nat.succ (pLen c.2.1)) 4611686018427387904 ∧ cfgF c = (0 : Int) ∧ Nat.le (Nat.succ (pLen c.2.1)) 4611686018427387904 ∧ placeF c l = Bool.true ∧ bif pNe (pInt (pLen ss)) (pInt (pLen c.2.1)) then soAInv ss ((0 : Int), (9 : Int), ()) ∧
 ∀ (y6 : kden Bool.false tI × kden Bool.false tI × PUnit), soAInv ss y6 → bif pLt y6.1 (pInt (pLen ss)) then bif pEq y6.2.1 (0 : Int) then pIn y6.1 (pLen ss) ∧ Nat.le (Nat.succ (pLen (ShownES_v0 ss y6).1)) 4611686018427387904 ∧ Nat.le
 (Nat.succ (pLen (ShownES_v0 ss y6).2.1)) 4611686018427387904 ∧ Nat.le (Nat.succ (pLen (ShownES_v0 ss y6).2.2.1)) 4611686018427387904 ∧ Nat.le (Nat.succ (pLen (ShownES_v0 ss y6).2.2.2.1)) 4611686018427387904 ∧ bif pNot (stoF (ShownES_v0 ss
 y6)) then soAInv ss (pAdd IntKind.i64 y6.1 (1 : Int), (9 : Int), ()) ∧ Nat.le (Nat.succ (soAMu ss (pAdd IntKind.i64 y6.1 (1 : Int), (9 : Int), ()))) (soAMu ss y6) else soAInv ss (pAdd IntKind.i64 y6.1 (1 : Int), y6.2) ∧ Nat.le (Nat.succ
 (soAMu ss (pAdd IntKind.i64 y6.1 (1 : Int), y6.2))) (soAMu ss y6) else nineBInv ns ((0 : Int), y6.2) ∧ ∀ (y8 : kden Bool.false tI × kden Bool.false tI × PUnit), nineBInv ns y8 → bif pLt y8.1 (pInt (pLen ns)) then bif pEq y8.2.1 (0 : Int)
 then False else ShownES_v4 c l ss ns x y8 else ShownES_v4 c l ss ns x y8 else nineBInv ns ((0 : Int), y6.2) ∧ ∀ (y7 : kden Bool.false tI × kden Bool.false tI × PUnit), nineBInv ns y7 → bif pLt y7.1 (pInt (pLen ns)) then bif pEq y7.2.1 (0 :
 Int) then False else ShownES_v6 c l ss ns x y7 else ShownES_v6 c l ss ns x y7 else bif pNe (pInt (pLen ns)) (pInt (pLen c.2.1)) then soAInv ss ((0 : Int), (9 : Int), ()) ∧ ∀ (y3 : kden Bool.false tI × kden Bool.false tI × PUnit), soAInv ss
 y3 → bif pLt y3.1 (pInt (pLen ss)) then bif pEq y3.2.1 (0 : Int) then pIn y3.1 (pLen ss) ∧ Nat.le (Nat.succ (pLen (ShownES_v7 ss y3).1)) 4611686018427387904 ∧ Nat.le (Nat.succ (pLen (ShownES_v7 ss y3).2.1)) 4611686018427387904 ∧ Nat.le
 (Nat.succ (pLen (ShownES_v7 ss y3).2.2.1)) 4611686018427387904 ∧ Nat.le (Nat.succ (pLen (ShownES_v7 ss y3).2.2.2.1)) 4611686018427387904 ∧ bif pNot (stoF (ShownES_v7 ss y3)) then soAInv ss (pAdd IntKind.i64 y3.1 (1 : Int), (9 : Int), ()) ∧
 Nat.le (Nat.succ (soAMu ss (pAdd IntKind.i64 y3.1 (1 : Int), (9 : Int), ()))) (soAMu ss y3) else soAInv ss (pAdd IntKind.i64 y3.1 (1 : Int), y3.2) ∧ Nat.le (Nat.succ (soAMu ss (pAdd IntKind.i64 y3.1 (1 : Int), y3.2))) (soAMu ss y3) else
 nineBInv ns ((0 : Int), y3.2) ∧ ∀ (y5 : kden Bool.false tI × kden Bool.false tI × PUnit), nineBInv ns y5 → bif pLt y5.1 (pInt (pLen ns)) then bif pEq y5.2.1 (0 : Int) then False else ShownES_v9 c l ss ns x y5 else ShownES_v9 c l ss ns x y5
 else nineBInv ns ((0 : Int), y3.2) ∧ ∀ (y4 : kden Bool.false tI × kden Bool.false tI × PUnit), nineBInv ns y4 → bif pLt y4.1 (pInt (pLen ns)) then bif pEq y4.2.1 (0 : Int) then False else ShownES_v11 c l ss ns x y4 else ShownES_v11 c l ss
 ns x y4 else soAInv ss ((0 : Int), (0 : Int), ()) ∧ ∀ (y0 : kden Bool.false tI × kden Bool.false tI × PUnit), soAInv ss y0 → bif pLt y0.1 (pInt (pLen ss)) then bif pEq y0.2.1 (0 : Int) then pIn y0.1 (pLen ss) ∧ Nat.le (Nat.succ (pLen
 (ShownES_v12 ss y0).1)) 4611686018427387904 ∧ Nat.le (Nat.succ (pLen (ShownES_v12 ss y0).2.1)) 4611686018427387904 ∧ Nat.le (Nat.succ (pLen (ShownES_v12 ss y0).2.2.1)) 4611686018427387904 ∧ Nat.le (Nat.succ (pLen (ShownES_v12 ss
 y0).2.2.2.1)) 4611686018427387904 ∧ bif pNot (stoF (ShownES_v12 ss y0)) then soAInv ss (pAdd IntKind.i64 y0.1 (1 : Int), (9 : Int), ()) ∧ Nat.le (Nat.succ (soAMu ss (pAdd IntKind.i64 y0.1 (1 : Int), (9 : Int), ()))) (soAMu ss y0) else
 soAInv ss (pAdd IntKind.i64 y0.1 (1 : Int), y0.2) ∧ Nat.le (Nat.succ (soAMu ss (pAdd IntKind.i64 y0.1 (1 : Int), y0.2))) (soAMu ss y0) else nineBInv ns ((0 : Int), y0.2) ∧ ∀ (y2 : kden Bool.false tI × kden Bool.false tI × PUnit), nineBInv
 ns y2 → bif pLt y2.1 (pInt (pLen ns)) then bif pEq y2.2.1 (0 : Int) then False else ShownES_v14 c l ss ns x y2 else ShownES_v14 c l ss ns x y2 else nineBInv ns ((0 : Int), y0.2) ∧ ∀ (y1 : kden Bool.false tI × kden Bool.false tI × PUnit),
 nineBInv ns y1 → bif pLt y1.1 (pInt (pLen ns)) then bif pEq y1.2.1 (0 : Int) then False else ShownES_v16 c l ss ns x y1 else ShownES_v16 c l ss ns x y1
set_option maxRecDepth 100000 in
theorem ShownES_meets (hcFault0 : Mt 25 ccFault0) (hlabelMay1 : Mt 34 clabelMay1) (hStoreMay : Mt 35 cStoreMay) (h : ∀ (c : CfgD) (l : Int) (ss : (List StoD)) (ns : (List NotesD)) (x : CmdD), (∀ p ∈ ShownES_p ⟨(c, l, ss, ns, x, ()), ()⟩, p) → ShownES_VC c l ss ns x) : Mt 10 cShownES :=
  meets_vc (E := envOf Tryd.prog [(25, (false, ccFault0)), (34, (false, clabelMay1)), (35, (false, cStoreMay))] eqsCsV) (envOf_ok (fun p hp => (by simp only [List.mem_cons, List.not_mem_nil, or_false] at hp; rcases hp with rfl | rfl | rfl; exact hcFault0; exact hlabelMay1; exact hStoreMay)) (by kernel_rfl)) Shown1_S (fun x => fun ky9 st9 => look [(7, (⟨[.slot 13 false tI, .slot 12 false tI], soAInv x.1.2.2.1, soAMu x.1.2.2.1⟩ : Ann)), (12, (⟨[.slot 14 false tI, .slot 12 false tI], nineBInv x.1.2.2.2.1, nineBMu x.1.2.2.2.1⟩ : Ann))] ky9) Tryd.func10 (by kernel_rfl) (by kernel_rfl) ShownES_p [] [.slot 0 false .str, .slot 1 false tI] ShownEL_f (fun x => ShownES_VC x.1.1 x.1.2.1 x.1.2.2.1 x.1.2.2.2.1 x.1.2.2.2.2.1) (fun x => by kernel_rfl) (fun x hp => h x.1.1 x.1.2.1 x.1.2.2.1 x.1.2.2.2.1 x.1.2.2.2.2.1 hp)

abbrev ShownEN_v0 (ss : List StoD) (y0 : kden Bool.false tI × kden Bool.false (litT 0) × PUnit) := pGet tySto ss (pNat y0.1)
abbrev ShownEN_v1 (ns : List NotesD) (y1 : kden Bool.false tI × kden Bool.false tI × PUnit) := (pGet tyNotes ns (pNat y1.1)).1
abbrev ShownEN_v2 (c : CfgD) (l : Int) (_ : List StoD) (_ : List NotesD) (x : CmdD) (y1 : kden Bool.false tI × kden Bool.false tI × PUnit) := bif pNe y1.2.1 (0 : Int) then ((bs []), y1.2) = (bs (vnil Nat), (9 : Int), ()) else bif pEq x.1 (2 : Int) then Nat.le (Nat.succ (pLen c.2.1)) 4611686018427387904 ∧ placeF c x.2.1 = Bool.true ∧ pIn l (pLen c.2.1) ∧ pIn x.2.1 (pLen c.2.1) ∧
 False else False
abbrev ShownEN_v3 (c : CfgD) (l : Int) (ss : List StoD) (ns : List NotesD) (x : CmdD) (y1 : kden Bool.false tI × kden Bool.false tI × PUnit) := bif pEq y1.2.1 (0 : Int) then bif pNe x.1 (1 : Int) then bif pNe x.1 (2 : Int) then bif pNe x.1 (4 : Int) then ((bs []), (3 : Int), ()) = (bs (vnil Nat), (9 : Int), ()) else ShownEN_v2 c l ss ns x y1 else ShownEN_v2 c l ss ns x y1 else
 ShownEN_v2 c l ss ns x y1 else ShownEN_v2 c l ss ns x y1

def ShownEN_VC (c : CfgD) (l : Int) (ss : (List StoD)) (ns : (List NotesD)) (x : CmdD) : Prop :=
  Nat.le (Nat.succ (pLen c.2.1)) 4611686018427387904 ∧ cfgF c = (0 : Int) ∧ Nat.le (Nat.succ (pLen c.2.1)) 4611686018427387904 ∧ placeF c l = Bool.true ∧ bif pNe (pInt (pLen ss)) (pInt (pLen c.2.1)) then False else bif pNe (pInt (pLen ns))
 (pInt (pLen c.2.1)) then False else zoAInv ss ((0 : Int), (), ()) ∧ ∀ (y0 : kden Bool.false tI × kden Bool.false (litT 0) × PUnit), zoAInv ss y0 → bif pLt y0.1 (pInt (pLen ss)) then pIn y0.1 (pLen ss) ∧ Nat.le (Nat.succ (pLen (ShownEN_v0 ss
 y0).1)) 4611686018427387904 ∧ Nat.le (Nat.succ (pLen (ShownEN_v0 ss y0).2.1)) 4611686018427387904 ∧ Nat.le (Nat.succ (pLen (ShownEN_v0 ss y0).2.2.1)) 4611686018427387904 ∧ Nat.le (Nat.succ (pLen (ShownEN_v0 ss y0).2.2.2.1))
 4611686018427387904 ∧ stoF (ShownEN_v0 ss y0) = Bool.true ∧ zoAInv ss (pAdd IntKind.i64 y0.1 (1 : Int), (), ()) ∧ Nat.le (Nat.succ (zoAMu ss (pAdd IntKind.i64 y0.1 (1 : Int), (), ()))) (zoAMu ss y0) else soBInv ns ((0 : Int), (0 : Int), ())
 ∧ ∀ (y1 : kden Bool.false tI × kden Bool.false tI × PUnit), soBInv ns y1 → bif pLt y1.1 (pInt (pLen ns)) then bif pEq y1.2.1 (0 : Int) then soCInv ns y1.2.1 y1.1 ((0 : Int), y1.2) ∧ ∀ (y2 : kden Bool.false tI × kden Bool.false tI × PUnit),
 soCInv ns y1.2.1 y1.1 y2 → pIn y1.1 (pLen ns) ∧ bif pLt y2.1 (pInt (pLen (ShownEN_v1 ns y1))) then pIn y1.1 (pLen ns) ∧ pIn y2.1 (pLen (ShownEN_v1 ns y1)) ∧ bif pNot (txnF ((pGet tyNote (ShownEN_v1 ns y1) (pNat y2.1)).1, (pGet tyNote
 (ShownEN_v1 ns y1) (pNat y2.1)).2.1, ())) then soCInv ns y1.2.1 y1.1 (pAdd IntKind.i64 y2.1 (1 : Int), (9 : Int), ()) ∧ Nat.le (Nat.succ (soCMu ns y1.2.1 y1.1 (pAdd IntKind.i64 y2.1 (1 : Int), (9 : Int), ()))) (soCMu ns y1.2.1 y1.1 y2) else
 soCInv ns y1.2.1 y1.1 (pAdd IntKind.i64 y2.1 (1 : Int), y2.2) ∧ Nat.le (Nat.succ (soCMu ns y1.2.1 y1.1 (pAdd IntKind.i64 y2.1 (1 : Int), y2.2))) (soCMu ns y1.2.1 y1.1 y2) else soBInv ns (pAdd IntKind.i64 y1.1 (1 : Int), y2.2) ∧ Nat.le
 (Nat.succ (soBMu ns (pAdd IntKind.i64 y1.1 (1 : Int), y2.2))) (soBMu ns y1) else ShownEN_v3 c l ss ns x y1 else ShownEN_v3 c l ss ns x y1
set_option maxRecDepth 100000 in
theorem ShownEN_meets (hcFault0 : Mt 25 ccFault0) (hlabelMay1 : Mt 34 clabelMay1) (hStoreMay1 : Mt 35 cStoreMay1) (hplainTxn : Mt 36 cplainTxn) (h : ∀ (c : CfgD) (l : Int) (ss : (List StoD)) (ns : (List NotesD)) (x : CmdD), (∀ p ∈ ShownEN_p ⟨(c, l, ss, ns, x, ()), ()⟩, p) → ShownEN_VC c l ss ns x) : Mt 10 cShownEN :=
  meets_vc (E := envOf Tryd.prog [(25, (false, ccFault0)), (34, (false, clabelMay1)), (35, (false, cStoreMay1)), (36, (false, cplainTxn))] eqsCsV) (envOf_ok (fun p hp => (by simp only [List.mem_cons, List.not_mem_nil, or_false] at hp; rcases hp with rfl | rfl | rfl | rfl; exact hcFault0; exact hlabelMay1; exact hStoreMay1; exact hplainTxn)) (by kernel_rfl)) Shown1_S (fun x => fun ky9 st9 => look [(7, (⟨[.slot 13 false tI, .slot 12 false (litT 0)], zoAInv x.1.2.2.1, zoAMu x.1.2.2.1⟩ : Ann)), (12, (⟨[.slot 14 false tI, .slot 12 false tI], soBInv x.1.2.2.2.1, soBMu x.1.2.2.2.1⟩ : Ann)), (15, (⟨[.slot 15 false tI, .slot 12 false tI], soCInv x.1.2.2.2.1 (slotI st9 12) (slotI st9 14), soCMu x.1.2.2.2.1 (slotI st9 12) (slotI st9 14)⟩ : Ann))] ky9) Tryd.func10 (by kernel_rfl) (by kernel_rfl) ShownEN_p [] [.slot 0 false .str, .slot 1 false tI] ShownEL_f (fun x => ShownEN_VC x.1.1 x.1.2.1 x.1.2.2.1 x.1.2.2.2.1 x.1.2.2.2.2.1) (fun x => by kernel_rfl) (fun x hp => h x.1.1 x.1.2.1 x.1.2.2.1 x.1.2.2.2.1 x.1.2.2.2.2.1 hp)

abbrev ShownEK_v0 (ss : List StoD) (y0 : kden Bool.false tI × kden Bool.false (litT 0) × PUnit) := pGet tySto ss (pNat y0.1)
abbrev ShownEK_v1 (ns : List NotesD) (y1 : kden Bool.false tI × kden Bool.false (litT 0) × PUnit) := (pGet tyNotes ns (pNat y1.1)).1
abbrev ShownEK_v2 (c : CfgD) (l : Int) (_ : List StoD) (_ : List NotesD) (x : CmdD) := bif pEq x.1 (2 : Int) then Nat.le (Nat.succ (pLen c.2.1)) 4611686018427387904 ∧ placeF c x.2.1 = Bool.true ∧ pIn l (pLen c.2.1) ∧ pIn x.2.1 (pLen c.2.1) ∧ False else False

def ShownEK_VC (c : CfgD) (l : Int) (ss : (List StoD)) (ns : (List NotesD)) (x : CmdD) : Prop :=
  Nat.le (Nat.succ (pLen c.2.1)) 4611686018427387904 ∧ cfgF c = (0 : Int) ∧ Nat.le (Nat.succ (pLen c.2.1)) 4611686018427387904 ∧ placeF c l = Bool.true ∧ bif pNe (pInt (pLen ss)) (pInt (pLen c.2.1)) then False else bif pNe (pInt (pLen ns))
 (pInt (pLen c.2.1)) then False else zoAInv ss ((0 : Int), (), ()) ∧ ∀ (y0 : kden Bool.false tI × kden Bool.false (litT 0) × PUnit), zoAInv ss y0 → bif pLt y0.1 (pInt (pLen ss)) then pIn y0.1 (pLen ss) ∧ Nat.le (Nat.succ (pLen (ShownEK_v0 ss
 y0).1)) 4611686018427387904 ∧ Nat.le (Nat.succ (pLen (ShownEK_v0 ss y0).2.1)) 4611686018427387904 ∧ Nat.le (Nat.succ (pLen (ShownEK_v0 ss y0).2.2.1)) 4611686018427387904 ∧ Nat.le (Nat.succ (pLen (ShownEK_v0 ss y0).2.2.2.1))
 4611686018427387904 ∧ stoF (ShownEK_v0 ss y0) = Bool.true ∧ zoAInv ss (pAdd IntKind.i64 y0.1 (1 : Int), (), ()) ∧ Nat.le (Nat.succ (zoAMu ss (pAdd IntKind.i64 y0.1 (1 : Int), (), ()))) (zoAMu ss y0) else zoBInv ns ((0 : Int), (), ()) ∧ ∀
 (y1 : kden Bool.false tI × kden Bool.false (litT 0) × PUnit), zoBInv ns y1 → bif pLt y1.1 (pInt (pLen ns)) then zoCInv ns y1.1 ((0 : Int), (), ()) ∧ ∀ (y2 : kden Bool.false tI × kden Bool.false (litT 0) × PUnit), zoCInv ns y1.1 y2 → pIn
 y1.1 (pLen ns) ∧ bif pLt y2.1 (pInt (pLen (ShownEK_v1 ns y1))) then pIn y1.1 (pLen ns) ∧ pIn y2.1 (pLen (ShownEK_v1 ns y1)) ∧ txnF ((pGet tyNote (ShownEK_v1 ns y1) (pNat y2.1)).1, (pGet tyNote (ShownEK_v1 ns y1) (pNat y2.1)).2.1, ()) =
 Bool.true ∧ zoCInv ns y1.1 (pAdd IntKind.i64 y2.1 (1 : Int), (), ()) ∧ Nat.le (Nat.succ (zoCMu ns y1.1 (pAdd IntKind.i64 y2.1 (1 : Int), (), ()))) (zoCMu ns y1.1 y2) else zoBInv ns (pAdd IntKind.i64 y1.1 (1 : Int), (), ()) ∧ Nat.le
 (Nat.succ (zoBMu ns (pAdd IntKind.i64 y1.1 (1 : Int), (), ()))) (zoBMu ns y1) else bif pNe x.1 (1 : Int) then bif pNe x.1 (2 : Int) then bif pNe x.1 (4 : Int) then ((bs []), (3 : Int), ()) = (bs (vnil Nat), (3 : Int), ()) else ShownEK_v2 c
 l ss ns x else ShownEK_v2 c l ss ns x else ShownEK_v2 c l ss ns x
set_option maxRecDepth 100000 in
theorem ShownEK_meets (hcFault0 : Mt 25 ccFault0) (hlabelMay1 : Mt 34 clabelMay1) (hStoreMay1 : Mt 35 cStoreMay1) (hplainTxn1 : Mt 36 cplainTxn1) (h : ∀ (c : CfgD) (l : Int) (ss : (List StoD)) (ns : (List NotesD)) (x : CmdD), (∀ p ∈ ShownEK_p ⟨(c, l, ss, ns, x, ()), ()⟩, p) → ShownEK_VC c l ss ns x) : Mt 10 cShownEK :=
  meets_vc (E := envOf Tryd.prog [(25, (false, ccFault0)), (34, (false, clabelMay1)), (35, (false, cStoreMay1)), (36, (false, cplainTxn1))] eqsCsV) (envOf_ok (fun p hp => (by simp only [List.mem_cons, List.not_mem_nil, or_false] at hp; rcases hp with rfl | rfl | rfl | rfl; exact hcFault0; exact hlabelMay1; exact hStoreMay1; exact hplainTxn1)) (by kernel_rfl)) Shown1_S (fun x => fun ky9 st9 => look [(7, (⟨[.slot 13 false tI, .slot 12 false (litT 0)], zoAInv x.1.2.2.1, zoAMu x.1.2.2.1⟩ : Ann)), (12, (⟨[.slot 14 false tI, .slot 12 false (litT 0)], zoBInv x.1.2.2.2.1, zoBMu x.1.2.2.2.1⟩ : Ann)), (15, (⟨[.slot 15 false tI, .slot 12 false (litT 0)], zoCInv x.1.2.2.2.1 (slotI st9 14), zoCMu x.1.2.2.2.1 (slotI st9 14)⟩ : Ann))] ky9) Tryd.func10 (by kernel_rfl) (by kernel_rfl) ShownEK_p [] [.slot 0 false .str, .slot 1 false tI] ShownEK_f (fun x => ShownEK_VC x.1.1 x.1.2.1 x.1.2.2.1 x.1.2.2.2.1 x.1.2.2.2.2.1) (fun x => by kernel_rfl) (fun x hp => h x.1.1 x.1.2.1 x.1.2.2.1 x.1.2.2.2.1 x.1.2.2.2.2.1 hp)


end Go.Proofs.YtedjlbcclhgfmaaDoor

/- What operators see, the document's side: functions meet their contracts. No condition. -/
namespace Go.Proofs.YtedjlbcclhgfmaaDoor
open Go.RowKit Go.Lib Go.IntWalk

theorem lt_true {j n : Nat} (h : j < n) : pLt (j : Int) (pInt n) = true := decide_eq_true (Int.ofNat_lt.2 h)
theorem lt_self {n : Nat} : pLt (n : Int) (pInt n) = false := decide_eq_false (Int.lt_irrefl _)
theorem pItoa_ba (n : Int) : pItoa n = ba (itoa n) := rfl
theorem b32 : bs [32] = ba [32] := rfl
theorem b10 : bs [10] = ba [10] := rfl
theorem bcom : bs [32, 99, 111, 109, 109, 105, 116] = ba [32, 99, 111, 109, 109, 105, 116] := rfl
theorem babo : bs [32, 97, 98, 111, 114, 116] = ba [32, 97, 98, 111, 114, 116] := rfl
theorem bdam : bs [32, 100, 97, 109, 97, 103, 101] = ba [32, 100, 97, 109, 97, 103, 101] := rfl
theorem prep_eq (s : StoD) (t : TxnD) : bif pEq (askE s t 0) 0 then (pGt (bif pEq (askE s t 0) 0 then cntW s.2.1 t.1 t.2.1 else 0) 0, ()) = (prepF s t, ()) else (false, ()) = (prepF s t, ()) := by
  unfold prepF
  cases pEq (askE s t 0) 0
  · rfl
  · exact congrArg (·, ()) (Bool.true_and _).symm
theorem prepared_ok : Mt 33 cprepared := prepared_meets Writes_ok fun s t hp => ⟨(hp _ List.mem_cons_self), (hp _ (List.mem_cons_of_mem _ List.mem_cons_self)), (hp _ (List.mem_cons_of_mem _ (List.mem_cons_of_mem _ List.mem_cons_self))), (hp _ (List.mem_cons_of_mem _ (List.mem_cons_of_mem _ (List.mem_cons_of_mem _ List.mem_cons_self)))), prep_eq s t⟩
theorem preparedAt_ok : Mt 38 cpreparedAt := preparedAt_meets WritesOf_ok fun s t hp => ⟨(hp _ List.mem_cons_self), (hp _ (List.mem_cons_of_mem _ List.mem_cons_self)), (hp _ (List.mem_cons_of_mem _ (List.mem_cons_of_mem _ List.mem_cons_self))), (hp _ (List.mem_cons_of_mem _ (List.mem_cons_of_mem _ (List.mem_cons_of_mem _ List.mem_cons_self)))), prep_eq s t⟩

/- literals -/
theorem cFaultN_ok {n : Int} : Mt 25 (shCtr cFault0_S (fun x => [pLen x.1.1.2.1 < 4611686018427387904, cfgF x.1.1 = n]) [] [.slot 0 false tI] fun _ => (n, ())) :=
  meets_mono cFault_ok fun x hp => ⟨fun p h => by
    simp only [List.mem_cons, List.not_mem_nil, or_false] at h
    subst h
    exact hp _ List.mem_cons_self, congrArg (·, ()) (hp (cfgF x.1.1 = n) (by simp))⟩
theorem labelMayB_ok {b : Bool} : Mt 34 (shCtr labelMay1_S (fun x => [pLen x.1.1.2.1 < 4611686018427387904, placeF x.1.1 x.1.2.1 = b]) [] [.slot 0 false .bool] fun _ => (b, ())) :=
  meets_mono labelMay_ok fun x hp => ⟨fun p h => by
    simp only [List.mem_cons, List.not_mem_nil, or_false] at h
    subst h
    exact hp _ List.mem_cons_self, congrArg (·, ()) (hp (placeF x.1.1 x.1.2.1 = b) (by simp))⟩
theorem StoreMay1_ok : Mt 35 cStoreMay1 :=
  meets_mono StoreMay_ok fun x hp => ⟨fun p h => by
    simp only [List.mem_cons, List.not_mem_nil, or_false] at h
    rcases h with rfl | rfl | rfl | rfl
    · exact (hp _ List.mem_cons_self)
    · exact (hp _ (List.mem_cons_of_mem _ List.mem_cons_self))
    · exact (hp _ (List.mem_cons_of_mem _ (List.mem_cons_of_mem _ List.mem_cons_self)))
    · exact (hp _ (List.mem_cons_of_mem _ (List.mem_cons_of_mem _ (List.mem_cons_of_mem _ List.mem_cons_self)))), congrArg (·, ()) (hp _ (List.mem_cons_of_mem _ (List.mem_cons_of_mem _ (List.mem_cons_of_mem _ (List.mem_cons_of_mem _ List.mem_cons_self)))))⟩
theorem plainTxn1_ok : Mt 36 cplainTxn1 :=
  meets_mono plainTxn_ok fun x hp => ⟨fun p h => (by cases h), congrArg (·, ()) (hp _ List.mem_cons_self)⟩

/- what is bad, and what is not -/
structure ShwOk (c : CfgD) (l : Int) (ss : List StoD) (ns : List NotesD) : Prop where
  cfg : cfgF c = 0
  place : placeF c l = true
  lenS : ss.length = c.2.1.length
  lenN : ns.length = c.2.1.length
  stos : stosF ss = true
  nots : notsF ns = true
theorem c0 {b : Bool} {x y : Int} (h : cond b x y = 0) (hy : y ≠ 0) : b = true ∧ x = 0 := by
  cases b
  · exact absurd h hy
  · exact ⟨rfl, h⟩
theorem shw0 {c : CfgD} {l : Int} {ss : List StoD} {ns : List NotesD} {x : CmdD} (h : shwE c l ss ns x = 0) : ShwOk c l ss ns ∧ kindF x.1 = true := by
  unfold shwE at h
  cases hc : pEq (cfgF c) 0 with
  | false =>
    rw [hc, cond_false] at h
    rw [h] at hc; cases hc
  | true =>
    rw [hc, cond_true] at h
    obtain ⟨h1, h⟩ := c0 h (by decide)
    obtain ⟨h2, h⟩ := c0 h (by decide)
    obtain ⟨h3, h⟩ := c0 h (by decide)
    obtain ⟨h4, h⟩ := c0 h (by decide)
    obtain ⟨h5, _⟩ := c0 h (by decide)
    unfold lensF at h2
    simp only [Bool.and_eq_true, decide_eq_true_eq] at h2
    exact ⟨⟨by simpa [pEq] using hc, h1, h2.1, h2.2, h3, h4⟩, h5⟩
theorem lens_ne {a b : Nat} (h : a = b) (h2 : pNe (pInt a) (pInt b) = true) : False := by
  rw [h] at h2; simp [pNe] at h2
theorem place_in {c : CfgD} {l : Int} (h : placeF c l = true) : pIn l (pLen c.2.1) := by
  unfold placeF at h
  simp only [Bool.and_eq_true] at h
  exact ⟨of_decide_eq_true h.1, of_decide_eq_true h.2⟩
theorem stos_at {ss : List StoD} (h : stosF ss = true) {k : Nat} (hk : k < ss.length) : stoF (pGet tySto ss k) = true := allUpto_at h hk
theorem nots_at {ns : List NotesD} (h : notsF ns = true) {k : Nat} (hk : k < ns.length) : notesOk (pGet tyNotes ns k).1 := fun q hq => by
  obtain ⟨j, hj, rfl⟩ := List.getElem_of_mem hq
  have h0 : allUpto (notsAt ns) ns.length = true := h
  have h1 : notsAt ns k = true := allUpto_at h0 hk
  have := allUpto_at (p := fun j => noteOk (pGet tyNote (pGet tyNotes ns k).1 j)) h1 hj
  rwa [pGet_lt hj] at this
theorem cfg_lens {c : CfgD} (h : cfgF c = 0) : c.2.1.length ≤ 6 := by
  unfold cfgF at h
  obtain ⟨h1, h⟩ := c0 h (by decide)
  obtain ⟨h2, _⟩ := c0 h (by decide)
  have h2 := (inF_iff.1 h2).2
  simp only [pInt] at h2
  omega

/- lengths -/
theorem txn_in {t : TxnD} (h : txnF t = true) : 0 ≤ t.1 ∧ t.1 ≤ 9223372036854775807 ∧ 0 ≤ t.2.1 ∧ t.2.1 ≤ 9223372036854775807 := by
  unfold txnF at h
  simp only [Bool.and_eq_true] at h
  have h1 := inF_iff.1 h.1
  have h2 := inF_iff.1 h.2
  omega
theorem words_len {l : Int} {t : TxnD} (h0 : 0 ≤ l) (h1 : l ≤ 9223372036854775807) (h : txnF t = true) : (wordsL l t).length ≤ 59 := by
  obtain ⟨a, b, c, d⟩ := txn_in h
  have := itoa_len h0 h1
  have := itoa_len a b
  have := itoa_len c d
  unfold wordsL
  simp only [List.length_append, List.length_cons]
  omega
theorem prep_txn {s : StoD} {t : TxnD} (h : prepF s t = true) : txnF t = true := by
  unfold prepF at h
  simp only [Bool.and_eq_true] at h
  have h : askE s t 0 = 0 := by simpa [pEq] using h.1
  unfold askE at h
  obtain ⟨_, h⟩ := c0 h (by decide)
  obtain ⟨h, _⟩ := c0 h (by decide)
  simp only [Bool.and_eq_true] at h
  exact h.1
theorem doubt_age {s : StoD} (h : stoF s = true) {j : Nat} (hj : j < s.2.2.1.length) : 0 ≤ (pGet tyDoubt s.2.2.1 j).2.2.1 ∧ (pGet tyDoubt s.2.2.1 j).2.2.1 ≤ 1048576 ∧ txnF (dTxn (pGet tyDoubt s.2.2.1 j)) = true := by
  unfold stoF doubtsF at h
  simp only [Bool.and_eq_true] at h
  have := allUpto_at h.1.2.1 hj
  unfold doubtOkAt at this
  simp only [Bool.and_eq_true] at this
  have h2 := inF_iff.1 this.1.1.1.2
  exact ⟨h2.1, h2.2, this.1.1.1.1⟩
theorem list_len {l : Int} {s : StoD} (h0 : 0 ≤ l) (h1 : l ≤ 9223372036854775807) : ∀ ds : List DoubtD, (∀ d ∈ ds, 0 ≤ d.2.2.1 ∧ d.2.2.1 ≤ 1048576) → (listL l s ds).length ≤ 80 * ds.length
  | [], _ => Nat.le_refl _
  | d :: r, h => by
    have h2 := list_len (s := s) h0 h1 r fun q hq => h q (List.mem_cons_of_mem _ hq)
    have hd := h d List.mem_cons_self
    have h3 : (dLine l s d).length ≤ 80 := by
      unfold dLine
      cases hp : prepF s (dTxn d)
      · exact Nat.zero_le _
      · have := words_len h0 h1 (prep_txn hp)
        have := itoa_len hd.1 (by omega)
        simp only [cond_true, List.length_append, List.length_cons, List.length_nil]
        omega
    show (dLine l s d ++ listL l s r).length ≤ 80 * (r.length + 1)
    rw [List.length_append]; omega
theorem doubts_mem {s : StoD} (h : stoF s = true) : ∀ d ∈ s.2.2.1, 0 ≤ d.2.2.1 ∧ d.2.2.1 ≤ 1048576 := fun d hd => by
  obtain ⟨j, hj, rfl⟩ := List.getElem_of_mem hd
  have := doubt_age h hj
  rw [pGet_lt hj] at this
  exact ⟨this.1, this.2.1⟩
theorem tail_len (n : NoteD) : (nTail n).length ≤ 15 := by
  unfold nTail
  cases n.2.2.1 <;> cases n.2.2.2.1 <;> decide
theorem audit_len {l : Int} (h0 : 0 ≤ l) (h1 : l ≤ 9223372036854775807) : ∀ ns : List NoteD, notesOk ns → (auditL l ns).length ≤ 80 * ns.length
  | [], _ => Nat.le_refl _
  | n :: r, h => by
    have h2 := audit_len h0 h1 r fun q hq => h q (List.mem_cons_of_mem _ hq)
    have h3 := words_len h0 h1 (h n List.mem_cons_self)
    have h4 := tail_len n
    show ((wordsL l (nTxn n) ++ nTail n) ++ auditL l r).length ≤ 80 * (r.length + 1)
    simp only [List.length_append]; omega
def sumTo (g : Nat → Nat) : Nat → Nat
  | 0 => 0
  | k + 1 => sumTo g k + g k
theorem parts_len {f : Nat → List UInt8} {g : Nat → Nat} : ∀ {k : Nat}, (∀ i, i < k → (f i).length ≤ 80 * g i) → (partsTo f k).length ≤ 80 * sumTo g k
  | 0, _ => Nat.le_refl _
  | k + 1, h => by
    have h1 := parts_len (k := k) fun i hi => h i (by omega)
    have h2 := h k (by omega)
    show (partsTo f k ++ f k).length ≤ 80 * (sumTo g k + g k)
    rw [List.length_append]; omega
theorem sum_take {α : Type} {v : α → Nat} {d : α} : ∀ {l : List α} {k : Nat}, k ≤ l.length → sumTo (fun i => v (l.getD i d)) k ≤ (l.map v).sum := by
  intro l k hk
  have e : ∀ {k : Nat}, k ≤ l.length → sumTo (fun i => v (l.getD i d)) k = ((l.take k).map v).sum := by
    intro k
    induction k with
    | zero => intro _; simp [sumTo]
    | succ k ih =>
      intro h
      show sumTo (fun i => v (l.getD i d)) k + v (l.getD k d) = _
      rw [ih (by omega), List.take_succ_eq_append_getElem (by omega), List.map_append, List.sum_append, List.getD_eq_getElem?_getD, List.getElem?_eq_getElem (by omega)]
      simp
  rw [e hk]
  conv => rhs; rw [← List.take_append_drop k l]
  rw [List.map_append, List.sum_append]
  omega
theorem totS_ge {ss : List StoD} {k : Nat} (hk : k ≤ ss.length) : sumTo (fun i => (pGet tySto ss i).2.2.1.length) k ≤ totS ss := sum_take (v := fun s : StoD => s.2.2.1.length) (d := tySto.dflt) hk
theorem totN_ge {ns : List NotesD} {k : Nat} (hk : k ≤ ns.length) : sumTo (fun i => (pGet tyNotes ns i).1.length) k ≤ totN ns := sum_take (v := fun s : NotesD => s.1.length) (d := tyNotes.dflt) hk
theorem part1_len {c : CfgD} {l : Int} {ss : List StoD} (hs : stosF ss = true) {i : Nat} (hi : i < ss.length) (h6 : i ≤ 6) : (part1 c l ss i).length ≤ 80 * (pGet tySto ss i).2.2.1.length := by
  unfold part1
  cases aboveF (pGet tyLab c.2.1 (pNat l)) (pGet tyLab c.2.1 i)
  · exact Nat.zero_le _
  · exact list_len (by omega) (by omega) _ (doubts_mem (stos_at hs hi))
theorem part4_len {c : CfgD} {l : Int} {ns : List NotesD} (hs : notsF ns = true) {i : Nat} (hi : i < ns.length) (h6 : i ≤ 6) : (part4 c l ns i).length ≤ 80 * (pGet tyNotes ns i).1.length := by
  unfold part4
  cases aboveF (pGet tyLab c.2.1 (pNat l)) (pGet tyLab c.2.1 i)
  · exact Nat.zero_le _
  · exact audit_len (by omega) (by omega) _ (nots_at hs hi)
theorem parts1_len {c : CfgD} {l : Int} {ss : List StoD} {ns : List NotesD} (h : ShwOk c l ss ns) (hb : pBulk ss ns) {k : Nat} (hk : k ≤ c.2.1.length) : (partsTo (part1 c l ss) k).length ≤ 83886080 := by
  have h6 := cfg_lens h.cfg
  have h1 := parts_len (f := part1 c l ss) (g := fun i => (pGet tySto ss i).2.2.1.length) (k := k) fun i hi => part1_len h.stos (by have := h.lenS; omega) (by omega)
  have h2 := totS_ge (ss := ss) (k := k) (by have := h.lenS; omega)
  unfold pBulk at hb
  omega
theorem parts4_len {c : CfgD} {l : Int} {ss : List StoD} {ns : List NotesD} (h : ShwOk c l ss ns) (hb : pBulk ss ns) {k : Nat} (hk : k ≤ c.2.1.length) : (partsTo (part4 c l ns) k).length ≤ 83886080 := by
  have h6 := cfg_lens h.cfg
  have h1 := parts_len (f := part4 c l ns) (g := fun i => (pGet tyNotes ns i).1.length) (k := k) fun i hi => part4_len h.nots (by have := h.lenN; omega) (by omega)
  have h2 := totN_ge (ns := ns) (k := k) (by have := h.lenN; omega)
  unfold pBulk at hb
  omega

/- the loops of the checks, where all may be -/
theorem zoA_loop {ss : List StoD} {R : Prop} (hl : ss.length < 4611686018427387904) (hs : stosF ss = true) (h4 : ∀ q ∈ ss, pLen q.1 < 4611686018427387904 ∧ pLen q.2.1 < 4611686018427387904 ∧ pLen q.2.2.1 < 4611686018427387904 ∧ pLen q.2.2.2.1 < 4611686018427387904) (hR : R) :
    zoAInv ss ((0 : Int), (), ()) ∧ ∀ (y0 : kden Bool.false tI × kden Bool.false (litT 0) × PUnit), zoAInv ss y0 → bif pLt y0.1 (pInt (pLen ss)) then pIn y0.1 (pLen ss) ∧ Nat.le (Nat.succ (pLen (pGet tySto ss (pNat y0.1)).1)) 4611686018427387904 ∧
      Nat.le (Nat.succ (pLen (pGet tySto ss (pNat y0.1)).2.1)) 4611686018427387904 ∧ Nat.le (Nat.succ (pLen (pGet tySto ss (pNat y0.1)).2.2.1)) 4611686018427387904 ∧ Nat.le (Nat.succ (pLen (pGet tySto ss (pNat y0.1)).2.2.2.1)) 4611686018427387904 ∧
      stoF (pGet tySto ss (pNat y0.1)) = Bool.true ∧ zoAInv ss (pAdd IntKind.i64 y0.1 (1 : Int), (), ()) ∧ Nat.le (Nat.succ (zoAMu ss (pAdd IntKind.i64 y0.1 (1 : Int), (), ()))) (zoAMu ss y0) else R := by
  refine ⟨StepInv.start rfl, fun y hy => ?_⟩
  rcases StepInv.round hl hy with ⟨k, rfl, hk, hb, hz⟩ | rfl
  · rw [bif_true (by exact lt_true hk)]
    dsimp only
    rw [pNat_coe]
    have hm : pGet tySto ss k ∈ ss := by rw [pGet_lt hk]; exact List.getElem_mem hk
    obtain ⟨q1, q2, q3, q4⟩ := h4 _ hm
    exact ⟨pIn_coe.2 hk, q1, q2, q3, q4, stos_at hs hk, hz _ rfl⟩
  · rw [bif_false (by exact lt_self)]
    exact hR
theorem zoB_loop {ns : List NotesD} {R : Prop} (hl : ns.length < 4611686018427387904) (hn : notsF ns = true) (h1 : ∀ q ∈ ns, pLen q.1 < 4611686018427387904) (hR : R) :
    zoBInv ns ((0 : Int), (), ()) ∧ ∀ (y1 : kden Bool.false tI × kden Bool.false (litT 0) × PUnit), zoBInv ns y1 → bif pLt y1.1 (pInt (pLen ns)) then zoCInv ns y1.1 ((0 : Int), (), ()) ∧ ∀ (y5 : kden Bool.false tI × kden Bool.false (litT 0) × PUnit),
      zoCInv ns y1.1 y5 → pIn y1.1 (pLen ns) ∧ bif pLt y5.1 (pInt (pLen (pGet tyNotes ns (pNat y1.1)).1)) then pIn y1.1 (pLen ns) ∧ pIn y5.1 (pLen (pGet tyNotes ns (pNat y1.1)).1) ∧ txnF ((pGet tyNote (pGet tyNotes ns (pNat y1.1)).1 (pNat y5.1)).1,
      (pGet tyNote (pGet tyNotes ns (pNat y1.1)).1 (pNat y5.1)).2.1, ()) = Bool.true ∧ zoCInv ns y1.1 (pAdd IntKind.i64 y5.1 (1 : Int), (), ()) ∧ Nat.le (Nat.succ (zoCMu ns y1.1 (pAdd IntKind.i64 y5.1 (1 : Int), (), ()))) (zoCMu ns
      y1.1 y5) else zoBInv ns (pAdd IntKind.i64 y1.1 (1 : Int), (), ()) ∧ Nat.le (Nat.succ (zoBMu ns (pAdd IntKind.i64 y1.1 (1 : Int), (), ()))) (zoBMu ns y1) else R := by
  refine ⟨StepInv.start rfl, fun y hy => ?_⟩
  rcases StepInv.round hl hy with ⟨k, rfl, hk, hb, hz⟩ | rfl
  · rw [bif_true (by exact lt_true hk)]
    dsimp only
    have hm : pGet tyNotes ns k ∈ ns := by rw [pGet_lt hk]; exact List.getElem_mem hk
    have hl1 := h1 _ hm
    refine ⟨StepInv.start rfl, fun y5 hy5 => ⟨pIn_coe.2 hk, ?_⟩⟩
    unfold zoCInv at hy5
    rw [pNat_coe] at hy5 ⊢
    rcases StepInv.round hl1 hy5 with ⟨j, rfl, hj, hb5, hz5⟩ | rfl
    · rw [bif_true (by exact lt_true hj)]
      dsimp only
      rw [pNat_coe]
      refine ⟨pIn_coe.2 hk, pIn_coe.2 hj, ?_, ?_⟩
      · have := nots_at hn hk (pGet tyNote (pGet tyNotes ns k).1 j) (by rw [pGet_lt hj]; exact List.getElem_mem hj)
        exact this
      · unfold zoCInv zoCMu
        rw [pNat_coe]
        exact hz5 _ rfl
    · rw [bif_false (by exact lt_self)]
      exact hz _ rfl
  · rw [bif_false (by exact lt_self)]
    exact hR

theorem shwS_list {c : CfgD} {l : Int} {ss : List StoD} {ns : List NotesD} {xr : CmdR} (h : shwE c l ss ns (1, xr) = 0) : shwS c l ss ns (1, xr) = ba (partsTo (part1 c l ss) c.2.1.length) := by
  unfold shwS; rw [h]; rfl
theorem shwS_audit {c : CfgD} {l : Int} {ss : List StoD} {ns : List NotesD} {xr : CmdR} (h : shwE c l ss ns (4, xr) = 0) : shwS c l ss ns (4, xr) = ba (partsTo (part4 c l ns) c.2.1.length) := by
  unfold shwS; rw [h]; rfl
theorem part1_above {c : CfgD} {l : Int} {ss : List StoD} {k : Nat} (h : aboveF (pGet tyLab c.2.1 (pNat l)) (pGet tyLab c.2.1 k) = true) : part1 c l ss k = listL k (pGet tySto ss k) (pGet tySto ss k).2.2.1 := by
  unfold part1; rw [h]; rfl
theorem part1_not {c : CfgD} {l : Int} {ss : List StoD} {k : Nat} (h : aboveF (pGet tyLab c.2.1 (pNat l)) (pGet tyLab c.2.1 k) = false) : part1 c l ss k = [] := by
  unfold part1; rw [h]; rfl
theorem part4_above {c : CfgD} {l : Int} {ns : List NotesD} {k : Nat} (h : aboveF (pGet tyLab c.2.1 (pNat l)) (pGet tyLab c.2.1 k) = true) : part4 c l ns k = auditL k (pGet tyNotes ns k).1 := by
  unfold part4; rw [h]; rfl
theorem part4_not {c : CfgD} {l : Int} {ns : List NotesD} {k : Nat} (h : aboveF (pGet tyLab c.2.1 (pNat l)) (pGet tyLab c.2.1 k) = false) : part4 c l ns k = [] := by
  unfold part4; rw [h]; rfl
theorem list_take {l : Int} {s : StoD} {j : Nat} (hj : j < s.2.2.1.length) : listL l s (s.2.2.1.take (j + 1)) = listL l s (s.2.2.1.take j) ++ dLine l s (pGet tyDoubt s.2.2.1 j) := by
  rw [← take_app (t := tyDoubt) hj]
  unfold pApp
  rw [listL_app]
  show _ ++ (dLine l s _ ++ []) = _
  rw [List.append_nil]
theorem audit_take {l : Int} {ns : List NoteD} {j : Nat} (hj : j < ns.length) : auditL l (ns.take (j + 1)) = auditL l (ns.take j) ++ nLine l (pGet tyNote ns j) := by
  rw [← take_app (t := tyNote) hj]
  unfold pApp
  rw [auditL_app]
  show _ ++ (nLine l _ ++ []) = _
  rw [List.append_nil]

set_option maxHeartbeats 1000000 in
theorem Shown1_ok : Mt 10 cShown1 := Shown1_meets cFaultN_ok labelMayB_ok StoreMay1_ok plainTxn1_ok domin_ok preparedAt_ok Dec_ok fun c l ss ns xr hp => by
  have hc : pLen c.2.1 < 4611686018427387904 := (hp _ (List.mem_cons_of_mem _ List.mem_cons_self))
  have hls : pLen ss < 4611686018427387904 := (hp _ (List.mem_cons_of_mem _ (List.mem_cons_of_mem _ List.mem_cons_self)))
  have hln : pLen ns < 4611686018427387904 := (hp _ (List.mem_cons_of_mem _ (List.mem_cons_of_mem _ (List.mem_cons_of_mem _ List.mem_cons_self))))
  have h4 : ∀ q ∈ ss, pLen q.1 < 4611686018427387904 ∧ pLen q.2.1 < 4611686018427387904 ∧ pLen q.2.2.1 < 4611686018427387904 ∧ pLen q.2.2.2.1 < 4611686018427387904 := (hp _ (List.mem_cons_of_mem _ (List.mem_cons_of_mem _ (List.mem_cons_of_mem _ (List.mem_cons_of_mem _ List.mem_cons_self)))))
  have h1 : ∀ q ∈ ns, pLen q.1 < 4611686018427387904 := (hp _ (List.mem_cons_of_mem _ (List.mem_cons_of_mem _ (List.mem_cons_of_mem _ (List.mem_cons_of_mem _ (List.mem_cons_of_mem _ List.mem_cons_self))))))
  have hbulk : pBulk ss ns := (hp _ (List.mem_cons_of_mem _ (List.mem_cons_of_mem _ (List.mem_cons_of_mem _ (List.mem_cons_of_mem _ (List.mem_cons_of_mem _ (List.mem_cons_of_mem _ List.mem_cons_self)))))))
  have hE : shwE c l ss ns (1, xr) = 0 := (hp _ (List.mem_cons_of_mem _ (List.mem_cons_of_mem _ (List.mem_cons_of_mem _ (List.mem_cons_of_mem _ (List.mem_cons_of_mem _ (List.mem_cons_of_mem _ (List.mem_cons_of_mem _ List.mem_cons_self))))))))
  clear hp
  obtain ⟨h, _⟩ := shw0 hE
  have hlS := h.lenS
  have hlN := h.lenN
  have h6 := cfg_lens h.cfg
  delta Shown1_VC
  refine ⟨hc, h.cfg, hc, h.place, bif_ok (fun e => (lens_ne hlS e).elim) fun _ => bif_ok (fun e => (lens_ne hlN e).elim) fun _ => zoA_loop hls h.stos h4 (zoB_loop hln h.nots h1 ⟨StepInv.start rfl, fun y2 hy2 => ?_⟩)⟩
  rcases StepInv.round hc hy2 with ⟨k, rfl, hk, hb, hz⟩ | rfl
  · rw [bif_true (by exact lt_true hk)]
    dsimp only
    rw [pNat_coe]
    have hks : k < ss.length := Nat.lt_of_lt_of_eq hk hlS.symm
    refine ⟨place_in h.place, pIn_coe.2 hk, bif_ok (fun ha => ?_) fun ha => ?_⟩
    · have ha : aboveF (pGet tyLab c.2.1 (pNat l)) (pGet tyLab c.2.1 k) = false := by simpa [pNot] using ha
      refine hz _ ?_
      show _ = (ba (partsTo (part1 c l ss) k ++ part1 c l ss k), ())
      rw [part1_not ha, List.append_nil]
    · have ha : aboveF (pGet tyLab c.2.1 (pNat l)) (pGet tyLab c.2.1 k) = true := by simpa [pNot] using ha
      have hP := parts1_len (l := l) h hbulk (k := k) (by omega)
      have hfin : partsTo (part1 c l ss) (k + 1) = partsTo (part1 c l ss) k ++ listL k (pGet tySto ss k) (pGet tySto ss k).2.2.1 := by
        show partsTo (part1 c l ss) k ++ part1 c l ss k = _
        rw [part1_above ha]
      have hP2 := parts1_len (l := l) h hbulk (k := k + 1) (by omega)
      generalize hPe : partsTo (part1 c l ss) k = P at *
      have hst := stos_at h.stos hks
      have hm : pGet tySto ss k ∈ ss := by rw [pGet_lt hks]; exact List.getElem_mem hks
      obtain ⟨q1, q2, q3, q4⟩ := h4 _ hm
      have hages := doubts_mem hst
      refine ⟨StepInv.start ?_, fun y3 hy3 => ⟨pIn_coe.2 hks, ?_⟩⟩
      · show (ba P, ()) = (pStrApp (ba P) (ba []), ())
        rw [ba_app, List.append_nil]
      unfold so1EInv at hy3
      simp only [pNat_coe, ba_app] at hy3
      delta Shown1_t7 Shown1_v6 Shown1_v5 Shown1_v4 Shown1_v3 Shown1_v2
      dsimp only
      rw [pNat_coe]
      have hD : (pGet tySto ss k).2.2.1.length ≤ 1048576 := Nat.le_trans (Nat.le_trans (Nat.le_add_left _ (sumTo (fun i => (pGet tySto ss i).2.2.1.length) k)) (totS_ge (ss := ss) (k := k + 1) hks)) (Nat.le_trans (Nat.le_add_right _ _) hbulk)
      have hL : ∀ j, (listL (k : Int) (pGet tySto ss k) ((pGet tySto ss k).2.2.1.take j)).length ≤ 83886080 := fun j =>
        Nat.le_trans (list_len (l := (k : Int)) (s := pGet tySto ss k) (by omega) (by omega) ((pGet tySto ss k).2.2.1.take j) fun d hd => hages d (List.mem_of_mem_take hd)) (Nat.mul_le_mul_left 80 (Nat.le_trans (List.length_take_le' _ _) (Nat.le_trans (Nat.le_refl _) hD)))
      rcases StepInv.round q3 hy3 with ⟨j, rfl, hj, hb3, hz3⟩ | rfl
      · rw [bif_true (by exact lt_true hj)]
        dsimp only
        rw [pNat_coe]
        obtain ⟨a0, a1, _⟩ := doubt_age hst hj
        have nxt : ∀ z, z = (ba (P ++ listL (k : Int) (pGet tySto ss k) ((pGet tySto ss k).2.2.1.take (j + 1))), ()) → so1EInv ss (ba P) (k : Int) (pAdd IntKind.i64 (j : Int) (1 : Int), z) ∧ Nat.le (Nat.succ (so1EMu ss (ba P) (k : Int) (pAdd IntKind.i64 (j : Int) (1 : Int), z))) (so1EMu ss (ba P) (k : Int) ((j : Int), ba (P ++ listL (k : Int) (pGet tySto ss k) ((pGet tySto ss k).2.2.1.take j)), ())) := fun z e => by
          unfold so1EInv so1EMu
          simp only [pNat_coe, ba_app]
          exact hz3 z e
        have htk := list_take (l := (k : Int)) (s := pGet tySto ss k) hj
        have hLen := hL j
        rw [htk] at nxt
        generalize hLe : listL (k : Int) (pGet tySto ss k) ((pGet tySto ss k).2.2.1.take j) = L at *
        obtain ⟨d, hd0⟩ : ∃ d : DoubtD, pGet tyDoubt (pGet tySto ss k).2.2.1 j = d := ⟨_, rfl⟩
        have hd1 : pGet tyItem (pGet tySto ss k).2.2.1 j = d := hd0
        rw [hd0] at nxt a0 a1
        rw [hd1]
        refine ⟨pIn_coe.2 hks, pIn_coe.2 hj, pIn_coe.2 hks, q1, q2, q3, q4, bif_ok (fun hpr => ?_) fun hpr => ?_⟩
        · have hpr : prepF (pGet tySto ss k) (dTxn d) = true := hpr
          obtain ⟨t0, t1, t2, t3⟩ := txn_in (prep_txn hpr)
          have i0 := itoa_len (n := (k : Int)) (by omega) (by omega)
          have i1 : (itoa d.1).length ≤ 19 := itoa_len t0 t1
          have i2 : (itoa d.2.1).length ≤ 19 := itoa_len t2 t3
          have i3 : (itoa d.2.2.1).length ≤ 19 := itoa_len a0 (Int.le_trans a1 (by decide))
          have hd : dLine (k : Int) (pGet tySto ss k) d = itoa (k : Int) ++ (32 :: (itoa d.1 ++ (32 :: itoa d.2.1))) ++ (32 :: (itoa d.2.2.1 ++ [10])) := by
            unfold dLine; rw [hpr]; rfl
          rw [hd] at nxt
          simp only [pItoa_ba, b32, b10, ba_app]
          have F : ∀ a b : List UInt8, a.length ≤ 1000000000 → b.length ≤ 1000 → pStrFits (ba a) (ba b) := fun a b h1 h2 => fits_ba (by omega)
          refine ⟨decide_eq_true (by omega), decide_eq_true (by omega), F _ _ ?_ (by omega), F _ _ ?_ (by decide), decide_eq_true t0, decide_eq_true t1, F _ _ ?_ (Nat.le_trans i1 (by decide)), F _ _ ?_ (by decide), decide_eq_true t2, decide_eq_true t3, F _ _ ?_ (Nat.le_trans i2 (by decide)), F _ _ ?_ (by decide), decide_eq_true a0, decide_eq_true (Int.le_trans a1 (by decide)), F _ _ ?_ (Nat.le_trans i3 (by decide)), F _ _ ?_ (by decide), nxt _ ?_⟩
          case refine_9 => simp only [List.append_assoc, List.cons_append, List.nil_append]
          all_goals (simp only [List.length_append, List.length_cons, List.length_nil]; omega)
        · have hpr : prepF (pGet tySto ss k) (dTxn d) = false := hpr
          have hd : dLine (k : Int) (pGet tySto ss k) d = [] := by unfold dLine; rw [hpr]; rfl
          rw [hd, List.append_nil] at nxt
          exact nxt _ rfl
      · rw [bif_false (by exact lt_self)]
        dsimp only
        refine ⟨StepInv.start rfl, fun y4 hy4 => ⟨pIn_coe.2 (Nat.lt_of_lt_of_eq hk hlN.symm), ?_⟩⟩
        obtain ⟨k4, hk4, rfl⟩ := hy4
        have e : ∀ z, z = (ba (P ++ listL (k : Int) (pGet tySto ss k) (pGet tySto ss k).2.2.1), ()) → so1DInv c l ss (pAdd IntKind.i64 (k : Int) (1 : Int), z) ∧ Nat.le (Nat.succ (so1DMu c l ss (pAdd IntKind.i64 (k : Int) (1 : Int), z))) (so1DMu c l ss ((k : Int), ba P, ())) := fun z ez => by
          rw [← hfin] at ez
          exact hz z ez
        have fin := e (ba (P ++ listL (k : Int) (pGet tySto ss k) ((pGet tySto ss k).2.2.1.take (pGet tySto ss k).2.2.1.length)), ()) (by rw [List.take_length])
        exact bif_ok (fun _ => fin) fun _ => fin
  · rw [bif_false (by exact lt_self)]
    exact congrArg (·, (0 : Int), ()) (shwS_list hE).symm


end Go.Proofs.YtedjlbcclhgfmaaDoor
