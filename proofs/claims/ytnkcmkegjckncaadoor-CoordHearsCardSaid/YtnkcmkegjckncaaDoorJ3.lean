/- The sites of a job's tasks, sorted: those that have a hand in it. No condition. -/
import Derived.Test.YtnkcmkegjckncaaDoorJ2
import Derived.Test.YtnkcmkegjckncaaDoorJ1

/- Contracts, and what the evaluator says, as plain propositions: CtV. Printed by vc.py. -/
namespace Go.Proofs.YtnkcmkegjckncaaDoor
open Go.RowKit Go.ChangeShapes Go.WideShapes Go.Deep

abbrev cloneT_S : Shape := ⟨[.one (.rd (.sl tyTask))], []⟩
abbrev cloneT_f : Shape.den cloneT_S → denVars [.slot 0 true tyTask] := fun x => (x.1.1, ())
abbrev cloneT_p : Shape.den cloneT_S → List Prop := fun x => [pRoom (pLen x.1.1) 56]
def ccloneT : Ctr := shCtr cloneT_S cloneT_p [] [.slot 0 true tyTask] cloneT_f
abbrev cloneN_S : Shape := ⟨[.one (.rd (.sl tyN))], []⟩
abbrev cloneN_f : Shape.den cloneN_S → denVars [.slot 0 true tyN] := fun x => (x.1.1, ())
abbrev cloneN_p : Shape.den cloneN_S → List Prop := fun x => [pRoom (pLen x.1.1) 8]
def ccloneN : Ctr := shCtr cloneN_S cloneN_p [] [.slot 0 true tyN] cloneN_f
def cTasksCopy : Ctr := shCtr cloneT_S cloneT_p [] [.slot 0 true tyTask] cloneT_f
def cintsCopy : Ctr := shCtr cloneN_S cloneN_p [] [.slot 0 true tyN] cloneN_f
abbrev cown_S : Shape := ⟨[pDesk], []⟩
abbrev cown_f : Shape.den cown_S → denVars [.agg 0 vDesk] := fun x => ((x.1.1.1, x.1.1.2.1, ()), ())
abbrev cown_p : Shape.den cown_S → List Prop := fun x => [pRoom (pLen x.1.1.2.1) 80, (∀ q ∈ x.1.1.2.1, pRoom (pLen q.2.2.1) 56 ∧ pRoom (pLen q.2.2.2.1) 8), pLen x.1.1.2.1 < 4611686018427387904]
def cDeskCopy : Ctr := shCtr cown_S cown_p [] [.agg 0 vDesk] cown_f
abbrev place1_S : Shape := ⟨[pJob, .one (.lit (.pt 0 0))], [.box [.rd tI]]⟩
abbrev place1_f : Shape.den place1_S → denVars [.slot 0 false .bool] := fun x => (pEq x.1.1.1 x.2.1.1, ())
abbrev place1_p : Shape.den place1_S → List Prop := fun _ => []
def cplace1 : Ctr := shCtr place1_S place1_p [] [.slot 0 false .bool] place1_f
abbrev indexJ_S : Shape := ⟨[.one (.rd (.sl tyJob)), .one (.lit (.fn 39 [(0, 0)]))], [.box [.rd tI]]⟩
abbrev indexJ_f : Shape.den indexJ_S → denVars [.slot 0 false tI] := fun x => (idxKeyJ x.1.1 x.2.1.1, ())
abbrev indexJ_p : Shape.den indexJ_S → List Prop := fun x => [pLen x.1.1 < 4611686018427387904]
def cindexJ : Ctr := shCtr indexJ_S indexJ_p [] [.slot 0 false tI] indexJ_f
abbrev jobAt_S : Shape := ⟨[pDesk, .one (.rd tI)], []⟩
abbrev jobAt_f : Shape.den jobAt_S → denVars [.slot 0 false tI] := fun x => (idxKeyJ x.1.1.2.1 x.1.2.1, ())
abbrev jobAt_p : Shape.den jobAt_S → List Prop := fun x => [pLen x.1.1.2.1 < 4611686018427387904]
def cjobAt : Ctr := shCtr jobAt_S jobAt_p [] [.slot 0 false tI] jobAt_f
abbrev without_S : Shape := ⟨[.one (.rd (.sl tyJob)), .one (.rd tI)], []⟩
abbrev without_f : Shape.den without_S → denVars [.slot 0 true tyJob] := fun x => (withoutF x.1.1 x.1.2.1, ())
abbrev without_p : Shape.den without_S → List Prop := fun x => [pLen x.1.1 < 1000]
def cwithout : Ctr := shCtr without_S without_p [] [.slot 0 true tyJob] without_f
abbrev about_S : Shape := ⟨[.one (.rd tI), .one (.rd tI), .one (.rd tI), .one (.rd tI)], []⟩
abbrev about_f : Shape.den about_S → denVars [.agg 0 vMsg] := fun x => (aboutF x.1.1 x.1.2.1 x.1.2.2.1 x.1.2.2.2.1, ())
abbrev about_p : Shape.den about_S → List Prop := fun _ => []
def cabout : Ctr := shCtr about_S about_p [] [.agg 0 vMsg] about_f
abbrev deskFault_S : Shape := ⟨[pCfg, .one (.rd tI), .one (.rd tI), pDesk], []⟩
abbrev deskFault_f : Shape.den deskFault_S → denVars [.slot 0 false tI] := fun x => (begE (x.1.1.1, x.1.1.2.1, x.1.1.2.2.1, ()) x.1.2.1 x.1.2.2.1 (x.1.2.2.2.1.1, x.1.2.2.2.1.2.1, ()), ())
abbrev deskFault_p : Shape.den deskFault_S → List Prop := fun x => [pLen x.1.1.2.1 < 4611686018427387904, pLen x.1.2.2.2.1.2.1 < 4611686018427387904, (∀ q ∈ x.1.2.2.2.1.2.1, pLen q.2.2.1 < 4611686018427387904 ∧ pLen q.2.2.2.1 < 4611686018427387904)]
def cdeskFault : Ctr := shCtr deskFault_S deskFault_p [] [.slot 0 false tI] deskFault_f
abbrev idxN_S : Shape := ⟨[.one (.rd (.sl tyN)), .one (.rd tI)], []⟩
abbrev idxN_f : Shape.den idxN_S → denVars [.slot 0 false tI] := fun x => (hasF x.1.1 x.1.2.1, ())
abbrev idxN_p : Shape.den idxN_S → List Prop := fun x => [pLen x.1.1 < 4611686018427387904]
def cidxN : Ctr := shCtr idxN_S idxN_p [] [.slot 0 false tI] idxN_f
abbrev hasN_f : Shape.den idxN_S → denVars [.slot 0 false .bool] := fun x => (pGe (hasF x.1.1 x.1.2.1) 0, ())
def chasN : Ctr := shCtr idxN_S idxN_p [] [.slot 0 false .bool] hasN_f
abbrev hands_S : Shape := ⟨[pCfg, .one (.rd tI), pJob], []⟩
abbrev hands_f : Shape.den hands_S → denVars [.slot 0 true tyN] := fun x => (handsF x.1.1.1 x.1.2.1 x.1.2.2.1.2.2.1, ())
abbrev hands_p : Shape.den hands_S → List Prop := fun x => [inF x.1.1.1 1 4 = true, pLen x.1.2.2.1.2.2.1 < 1000]
def chands : Ctr := shCtr hands_S hands_p [] [.slot 0 true tyN] hands_f
abbrev isNaN_S : Shape := ⟨[.one (.rd tI)], []⟩
abbrev isNaN_f : Shape.den isNaN_S → denVars [.slot 0 false .bool] := fun x => (false, ())
abbrev isNaN_p : Shape.den isNaN_S → List Prop := fun _ => []
def cisNaN : Ctr := shCtr isNaN_S isNaN_p [] [.slot 0 false .bool] isNaN_f
abbrev less_S : Shape := ⟨[.one (.rd tI), .one (.rd tI)], []⟩
abbrev less_f : Shape.den less_S → denVars [.slot 0 false .bool] := fun x => (pLt x.1.1 x.1.2.1, ())
abbrev less_p : Shape.den less_S → List Prop := fun _ => []
def cless : Ctr := shCtr less_S less_p [] [.slot 0 false .bool] less_f
abbrev insort_S : Shape := ⟨[.one (.own 0), .one (.rd tI), .one (.rd tI)], [.row tyN]⟩
abbrev insort_f : Shape.den insort_S → denVars [.row 0 tyN] := fun x => (sortN x.2.1, ())
abbrev insort_p : Shape.den insort_S → List Prop := fun x => [x.1.2.1 = 0, x.1.2.2.1 = pInt (pLen x.2.1), pLen x.2.1 < 1000]
def cinsort : Ctr := shCtr insort_S insort_p [] [.row 0 tyN] insort_f
abbrev eqsCtV : List TypeId := [101, 73, 32, 29, 96]

def cloneT_VC (l : (List TaskD)) : Prop :=
  (pLen l = 0 → ([], ()) = (l, ())) ∧ pRoom (pPlus (pLen ([] : List Unit)) (pLen l)) 56 ∧ (pApp [] l, ()) = (l, ())
set_option maxRecDepth 100000 in
theorem cloneT_meets  (h : ∀ (l : (List TaskD)), (∀ p ∈ cloneT_p ⟨(l, ()), ()⟩, p) → cloneT_VC l) : Mt 58 ccloneT :=
  meets_vc (E := envOf Tryd.prog [] eqsCtV) (envOf_ok (fun p hp => by cases hp) (by kernel_rfl)) cloneT_S (fun x => fun ky9 st9 => look [] ky9) Tryd.func58 (by kernel_rfl) (by kernel_rfl) cloneT_p [] [.slot 0 true tyTask] cloneT_f (fun x => cloneT_VC x.1.1) (fun x => by kernel_rfl) (fun x hp => h x.1.1 hp)

def cloneN_VC (l : (List ND)) : Prop :=
  (pLen l = 0 → ([], ()) = (l, ())) ∧ pRoom (pPlus (pLen ([] : List Unit)) (pLen l)) 8 ∧ (pApp [] l, ()) = (l, ())
set_option maxRecDepth 100000 in
theorem cloneN_meets  (h : ∀ (l : (List ND)), (∀ p ∈ cloneN_p ⟨(l, ()), ()⟩, p) → cloneN_VC l) : Mt 59 ccloneN :=
  meets_vc (E := envOf Tryd.prog [] eqsCtV) (envOf_ok (fun p hp => by cases hp) (by kernel_rfl)) cloneN_S (fun x => fun ky9 st9 => look [] ky9) Tryd.func59 (by kernel_rfl) (by kernel_rfl) cloneN_p [] [.slot 0 true tyN] cloneN_f (fun x => cloneN_VC x.1.1) (fun x => by kernel_rfl) (fun x hp => h x.1.1 hp)

def TasksCopy_VC (l : (List TaskD)) : Prop :=
  tasksCopyInv l ((0 : Int), [], ()) ∧ ∀ (y : kden Bool.false tI × kden Bool.true tyTask × PUnit), tasksCopyInv l y → bif pLt y.1 (pInt (pLen l)) then pIn y.1 (pLen l) ∧ pRoom (pPlus (pLen y.2.1) (pLen [(pGet tyTask l (pNat y.1))])) 56 ∧
 tasksCopyInv l (pAdd IntKind.i64 y.1 (1 : Int), pApp y.2.1 [(pGet tyTask l (pNat y.1))], ()) ∧ Nat.le (Nat.succ (tasksCopyMu l (pAdd IntKind.i64 y.1 (1 : Int), pApp y.2.1 [(pGet tyTask l (pNat y.1))], ()))) (tasksCopyMu l y) else (y.2.1,
 ()) = (l, ())
set_option maxRecDepth 100000 in
theorem TasksCopy_meets  (h : ∀ (l : (List TaskD)), (∀ p ∈ cloneT_p ⟨(l, ()), ()⟩, p) → TasksCopy_VC l) : Mt 9 cTasksCopy :=
  meets_vc (E := envOf Tryd.prog [] eqsCtV) (envOf_ok (fun p hp => by cases hp) (by kernel_rfl)) cloneT_S (fun x => fun ky9 st9 => look [(3, (⟨[.slot 4 false tI, .slot 3 true tyTask], tasksCopyInv x.1.1, tasksCopyMu x.1.1⟩ : Ann))] ky9) Tryd.func9 (by kernel_rfl) (by kernel_rfl) cloneT_p [] [.slot 0 true tyTask] cloneT_f (fun x => TasksCopy_VC x.1.1) (fun x => by kernel_rfl) (fun x hp => h x.1.1 hp)

def intsCopy_VC (l : (List ND)) : Prop :=
  intsCopyInv l ((0 : Int), [], ()) ∧ ∀ (y : kden Bool.false tI × kden Bool.true tyN × PUnit), intsCopyInv l y → bif pLt y.1 (pInt (pLen l)) then pIn y.1 (pLen l) ∧ pRoom (pPlus (pLen y.2.1) (pLen [(pGet tyN l (pNat y.1))])) 8 ∧ intsCopyInv l
 (pAdd IntKind.i64 y.1 (1 : Int), pApp y.2.1 [(pGet tyN l (pNat y.1))], ()) ∧ Nat.le (Nat.succ (intsCopyMu l (pAdd IntKind.i64 y.1 (1 : Int), pApp y.2.1 [(pGet tyN l (pNat y.1))], ()))) (intsCopyMu l y) else (y.2.1, ()) = (l, ())
set_option maxRecDepth 100000 in
theorem intsCopy_meets  (h : ∀ (l : (List ND)), (∀ p ∈ cloneN_p ⟨(l, ()), ()⟩, p) → intsCopy_VC l) : Mt 10 cintsCopy :=
  meets_vc (E := envOf Tryd.prog [] eqsCtV) (envOf_ok (fun p hp => by cases hp) (by kernel_rfl)) cloneN_S (fun x => fun ky9 st9 => look [(3, (⟨[.slot 4 false tI, .slot 3 true tyN], intsCopyInv x.1.1, intsCopyMu x.1.1⟩ : Ann))] ky9) Tryd.func10 (by kernel_rfl) (by kernel_rfl) cloneN_p [] [.slot 0 true tyN] cloneN_f (fun x => intsCopy_VC x.1.1) (fun x => by kernel_rfl) (fun x hp => h x.1.1 hp)

def DeskCopy_VC (dn : Int) (dj : (List JobD)) : Prop :=
  deskCopyInv dn dj ((0 : Int), (dn, [], ()), ()) ∧ ∀ (y : kden Bool.false tI × denCells vDesk × PUnit), deskCopyInv dn dj y → bif pLt y.1 (pInt (pLen dj)) then pIn y.1 (pLen dj) ∧ pRoom (pLen (pGet tyJob dj (pNat y.1)).2.2.1) 56 ∧ pRoom
 (pLen (pGet tyJob dj (pNat y.1)).2.2.2.1) 8 ∧ pRoom (pPlus (pLen y.2.1.2.1) (pLen [(pGet tyJob dj (pNat y.1))])) 80 ∧ deskCopyInv dn dj (pAdd IntKind.i64 y.1 (1 : Int), (y.2.1.1, pApp y.2.1.2.1 [(pGet tyJob dj (pNat y.1))], ()), ()) ∧
 Nat.le (Nat.succ (deskCopyMu dn dj (pAdd IntKind.i64 y.1 (1 : Int), (y.2.1.1, pApp y.2.1.2.1 [(pGet tyJob dj (pNat y.1))], ()), ()))) (deskCopyMu dn dj y) else (y.2.1, ()) = ((dn, dj, ()), ())
set_option maxRecDepth 100000 in
theorem DeskCopy_meets (hTasksCopy : Mt 9 cTasksCopy) (hintsCopy : Mt 10 cintsCopy) (h : ∀ (dn : Int) (dj : (List JobD)), (∀ p ∈ cown_p ⟨((dn, dj, ()), ()), ()⟩, p) → DeskCopy_VC dn dj) : Mt 4 cDeskCopy :=
  meets_vc (E := envOf Tryd.prog [(9, (false, cTasksCopy)), (10, (false, cintsCopy))] eqsCtV) (envOf_ok (fun p hp => (by simp only [List.mem_cons, List.not_mem_nil, or_false] at hp; rcases hp with rfl | rfl; exact hTasksCopy; exact hintsCopy)) (by kernel_rfl)) cown_S (fun x => fun ky9 st9 => look [(3, (⟨[.slot 4 false tI, .box 40 vDesk], deskCopyInv x.1.1.1 x.1.1.2.1, deskCopyMu x.1.1.1 x.1.1.2.1⟩ : Ann))] ky9) Tryd.func4 (by kernel_rfl) (by kernel_rfl) cown_p [] [.agg 0 vDesk] cown_f (fun x => DeskCopy_VC x.1.1.1 x.1.1.2.1) (fun x => by kernel_rfl) (fun x hp => h x.1.1.1 x.1.1.2.1 hp)

def place1_VC (xn : Int) (xs : Int) (xt : (List TaskD)) (xa : (List ND)) (xq : Int) (xg : Int) (n : Int) : Prop :=
  (pEq xn n, ()) = (pEq xn n, ())
set_option maxRecDepth 100000 in
theorem place1_meets  (h : ∀ (xn : Int) (xs : Int) (xt : (List TaskD)) (xa : (List ND)) (xq : Int) (xg : Int) (n : Int), place1_VC xn xs xt xa xq xg n) : Mt 39 cplace1 :=
  meets_vc (E := envOf Tryd.prog [] eqsCtV) (envOf_ok (fun p hp => by cases hp) (by kernel_rfl)) place1_S (fun x => fun ky9 st9 => look [] ky9) Tryd.func39 (by kernel_rfl) (by kernel_rfl) place1_p [] [.slot 0 false .bool] place1_f (fun x => place1_VC x.1.1.1 x.1.1.2.1 x.1.1.2.2.1 x.1.1.2.2.2.1 x.1.1.2.2.2.2.1 x.1.1.2.2.2.2.2.1 x.2.1.1) (fun x => by kernel_rfl) (fun x _ => h x.1.1.1 x.1.1.2.1 x.1.1.2.2.1 x.1.1.2.2.2.1 x.1.1.2.2.2.2.1 x.1.1.2.2.2.2.2.1 x.2.1.1)

def indexJ_VC (l : (List JobD)) (n : Int) : Prop :=
  indexJInv l n ((0 : Int), ()) ∧ ∀ (y : kden Bool.false tI × PUnit), indexJInv l n y → bif pLt y.1 (pInt (pLen l)) then pIn y.1 (pLen l) ∧ bif pEq (pGet tyJob l (pNat y.1)).1 n then (y.1, ()) = (idxKeyJ l n, ()) else indexJInv l n (pAdd
 IntKind.i64 y.1 (1 : Int), ()) ∧ Nat.le (Nat.succ (indexJMu l n (pAdd IntKind.i64 y.1 (1 : Int), ()))) (indexJMu l n y) else ((-1 : Int), ()) = (idxKeyJ l n, ())
set_option maxRecDepth 100000 in
theorem indexJ_meets (hplace1 : Mt 39 cplace1) (h : ∀ (l : (List JobD)) (n : Int), (∀ p ∈ indexJ_p ⟨(l, (), ()), ((n, ()), ())⟩, p) → indexJ_VC l n) : Mt 38 cindexJ :=
  meets_vc (E := envOf Tryd.prog [(39, (false, cplace1))] eqsCtV) (envOf_ok (fun p hp => (by simp only [List.mem_cons, List.not_mem_nil, or_false] at hp; rcases hp with rfl; exact hplace1)) (by kernel_rfl)) indexJ_S (fun x => fun ky9 st9 => look [(2, (⟨[.slot 8 false tI], indexJInv x.1.1 x.2.1.1, indexJMu x.1.1 x.2.1.1⟩ : Ann))] ky9) Tryd.func38 (by kernel_rfl) (by kernel_rfl) indexJ_p [] [.slot 0 false tI] indexJ_f (fun x => indexJ_VC x.1.1 x.2.1.1) (fun x => by kernel_rfl) (fun x hp => h x.1.1 x.2.1.1 hp)

def jobAt_VC (dn : Int) (dj : (List JobD)) (n : Int) : Prop :=
  jobAtInv dn dj n ((0 : Int), ()) ∧ ∀ (y : kden Bool.false tI × PUnit), jobAtInv dn dj n y → bif pLt y.1 (pInt (pLen dj)) then pIn y.1 (pLen dj) ∧ bif pEq (pGet tyJob dj (pNat y.1)).1 n then (y.1, ()) = (idxKeyJ dj n, ()) else jobAtInv dn dj
 n (pAdd IntKind.i64 y.1 (1 : Int), ()) ∧ Nat.le (Nat.succ (jobAtMu dn dj n (pAdd IntKind.i64 y.1 (1 : Int), ()))) (jobAtMu dn dj n y) else ((-1 : Int), ()) = (idxKeyJ dj n, ())
set_option maxRecDepth 100000 in
theorem jobAt_meets  (h : ∀ (dn : Int) (dj : (List JobD)) (n : Int), (∀ p ∈ jobAt_p ⟨((dn, dj, ()), n, ()), ()⟩, p) → jobAt_VC dn dj n) : Mt 20 cjobAt :=
  meets_vc (E := envOf Tryd.prog [] eqsCtV) (envOf_ok (fun p hp => by cases hp) (by kernel_rfl)) jobAt_S (fun x => fun ky9 st9 => look [(2, (⟨[.slot 5 false tI], jobAtInv x.1.1.1 x.1.1.2.1 x.1.2.1, jobAtMu x.1.1.1 x.1.1.2.1 x.1.2.1⟩ : Ann))] ky9) Tryd.func20 (by kernel_rfl) (by kernel_rfl) jobAt_p [] [.slot 0 false tI] jobAt_f (fun x => jobAt_VC x.1.1.1 x.1.1.2.1 x.1.2.1) (fun x => by kernel_rfl) (fun x hp => h x.1.1.1 x.1.1.2.1 x.1.2.1 hp)

def without_VC (l : (List JobD)) (n : Int) : Prop :=
  withoutInv l n ((0 : Int), [], ()) ∧ ∀ (y : kden Bool.false tI × kden Bool.true tyJob × PUnit), withoutInv l n y → bif pLt y.1 (pInt (pLen l)) then bif pNe y.1 n then pIn y.1 (pLen l) ∧ pRoom (pPlus (pLen y.2.1) (pLen [(pGet tyJob l (pNat
 y.1))])) 80 ∧ withoutInv l n (pAdd IntKind.i64 y.1 (1 : Int), pApp y.2.1 [(pGet tyJob l (pNat y.1))], ()) ∧ Nat.le (Nat.succ (withoutMu l n (pAdd IntKind.i64 y.1 (1 : Int), pApp y.2.1 [(pGet tyJob l (pNat y.1))], ()))) (withoutMu l n y)
 else withoutInv l n (pAdd IntKind.i64 y.1 (1 : Int), y.2.1, ()) ∧ Nat.le (Nat.succ (withoutMu l n (pAdd IntKind.i64 y.1 (1 : Int), y.2.1, ()))) (withoutMu l n y) else (y.2.1, ()) = (withoutF l n, ())
set_option maxRecDepth 100000 in
theorem without_meets  (h : ∀ (l : (List JobD)) (n : Int), (∀ p ∈ without_p ⟨(l, n, ()), ()⟩, p) → without_VC l n) : Mt 24 cwithout :=
  meets_vc (E := envOf Tryd.prog [] eqsCtV) (envOf_ok (fun p hp => by cases hp) (by kernel_rfl)) without_S (fun x => fun ky9 st9 => look [(3, (⟨[.slot 6 false tI, .slot 5 true tyJob], withoutInv x.1.1 x.1.2.1, withoutMu x.1.1 x.1.2.1⟩ : Ann))] ky9) Tryd.func24 (by kernel_rfl) (by kernel_rfl) without_p [] [.slot 0 true tyJob] without_f (fun x => without_VC x.1.1 x.1.2.1) (fun x => by kernel_rfl) (fun x hp => h x.1.1 x.1.2.1 hp)

def about_VC (a : Int) (b : Int) (e : Int) (g : Int) : Prop :=
  ((b, a, e, a, g, (0 : Int), (0 : Int), (0 : Int), (0 : Int), (0 : Int), Bool.false, (0 : Int), ()), ()) = (aboutF a b e g, ())
set_option maxRecDepth 100000 in
theorem about_meets  (h : ∀ (a : Int) (b : Int) (e : Int) (g : Int), about_VC a b e g) : Mt 21 cabout :=
  meets_vc (E := envOf Tryd.prog [] eqsCtV) (envOf_ok (fun p hp => by cases hp) (by kernel_rfl)) about_S (fun x => fun ky9 st9 => look [] ky9) Tryd.func21 (by kernel_rfl) (by kernel_rfl) about_p [] [.agg 0 vMsg] about_f (fun x => about_VC x.1.1 x.1.2.1 x.1.2.2.1 x.1.2.2.2.1) (fun x => by kernel_rfl) (fun x _ => h x.1.1 x.1.2.1 x.1.2.2.1 x.1.2.2.2.1)

abbrev deskFault_t0 (cn : Int) (cl : (List LabD)) (cp : Int) (l : Int) (m : Int) (dn : Int) (dj : (List JobD)) : Prop := bif pEq (deskF (cn, cl, cp, ()) (dn, dj, ())) (0 : Int) then bif pNot (inF m (0 : Int) (pSubI IntKind.i64 cn (1 : Int))) then ((2 : Int), ()) = (begE (cn, cl, cp, ()) l m (dn, dj, ()), ()) else (deskF (cn, cl, cp, ()) (dn, dj, ()), ()) =
 (begE (cn, cl, cp, ()) l m (dn, dj, ()), ()) else (deskF (cn, cl, cp, ()) (dn, dj, ()), ()) = (begE (cn, cl, cp, ()) l m (dn, dj, ()), ())

def deskFault_VC (cn : Int) (cl : (List LabD)) (cp : Int) (l : Int) (m : Int) (dn : Int) (dj : (List JobD)) : Prop :=
  Nat.le (Nat.succ (pLen cl)) 4611686018427387904 ∧ Nat.le (Nat.succ (pLen dj)) 4611686018427387904 ∧ (∀ (q : Int × Int × List (Bool × Int × Int × Int × Int × Int × Bool × Bool × PUnit) × List (Int × PUnit) × Int × Int × PUnit), List.Mem q dj
 → Nat.le (Nat.succ (pLen q.2.2.1)) 4611686018427387904 ∧ Nat.le (Nat.succ (pLen q.2.2.2.1)) 4611686018427387904) ∧ bif pEq (deskF (cn, cl, cp, ()) (dn, dj, ())) (0 : Int) then Nat.le (Nat.succ (pLen cl)) 4611686018427387904 ∧ bif pNot
 (placeF (cn, cl, cp, ()) l) then ((6 : Int), ()) = (begE (cn, cl, cp, ()) l m (dn, dj, ()), ()) else deskFault_t0 cn cl cp l m dn dj else deskFault_t0 cn cl cp l m dn dj
set_option maxRecDepth 100000 in
theorem deskFault_meets (hdFault : Mt 49 cdFault) (hlabelMay : Mt 50 clabelMay) (hIn : Mt 51 cIn) (h : ∀ (cn : Int) (cl : (List LabD)) (cp : Int) (l : Int) (m : Int) (dn : Int) (dj : (List JobD)), (∀ p ∈ deskFault_p ⟨((cn, cl, cp, ()), l, m, (dn, dj, ()), ()), ()⟩, p) → deskFault_VC cn cl cp l m dn dj) : Mt 18 cdeskFault :=
  meets_vc (E := envOf Tryd.prog [(49, (false, cdFault)), (50, (false, clabelMay)), (51, (false, cIn))] eqsCtV) (envOf_ok (fun p hp => (by simp only [List.mem_cons, List.not_mem_nil, or_false] at hp; rcases hp with rfl | rfl | rfl; exact hdFault; exact hlabelMay; exact hIn)) (by kernel_rfl)) deskFault_S (fun x => fun ky9 st9 => look [] ky9) Tryd.func18 (by kernel_rfl) (by kernel_rfl) deskFault_p [] [.slot 0 false tI] deskFault_f (fun x => deskFault_VC x.1.1.1 x.1.1.2.1 x.1.1.2.2.1 x.1.2.1 x.1.2.2.1 x.1.2.2.2.1.1 x.1.2.2.2.1.2.1) (fun x => by kernel_rfl) (fun x hp => h x.1.1.1 x.1.1.2.1 x.1.1.2.2.1 x.1.2.1 x.1.2.2.1 x.1.2.2.2.1.1 x.1.2.2.2.1.2.1 hp)

def idxN_VC (l : (List ND)) (n : Int) : Prop :=
  idxNInv l n ((0 : Int), ()) ∧ ∀ (y : kden Bool.false tI × PUnit), idxNInv l n y → bif pLt y.1 (pInt (pLen l)) then pIn y.1 (pLen l) ∧ bif pEq n (pGet tyN l (pNat y.1)).1 then (y.1, ()) = (hasF l n, ()) else idxNInv l n (pAdd IntKind.i64 y.1
 (1 : Int), ()) ∧ Nat.le (Nat.succ (idxNMu l n (pAdd IntKind.i64 y.1 (1 : Int), ()))) (idxNMu l n y) else ((-1 : Int), ()) = (hasF l n, ())
set_option maxRecDepth 100000 in
theorem idxN_meets  (h : ∀ (l : (List ND)) (n : Int), (∀ p ∈ idxN_p ⟨(l, n, ()), ()⟩, p) → idxN_VC l n) : Mt 61 cidxN :=
  meets_vc (E := envOf Tryd.prog [] eqsCtV) (envOf_ok (fun p hp => by cases hp) (by kernel_rfl)) idxN_S (fun x => fun ky9 st9 => look [(2, (⟨[.slot 8 false tI], idxNInv x.1.1 x.1.2.1, idxNMu x.1.1 x.1.2.1⟩ : Ann))] ky9) Tryd.func61 (by kernel_rfl) (by kernel_rfl) idxN_p [] [.slot 0 false tI] idxN_f (fun x => idxN_VC x.1.1 x.1.2.1) (fun x => by kernel_rfl) (fun x hp => h x.1.1 x.1.2.1 hp)

def hasN_VC (l : (List ND)) (n : Int) : Prop :=
  Nat.le (Nat.succ (pLen l)) 4611686018427387904 ∧ (pGe (hasF l n) (0 : Int), ()) = (pGe (hasF l n) (0 : Int), ())
set_option maxRecDepth 100000 in
theorem hasN_meets (hidxN : Mt 61 cidxN) (h : ∀ (l : (List ND)) (n : Int), (∀ p ∈ idxN_p ⟨(l, n, ()), ()⟩, p) → hasN_VC l n) : Mt 41 chasN :=
  meets_vc (E := envOf Tryd.prog [(61, (false, cidxN))] eqsCtV) (envOf_ok (fun p hp => (by simp only [List.mem_cons, List.not_mem_nil, or_false] at hp; rcases hp with rfl; exact hidxN)) (by kernel_rfl)) idxN_S (fun x => fun ky9 st9 => look [] ky9) Tryd.func41 (by kernel_rfl) (by kernel_rfl) idxN_p [] [.slot 0 false .bool] hasN_f (fun x => hasN_VC x.1.1 x.1.2.1) (fun x => by kernel_rfl) (fun x hp => h x.1.1 x.1.2.1 hp)

def hands_VC (cn : Int) (cl : (List LabD)) (cp : Int) (l : Int) (jn : Int) (js : Int) (jt : (List TaskD)) (ja : (List ND)) (jq : Int) (jg : Int) : Prop :=
  handsAInv cn cl cp l jn js jt ja jq jg ((0 : Int), [], ()) ∧ ∀ (y : kden Bool.false tI × kden Bool.true tyN × PUnit), handsAInv cn cl cp l jn js jt ja jq jg y → bif pLt y.1 cn then handsBInv cn cl cp l jn js jt ja jq jg y.1 ((0 : Int),
 Bool.false, ()) ∧ ∀ (y_1 : kden Bool.false tI × kden Bool.false Ty.bool × PUnit), handsBInv cn cl cp l jn js jt ja jq jg y.1 y_1 → bif pLt y_1.1 (pInt (pLen jt)) then bif y_1.2.1 then handsBInv cn cl cp l jn js jt ja jq jg y.1 (pAdd
 IntKind.i64 y_1.1 (1 : Int), Bool.true, ()) ∧ Nat.le (Nat.succ (handsBMu cn cl cp l jn js jt ja jq jg y.1 (pAdd IntKind.i64 y_1.1 (1 : Int), Bool.true, ()))) (handsBMu cn cl cp l jn js jt ja jq jg y.1 y_1) else pIn y_1.1 (pLen jt) ∧ bif pEq
 (pGet tyTask jt (pNat y_1.1)).2.1 l then pIn y_1.1 (pLen jt) ∧ pNz cn ∧ handsBInv cn cl cp l jn js jt ja jq jg y.1 (pAdd IntKind.i64 y_1.1 (1 : Int), pEq (pRem (pGet tyTask jt (pNat y_1.1)).2.2.1 cn) y.1, ()) ∧ Nat.le (Nat.succ (handsBMu cn
 cl cp l jn js jt ja jq jg y.1 (pAdd IntKind.i64 y_1.1 (1 : Int), pEq (pRem (pGet tyTask jt (pNat y_1.1)).2.2.1 cn) y.1, ()))) (handsBMu cn cl cp l jn js jt ja jq jg y.1 y_1) else handsBInv cn cl cp l jn js jt ja jq jg y.1 (pAdd IntKind.i64
 y_1.1 (1 : Int), Bool.false, ()) ∧ Nat.le (Nat.succ (handsBMu cn cl cp l jn js jt ja jq jg y.1 (pAdd IntKind.i64 y_1.1 (1 : Int), Bool.false, ()))) (handsBMu cn cl cp l jn js jt ja jq jg y.1 y_1) else bif y_1.2.1 then pRoom (pPlus (pLen
 y.2.1) (pLen [(y.1, ())])) 8 ∧ handsAInv cn cl cp l jn js jt ja jq jg (pAdd IntKind.i64 y.1 (1 : Int), pApp y.2.1 [(y.1, ())], ()) ∧ Nat.le (Nat.succ (handsAMu cn cl cp l jn js jt ja jq jg (pAdd IntKind.i64 y.1 (1 : Int), pApp y.2.1 [(y.1,
 ())], ()))) (handsAMu cn cl cp l jn js jt ja jq jg y) else handsAInv cn cl cp l jn js jt ja jq jg (pAdd IntKind.i64 y.1 (1 : Int), y.2.1, ()) ∧ Nat.le (Nat.succ (handsAMu cn cl cp l jn js jt ja jq jg (pAdd IntKind.i64 y.1 (1 : Int), y.2.1,
 ()))) (handsAMu cn cl cp l jn js jt ja jq jg y) else (y.2.1, ()) = (handsF cn l jt, ())
set_option maxRecDepth 100000 in
theorem hands_meets  (h : ∀ (cn : Int) (cl : (List LabD)) (cp : Int) (l : Int) (jn : Int) (js : Int) (jt : (List TaskD)) (ja : (List ND)) (jq : Int) (jg : Int), (∀ p ∈ hands_p ⟨((cn, cl, cp, ()), l, (jn, js, jt, ja, jq, jg, ()), ()), ()⟩, p) → hands_VC cn cl cp l jn js jt ja jq jg) : Mt 69 chands :=
  meets_vc (E := envOf Tryd.prog [] eqsCtV) (envOf_ok (fun p hp => by cases hp) (by kernel_rfl)) hands_S (fun x => fun ky9 st9 => look [(3, (⟨[.slot 8 false tI, .slot 7 true tyN], handsAInv x.1.1.1 x.1.1.2.1 x.1.1.2.2.1 x.1.2.1 x.1.2.2.1.1 x.1.2.2.1.2.1 x.1.2.2.1.2.2.1 x.1.2.2.1.2.2.2.1 x.1.2.2.1.2.2.2.2.1 x.1.2.2.1.2.2.2.2.2.1, handsAMu x.1.1.1 x.1.1.2.1 x.1.1.2.2.1 x.1.2.1 x.1.2.2.1.1 x.1.2.2.1.2.1 x.1.2.2.1.2.2.1 x.1.2.2.1.2.2.2.1 x.1.2.2.1.2.2.2.2.1 x.1.2.2.1.2.2.2.2.2.1⟩ : Ann)), (7, (⟨[.slot 10 false tI, .slot 9 false .bool], handsBInv x.1.1.1 x.1.1.2.1 x.1.1.2.2.1 x.1.2.1 x.1.2.2.1.1 x.1.2.2.1.2.1 x.1.2.2.1.2.2.1 x.1.2.2.1.2.2.2.1 x.1.2.2.1.2.2.2.2.1 x.1.2.2.1.2.2.2.2.2.1 (slotI st9 8), handsBMu x.1.1.1 x.1.1.2.1 x.1.1.2.2.1 x.1.2.1 x.1.2.2.1.1 x.1.2.2.1.2.1 x.1.2.2.1.2.2.1 x.1.2.2.1.2.2.2.1 x.1.2.2.1.2.2.2.2.1 x.1.2.2.1.2.2.2.2.2.1 (slotI st9 8)⟩ : Ann))] ky9) Tryd.func69 (by kernel_rfl) (by kernel_rfl) hands_p [] [.slot 0 true tyN] hands_f (fun x => hands_VC x.1.1.1 x.1.1.2.1 x.1.1.2.2.1 x.1.2.1 x.1.2.2.1.1 x.1.2.2.1.2.1 x.1.2.2.1.2.2.1 x.1.2.2.1.2.2.2.1 x.1.2.2.1.2.2.2.2.1 x.1.2.2.1.2.2.2.2.2.1) (fun x => by kernel_rfl) (fun x hp => h x.1.1.1 x.1.1.2.1 x.1.1.2.2.1 x.1.2.1 x.1.2.2.1.1 x.1.2.2.1.2.1 x.1.2.2.1.2.2.1 x.1.2.2.1.2.2.2.1 x.1.2.2.1.2.2.2.2.1 x.1.2.2.1.2.2.2.2.2.1 hp)

def isNaN_VC (a : Int) : Prop :=
  (pNe a a, ()) = (Bool.false, ())
set_option maxRecDepth 100000 in
theorem isNaN_meets  (h : ∀ (a : Int), isNaN_VC a) : Mt 93 cisNaN :=
  meets_vc (E := envOf Tryd.prog [] eqsCtV) (envOf_ok (fun p hp => by cases hp) (by kernel_rfl)) isNaN_S (fun x => fun ky9 st9 => look [] ky9) Tryd.func93 (by kernel_rfl) (by kernel_rfl) isNaN_p [] [.slot 0 false .bool] isNaN_f (fun x => isNaN_VC x.1.1) (fun x => by kernel_rfl) (fun x _ => h x.1.1)

def less_VC (a : Int) (b : Int) : Prop :=
  (pLt a b, ()) = (pLt a b, ())
set_option maxRecDepth 100000 in
theorem less_meets (hisNaN : Mt 93 cisNaN) (h : ∀ (a : Int) (b : Int), less_VC a b) : Mt 83 cless :=
  meets_vc (E := envOf Tryd.prog [(93, (false, cisNaN))] eqsCtV) (envOf_ok (fun p hp => (by simp only [List.mem_cons, List.not_mem_nil, or_false] at hp; rcases hp with rfl; exact hisNaN)) (by kernel_rfl)) less_S (fun x => fun ky9 st9 => look [] ky9) Tryd.func83 (by kernel_rfl) (by kernel_rfl) less_p [] [.slot 0 false .bool] less_f (fun x => less_VC x.1.1 x.1.2.1) (fun x => by kernel_rfl) (fun x _ => h x.1.1 x.1.2.1)

abbrev insort_t0 (a : Int) (b : Int) (l : List ND) (y : kden Bool.false tI × List (Ty.den tyN) × PUnit) (y_1 : kden Bool.false tI × List (Ty.den tyN) × PUnit) : Prop := insAInv a b l (pAdd IntKind.i64 y.1 (1 : Int), y_1.2.1, ()) ∧ Nat.le (Nat.succ (insAMu a b l (pAdd IntKind.i64 y.1 (1 : Int), y_1.2.1, ()))) (insAMu a b l y)

def insort_VC (a : Int) (b : Int) (l : List ND) : Prop :=
  insAInv a b l (pAdd IntKind.i64 a (1 : Int), l, ()) ∧ ∀ (y : kden Bool.false tI × List (Ty.den tyN) × PUnit), insAInv a b l y → bif pLt y.1 b then insBInv a b l y.2.1 y.1 y ∧ ∀ (y_1 : kden Bool.false tI × List (Ty.den tyN) × PUnit), insBInv
 a b l y.2.1 y.1 y_1 → bif pGt y_1.1 a then pIn y_1.1 (pLen y_1.2.1) ∧ pIn (pSubI IntKind.i64 y_1.1 (1 : Int)) (pLen y_1.2.1) ∧ bif pLt (pGet tyN y_1.2.1 (pNat y_1.1)).1 (pGet tyN y_1.2.1 (pNat (pSubI IntKind.i64 y_1.1 (1 : Int)))).1 then
 pIn (pSubI IntKind.i64 y_1.1 (1 : Int)) (pLen y_1.2.1) ∧ pIn y_1.1 (pLen y_1.2.1) ∧ pIn y_1.1 (pLen y_1.2.1) ∧ pIn (pSubI IntKind.i64 y_1.1 (1 : Int)) (pLen (pSet y_1.2.1 (pNat y_1.1) (pGet tyN y_1.2.1 (pNat (pSubI IntKind.i64 y_1.1 (1 :
 Int)))))) ∧ insBInv a b l y.2.1 y.1 (pSubI IntKind.i64 y_1.1 (1 : Int), pSet (pSet y_1.2.1 (pNat y_1.1) (pGet tyN y_1.2.1 (pNat (pSubI IntKind.i64 y_1.1 (1 : Int))))) (pNat (pSubI IntKind.i64 y_1.1 (1 : Int))) (pGet tyN y_1.2.1 (pNat
 y_1.1)), ()) ∧ Nat.le (Nat.succ (insBMu a b l y.2.1 y.1 (pSubI IntKind.i64 y_1.1 (1 : Int), pSet (pSet y_1.2.1 (pNat y_1.1) (pGet tyN y_1.2.1 (pNat (pSubI IntKind.i64 y_1.1 (1 : Int))))) (pNat (pSubI IntKind.i64 y_1.1 (1 : Int))) (pGet tyN
 y_1.2.1 (pNat y_1.1)), ()))) (insBMu a b l y.2.1 y.1 y_1) else insort_t0 a b l y y_1 else insort_t0 a b l y y_1 else (y.2.1, ()) = (sortN l, ())
set_option maxRecDepth 100000 in
theorem insort_meets (hless : Mt 83 cless) (h : ∀ (a : Int) (b : Int) (l : List ND), (∀ p ∈ insort_p ⟨((), a, b, ()), (l, ())⟩, p) → insort_VC a b l) : Mt 77 cinsort :=
  meets_vc (E := envOf Tryd.prog [(83, (false, cless))] eqsCtV) (envOf_ok (fun p hp => (by simp only [List.mem_cons, List.not_mem_nil, or_false] at hp; rcases hp with rfl; exact hless)) (by kernel_rfl)) insort_S (fun x => fun ky9 st9 => look [(1, (⟨[.slot 6 false tI, .row 0 tyN], insAInv x.1.2.1 x.1.2.2.1 x.2.1, insAMu x.1.2.1 x.1.2.2.1 x.2.1⟩ : Ann)), (4, (⟨[.slot 7 false tI, .row 0 tyN], insBInv x.1.2.1 x.1.2.2.1 x.2.1 (rowD tyN st9 0) (slotI st9 6), insBMu x.1.2.1 x.1.2.2.1 x.2.1 (rowD tyN st9 0) (slotI st9 6)⟩ : Ann))] ky9) Tryd.func77 (by kernel_rfl) (by kernel_rfl) insort_p [] [.row 0 tyN] insort_f (fun x => insort_VC x.1.2.1 x.1.2.2.1 x.2.1) (fun x => by kernel_rfl) (fun x hp => h x.1.2.1 x.1.2.2.1 x.2.1 hp)


end Go.Proofs.YtnkcmkegjckncaaDoor

/- Jobs and desks, copied and looked for: the functions meet their contracts. No condition. -/
namespace Go.Proofs.YtnkcmkegjckncaaDoor
open Go.RowKit

theorem pEq_comm (a b : Int) : pEq a b = pEq b a := by unfold pEq; rw [Bool.eq_iff_iff, beq_iff_eq, beq_iff_eq]; exact eq_comm
theorem room_le {α : Type} {l : List α} {n m : Nat} (h : pRoom (pLen l) n) (hm : m ≤ l.length) : pRoom m n := Nat.le_trans (Nat.mul_le_mul hm (Nat.le_refl n)) h
theorem take_len1 {α : Type} {l : List α} {k : Nat} (h : k < l.length) : (l.take k).length + 1 ≤ l.length := by rw [List.length_take]; omega

theorem cloneT_ok : Meets Tryd.prog (fun _ => none) 58 ccloneT := cloneT_meets fun l hp => by
  have h : pRoom (pLen l) 56 := hp (pRoom (pLen l) 56) (by simp)
  refine ⟨fun h0 => ?_, ?_, rfl⟩
  · rw [List.eq_nil_of_length_eq_zero h0]
  · unfold pPlus pLen; rw [List.length_nil, Nat.zero_add]; exact h
theorem cloneN_ok : Meets Tryd.prog (fun _ => none) 59 ccloneN := cloneN_meets fun l hp => by
  have h : pRoom (pLen l) 8 := hp (pRoom (pLen l) 8) (by simp)
  refine ⟨fun h0 => ?_, ?_, rfl⟩
  · rw [List.eq_nil_of_length_eq_zero h0]
  · unfold pPlus pLen; rw [List.length_nil, Nat.zero_add]; exact h
theorem TasksCopy_ok : Meets Tryd.prog (fun _ => none) 9 cTasksCopy := TasksCopy_meets fun l hp => by
  have h : pRoom (pLen l) 56 := hp (pRoom (pLen l) 56) (by simp)
  clear hp
  unfold TasksCopy_VC
  refine ⟨StepInv.start rfl, fun y hy => ?_⟩
  rcases StepInv.round (show l.length < 4611686018427387904 from lt62 h (by decide)) hy with ⟨k, rfl, hk, hb, hT⟩ | rfl
  · rw [bif_true (by simp [pLt_coe, pLen, hk])]
    dsimp only
    rw [pNat_coe]
    exact ⟨pIn_coe.2 hk, room_le h (take_len1 hk), hT _ (by rw [take_app (t := tyTask) hk])⟩
  · rw [bif_false (by simp [pLt_coe, pLen])]
    simp only [List.take_length]
theorem intsCopy_ok : Meets Tryd.prog (fun _ => none) 10 cintsCopy := intsCopy_meets fun l hp => by
  have h : pRoom (pLen l) 8 := hp (pRoom (pLen l) 8) (by simp)
  clear hp
  unfold intsCopy_VC
  refine ⟨StepInv.start rfl, fun y hy => ?_⟩
  rcases StepInv.round (show l.length < 4611686018427387904 from lt62 h (by decide)) hy with ⟨k, rfl, hk, hb, hT⟩ | rfl
  · rw [bif_true (by simp [pLt_coe, pLen, hk])]
    dsimp only
    rw [pNat_coe]
    exact ⟨pIn_coe.2 hk, room_le h (take_len1 hk), hT _ (by rw [take_app (t := tyN) hk])⟩
  · rw [bif_false (by simp [pLt_coe, pLen])]
    simp only [List.take_length]
theorem DeskCopy_ok : Meets Tryd.prog (fun _ => none) 4 cDeskCopy := DeskCopy_meets TasksCopy_ok intsCopy_ok fun dn dj hp => by
  have h : pRoom (pLen dj) 80 := hp (pRoom (pLen dj) 80) (by simp)
  have hq : ∀ q ∈ dj, pRoom (pLen q.2.2.1) 56 ∧ pRoom (pLen q.2.2.2.1) 8 := hp (∀ q ∈ dj, pRoom (pLen q.2.2.1) 56 ∧ pRoom (pLen q.2.2.2.1) 8) (by simp)
  clear hp
  unfold DeskCopy_VC
  refine ⟨StepInv.start rfl, fun y hy => ?_⟩
  rcases StepInv.round (show dj.length < 4611686018427387904 from lt62 h (by decide)) hy with ⟨k, rfl, hk, hb, hT⟩ | rfl
  · rw [bif_true (by simp [pLt_coe, pLen, hk])]
    dsimp only
    rw [pNat_coe]
    have hm := hq (pGet tyJob dj k) (by rw [pGet_lt (t := tyJob) hk]; exact List.getElem_mem hk)
    exact ⟨pIn_coe.2 hk, hm.1, hm.2, room_le h (take_len1 hk), hT _ (by rw [take_app (t := tyJob) hk])⟩
  · rw [bif_false (by simp [pLt_coe, pLen])]
    simp only [List.take_length]
theorem place1_ok : Meets Tryd.prog (fun _ => none) 39 cplace1 := place1_meets fun _ _ _ _ _ _ _ => rfl
theorem indexJ_ok : Meets Tryd.prog (fun _ => none) 38 cindexJ := indexJ_meets place1_ok fun l n hp => by
  have hl : l.length < 4611686018427387904 := hp _ List.mem_cons_self
  clear hp
  unfold indexJ_VC
  refine ⟨UpInv.start, fun y hy => ?_⟩
  rcases FindInv.round hl hy with ⟨k, rfl, hk, hb, hT, hF⟩ | ⟨rfl, hT⟩
  · rw [bif_true (by simp [pLt_coe, pLen, hk]), pNat_coe]
    refine ⟨pIn_coe.2 hk, bif_ok (fun h => ?_) fun h => hF h⟩
    exact congrArg (·, ()) (hT h).symm
  · rw [bif_false (by simp [pLt_coe, pLen])]
    exact congrArg (·, ()) hT.symm
theorem jobAt_ok : Meets Tryd.prog (fun _ => none) 20 cjobAt := jobAt_meets fun dn dj n hp => by
  have hl : dj.length < 4611686018427387904 := hp _ List.mem_cons_self
  clear hp
  unfold jobAt_VC
  refine ⟨UpInv.start, fun y hy => ?_⟩
  rcases FindInv.round hl hy with ⟨k, rfl, hk, hb, hT, hF⟩ | ⟨rfl, hT⟩
  · rw [bif_true (by simp [pLt_coe, pLen, hk]), pNat_coe]
    refine ⟨pIn_coe.2 hk, bif_ok (fun h => ?_) fun h => hF h⟩
    exact congrArg (·, ()) (hT h).symm
  · rw [bif_false (by simp [pLt_coe, pLen])]
    exact congrArg (·, ()) hT.symm
theorem idxN_ok : Meets Tryd.prog (fun _ => none) 61 cidxN := idxN_meets fun l n hp => by
  have hl : l.length < 4611686018427387904 := hp _ List.mem_cons_self
  clear hp
  unfold idxN_VC
  refine ⟨UpInv.start, fun y hy => ?_⟩
  rcases FindInv.round hl hy with ⟨k, rfl, hk, hb, hT, hF⟩ | ⟨rfl, hT⟩
  · rw [bif_true (by simp [pLt_coe, pLen, hk]), pNat_coe]
    refine ⟨pIn_coe.2 hk, bif_ok (fun h => ?_) fun h => hF ?_⟩
    · exact congrArg (·, ()) (hT (by rw [pEq_comm]; exact h)).symm
    · rw [pEq_comm]; exact h
  · rw [bif_false (by simp [pLt_coe, pLen])]
    exact congrArg (·, ()) hT.symm
theorem hasN_ok : Meets Tryd.prog (fun _ => none) 41 chasN := hasN_meets idxN_ok fun l n hp => ⟨hp _ List.mem_cons_self, rfl⟩
theorem withoutK_succ {l : List JobD} {n : Int} {k : Nat} : withoutK l n (k + 1) = cond (pEq (k : Int) n) (withoutK l n k) (withoutK l n k ++ [pGet tyJob l k]) := by
  unfold withoutK
  rw [List.range_succ, List.filterMap_append]
  cases h : pEq (k : Int) n <;> simp [h]
theorem withoutK_len (l : List JobD) (n : Int) (k : Nat) : (withoutK l n k).length ≤ k := by
  unfold withoutK
  refine Nat.le_trans (List.length_filterMap_le _ _) ?_
  rw [List.length_range]; exact Nat.le_refl _
theorem without_ok : Meets Tryd.prog (fun _ => none) 24 cwithout := without_meets fun l n hp => by
  have hl : l.length < 1000 := hp _ List.mem_cons_self
  clear hp
  unfold without_VC
  refine ⟨StepInv.start rfl, fun y hy => ?_⟩
  rcases StepInv.round (by omega) hy with ⟨k, rfl, hk, hb, hT⟩ | rfl
  · rw [bif_true (by simp [pLt_coe, pLen, hk])]
    dsimp only
    rw [pNat_coe]
    refine bif_ok (fun h => ?_) fun h => ?_
    · have h' : pEq (k : Int) n = false := by simpa [pNe, pEq] using h
      refine ⟨pIn_coe.2 hk, ?_, hT _ (by rw [withoutK_succ, h']; rfl)⟩
      have := withoutK_len l n k
      show ((withoutK l n k).length + 1) * 80 ≤ 140737488351232
      omega
    · have h' : pEq (k : Int) n = true := by simpa [pNe, pEq] using h
      exact hT _ (by rw [withoutK_succ, h']; rfl)
  · rw [bif_false (by simp [pLt_coe, pLen])]
    rfl
theorem about_ok : Meets Tryd.prog (fun _ => none) 21 cabout := about_meets fun _ _ _ _ => rfl
theorem begE_eq (c : CfgD) (l m : Int) (d : DeskD) : begE c l m d = cond (pEq (deskF c d) 0) (cond (placeF c l) (cond (pLe 0 m && pLt m c.1) 0 2) 6) (deskF c d) := rfl
theorem deskFault_ok : Meets Tryd.prog (fun _ => none) 18 cdeskFault := deskFault_meets dFault_ok labelMay_ok In_ok fun cn cl cp l m dn dj hp => by
  have h1 : pLen cl < 4611686018427387904 := hp (pLen cl < 4611686018427387904) (by simp)
  have h2 : pLen dj < 4611686018427387904 := hp (pLen dj < 4611686018427387904) (by simp)
  have h3 : ∀ q ∈ dj, pLen q.2.2.1 < 4611686018427387904 ∧ pLen q.2.2.2.1 < 4611686018427387904 := hp (∀ q ∈ dj, pLen q.2.2.1 < 4611686018427387904 ∧ pLen q.2.2.2.1 < 4611686018427387904) (by simp)
  clear hp
  have hs : pEq (deskF (cn, cl, cp, ()) (dn, dj, ())) 0 = true → 1 ≤ cn ∧ cn ≤ 4 := fun h => by
    cases hc : pNe (cfgF (cn, cl, cp, ())) 0 with
    | false => exact inF_iff.1 (cfgF_sites4 hc)
    | true =>
      exfalso
      rw [deskF_eq] at h
      have hc' : pEq (cfgF (cn, cl, cp, ())) 0 = false := by simpa [pEq, pNe] using hc
      rw [hc', cond_false] at h
      rw [hc'] at h; cases h
  unfold deskFault_VC deskFault_t0
  rw [begE_eq]
  generalize deskF (cn, cl, cp, ()) (dn, dj, ()) = e at *
  refine ⟨h1, h2, h3, ?_⟩
  dsimp only
  cases he : pEq e 0 with
  | false => simp only [cond_false]
  | true =>
    obtain ⟨c1, c2⟩ := hs he
    have e0 : e = 0 := by simpa [pEq] using he
    have hi : (pLe 0 m && pLt m cn) = inF m 0 (pSubI .i64 cn 1) := by
      rw [pSubI_in (by omega)]
      unfold inF pLe pLt
      rw [Bool.eq_iff_iff]
      simp only [Bool.and_eq_true, decide_eq_true_eq]
      omega
    rw [hi]
    simp only [cond_true]
    refine ⟨h1, ?_⟩
    cases placeF (cn, cl, cp, ()) l with
    | false => rfl
    | true =>
      cases inF m 0 (pSubI .i64 cn 1) with
      | false => rfl
      | true => rw [e0]; rfl

theorem handsK_succ {cn l : Int} {ts : List TaskD} {k : Nat} : handsK cn l ts (k + 1) = cond (anyUpto (handAt cn l ts (k : Int)) ts.length) (handsK cn l ts k ++ [((k : Int), ())]) (handsK cn l ts k) := by
  unfold handsK
  rw [List.range_succ, List.filterMap_append]
  cases h : anyUpto (handAt cn l ts (k : Int)) ts.length <;> simp [h]
theorem handsK_len (cn l : Int) (ts : List TaskD) (k : Nat) : (handsK cn l ts k).length ≤ k := by
  unfold handsK
  refine Nat.le_trans (List.length_filterMap_le _ _) ?_
  rw [List.length_range]; exact Nat.le_refl _
theorem anyUpto_succ {p : Nat → Bool} {k : Nat} : anyUpto p (k + 1) = (anyUpto p k || p k) := by
  unfold anyUpto; rw [List.range_succ, List.any_append]; simp
theorem hands_ok : Meets Tryd.prog (fun _ => none) 69 chands := hands_meets fun cn cl cp l jn js jt ja jq jg hp => by
  have hc := inF_iff.1 (hp (inF cn 1 4 = true) (by simp))
  have hl : jt.length < 1000 := hp (pLen jt < 1000) (by simp)
  clear hp
  unfold hands_VC
  refine ⟨StepInv.start rfl, fun y hy => ?_⟩
  rcases StepInv.round (by omega) hy with ⟨s, rfl, hs, hb, hT⟩ | rfl
  · rw [bif_true (by have : (s : Int) < cn := by omega
                     simpa [pLt] using this)]
    refine ⟨StepInv.start rfl, fun z hz => ?_⟩
    rcases StepInv.round (by omega) hz with ⟨k, rfl, hk, hbk, hU⟩ | rfl
    · rw [bif_true (by simp [pLt_coe, pLen, hk])]
      dsimp only
      rw [pNat_coe]
      refine bif_ok (fun h => hU _ (by rw [anyUpto_succ, h]; rfl)) fun h => ⟨pIn_coe.2 hk, bif_ok (fun h2 => ⟨pIn_coe.2 hk, ?_, hU _ ?_⟩) fun h2 => hU _ ?_⟩
      · unfold pNz; omega
      · rw [anyUpto_succ, h, Bool.false_or]; unfold handAt; rw [h2, Bool.true_and]
      · rw [anyUpto_succ, h, Bool.false_or]; unfold handAt; rw [h2, Bool.false_and]
    · rw [bif_false (by simp [pLt_coe, pLen])]
      dsimp only
      refine bif_ok (fun h => ⟨?_, hT _ (by rw [handsK_succ, h]; rfl)⟩) fun h => hT _ (by rw [handsK_succ, h]; rfl)
      have := handsK_len cn l jt s
      show ((handsK cn l jt s).length + 1) * 8 ≤ 140737488351232
      omega
  · rw [bif_false (by have : ¬ ((cn.toNat : Int) < cn) := by omega
                      simpa [pLt] using this)]
    rfl
theorem isNaN_ok : Meets Tryd.prog (fun _ => none) 93 cisNaN := isNaN_meets fun a => by
  unfold isNaN_VC; simp [pNe]
theorem less_ok : Meets Tryd.prog (fun _ => none) 83 cless := less_meets isNaN_ok fun _ _ => rfl

/- sorting -/
theorem sink_len : ∀ {j : Nat} {xs : List ND}, (sink xs j).length = xs.length
  | 0, _ => rfl
  | j + 1, xs => by
    unfold sink
    cases pLt (pGet tyN xs (j + 1)).1 (pGet tyN xs j).1 with
    | false => rfl
    | true => rw [cond_true, sink_len]; unfold pSet; rw [List.length_set, List.length_set]
theorem insUp_len {xs : List ND} : ∀ {k : Nat}, (insUp xs k).length = xs.length
  | 0 => rfl
  | k + 1 => by unfold insUp; rw [sink_len, insUp_len]
theorem sortN_len (l : List ND) : (sortN l).length = l.length := insUp_len
theorem insort_ok : Meets Tryd.prog (fun _ => none) 77 cinsort := insort_meets less_ok fun a b l hp => by
  have ha : a = 0 := hp (a = 0) (by simp)
  have hb : b = pInt (pLen l) := hp (b = pInt (pLen l)) (by simp)
  have hl : l.length < 1000 := hp (pLen l < 1000) (by simp)
  clear hp
  subst ha hb
  unfold insort_VC insort_t0
  refine ⟨⟨0, Nat.zero_le _, by rw [show pAdd .i64 0 1 = ((0 + 1 : Nat) : Int) from pAdd1 (k := 0) (by omega)]; rfl⟩, fun y ⟨k, hk, hy⟩ => ?_⟩
  subst hy
  by_cases hkn : k + 1 < l.length
  · rw [bif_true (by rw [pLt_coe]; exact decide_eq_true hkn)]
    refine ⟨⟨k + 1, rfl, hkn, insUp_len, by rw [pNat_coe]⟩, fun z ⟨j, hj, hjl, hzl, hz⟩ => ?_⟩
    obtain ⟨z1, z2, u⟩ := z
    cases u
    simp only at hj hzl hz
    subst hj
    have out : sink z2 j = z2 → insAInv 0 (pInt (pLen l)) l (pAdd .i64 ((k + 1 : Nat) : Int) 1, z2, ()) ∧ Nat.le (Nat.succ (insAMu 0 (pInt (pLen l)) l (pAdd .i64 ((k + 1 : Nat) : Int) 1, z2, ()))) (insAMu 0 (pInt (pLen l)) l (((k + 1 : Nat) : Int), insUp l k, ())) := by
      intro he
      rw [pAdd1 (by omega)]
      refine ⟨⟨k + 1, by omega, ?_⟩, ?_⟩
      · rw [he, pNat_coe] at hz
        rw [hz]; rfl
      · unfold insAMu; simp only [Int.toNat_natCast]; exact Nat.le_of_eq (by omega)
    cases j with
    | zero =>
      rw [bif_false (by simp [pGt])]
      exact out rfl
    | succ j =>
      rw [bif_true (by simp [pGt])]
      have e1 : pSubI .i64 ((j + 1 : Nat) : Int) 1 = ((j : Nat) : Int) := pSub1 (by omega) (by omega)
      dsimp only
      rw [e1, pNat_coe, pNat_coe]
      have h1 : pIn ((j + 1 : Nat) : Int) (pLen z2) := pIn_coe.2 (by unfold pLen; omega)
      have h2 : pIn ((j : Nat) : Int) (pLen z2) := pIn_coe.2 (by unfold pLen; omega)
      refine ⟨h1, h2, bif_ok (fun hlt => ⟨h2, h1, h1, pIn_coe.2 (by unfold pLen pSet; rw [List.length_set]; omega), ⟨j, rfl, by omega, ?_, ?_⟩, ?_⟩) fun hlt => ?_⟩
      · unfold pSet; rw [List.length_set, List.length_set]; exact hzl
      · rw [← hz]
        show _ = sink z2 (j + 1)
        conv => rhs; unfold sink
        rw [hlt]; rfl
      · unfold insBMu; simp only [Int.toNat_natCast]; exact Nat.le_refl _
      · refine out ?_
        unfold sink
        rw [hlt]; rfl
  · rw [bif_false (by rw [pLt_coe]; exact decide_eq_false hkn)]
    have : k = l.length - 1 := by omega
    subst this
    rfl


end Go.Proofs.YtnkcmkegjckncaaDoor

/- The sites of a job's tasks, sorted: those that have a hand in it. No condition. -/
namespace Go.Proofs.YtnkcmkegjckncaaDoor
open Go.RowKit

def keyN (xs : List ND) (i : Nat) : Int := (pGet tyN xs i).1
theorem pGet_set {t : Ty} {xs : List t.den} {i j : Nat} {v : t.den} (hi : i < xs.length) : pGet t (pSet xs i v) j = if i = j then v else pGet t xs j := by
  unfold pGet pSet
  rw [List.getD_eq_getElem?_getD, List.getD_eq_getElem?_getD, List.getElem?_set]
  by_cases h : i = j
  · subst h; simp [hi]
  · simp [h]
theorem pSet_len {α : Type} {xs : List α} {i : Nat} {v : α} : (pSet xs i v).length = xs.length := by unfold pSet; exact List.length_set
theorem swap_key {xs : List ND} {j : Nat} (h : j + 1 < xs.length) (i : Nat) :
    keyN (pSet (pSet xs (j + 1) (pGet tyN xs j)) j (pGet tyN xs (j + 1))) i = if j = i then keyN xs (j + 1) else if j + 1 = i then keyN xs j else keyN xs i := by
  unfold keyN
  rw [pGet_set (t := tyN) (by rw [pSet_len]; omega), pGet_set (t := tyN) h]
  split
  · rfl
  · split <;> rfl
theorem sink_sorted {k : Nat} : ∀ (j : Nat) (xs : List ND), j ≤ k → k < xs.length → (∀ a b, a < b → b ≤ k → a ≠ j → b ≠ j → keyN xs a ≤ keyN xs b) → (∀ b, j < b → b ≤ k → keyN xs j ≤ keyN xs b) →
    ∀ a b, a < b → b ≤ k → keyN (sink xs j) a ≤ keyN (sink xs j) b
  | 0, xs, _, _, h1, h2, a, b, hab, hb => by
    show keyN xs a ≤ keyN xs b
    by_cases ha : a = 0
    · subst ha; exact h2 b hab hb
    · exact h1 a b hab hb ha (by omega)
  | j + 1, xs, hj, hk, h1, h2, a, b, hab, hb => by
    unfold sink
    cases hc : pLt (pGet tyN xs (j + 1)).1 (pGet tyN xs j).1 with
    | true =>
      rw [cond_true]
      have hlt : keyN xs (j + 1) < keyN xs j := of_decide_eq_true hc
      refine sink_sorted j _ (by omega) (by rw [pSet_len, pSet_len]; exact hk) (fun a b hab hb ha hb2 => ?_) (fun b hjb hb => ?_) a b hab hb
      · rw [swap_key (by omega), swap_key (by omega)]
        by_cases e1 : j + 1 = b
        · subst e1
          have : ¬ j = a := fun e => ha e.symm
          rw [if_neg this, if_neg (by omega), if_neg (by omega), if_pos rfl]
          exact h1 a j (by omega) (by omega) (by omega) (by omega)
        · by_cases e2 : j + 1 = a
          · subst e2
            rw [if_neg (by omega), if_pos rfl, if_neg (by omega), if_neg (by omega)]
            exact h1 j b (by omega) hb (by omega) (by omega)
          · rw [if_neg (by omega), if_neg e2, if_neg (by omega), if_neg e1]
            exact h1 a b hab hb (by omega) (by omega)
      · rw [swap_key (by omega), swap_key (by omega), if_pos rfl, if_neg (by omega)]
        by_cases e1 : j + 1 = b
        · rw [if_pos e1]; omega
        · rw [if_neg e1]; exact h2 b (by omega) hb
    | false =>
      rw [cond_false]
      have hle : keyN xs j ≤ keyN xs (j + 1) := by
        have : ¬ (keyN xs (j + 1) < keyN xs j) := of_decide_eq_false hc
        omega
      by_cases e1 : b = j + 1
      · subst e1
        by_cases e2 : a = j
        · subst e2; exact hle
        · exact Int.le_trans (h1 a j (by omega) (by omega) (by omega) (by omega)) hle
      · by_cases e2 : a = j + 1
        · subst e2; exact h2 b hab hb
        · exact h1 a b hab hb e2 e1
theorem insUp_sorted {xs : List ND} : ∀ (k : Nat), k < xs.length → ∀ a b, a < b → b ≤ k → keyN (insUp xs k) a ≤ keyN (insUp xs k) b
  | 0, _, a, b, hab, hb => absurd hab (by omega)
  | k + 1, hk, a, b, hab, hb => by
    unfold insUp
    exact sink_sorted (k + 1) _ (Nat.le_refl _) (by rw [insUp_len]; exact hk) (fun a b hab hb ha hb2 => insUp_sorted k (by omega) a b hab (by omega)) (fun b h1 h2 => absurd h1 (by omega)) a b hab hb

theorem split2 {xs : List ND} {j : Nat} (h : j + 1 < xs.length) : xs = xs.take j ++ xs[j] :: xs[j + 1] :: xs.drop (j + 2) := by
  conv => lhs; rw [← List.take_append_drop j xs, List.drop_eq_getElem_cons (by omega), List.drop_eq_getElem_cons (by omega)]
theorem swap_perm {xs : List ND} {j : Nat} (h : j + 1 < xs.length) : (pSet (pSet xs (j + 1) (pGet tyN xs j)) j (pGet tyN xs (j + 1))).Perm xs := by
  have ht : (xs.take j).length = j := by rw [List.length_take]; omega
  have key : ∀ (A B : List ND) (a b : ND), A.length = j → ((A ++ a :: b :: B).set (j + 1) a).set j b = A ++ b :: a :: B := by
    intro A B a b hA
    subst hA
    rw [List.set_append_right _ _ (by omega), List.set_append_right _ _ (by omega)]
    simp
  have e : pSet (pSet xs (j + 1) (pGet tyN xs j)) j (pGet tyN xs (j + 1)) = xs.take j ++ xs[j + 1] :: xs[j] :: xs.drop (j + 2) := by
    rw [pGet_lt (t := tyN) (by omega), pGet_lt (t := tyN) h]
    have := key (xs.take j) (xs.drop (j + 2)) xs[j] xs[j + 1] ht
    rw [← split2 h] at this
    exact this
  rw [e]
  have p : (xs.take j ++ xs[j + 1] :: xs[j] :: xs.drop (j + 2)).Perm (xs.take j ++ xs[j] :: xs[j + 1] :: xs.drop (j + 2)) := List.Perm.append_left _ (List.Perm.swap _ _ _)
  rw [← split2 h] at p
  exact p
theorem sink_perm : ∀ {j : Nat} {xs : List ND}, j < xs.length → (sink xs j).Perm xs
  | 0, _, _ => List.Perm.refl _
  | j + 1, xs, h => by
    unfold sink
    cases pLt (pGet tyN xs (j + 1)).1 (pGet tyN xs j).1 with
    | false => exact List.Perm.refl _
    | true => exact (sink_perm (by rw [pSet_len, pSet_len]; omega)).trans (swap_perm h)
theorem insUp_perm {xs : List ND} : ∀ {k : Nat}, k < xs.length → (insUp xs k).Perm xs
  | 0, _ => List.Perm.refl _
  | k + 1, h => by
    unfold insUp
    exact (sink_perm (by rw [insUp_len]; exact h)).trans (insUp_perm (by omega))
theorem sortN_perm (xs : List ND) : (sortN xs).Perm xs := by
  cases xs with
  | nil => exact List.Perm.refl _
  | cons x xs => exact insUp_perm (by simp)
theorem sortN_pair (xs : List ND) : (sortN xs).Pairwise fun a b => a.1 ≤ b.1 := by
  rw [List.pairwise_iff_getElem]
  intro a b ha hb hab
  have hl := sortN_len xs
  have := insUp_sorted (xs := xs) (xs.length - 1) (by omega) a b hab (by omega)
  have e1 : keyN (sortN xs) a = (sortN xs)[a].1 := by unfold keyN; rw [pGet_lt (t := tyN) ha]
  have e2 : keyN (sortN xs) b = (sortN xs)[b].1 := by unfold keyN; rw [pGet_lt (t := tyN) hb]
  rw [← e1, ← e2]
  exact this
theorem nd_eq {a b : ND} (h : a.1 = b.1) : a = b := by
  obtain ⟨a, u⟩ := a; obtain ⟨b, v⟩ := b; cases u; cases v; exact congrArg (·, ()) h
/-- rows that climb are told by what is in them -/
theorem climb_eq : ∀ {xs ys : List ND}, xs.Pairwise (fun a b => a.1 < b.1) → ys.Pairwise (fun a b => a.1 < b.1) → (∀ z, z ∈ xs ↔ z ∈ ys) → xs = ys
  | [], [], _, _, _ => rfl
  | [], y :: ys, _, _, h => by have := (h y).2 (by simp); cases this
  | x :: xs, [], _, _, h => by have := (h x).1 (by simp); cases this
  | x :: xs, y :: ys, hx, hy, h => by
    have hx' := List.pairwise_cons.1 hx
    have hy' := List.pairwise_cons.1 hy
    have e : x = y := by
      rcases List.mem_cons.1 ((h x).1 (by simp)) with e | h1
      · exact e
      · rcases List.mem_cons.1 ((h y).2 (by simp)) with e | h2
        · exact e.symm
        · have a1 := hy'.1 x h1
          have a2 := hx'.1 y h2
          omega
    subst e
    congr 1
    refine climb_eq hx'.2 hy'.2 fun z => ⟨fun hz => ?_, fun hz => ?_⟩
    · rcases List.mem_cons.1 ((h z).1 (by simp [hz])) with e | h1
      · subst e; have := hx'.1 z hz; omega
      · exact h1
    · rcases List.mem_cons.1 ((h z).2 (by simp [hz])) with e | h1
      · subst e; have := hy'.1 z hz; omega
      · exact h1

theorem hasF_lt {l : List ND} {n : Int} : pLt (hasF l n) 0 = !anyUpto (fun j => pEq (pGet tyN l j).1 n) l.length := by
  rw [← idxOf_ge]
  unfold hasF pLt pGe
  rw [Bool.eq_iff_iff]
  simp
theorem has_mem {l : List ND} {n : Int} : anyUpto (fun j => pEq (pGet tyN l j).1 n) l.length = true ↔ (n, ()) ∈ l := by
  rw [anyUpto_iff]
  constructor
  · rintro ⟨j, hj, h⟩
    rw [pGet_lt (t := tyN) hj] at h
    have e : l[j].1 = n := by simpa [pEq] using h
    have : l[j] = (n, ()) := nd_eq e
    rw [← this]; exact List.getElem_mem hj
  · intro h
    obtain ⟨j, hj, e⟩ := List.getElem_of_mem h
    refine ⟨j, hj, ?_⟩
    rw [pGet_lt (t := tyN) hj, e]
    simp [pEq]
theorem sitesK_succ {cn l : Int} {ts : List TaskD} {k : Nat} : sitesK cn l ts (k + 1) = cond (pEq (pGet tyTask ts k).2.1 l && pLt (hasF (sitesK cn l ts k) (pRem (pGet tyTask ts k).2.2.1 cn)) 0) (sitesK cn l ts k ++ [(pRem (pGet tyTask ts k).2.2.1 cn, ())]) (sitesK cn l ts k) := rfl
theorem sitesK_len (cn l : Int) (ts : List TaskD) : ∀ k, (sitesK cn l ts k).length ≤ k
  | 0 => Nat.le_refl _
  | k + 1 => by
    rw [sitesK_succ]
    have := sitesK_len cn l ts k
    cases pEq (pGet tyTask ts k).2.1 l && pLt (hasF (sitesK cn l ts k) (pRem (pGet tyTask ts k).2.2.1 cn)) 0 with
    | true => rw [cond_true, List.length_append]; simp only [List.length_singleton]; omega
    | false => rw [cond_false]; omega
theorem sitesK_mem (cn l : Int) (ts : List TaskD) (z : ND) : ∀ k, z ∈ sitesK cn l ts k ↔ ∃ i, i < k ∧ handAt cn l ts z.1 i = true
  | 0 => by simp [sitesK]
  | k + 1 => by
    have ih := sitesK_mem cn l ts z k
    have key : (∃ i, i < k + 1 ∧ handAt cn l ts z.1 i = true) ↔ (∃ i, i < k ∧ handAt cn l ts z.1 i = true) ∨ handAt cn l ts z.1 k = true := by
      constructor
      · rintro ⟨i, hi, h⟩
        by_cases e : i = k
        · subst e; exact .inr h
        · exact .inl ⟨i, by omega, h⟩
      · rintro (⟨i, hi, h⟩ | h)
        · exact ⟨i, by omega, h⟩
        · exact ⟨k, by omega, h⟩
    rw [key, ← ih, sitesK_succ, hasF_lt]
    cases h1 : pEq (pGet tyTask ts k).2.1 l with
    | false =>
      rw [Bool.false_and, cond_false]
      have : handAt cn l ts z.1 k = false := by unfold handAt; rw [h1]; rfl
      simp [this]
    | true =>
      rw [Bool.true_and]
      have hh : handAt cn l ts z.1 k = true ↔ pRem (pGet tyTask ts k).2.2.1 cn = z.1 := by unfold handAt; rw [h1, Bool.true_and]; simp [pEq]
      cases h2 : anyUpto (fun j => pEq (pGet tyN (sitesK cn l ts k) j).1 (pRem (pGet tyTask ts k).2.2.1 cn)) (sitesK cn l ts k).length with
      | true =>
        rw [Bool.not_true, cond_false, hh]
        constructor
        · exact .inl
        · rintro (h | h)
          · exact h
          · have := has_mem.1 h2
            rw [h] at this
            exact this
      | false =>
        rw [Bool.not_false, cond_true, hh, List.mem_append, List.mem_singleton]
        constructor
        · rintro (h | h)
          · exact .inl h
          · subst h; exact .inr rfl
        · rintro (h | h)
          · exact .inl h
          · exact .inr (nd_eq h.symm)
theorem sitesK_nodup (cn l : Int) (ts : List TaskD) : ∀ k, (sitesK cn l ts k).Nodup
  | 0 => List.nodup_nil
  | k + 1 => by
    have ih := sitesK_nodup cn l ts k
    rw [sitesK_succ, hasF_lt]
    cases h : pEq (pGet tyTask ts k).2.1 l && !anyUpto (fun j => pEq (pGet tyN (sitesK cn l ts k) j).1 (pRem (pGet tyTask ts k).2.2.1 cn)) (sitesK cn l ts k).length with
    | false => exact ih
    | true =>
      rw [cond_true, List.nodup_append]
      rw [Bool.and_eq_true, Bool.not_eq_true'] at h
      refine ⟨ih, List.nodup_cons.2 ⟨by simp, List.nodup_nil⟩, fun a ha b hb e => ?_⟩
      rw [List.mem_singleton] at hb
      subst e hb
      have := has_mem.2 ha
      rw [h.2] at this; cases this
theorem handsK_mem (cn l : Int) (ts : List TaskD) (z : ND) (k : Nat) : z ∈ handsK cn l ts k ↔ ∃ s : Nat, s < k ∧ z.1 = (s : Int) ∧ anyUpto (handAt cn l ts z.1) ts.length = true := by
  unfold handsK
  rw [List.mem_filterMap]
  constructor
  · rintro ⟨s, hs, h⟩
    cases hq : anyUpto (handAt cn l ts (s : Int)) ts.length with
    | false => rw [hq] at h; cases h
    | true =>
      rw [hq] at h
      simp only [cond_true, Option.some.injEq] at h
      subst h
      exact ⟨s, by simpa using hs, rfl, hq⟩
  · rintro ⟨s, hs, h1, h2⟩
    rw [h1] at h2
    refine ⟨s, by simpa using hs, ?_⟩
    rw [h2, cond_true]
    exact congrArg some (nd_eq h1.symm)
theorem handsK_pair (cn l : Int) (ts : List TaskD) : ∀ k, (handsK cn l ts k).Pairwise fun a b => a.1 < b.1
  | 0 => List.Pairwise.nil
  | k + 1 => by
    rw [handsK_succ]
    cases anyUpto (handAt cn l ts (k : Int)) ts.length with
    | false => exact handsK_pair cn l ts k
    | true =>
      rw [cond_true, List.pairwise_append]
      refine ⟨handsK_pair cn l ts k, List.pairwise_singleton _ _, fun a ha b hb => ?_⟩
      rw [List.mem_singleton] at hb
      subst hb
      obtain ⟨s, hs, e, _⟩ := (handsK_mem cn l ts a k).1 ha
      rw [e]
      show (s : Int) < (k : Int)
      omega
/-- THE SITES, SORTED -/
theorem sites_hands {cn l : Int} {ts : List TaskD} (hc : 1 ≤ cn ∧ cn ≤ 4) (hk : ∀ t ∈ ts, 0 ≤ t.2.2.1) : sortN (sitesK cn l ts ts.length) = handsF cn l ts := by
  have hn : (sortN (sitesK cn l ts ts.length)).Nodup := (sortN_perm _).nodup_iff.2 (sitesK_nodup cn l ts _)
  refine climb_eq ?_ (handsK_pair _ _ _ _) fun z => ?_
  · refine ((sortN_pair (sitesK cn l ts ts.length)).and hn).imp fun {a b} ⟨h1, h2⟩ => ?_
    rcases Int.lt_or_eq_of_le h1 with h | h
    · exact h
    · exact absurd (nd_eq h) h2
  · rw [(sortN_perm _).mem_iff, sitesK_mem]
    unfold handsF
    rw [handsK_mem]
    constructor
    · rintro ⟨i, hi, h⟩
      have h' := h
      unfold handAt at h'
      rw [Bool.and_eq_true] at h'
      have e : pRem (pGet tyTask ts i).2.2.1 cn = z.1 := by simpa [pEq] using h'.2
      have hm := hk _ (List.getElem_mem hi)
      rw [← pGet_lt (t := tyTask) hi] at hm
      have b1 : 0 ≤ (pGet tyTask ts i).2.2.1.tmod cn := Int.tmod_nonneg _ hm
      have b2 : (pGet tyTask ts i).2.2.1.tmod cn < cn := Int.tmod_lt_of_pos _ (by omega)
      unfold pRem at e
      refine ⟨z.1.toNat, by omega, by omega, anyUpto_iff.2 ⟨i, hi, h⟩⟩
    · rintro ⟨s, hs, e, h⟩
      obtain ⟨i, hi, h⟩ := anyUpto_iff.1 h
      exact ⟨i, hi, h⟩
theorem handsF_len {cn l : Int} {ts : List TaskD} (hc : 1 ≤ cn ∧ cn ≤ 4) : (handsF cn l ts).length ≤ 4 := by
  have := handsK_len cn l ts cn.toNat
  unfold handsF; omega


end Go.Proofs.YtnkcmkegjckncaaDoor
