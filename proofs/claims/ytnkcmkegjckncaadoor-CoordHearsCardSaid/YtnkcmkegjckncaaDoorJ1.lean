/- The configuration's checks meet their contracts. No condition. -/
import Derived.Test.YtnkcmkegjckncaaDoorFF
import Derived.Test.YtnkcmkegjckncaaDoorFH
import Derived.Test.YtnkcmkegjckncaaDoorLib

/- Plain words of configurations, desks and acts: types of readings, what may be. No condition. -/
namespace Go.Proofs.YtnkcmkegjckncaaDoor
open Go.RowKit

abbrev tI : Ty := .int .i64
abbrev tyN : Ty := .pair tI .unit
abbrev tyLab : Ty := .pair tI (.pair tI .unit)
abbrev tyTask : Ty := .pair .bool (.pair tI (.pair tI (.pair tI (.pair tI (.pair tI (.pair .bool (.pair .bool .unit)))))))
abbrev tyJob : Ty := .pair tI (.pair tI (.pair (.sl tyTask) (.pair (.sl tyN) (.pair tI (.pair tI .unit)))))
abbrev ND := Int × Unit
abbrev LabD := Int × Int × Unit
abbrev TaskD := Bool × Int × Int × Int × Int × Int × Bool × Bool × Unit
abbrev JobD := Int × Int × List TaskD × List ND × Int × Int × Unit
abbrev CfgD := Int × List LabD × Int × Unit
abbrev DeskD := Int × List JobD × Unit
abbrev pLab : Par := .agg [.rd tI, .rd tI]
abbrev pCfg : Par := .agg [.rd tI, .rd (.sl tyLab), .rd tI]
abbrev pTask : Par := .agg [.rd .bool, .rd tI, .rd tI, .rd tI, .rd tI, .rd tI, .rd .bool, .rd .bool]
abbrev pJob : Par := .agg [.rd tI, .rd tI, .rd (.sl tyTask), .rd (.sl tyN), .rd tI, .rd tI]
abbrev pDesk : Par := .agg [.rd tI, .rd (.sl tyJob)]
abbrev wLab : TyW := wStruct [wInt, wInt]
abbrev wCfg : TyW := wStruct [wInt, wSl wLab 16, wInt]
abbrev wTask : TyW := wStruct [wBool, wInt, wInt, wInt, wInt, wInt, wBool, wBool]
abbrev wJob : TyW := wStruct [wInt, wInt, wSl wTask 56, wSl wInt 8, wInt, wInt]
abbrev wDesk : TyW := wStruct [wInt, wSl wJob 80]
def inF (x a b : Int) : Bool := pLe a x && pLe x b
def labF (a : LabD) : Bool := inF a.1 0 9 && inF a.2.1 0 15
def eqLabAt (l : List LabD) (k i : Nat) : Bool := pAndB (pEq (pGet tyLab l k).1 (pGet tyLab l i).1) (pEq (pGet tyLab l k).2.1 (pGet tyLab l i).2.1)
/-- what is wrong with a label, behind those ahead of it -/
def labE (l : List LabD) (i : Nat) : Int := cond (labF (pGet tyLab l i)) (cond (allUpto (fun k => !eqLabAt l k i) i) 0 7) 2
def cfgF (c : CfgD) : Int :=
  cond (inF c.1 1 4) (cond (inF (pInt c.2.1.length) 1 6) (cond (pEq (firstE (labE c.2.1) c.2.1.length) 0) (cond (inF c.2.2.1 1 1048576) 0 2) (firstE (labE c.2.1) c.2.1.length)) 1) 2
def placeF (c : CfgD) (l : Int) : Bool := pLe 0 l && pLt l (pInt c.2.1.length)
def lCheckAInv (_ : Int) (cl : List LabD) (_ : Int) : denVars [.slot 28 false tI] → Prop := FirstInv (labE cl) cl.length
def lCheckAMu (_ : Int) (cl : List LabD) (_ : Int) : denVars [.slot 28 false tI] → Nat := UpMu cl.length
def lCheckBInv (_ : Int) (cl : List LabD) (_ : Int) (i : Int) : denVars [.slot 41 false tI] → Prop := UpInv (fun k => !eqLabAt cl k (pNat i)) (pNat i)
def lCheckBMu (_ : Int) (_ : List LabD) (_ : Int) (i : Int) : denVars [.slot 41 false tI] → Nat := UpMu (pNat i)
/-- at most n of a row of numbers, less than m, each above the one ahead -/
def upAt (l : List ND) (m : Int) (i : Nat) : Bool := pLe 0 (pGet tyN l i).1 && pLt (pGet tyN l i).1 m && (decide (i = 0) || pLt (pGet tyN l (i - 1)).1 (pGet tyN l i).1)
def taskF (c : CfgD) (t : TaskD) : Bool :=
  placeF c t.2.1 && inF t.2.2.1 0 7 && inF t.2.2.2.1 0 1073741824 && inF t.2.2.2.2.1 0 1048576 && inF t.2.2.2.2.2.1 1 1048576 && (t.2.2.2.2.2.2.1 || (!t.2.2.2.2.2.2.2.1 && (t.1 || (pEq t.2.2.2.1 0 && pEq t.2.2.2.2.1 0))))
def taskAt (c : CfgD) (s q : Int) (l : List TaskD) (i : Nat) : Bool :=
  taskF c (pGet tyTask l i) && pLe (pGet tyTask l i).2.2.2.2.2.1 q && (decide (i = 0) || pLt (pGet tyTask l (i - 1)).2.2.2.2.2.1 (pGet tyTask l i).2.2.2.2.2.1) &&
    ((pGet tyTask l i).2.2.2.2.2.2.1 || (decide (l.length ≤ i + 1) && pEq s 1))
def jobF (c : CfgD) (d : Int) (j : JobD) : Bool :=
  pLe 1 j.1 && pLt j.1 d && inF j.2.2.2.2.2.1 0 1048576 && inF j.2.1 1 3 && pLe (pInt j.2.2.1.length) 10 && inF j.2.2.2.2.1 0 1048576 &&
    allUpto (taskAt c j.2.1 j.2.2.2.2.1 j.2.2.1) j.2.2.1.length && allUpto (upAt j.2.2.2.1 c.1) j.2.2.2.1.length && (pEq j.2.1 3 == decide (0 < j.2.2.2.1.length))
def jobAt (c : CfgD) (d : DeskD) (i : Nat) : Bool := jobF c d.1 (pGet tyJob d.2.1 i) && (decide (i = 0) || pLt (pGet tyJob d.2.1 (i - 1)).1 (pGet tyJob d.2.1 i).1)
def deskF (c : CfgD) (d : DeskD) : Int :=
  cond (pEq (cfgF c) 0) (cond (inF d.1 1 1048577 && pLe (pInt d.2.1.length) 6 && allUpto (jobAt c d) d.2.1.length) 0 9) (cfgF c)

variable (cn : Int) (cl : List LabD) (cp : Int)
def jobAInv (_ : Int) (_ : List JobD) (_ : Int) (s : Int) (t : List TaskD) (_ : List ND) (q _ : Int) : denVars [.slot 60 false tI] → Prop := UpInv (taskAt (cn, cl, cp, ()) s q t) t.length
def jobAMu (_ : Int) (_ : List LabD) (_ : Int) (_ : Int) (_ : List JobD) (_ : Int) (_ : Int) (t : List TaskD) (_ : List ND) (_ _ : Int) : denVars [.slot 60 false tI] → Nat := UpMu t.length
def jobBInv (cn : Int) (_ : List LabD) (_ : Int) (_ : Int) (_ : List JobD) (_ : Int) (_ : Int) (_ : List TaskD) (a : List ND) (_ _ : Int) : denVars [.slot 119 false tI] → Prop := UpInv (upAt a cn) a.length
def jobBMu (_ : Int) (_ : List LabD) (_ : Int) (_ : Int) (_ : List JobD) (_ : Int) (_ : Int) (_ : List TaskD) (a : List ND) (_ _ : Int) : denVars [.slot 119 false tI] → Nat := UpMu a.length
def jobMayAInv (_ : Int) (_ : Int) (s : Int) (t : List TaskD) (_ : List ND) (q _ : Int) : denVars [.slot 7 false tI] → Prop := UpInv (taskAt (cn, cl, cp, ()) s q t) t.length
def jobMayAMu (_ : Int) (_ : List LabD) (_ : Int) (_ : Int) (_ : Int) (_ : Int) (t : List TaskD) (_ : List ND) (_ _ : Int) : denVars [.slot 7 false tI] → Nat := UpMu t.length
def jobMayBInv (cn : Int) (_ : List LabD) (_ : Int) (_ : Int) (_ : Int) (_ : Int) (_ : List TaskD) (a : List ND) (_ _ : Int) : denVars [.slot 8 false tI] → Prop := UpInv (upAt a cn) a.length
def jobMayBMu (_ : Int) (_ : List LabD) (_ : Int) (_ : Int) (_ : Int) (_ : Int) (_ : List TaskD) (a : List ND) (_ _ : Int) : denVars [.slot 8 false tI] → Nat := UpMu a.length
def deskAInv (dn : Int) (dj : List JobD) : denVars [.slot 30 false tI] → Prop := UpInv (jobAt (cn, cl, cp, ()) (dn, dj, ())) dj.length
def deskAMu (_ : Int) (_ : List LabD) (_ : Int) (_ : Int) (dj : List JobD) : denVars [.slot 30 false tI] → Nat := UpMu dj.length

end Go.Proofs.YtnkcmkegjckncaaDoor

/- Contracts, and what the evaluator says, as plain propositions: CkV. Printed by vc.py. -/
namespace Go.Proofs.YtnkcmkegjckncaaDoor
open Go.RowKit Go.ChangeShapes Go.WideShapes Go.Deep

def cIn : Ctr := shCtr ⟨[.one (.rd tI), .one (.rd tI), .one (.rd tI)], []⟩ (fun _ => []) [] [.slot 0 false .bool] (fun x => (inF x.1.1 x.1.2.1 x.1.2.2.1, ()))
def cone : Ctr := shCtr ⟨[pLab], []⟩ (fun _ => []) [] [.slot 0 false .bool] (fun x => (labF x.1.1, ()))
def clCheck : Ctr := shCtr ⟨[pCfg], []⟩ (fun x => [pLen x.1.1.2.1 < 4611686018427387904]) [] [.slot 0 false tI] (fun x => (cfgF x.1.1, ()))
def ccFault : Ctr := shCtr ⟨[pCfg], []⟩ (fun x => [pLen x.1.1.2.1 < 4611686018427387904]) [] [.slot 0 false tI] (fun x => (cfgF x.1.1, ()))
def clabelMay : Ctr := shCtr ⟨[pCfg, .one (.rd tI)], []⟩ (fun x => [pLen x.1.1.2.1 < 4611686018427387904]) [] [.slot 0 false .bool] (fun x => (placeF x.1.1 x.1.2.1, ()))
def ctask : Ctr := shCtr ⟨[pCfg, pTask], []⟩ (fun x => [pLen x.1.1.2.1 < 4611686018427387904]) [] [.slot 0 false .bool] (fun x => (taskF x.1.1 x.1.2.1, ()))
def ctaskMay : Ctr := shCtr ⟨[pCfg, pTask], []⟩ (fun x => [pLen x.1.1.2.1 < 4611686018427387904]) [] [.slot 0 false .bool] (fun x => (taskF x.1.1 x.1.2.1, ()))

def In_VC (a : Int) (b : Int) (c : Int) : Prop :=
  bif pGe a b then (pLe a c, ()) = (inF a b c, ()) else (Bool.false, ()) = (inF a b c, ())
set_option maxRecDepth 100000 in
theorem In_meets  (h : ∀ (a : Int) (b : Int) (c : Int), In_VC a b c) : Meets Tryd.prog (fun _ => none) 51 cIn :=
  meets_vc (E := envOf Tryd.prog [] [101, 73]) (envOf_ok (fun p hp => by cases hp) (by kernel_rfl)) ⟨[.one (.rd tI), .one (.rd tI), .one (.rd tI)], []⟩ (fun x => fun k s => look [] k) Tryd.func51 (by kernel_rfl) (by kernel_rfl) (fun _ => []) [] [.slot 0 false .bool] (fun x => (inF x.1.1 x.1.2.1 x.1.2.2.1, ())) (fun x => In_VC x.1.1 x.1.2.1 x.1.2.2.1) (fun x => by kernel_rfl) (fun x _ => h x.1.1 x.1.2.1 x.1.2.2.1)

def one_VC (al : Int) (ak : Int) : Prop :=
  bif pGe al (0 : Int) then bif pLe al (9 : Int) then bif pGe ak (0 : Int) then (pLe ak (15 : Int), ()) = (labF (al, ak, ()), ()) else (Bool.false, ()) = (labF (al, ak, ()), ()) else (Bool.false, ()) = (labF (al, ak, ()),
    ()) else (Bool.false, ()) = (labF (al, ak, ()), ())
set_option maxRecDepth 100000 in
theorem one_meets  (h : ∀ (al : Int) (ak : Int), one_VC al ak) : Meets Tryd.prog (fun _ => none) 60 cone :=
  meets_vc (E := envOf Tryd.prog [] [101, 73]) (envOf_ok (fun p hp => by cases hp) (by kernel_rfl)) ⟨[pLab], []⟩ (fun x => fun k s => look [] k) Tryd.func60 (by kernel_rfl) (by kernel_rfl) (fun _ => []) [] [.slot 0 false .bool] (fun x => (labF x.1.1, ())) (fun x => one_VC x.1.1.1 x.1.1.2.1) (fun x => by kernel_rfl) (fun x _ => h x.1.1.1 x.1.1.2.1)

def lCheck_VC (cn : Int) (cl : (List LabD)) (cp : Int) : Prop :=
  bif pLt cn (1 : Int) then ((2 : Int), ()) = (cfgF (cn, cl, cp, ()), ()) else bif pGt cn (4 : Int) then ((2 : Int), ()) = (cfgF (cn, cl, cp, ()), ()) else bif pLt (pInt (pLen cl)) (1 : Int) then ((1 : Int), ()) = (cfgF
    (cn, cl, cp, ()), ()) else bif pGt (pInt (pLen cl)) (6 : Int) then ((1 : Int), ()) = (cfgF (cn, cl, cp, ()), ()) else lCheckAInv cn cl cp ((0 : Int), ()) ∧ ∀ (y : kden Bool.false tI × PUnit), lCheckAInv cn cl cp y → bif
    pLt y.1 (pInt (pLen cl)) then pIn y.1 (pLen cl) ∧ bif pNot (labF ((pGet tyLab cl (pNat y.1)).1, (pGet tyLab cl (pNat y.1)).2.1, ())) then ((2 : Int), ()) = (cfgF (cn, cl, cp, ()), ()) else pTo y.1 (pLen cl) ∧ lCheckBInv
    cn cl cp y.1 ((0 : Int), ()) ∧ ∀ (y_1 : kden Bool.false tI × PUnit), lCheckBInv cn cl cp y.1 y_1 → bif pLt y_1.1 (pInt (pLen (pSub cl 0 (pNat y.1)))) then pIn y_1.1 (pLen (pSub cl 0 (pNat y.1))) ∧ bif pAndB (pEq (pGet
    tyLab (pSub cl 0 (pNat y.1)) (pNat y_1.1)).1 (pGet tyLab cl (pNat y.1)).1) (pEq (pGet tyLab (pSub cl 0 (pNat y.1)) (pNat y_1.1)).2.1 (pGet tyLab cl (pNat y.1)).2.1) then ((7 : Int), ()) = (cfgF (cn, cl, cp, ()), ()) else
    lCheckBInv cn cl cp y.1 (pAdd IntKind.i64 y_1.1 (1 : Int), ()) ∧ Nat.le (Nat.succ (lCheckBMu cn cl cp y.1 (pAdd IntKind.i64 y_1.1 (1 : Int), ()))) (lCheckBMu cn cl cp y.1 y_1) else lCheckAInv cn cl cp (pAdd IntKind.i64
    y.1 (1 : Int), ()) ∧ Nat.le (Nat.succ (lCheckAMu cn cl cp (pAdd IntKind.i64 y.1 (1 : Int), ()))) (lCheckAMu cn cl cp y) else bif pLt cp (1 : Int) then ((2 : Int), ()) = (cfgF (cn, cl, cp, ()), ()) else bif pGt cp
    (1048576 : Int) then ((2 : Int), ()) = (cfgF (cn, cl, cp, ()), ()) else ((0 : Int), ()) = (cfgF (cn, cl, cp, ()), ())
set_option maxRecDepth 100000 in
theorem lCheck_meets (hone : Meets Tryd.prog (fun _ => none) 60 cone) (h : ∀ (cn : Int) (cl : (List LabD)) (cp : Int), (∀ p ∈ (fun x => [pLen x.1.1.2.1 < 4611686018427387904] : Shape.den ⟨[pCfg], []⟩ → List Prop) ⟨((cn, cl, cp, ()), ()), ()⟩, p) → lCheck_VC cn cl cp) : Meets Tryd.prog (fun _ => none) 32 clCheck :=
  meets_vc (E := envOf Tryd.prog [(60, (false, cone))] [101, 73]) (envOf_ok (fun p hp => (by simp only [List.mem_cons, List.not_mem_nil, or_false] at hp; rcases hp with rfl; exact hone)) (by kernel_rfl)) ⟨[pCfg], []⟩ (fun x => fun k s => look [(6, (⟨[.slot 28 false tI], lCheckAInv x.1.1.1 x.1.1.2.1 x.1.1.2.2.1, lCheckAMu x.1.1.1 x.1.1.2.1 x.1.1.2.2.1⟩ : Ann)), (11, (⟨[.slot 41 false tI], lCheckBInv x.1.1.1 x.1.1.2.1 x.1.1.2.2.1 (slotI s 28), lCheckBMu x.1.1.1 x.1.1.2.1 x.1.1.2.2.1 (slotI s 28)⟩ : Ann))] k) Tryd.func32 (by kernel_rfl) (by kernel_rfl) (fun x => [pLen x.1.1.2.1 < 4611686018427387904]) [] [.slot 0 false tI] (fun x => (cfgF x.1.1, ())) (fun x => lCheck_VC x.1.1.1 x.1.1.2.1 x.1.1.2.2.1) (fun x => by kernel_rfl) (fun x hp => h x.1.1.1 x.1.1.2.1 x.1.1.2.2.1 hp)

def cFault_VC (cn : Int) (cl : (List LabD)) (cp : Int) : Prop :=
  bif pNot (inF cn (1 : Int) (4 : Int)) then ((2 : Int), ()) = (cfgF (cn, cl, cp, ()), ()) else bif pNot (inF (pInt (pLen cl)) (1 : Int) (6 : Int)) then ((1 : Int), ()) = (cfgF (cn, cl, cp, ()), ()) else lCheckAInv cn cl
    cp ((0 : Int), ()) ∧ ∀ (y : kden Bool.false tI × PUnit), lCheckAInv cn cl cp y → bif pLt y.1 (pInt (pLen cl)) then pIn y.1 (pLen cl) ∧ bif pNot (inF (pGet tyLab cl (pNat y.1)).1 (0 : Int) (9 : Int)) then ((2 : Int), ())
    = (cfgF (cn, cl, cp, ()), ()) else pIn y.1 (pLen cl) ∧ bif pNot (inF (pGet tyLab cl (pNat y.1)).2.1 (0 : Int) (15 : Int)) then ((2 : Int), ()) = (cfgF (cn, cl, cp, ()), ()) else lCheckBInv cn cl cp y.1 ((0 : Int), ()) ∧
    ∀ (y_1 : kden Bool.false tI × PUnit), lCheckBInv cn cl cp y.1 y_1 → bif pLt y_1.1 y.1 then pIn y_1.1 (pLen cl) ∧ pIn y.1 (pLen cl) ∧ bif pAndB (pEq (pGet tyLab cl (pNat y_1.1)).1 (pGet tyLab cl (pNat y.1)).1) (pEq (pGet
    tyLab cl (pNat y_1.1)).2.1 (pGet tyLab cl (pNat y.1)).2.1) then ((7 : Int), ()) = (cfgF (cn, cl, cp, ()), ()) else lCheckBInv cn cl cp y.1 (pAdd IntKind.i64 y_1.1 (1 : Int), ()) ∧ Nat.le (Nat.succ (lCheckBMu cn cl cp y.1
    (pAdd IntKind.i64 y_1.1 (1 : Int), ()))) (lCheckBMu cn cl cp y.1 y_1) else lCheckAInv cn cl cp (pAdd IntKind.i64 y.1 (1 : Int), ()) ∧ Nat.le (Nat.succ (lCheckAMu cn cl cp (pAdd IntKind.i64 y.1 (1 : Int), ()))) (lCheckAMu
    cn cl cp y) else bif pNot (inF cp (1 : Int) (1048576 : Int)) then ((2 : Int), ()) = (cfgF (cn, cl, cp, ()), ()) else ((0 : Int), ()) = (cfgF (cn, cl, cp, ()), ())
set_option maxRecDepth 100000 in
theorem cFault_meets (hIn : Meets Tryd.prog (fun _ => none) 51 cIn) (h : ∀ (cn : Int) (cl : (List LabD)) (cp : Int), (∀ p ∈ (fun x => [pLen x.1.1.2.1 < 4611686018427387904] : Shape.den ⟨[pCfg], []⟩ → List Prop) ⟨((cn, cl, cp, ()), ()), ()⟩, p) → cFault_VC cn cl cp) : Meets Tryd.prog (fun _ => none) 52 ccFault :=
  meets_vc (E := envOf Tryd.prog [(51, (false, cIn))] [101, 73]) (envOf_ok (fun p hp => (by simp only [List.mem_cons, List.not_mem_nil, or_false] at hp; rcases hp with rfl; exact hIn)) (by kernel_rfl)) ⟨[pCfg], []⟩ (fun x => fun k s => look [(6, (⟨[.slot 3 false tI], lCheckAInv x.1.1.1 x.1.1.2.1 x.1.1.2.2.1, lCheckAMu x.1.1.1 x.1.1.2.1 x.1.1.2.2.1⟩ : Ann)), (11, (⟨[.slot 4 false tI], lCheckBInv x.1.1.1 x.1.1.2.1 x.1.1.2.2.1 (slotI s 3), lCheckBMu x.1.1.1 x.1.1.2.1 x.1.1.2.2.1 (slotI s 3)⟩ : Ann))] k) Tryd.func52 (by kernel_rfl) (by kernel_rfl) (fun x => [pLen x.1.1.2.1 < 4611686018427387904]) [] [.slot 0 false tI] (fun x => (cfgF x.1.1, ())) (fun x => cFault_VC x.1.1.1 x.1.1.2.1 x.1.1.2.2.1) (fun x => by kernel_rfl) (fun x hp => h x.1.1.1 x.1.1.2.1 x.1.1.2.2.1 hp)

def labelMay_VC (cn : Int) (cl : (List LabD)) (cp : Int) (l : Int) : Prop :=
  (inF l (0 : Int) (pSubI IntKind.i64 (pInt (pLen cl)) (1 : Int)), ()) = (placeF (cn, cl, cp, ()) l, ())
set_option maxRecDepth 100000 in
theorem labelMay_meets (hIn : Meets Tryd.prog (fun _ => none) 51 cIn) (h : ∀ (cn : Int) (cl : (List LabD)) (cp : Int) (l : Int), (∀ p ∈ (fun x => [pLen x.1.1.2.1 < 4611686018427387904] : Shape.den ⟨[pCfg, .one (.rd tI)], []⟩ → List Prop) ⟨((cn, cl, cp, ()), l, ()), ()⟩, p) → labelMay_VC cn cl cp l) : Meets Tryd.prog (fun _ => none) 50 clabelMay :=
  meets_vc (E := envOf Tryd.prog [(51, (false, cIn))] [101, 73]) (envOf_ok (fun p hp => (by simp only [List.mem_cons, List.not_mem_nil, or_false] at hp; rcases hp with rfl; exact hIn)) (by kernel_rfl)) ⟨[pCfg, .one (.rd tI)], []⟩ (fun x => fun k s => look [] k) Tryd.func50 (by kernel_rfl) (by kernel_rfl) (fun x => [pLen x.1.1.2.1 < 4611686018427387904]) [] [.slot 0 false .bool] (fun x => (placeF x.1.1 x.1.2.1, ())) (fun x => labelMay_VC x.1.1.1 x.1.1.2.1 x.1.1.2.2.1 x.1.2.1) (fun x => by kernel_rfl) (fun x hp => h x.1.1.1 x.1.1.2.1 x.1.1.2.2.1 x.1.2.1 hp)

def task_VC (cn : Int) (cl : (List LabD)) (cp : Int) (tw : Bool) (tl : Int) (tk : Int) (tv : Int) (te : Int) (ta : Int) (td : Bool) (ts : Bool) : Prop :=
  bif pLt tl (0 : Int) then (Bool.false, ()) = (taskF (cn, cl, cp, ()) (tw, tl, tk, tv, te, ta, td, ts, ()), ()) else bif pGe tl (pInt (pLen cl)) then (Bool.false, ()) = (taskF (cn, cl, cp, ()) (tw, tl, tk, tv, te, ta, td,
    ts, ()), ()) else bif pLt tk (0 : Int) then (Bool.false, ()) = (taskF (cn, cl, cp, ()) (tw, tl, tk, tv, te, ta, td, ts, ()), ()) else bif pGe tk (8 : Int) then (Bool.false, ()) = (taskF (cn, cl, cp, ()) (tw, tl, tk, tv,
    te, ta, td, ts, ()), ()) else bif pLt tv (0 : Int) then (Bool.false, ()) = (taskF (cn, cl, cp, ()) (tw, tl, tk, tv, te, ta, td, ts, ()), ()) else bif pGt tv (1073741824 : Int) then (Bool.false, ()) = (taskF (cn, cl, cp,
    ()) (tw, tl, tk, tv, te, ta, td, ts, ()), ()) else bif pLt te (0 : Int) then (Bool.false, ()) = (taskF (cn, cl, cp, ()) (tw, tl, tk, tv, te, ta, td, ts, ()), ()) else bif pGt te (1048576 : Int) then (Bool.false, ()) =
    (taskF (cn, cl, cp, ()) (tw, tl, tk, tv, te, ta, td, ts, ()), ()) else bif pLt ta (1 : Int) then (Bool.false, ()) = (taskF (cn, cl, cp, ()) (tw, tl, tk, tv, te, ta, td, ts, ()), ()) else bif pGt ta (1048576 : Int) then
    (Bool.false, ()) = (taskF (cn, cl, cp, ()) (tw, tl, tk, tv, te, ta, td, ts, ()), ()) else bif td then (Bool.true, ()) = (taskF (cn, cl, cp, ()) (tw, tl, tk, tv, te, ta, td, ts, ()), ()) else bif pNot ts then bif tw then
    (Bool.true, ()) = (taskF (cn, cl, cp, ()) (tw, tl, tk, tv, te, ta, td, ts, ()), ()) else (pEq (pAdd IntKind.i64 tv te) (0 : Int), ()) = (taskF (cn, cl, cp, ()) (tw, tl, tk, tv, te, ta, td, ts, ()), ()) else (Bool.false,
    ()) = (taskF (cn, cl, cp, ()) (tw, tl, tk, tv, te, ta, td, ts, ()), ())
set_option maxRecDepth 100000 in
theorem task_meets  (h : ∀ (cn : Int) (cl : (List LabD)) (cp : Int) (tw : Bool) (tl : Int) (tk : Int) (tv : Int) (te : Int) (ta : Int) (td : Bool) (ts : Bool), (∀ p ∈ (fun x => [pLen x.1.1.2.1 < 4611686018427387904] : Shape.den ⟨[pCfg, pTask], []⟩ → List Prop) ⟨((cn, cl, cp, ()), (tw, tl, tk, tv, te, ta, td, ts, ()), ()), ()⟩, p) → task_VC cn cl cp tw tl tk tv te ta td ts) : Meets Tryd.prog (fun _ => none) 71 ctask :=
  meets_vc (E := envOf Tryd.prog [] [101, 73]) (envOf_ok (fun p hp => by cases hp) (by kernel_rfl)) ⟨[pCfg, pTask], []⟩ (fun x => fun k s => look [] k) Tryd.func71 (by kernel_rfl) (by kernel_rfl) (fun x => [pLen x.1.1.2.1 < 4611686018427387904]) [] [.slot 0 false .bool] (fun x => (taskF x.1.1 x.1.2.1, ())) (fun x => task_VC x.1.1.1 x.1.1.2.1 x.1.1.2.2.1 x.1.2.1.1 x.1.2.1.2.1 x.1.2.1.2.2.1 x.1.2.1.2.2.2.1 x.1.2.1.2.2.2.2.1 x.1.2.1.2.2.2.2.2.1 x.1.2.1.2.2.2.2.2.2.1 x.1.2.1.2.2.2.2.2.2.2.1) (fun x => by kernel_rfl) (fun x hp => h x.1.1.1 x.1.1.2.1 x.1.1.2.2.1 x.1.2.1.1 x.1.2.1.2.1 x.1.2.1.2.2.1 x.1.2.1.2.2.2.1 x.1.2.1.2.2.2.2.1 x.1.2.1.2.2.2.2.2.1 x.1.2.1.2.2.2.2.2.2.1 x.1.2.1.2.2.2.2.2.2.2.1 hp)

def taskMay_VC (cn : Int) (cl : (List LabD)) (cp : Int) (tw : Bool) (tl : Int) (tk : Int) (tv : Int) (te : Int) (ta : Int) (td : Bool) (ts : Bool) : Prop :=
  Nat.le (Nat.succ (pLen cl)) 4611686018427387904 ∧ bif pNot (placeF (cn, cl, cp, ()) tl) then (Bool.false, ()) = (taskF (cn, cl, cp, ()) (tw, tl, tk, tv, te, ta, td, ts, ()), ()) else bif pNot (inF tk (0 : Int) (7 : Int))
    then (Bool.false, ()) = (taskF (cn, cl, cp, ()) (tw, tl, tk, tv, te, ta, td, ts, ()), ()) else bif pNot (inF tv (0 : Int) (1073741824 : Int)) then (Bool.false, ()) = (taskF (cn, cl, cp, ()) (tw, tl, tk, tv, te, ta, td,
    ts, ()), ()) else bif pNot (inF te (0 : Int) (1048576 : Int)) then (Bool.false, ()) = (taskF (cn, cl, cp, ()) (tw, tl, tk, tv, te, ta, td, ts, ()), ()) else bif pNot (inF ta (1 : Int) (1048576 : Int)) then (Bool.false,
    ()) = (taskF (cn, cl, cp, ()) (tw, tl, tk, tv, te, ta, td, ts, ()), ()) else bif td then (Bool.true, ()) = (taskF (cn, cl, cp, ()) (tw, tl, tk, tv, te, ta, td, ts, ()), ()) else bif pNot ts then bif tw then (Bool.true,
    ()) = (taskF (cn, cl, cp, ()) (tw, tl, tk, tv, te, ta, td, ts, ()), ()) else bif pEq tv (0 : Int) then (pEq te (0 : Int), ()) = (taskF (cn, cl, cp, ()) (tw, tl, tk, tv, te, ta, td, ts, ()), ()) else (Bool.false, ()) =
    (taskF (cn, cl, cp, ()) (tw, tl, tk, tv, te, ta, td, ts, ()), ()) else (Bool.false, ()) = (taskF (cn, cl, cp, ()) (tw, tl, tk, tv, te, ta, td, ts, ()), ())
set_option maxRecDepth 100000 in
theorem taskMay_meets (hIn : Meets Tryd.prog (fun _ => none) 51 cIn) (hlabelMay : Meets Tryd.prog (fun _ => none) 50 clabelMay) (h : ∀ (cn : Int) (cl : (List LabD)) (cp : Int) (tw : Bool) (tl : Int) (tk : Int) (tv : Int) (te : Int) (ta : Int) (td : Bool) (ts : Bool), (∀ p ∈ (fun x => [pLen x.1.1.2.1 < 4611686018427387904] : Shape.den ⟨[pCfg, pTask], []⟩ → List Prop) ⟨((cn, cl, cp, ()), (tw, tl, tk, tv, te, ta, td, ts, ()), ()), ()⟩, p) → taskMay_VC cn cl cp tw tl tk tv te ta td ts) : Meets Tryd.prog (fun _ => none) 74 ctaskMay :=
  meets_vc (E := envOf Tryd.prog [(51, (false, cIn)), (50, (false, clabelMay))] [101, 73]) (envOf_ok (fun p hp => (by simp only [List.mem_cons, List.not_mem_nil, or_false] at hp; rcases hp with rfl | rfl; exact hIn; exact hlabelMay)) (by kernel_rfl)) ⟨[pCfg, pTask], []⟩ (fun x => fun k s => look [] k) Tryd.func74 (by kernel_rfl) (by kernel_rfl) (fun x => [pLen x.1.1.2.1 < 4611686018427387904]) [] [.slot 0 false .bool] (fun x => (taskF x.1.1 x.1.2.1, ())) (fun x => taskMay_VC x.1.1.1 x.1.1.2.1 x.1.1.2.2.1 x.1.2.1.1 x.1.2.1.2.1 x.1.2.1.2.2.1 x.1.2.1.2.2.2.1 x.1.2.1.2.2.2.2.1 x.1.2.1.2.2.2.2.2.1 x.1.2.1.2.2.2.2.2.2.1 x.1.2.1.2.2.2.2.2.2.2.1) (fun x => by kernel_rfl) (fun x hp => h x.1.1.1 x.1.1.2.1 x.1.1.2.2.1 x.1.2.1.1 x.1.2.1.2.1 x.1.2.1.2.2.1 x.1.2.1.2.2.2.1 x.1.2.1.2.2.2.2.1 x.1.2.1.2.2.2.2.2.1 x.1.2.1.2.2.2.2.2.2.1 x.1.2.1.2.2.2.2.2.2.2.1 hp)


end Go.Proofs.YtnkcmkegjckncaaDoor

/- Functions of the program that meet contracts: a short word for it. -/
namespace Go.Proofs.YtnkcmkegjckncaaDoor

abbrev vnil (α : Type) : List α := []
/-- a text, by its bytes -/
def bs (l : List Nat) : ByteArray := ⟨(l.map UInt8.ofNat).toArray⟩
abbrev Mt (f : FuncId) (c : Ctr) : Prop := Meets Tryd.prog (fun _ => none) f c
abbrev MtG (g : Nat → Option Gl) (f : FuncId) (c : Ctr) : Prop := Meets Tryd.prog g f c


end Go.Proofs.YtnkcmkegjckncaaDoor

/- Contracts, and what the evaluator says, as plain propositions: CkV. Printed by vc.py. -/
namespace Go.Proofs.YtnkcmkegjckncaaDoor
open Go.RowKit Go.ChangeShapes Go.WideShapes Go.Deep

abbrev job_S : Shape := ⟨[pCfg, pDesk, pJob], []⟩
abbrev job_f : Shape.den job_S → denVars [.slot 0 false .bool] := fun x => (jobF x.1.1 x.1.2.1.1 x.1.2.2.1, ())
abbrev job_p : Shape.den job_S → List Prop := fun x => [pLen x.1.1.2.1 < 4611686018427387904, pLen x.1.2.2.1.2.2.1 < 4611686018427387904, pLen x.1.2.2.1.2.2.2.1 < 4611686018427387904]
def cjob : Ctr := shCtr job_S job_p [] [.slot 0 false .bool] job_f
abbrev jobMay_S : Shape := ⟨[pCfg, .one (.rd tI), pJob], []⟩
abbrev jobMay_f : Shape.den jobMay_S → denVars [.slot 0 false .bool] := fun x => (jobF x.1.1 x.1.2.1 x.1.2.2.1, ())
abbrev jobMay_p : Shape.den jobMay_S → List Prop := fun x => [pLen x.1.1.2.1 < 4611686018427387904, pLen x.1.2.2.1.2.2.1 < 4611686018427387904, pLen x.1.2.2.1.2.2.2.1 < 4611686018427387904, inF x.1.2.1 1 1048577 = true, inF x.1.1.1 1 4 = true]
def cjobMay : Ctr := shCtr jobMay_S jobMay_p [] [.slot 0 false .bool] jobMay_f
abbrev cCheck_S : Shape := ⟨[pCfg, pDesk], []⟩
abbrev cCheck_f : Shape.den cCheck_S → denVars [.slot 0 false tI] := fun x => (deskF x.1.1 x.1.2.1, ())
abbrev cCheck_p : Shape.den cCheck_S → List Prop := fun x => [pLen x.1.1.2.1 < 4611686018427387904, pLen x.1.2.1.2.1 < 4611686018427387904, (∀ q ∈ x.1.2.1.2.1, pLen q.2.2.1 < 4611686018427387904 ∧ pLen q.2.2.2.1 < 4611686018427387904)]
def ccCheck : Ctr := shCtr cCheck_S cCheck_p [] [.slot 0 false tI] cCheck_f
def cdFault : Ctr := shCtr cCheck_S cCheck_p [] [.slot 0 false tI] cCheck_f
abbrev eqsCoV : List TypeId := [101, 73]

abbrev job_v0 (cn : Int) (cl : (List LabD)) (cp : Int) (dn : Int) (jn : Int) (js : Int) (jt : (List TaskD)) (ja : (List ND)) (jq : Int) (jg : Int) := (jobF (cn, cl, cp, ()) dn (jn, js, jt, ja, jq, jg, ()), ())
abbrev job_t2 (cn : Int) (cl : (List LabD)) (cp : Int) (dn : Int) (dj : (List JobD)) (jn : Int) (js : Int) (jt : (List TaskD)) (ja : (List ND)) (jq : Int) (jg : Int) (y : kden Bool.false tI × PUnit) : Prop := jobAInv cn cl cp dn dj jn js jt ja jq jg (pAdd IntKind.i64 y.1 (1 : Int), ()) ∧ Nat.le (Nat.succ (jobAMu cn cl cp dn dj jn js jt ja jq jg (pAdd IntKind.i64 y.1 (1 : Int), ()))) (jobAMu cn cl cp dn dj jn js jt ja jq jg y)
abbrev job_t1 (cn : Int) (cl : (List LabD)) (cp : Int) (dn : Int) (dj : (List JobD)) (jn : Int) (js : Int) (jt : (List TaskD)) (ja : (List ND)) (jq : Int) (jg : Int) (y : kden Bool.false tI × PUnit) : Prop := bif pNot (pGet tyTask jt (pNat y.1)).2.2.2.2.2.2.1 then bif pNe js (1 : Int) then (Bool.false, ()) = (job_v0 cn cl cp dn jn js jt ja jq jg) else job_t2 cn cl cp dn dj jn js jt ja jq jg y else job_t2 cn cl cp dn dj jn js jt ja jq jg y
abbrev job_t0 (cn : Int) (cl : (List LabD)) (cp : Int) (dn : Int) (dj : (List JobD)) (jn : Int) (js : Int) (jt : (List TaskD)) (ja : (List ND)) (jq : Int) (jg : Int) (y : kden Bool.false tI × PUnit) : Prop := bif pNot (pGet tyTask jt (pNat y.1)).2.2.2.2.2.2.1 then bif pLt y.1 (pSubI IntKind.i64 (pInt (pLen jt)) (1 : Int)) then (Bool.false, ()) = (job_v0 cn cl cp dn jn js jt ja jq jg) else job_t1 cn cl cp dn dj jn js jt ja jq jg y else job_t1 cn
 cl cp dn dj jn js jt ja jq jg y
abbrev job_t3 (cn : Int) (cl : (List LabD)) (cp : Int) (dn : Int) (dj : (List JobD)) (jn : Int) (js : Int) (jt : (List TaskD)) (ja : (List ND)) (jq : Int) (jg : Int) (y : kden Bool.false tI × PUnit) : Prop := jobBInv cn cl cp dn dj jn js jt ja jq jg (pAdd IntKind.i64 y.1 (1 : Int), ()) ∧ Nat.le (Nat.succ (jobBMu cn cl cp dn dj jn js jt ja jq jg (pAdd IntKind.i64 y.1 (1 : Int), ()))) (jobBMu cn cl cp dn dj jn js jt ja jq jg y)

def job_VC (cn : Int) (cl : (List LabD)) (cp : Int) (dn : Int) (dj : (List JobD)) (jn : Int) (js : Int) (jt : (List TaskD)) (ja : (List ND)) (jq : Int) (jg : Int) : Prop :=
  bif pLt jn (1 : Int) then (Bool.false, ()) = (job_v0 cn cl cp dn jn js jt ja jq jg) else bif pGe jn dn then (Bool.false, ()) = (job_v0 cn cl cp dn jn js jt ja jq jg) else bif pLt jg (0 : Int) then (Bool.false, ()) = (job_v0 cn cl cp dn jn
 js jt ja jq jg) else bif pGt jg (1048576 : Int) then (Bool.false, ()) = (job_v0 cn cl cp dn jn js jt ja jq jg) else bif pLt js (1 : Int) then (Bool.false, ()) = (job_v0 cn cl cp dn jn js jt ja jq jg) else bif pGt js (3 : Int) then
 (Bool.false, ()) = (job_v0 cn cl cp dn jn js jt ja jq jg) else bif pGt (pInt (pLen jt)) (10 : Int) then (Bool.false, ()) = (job_v0 cn cl cp dn jn js jt ja jq jg) else bif pLt jq (0 : Int) then (Bool.false, ()) = (job_v0 cn cl cp dn jn js jt
 ja jq jg) else bif pGt jq (1048576 : Int) then (Bool.false, ()) = (job_v0 cn cl cp dn jn js jt ja jq jg) else jobAInv cn cl cp dn dj jn js jt ja jq jg ((0 : Int), ()) ∧ ∀ (y : kden Bool.false tI × PUnit), jobAInv cn cl cp dn dj jn js jt ja
 jq jg y → bif pLt y.1 (pInt (pLen jt)) then pIn y.1 (pLen jt) ∧ Nat.le (Nat.succ (pLen cl)) 4611686018427387904 ∧ bif pNot (taskF (cn, cl, cp, ()) (pGet tyTask jt (pNat y.1))) then (Bool.false, ()) = (job_v0 cn cl cp dn jn js jt ja jq jg)
 else bif pGt (pGet tyTask jt (pNat y.1)).2.2.2.2.2.1 jq then (Bool.false, ()) = (job_v0 cn cl cp dn jn js jt ja jq jg) else bif pGt y.1 (0 : Int) then pIn (pSubI IntKind.i64 y.1 (1 : Int)) (pLen jt) ∧ bif pGe (pGet tyTask jt (pNat (pSubI
 IntKind.i64 y.1 (1 : Int)))).2.2.2.2.2.1 (pGet tyTask jt (pNat y.1)).2.2.2.2.2.1 then (Bool.false, ()) = (job_v0 cn cl cp dn jn js jt ja jq jg) else job_t0 cn cl cp dn dj jn js jt ja jq jg y else job_t0 cn cl cp dn dj jn js jt ja jq jg y
 else jobBInv cn cl cp dn dj jn js jt ja jq jg ((0 : Int), ()) ∧ ∀ (y : kden Bool.false tI × PUnit), jobBInv cn cl cp dn dj jn js jt ja jq jg y → bif pLt y.1 (pInt (pLen ja)) then pIn y.1 (pLen ja) ∧ bif pLt (pGet tyN ja (pNat y.1)).1 (0 :
 Int) then (Bool.false, ()) = (job_v0 cn cl cp dn jn js jt ja jq jg) else bif pGe (pGet tyN ja (pNat y.1)).1 cn then (Bool.false, ()) = (job_v0 cn cl cp dn jn js jt ja jq jg) else bif pGt y.1 (0 : Int) then pIn (pSubI IntKind.i64 y.1 (1 :
 Int)) (pLen ja) ∧ bif pGe (pGet tyN ja (pNat (pSubI IntKind.i64 y.1 (1 : Int)))).1 (pGet tyN ja (pNat y.1)).1 then (Bool.false, ()) = (job_v0 cn cl cp dn jn js jt ja jq jg) else job_t3 cn cl cp dn dj jn js jt ja jq jg y else job_t3 cn cl cp
 dn dj jn js jt ja jq jg y else (pBeq (pEq js (3 : Int)) (pGt (pInt (pLen ja)) (0 : Int)), ()) = (job_v0 cn cl cp dn jn js jt ja jq jg)
set_option maxRecDepth 100000 in
theorem job_meets (htask : Mt 71 ctask) (h : ∀ (cn : Int) (cl : (List LabD)) (cp : Int) (dn : Int) (dj : (List JobD)) (jn : Int) (js : Int) (jt : (List TaskD)) (ja : (List ND)) (jq : Int) (jg : Int), (∀ p ∈ job_p ⟨((cn, cl, cp, ()), (dn, dj, ()), (jn, js, jt, ja, jq, jg, ()), ()), ()⟩, p) → job_VC cn cl cp dn dj jn js jt ja jq jg) : Mt 57 cjob :=
  meets_vc (E := envOf Tryd.prog [(71, (false, ctask))] eqsCoV) (envOf_ok (fun p hp => (by simp only [List.mem_cons, List.not_mem_nil, or_false] at hp; rcases hp with rfl; exact htask)) (by kernel_rfl)) job_S (fun x => fun ky9 st9 => look [(4, (⟨[.slot 60 false tI], jobAInv x.1.1.1 x.1.1.2.1 x.1.1.2.2.1 x.1.2.1.1 x.1.2.1.2.1 x.1.2.2.1.1 x.1.2.2.1.2.1 x.1.2.2.1.2.2.1 x.1.2.2.1.2.2.2.1 x.1.2.2.1.2.2.2.2.1 x.1.2.2.1.2.2.2.2.2.1, jobAMu x.1.1.1 x.1.1.2.1 x.1.1.2.2.1 x.1.2.1.1 x.1.2.1.2.1 x.1.2.2.1.1 x.1.2.2.1.2.1 x.1.2.2.1.2.2.1 x.1.2.2.1.2.2.2.1 x.1.2.2.1.2.2.2.2.1 x.1.2.2.1.2.2.2.2.2.1⟩ : Ann)), (10, (⟨[.slot 119 false tI], jobBInv x.1.1.1 x.1.1.2.1 x.1.1.2.2.1 x.1.2.1.1 x.1.2.1.2.1 x.1.2.2.1.1 x.1.2.2.1.2.1 x.1.2.2.1.2.2.1 x.1.2.2.1.2.2.2.1 x.1.2.2.1.2.2.2.2.1 x.1.2.2.1.2.2.2.2.2.1, jobBMu x.1.1.1 x.1.1.2.1 x.1.1.2.2.1 x.1.2.1.1 x.1.2.1.2.1 x.1.2.2.1.1 x.1.2.2.1.2.1 x.1.2.2.1.2.2.1 x.1.2.2.1.2.2.2.1 x.1.2.2.1.2.2.2.2.1 x.1.2.2.1.2.2.2.2.2.1⟩ : Ann))] ky9) Tryd.func57 (by kernel_rfl) (by kernel_rfl) job_p [] [.slot 0 false .bool] job_f (fun x => job_VC x.1.1.1 x.1.1.2.1 x.1.1.2.2.1 x.1.2.1.1 x.1.2.1.2.1 x.1.2.2.1.1 x.1.2.2.1.2.1 x.1.2.2.1.2.2.1 x.1.2.2.1.2.2.2.1 x.1.2.2.1.2.2.2.2.1 x.1.2.2.1.2.2.2.2.2.1) (fun x => by kernel_rfl) (fun x hp => h x.1.1.1 x.1.1.2.1 x.1.1.2.2.1 x.1.2.1.1 x.1.2.1.2.1 x.1.2.2.1.1 x.1.2.2.1.2.1 x.1.2.2.1.2.2.1 x.1.2.2.1.2.2.2.1 x.1.2.2.1.2.2.2.2.1 x.1.2.2.1.2.2.2.2.2.1 hp)

abbrev jobMay_v0 (cn : Int) (cl : (List LabD)) (cp : Int) (d : Int) (jn : Int) (js : Int) (jt : (List TaskD)) (ja : (List ND)) (jq : Int) (jg : Int) := (jobF (cn, cl, cp, ()) d (jn, js, jt, ja, jq, jg, ()), ())
abbrev jobMay_t1 (cn : Int) (cl : (List LabD)) (cp : Int) (d : Int) (jn : Int) (js : Int) (jt : (List TaskD)) (ja : (List ND)) (jq : Int) (jg : Int) (y : kden Bool.false tI × PUnit) : Prop := jobMayAInv cn cl cp d jn js jt ja jq jg (pAdd IntKind.i64 y.1 (1 : Int), ()) ∧ Nat.le (Nat.succ (jobMayAMu cn cl cp d jn js jt ja jq jg (pAdd IntKind.i64 y.1 (1 : Int), ()))) (jobMayAMu cn cl cp d jn js jt ja jq jg y)
abbrev jobMay_t0 (cn : Int) (cl : (List LabD)) (cp : Int) (d : Int) (jn : Int) (js : Int) (jt : (List TaskD)) (ja : (List ND)) (jq : Int) (jg : Int) (y : kden Bool.false tI × PUnit) : Prop := pIn y.1 (pLen jt) ∧ bif pNot (pGet tyTask jt (pNat y.1)).2.2.2.2.2.2.1 then bif pLt y.1 (pSubI IntKind.i64 (pInt (pLen jt)) (1 : Int)) then (Bool.false, ()) = (jobMay_v0 cn cl cp d jn js jt ja jq jg) else bif pNe js (1 : Int) then
 (Bool.false, ()) = (jobMay_v0 cn cl cp d jn js jt ja jq jg) else jobMay_t1 cn cl cp d jn js jt ja jq jg y else jobMay_t1 cn cl cp d jn js jt ja jq jg y
abbrev jobMay_t2 (cn : Int) (cl : (List LabD)) (cp : Int) (d : Int) (jn : Int) (js : Int) (jt : (List TaskD)) (ja : (List ND)) (jq : Int) (jg : Int) (y : kden Bool.false tI × PUnit) : Prop := jobMayBInv cn cl cp d jn js jt ja jq jg (pAdd IntKind.i64 y.1 (1 : Int), ()) ∧ Nat.le (Nat.succ (jobMayBMu cn cl cp d jn js jt ja jq jg (pAdd IntKind.i64 y.1 (1 : Int), ()))) (jobMayBMu cn cl cp d jn js jt ja jq jg y)

def jobMay_VC (cn : Int) (cl : (List LabD)) (cp : Int) (d : Int) (jn : Int) (js : Int) (jt : (List TaskD)) (ja : (List ND)) (jq : Int) (jg : Int) : Prop :=
  bif pNot (inF jn (1 : Int) (pSubI IntKind.i64 d (1 : Int))) then (Bool.false, ()) = (jobMay_v0 cn cl cp d jn js jt ja jq jg) else bif pNot (inF jg (0 : Int) (1048576 : Int)) then (Bool.false, ()) = (jobMay_v0 cn cl cp d jn js jt ja jq jg)
 else bif pNot (inF js (1 : Int) (3 : Int)) then (Bool.false, ()) = (jobMay_v0 cn cl cp d jn js jt ja jq jg) else bif pGt (pInt (pLen jt)) (10 : Int) then (Bool.false, ()) = (jobMay_v0 cn cl cp d jn js jt ja jq jg) else bif pNot (inF jq (0 :
 Int) (1048576 : Int)) then (Bool.false, ()) = (jobMay_v0 cn cl cp d jn js jt ja jq jg) else jobMayAInv cn cl cp d jn js jt ja jq jg ((0 : Int), ()) ∧ ∀ (y : kden Bool.false tI × PUnit), jobMayAInv cn cl cp d jn js jt ja jq jg y → bif pLt
 y.1 (pInt (pLen jt)) then pIn y.1 (pLen jt) ∧ Nat.le (Nat.succ (pLen cl)) 4611686018427387904 ∧ bif pNot (taskF (cn, cl, cp, ()) (pGet tyTask jt (pNat y.1))) then (Bool.false, ()) = (jobMay_v0 cn cl cp d jn js jt ja jq jg) else pIn y.1
 (pLen jt) ∧ bif pGt (pGet tyTask jt (pNat y.1)).2.2.2.2.2.1 jq then (Bool.false, ()) = (jobMay_v0 cn cl cp d jn js jt ja jq jg) else bif pGt y.1 (0 : Int) then pIn y.1 (pLen jt) ∧ pIn (pSubI IntKind.i64 y.1 (1 : Int)) (pLen jt) ∧ bif pLe
 (pGet tyTask jt (pNat y.1)).2.2.2.2.2.1 (pGet tyTask jt (pNat (pSubI IntKind.i64 y.1 (1 : Int)))).2.2.2.2.2.1 then (Bool.false, ()) = (jobMay_v0 cn cl cp d jn js jt ja jq jg) else jobMay_t0 cn cl cp d jn js jt ja jq jg y else jobMay_t0 cn
 cl cp d jn js jt ja jq jg y else jobMayBInv cn cl cp d jn js jt ja jq jg ((0 : Int), ()) ∧ ∀ (y : kden Bool.false tI × PUnit), jobMayBInv cn cl cp d jn js jt ja jq jg y → bif pLt y.1 (pInt (pLen ja)) then pIn y.1 (pLen ja) ∧ bif pNot (inF
 (pGet tyN ja (pNat y.1)).1 (0 : Int) (pSubI IntKind.i64 cn (1 : Int))) then (Bool.false, ()) = (jobMay_v0 cn cl cp d jn js jt ja jq jg) else bif pGt y.1 (0 : Int) then pIn y.1 (pLen ja) ∧ pIn (pSubI IntKind.i64 y.1 (1 : Int)) (pLen ja) ∧
 bif pLe (pGet tyN ja (pNat y.1)).1 (pGet tyN ja (pNat (pSubI IntKind.i64 y.1 (1 : Int)))).1 then (Bool.false, ()) = (jobMay_v0 cn cl cp d jn js jt ja jq jg) else jobMay_t2 cn cl cp d jn js jt ja jq jg y else jobMay_t2 cn cl cp d jn js jt ja
 jq jg y else (pBeq (pEq js (3 : Int)) (pGt (pInt (pLen ja)) (0 : Int)), ()) = (jobMay_v0 cn cl cp d jn js jt ja jq jg)
set_option maxRecDepth 100000 in
theorem jobMay_meets (hIn : Mt 51 cIn) (htaskMay : Mt 74 ctaskMay) (h : ∀ (cn : Int) (cl : (List LabD)) (cp : Int) (d : Int) (jn : Int) (js : Int) (jt : (List TaskD)) (ja : (List ND)) (jq : Int) (jg : Int), (∀ p ∈ jobMay_p ⟨((cn, cl, cp, ()), d, (jn, js, jt, ja, jq, jg, ()), ()), ()⟩, p) → jobMay_VC cn cl cp d jn js jt ja jq jg) : Mt 68 cjobMay :=
  meets_vc (E := envOf Tryd.prog [(51, (false, cIn)), (74, (false, ctaskMay))] eqsCoV) (envOf_ok (fun p hp => (by simp only [List.mem_cons, List.not_mem_nil, or_false] at hp; rcases hp with rfl | rfl; exact hIn; exact htaskMay)) (by kernel_rfl)) jobMay_S (fun x => fun ky9 st9 => look [(4, (⟨[.slot 7 false tI], jobMayAInv x.1.1.1 x.1.1.2.1 x.1.1.2.2.1 x.1.2.1 x.1.2.2.1.1 x.1.2.2.1.2.1 x.1.2.2.1.2.2.1 x.1.2.2.1.2.2.2.1 x.1.2.2.1.2.2.2.2.1 x.1.2.2.1.2.2.2.2.2.1, jobMayAMu x.1.1.1 x.1.1.2.1 x.1.1.2.2.1 x.1.2.1 x.1.2.2.1.1 x.1.2.2.1.2.1 x.1.2.2.1.2.2.1 x.1.2.2.1.2.2.2.1 x.1.2.2.1.2.2.2.2.1 x.1.2.2.1.2.2.2.2.2.1⟩ : Ann)), (11, (⟨[.slot 8 false tI], jobMayBInv x.1.1.1 x.1.1.2.1 x.1.1.2.2.1 x.1.2.1 x.1.2.2.1.1 x.1.2.2.1.2.1 x.1.2.2.1.2.2.1 x.1.2.2.1.2.2.2.1 x.1.2.2.1.2.2.2.2.1 x.1.2.2.1.2.2.2.2.2.1, jobMayBMu x.1.1.1 x.1.1.2.1 x.1.1.2.2.1 x.1.2.1 x.1.2.2.1.1 x.1.2.2.1.2.1 x.1.2.2.1.2.2.1 x.1.2.2.1.2.2.2.1 x.1.2.2.1.2.2.2.2.1 x.1.2.2.1.2.2.2.2.2.1⟩ : Ann))] ky9) Tryd.func68 (by kernel_rfl) (by kernel_rfl) jobMay_p [] [.slot 0 false .bool] jobMay_f (fun x => jobMay_VC x.1.1.1 x.1.1.2.1 x.1.1.2.2.1 x.1.2.1 x.1.2.2.1.1 x.1.2.2.1.2.1 x.1.2.2.1.2.2.1 x.1.2.2.1.2.2.2.1 x.1.2.2.1.2.2.2.2.1 x.1.2.2.1.2.2.2.2.2.1) (fun x => by kernel_rfl) (fun x hp => h x.1.1.1 x.1.1.2.1 x.1.1.2.2.1 x.1.2.1 x.1.2.2.1.1 x.1.2.2.1.2.1 x.1.2.2.1.2.2.1 x.1.2.2.1.2.2.2.1 x.1.2.2.1.2.2.2.2.1 x.1.2.2.1.2.2.2.2.2.1 hp)

abbrev cCheck_t0 (cn : Int) (cl : (List LabD)) (cp : Int) (dn : Int) (dj : (List JobD)) (y : kden Bool.false tI × PUnit) : Prop := deskAInv cn cl cp dn dj (pAdd IntKind.i64 y.1 (1 : Int), ()) ∧ Nat.le (Nat.succ (deskAMu cn cl cp dn dj (pAdd IntKind.i64 y.1 (1 : Int), ()))) (deskAMu cn cl cp dn dj y)

def cCheck_VC (cn : Int) (cl : (List LabD)) (cp : Int) (dn : Int) (dj : (List JobD)) : Prop :=
  Nat.le (Nat.succ (pLen cl)) 4611686018427387904 ∧ bif pNe (cfgF (cn, cl, cp, ())) (0 : Int) then (cfgF (cn, cl, cp, ()), ()) = (deskF (cn, cl, cp, ()) (dn, dj, ()), ()) else bif pLt dn (1 : Int) then ((9 : Int), ()) = (deskF (cn, cl, cp,
 ()) (dn, dj, ()), ()) else bif pGt dn (1048577 : Int) then ((9 : Int), ()) = (deskF (cn, cl, cp, ()) (dn, dj, ()), ()) else bif pGt (pInt (pLen dj)) (6 : Int) then ((9 : Int), ()) = (deskF (cn, cl, cp, ()) (dn, dj, ()), ()) else deskAInv cn
 cl cp dn dj ((0 : Int), ()) ∧ ∀ (y : kden Bool.false tI × PUnit), deskAInv cn cl cp dn dj y → bif pLt y.1 (pInt (pLen dj)) then pIn y.1 (pLen dj) ∧ Nat.le (Nat.succ (pLen cl)) 4611686018427387904 ∧ Nat.le (Nat.succ (pLen (pGet tyJob dj
 (pNat y.1)).2.2.1)) 4611686018427387904 ∧ Nat.le (Nat.succ (pLen (pGet tyJob dj (pNat y.1)).2.2.2.1)) 4611686018427387904 ∧ bif pNot (jobF (cn, cl, cp, ()) dn (pGet tyJob dj (pNat y.1))) then ((9 : Int), ()) = (deskF (cn, cl, cp, ()) (dn,
 dj, ()), ()) else bif pGt y.1 (0 : Int) then pIn (pSubI IntKind.i64 y.1 (1 : Int)) (pLen dj) ∧ bif pGe (pGet tyJob dj (pNat (pSubI IntKind.i64 y.1 (1 : Int)))).1 (pGet tyJob dj (pNat y.1)).1 then ((9 : Int), ()) = (deskF (cn, cl, cp, ())
 (dn, dj, ()), ()) else cCheck_t0 cn cl cp dn dj y else cCheck_t0 cn cl cp dn dj y else ((0 : Int), ()) = (deskF (cn, cl, cp, ()) (dn, dj, ()), ())
set_option maxRecDepth 100000 in
theorem cCheck_meets (hlCheck : Mt 32 clCheck) (hjob : Mt 57 cjob) (h : ∀ (cn : Int) (cl : (List LabD)) (cp : Int) (dn : Int) (dj : (List JobD)), (∀ p ∈ cCheck_p ⟨((cn, cl, cp, ()), (dn, dj, ()), ()), ()⟩, p) → cCheck_VC cn cl cp dn dj) : Mt 30 ccCheck :=
  meets_vc (E := envOf Tryd.prog [(32, (false, clCheck)), (57, (false, cjob))] eqsCoV) (envOf_ok (fun p hp => (by simp only [List.mem_cons, List.not_mem_nil, or_false] at hp; rcases hp with rfl | rfl; exact hlCheck; exact hjob)) (by kernel_rfl)) cCheck_S (fun x => fun ky9 st9 => look [(7, (⟨[.slot 30 false tI], deskAInv x.1.1.1 x.1.1.2.1 x.1.1.2.2.1 x.1.2.1.1 x.1.2.1.2.1, deskAMu x.1.1.1 x.1.1.2.1 x.1.1.2.2.1 x.1.2.1.1 x.1.2.1.2.1⟩ : Ann))] ky9) Tryd.func30 (by kernel_rfl) (by kernel_rfl) cCheck_p [] [.slot 0 false tI] cCheck_f (fun x => cCheck_VC x.1.1.1 x.1.1.2.1 x.1.1.2.2.1 x.1.2.1.1 x.1.2.1.2.1) (fun x => by kernel_rfl) (fun x hp => h x.1.1.1 x.1.1.2.1 x.1.1.2.2.1 x.1.2.1.1 x.1.2.1.2.1 hp)

abbrev dFault_t0 (cn : Int) (cl : (List LabD)) (cp : Int) (dn : Int) (dj : (List JobD)) (y : kden Bool.false tI × PUnit) : Prop := deskAInv cn cl cp dn dj (pAdd IntKind.i64 y.1 (1 : Int), ()) ∧ Nat.le (Nat.succ (deskAMu cn cl cp dn dj (pAdd IntKind.i64 y.1 (1 : Int), ()))) (deskAMu cn cl cp dn dj y)

def dFault_VC (cn : Int) (cl : (List LabD)) (cp : Int) (dn : Int) (dj : (List JobD)) : Prop :=
  Nat.le (Nat.succ (pLen cl)) 4611686018427387904 ∧ bif pNe (cfgF (cn, cl, cp, ())) (0 : Int) then (cfgF (cn, cl, cp, ()), ()) = (deskF (cn, cl, cp, ()) (dn, dj, ()), ()) else bif pNot (inF dn (1 : Int) (1048577 : Int)) then ((9 : Int), ()) =
 (deskF (cn, cl, cp, ()) (dn, dj, ()), ()) else bif pGt (pInt (pLen dj)) (6 : Int) then ((9 : Int), ()) = (deskF (cn, cl, cp, ()) (dn, dj, ()), ()) else deskAInv cn cl cp dn dj ((0 : Int), ()) ∧ ∀ (y : kden Bool.false tI × PUnit), deskAInv
 cn cl cp dn dj y → bif pLt y.1 (pInt (pLen dj)) then pIn y.1 (pLen dj) ∧ Nat.le (Nat.succ (pLen cl)) 4611686018427387904 ∧ Nat.le (Nat.succ (pLen (pGet tyJob dj (pNat y.1)).2.2.1)) 4611686018427387904 ∧ Nat.le (Nat.succ (pLen (pGet tyJob dj
 (pNat y.1)).2.2.2.1)) 4611686018427387904 ∧ inF dn (1 : Int) (1048577 : Int) = Bool.true ∧ inF cn (1 : Int) (4 : Int) = Bool.true ∧ bif pNot (jobF (cn, cl, cp, ()) dn (pGet tyJob dj (pNat y.1))) then ((9 : Int), ()) = (deskF (cn, cl, cp,
 ()) (dn, dj, ()), ()) else bif pGt y.1 (0 : Int) then pIn y.1 (pLen dj) ∧ pIn (pSubI IntKind.i64 y.1 (1 : Int)) (pLen dj) ∧ bif pLe (pGet tyJob dj (pNat y.1)).1 (pGet tyJob dj (pNat (pSubI IntKind.i64 y.1 (1 : Int)))).1 then ((9 : Int), ())
 = (deskF (cn, cl, cp, ()) (dn, dj, ()), ()) else dFault_t0 cn cl cp dn dj y else dFault_t0 cn cl cp dn dj y else ((0 : Int), ()) = (deskF (cn, cl, cp, ()) (dn, dj, ()), ())
set_option maxRecDepth 100000 in
theorem dFault_meets (hcFault : Mt 52 ccFault) (hIn : Mt 51 cIn) (hjobMay : Mt 68 cjobMay) (h : ∀ (cn : Int) (cl : (List LabD)) (cp : Int) (dn : Int) (dj : (List JobD)), (∀ p ∈ cCheck_p ⟨((cn, cl, cp, ()), (dn, dj, ()), ()), ()⟩, p) → dFault_VC cn cl cp dn dj) : Mt 49 cdFault :=
  meets_vc (E := envOf Tryd.prog [(52, (false, ccFault)), (51, (false, cIn)), (68, (false, cjobMay))] eqsCoV) (envOf_ok (fun p hp => (by simp only [List.mem_cons, List.not_mem_nil, or_false] at hp; rcases hp with rfl | rfl | rfl; exact hcFault; exact hIn; exact hjobMay)) (by kernel_rfl)) cCheck_S (fun x => fun ky9 st9 => look [(7, (⟨[.slot 6 false tI], deskAInv x.1.1.1 x.1.1.2.1 x.1.1.2.2.1 x.1.2.1.1 x.1.2.1.2.1, deskAMu x.1.1.1 x.1.1.2.1 x.1.1.2.2.1 x.1.2.1.1 x.1.2.1.2.1⟩ : Ann))] ky9) Tryd.func49 (by kernel_rfl) (by kernel_rfl) cCheck_p [] [.slot 0 false tI] cCheck_f (fun x => dFault_VC x.1.1.1 x.1.1.2.1 x.1.1.2.2.1 x.1.2.1.1 x.1.2.1.2.1) (fun x => by kernel_rfl) (fun x hp => h x.1.1.1 x.1.1.2.1 x.1.1.2.2.1 x.1.2.1.1 x.1.2.1.2.1 hp)


end Go.Proofs.YtnkcmkegjckncaaDoor

/- The configuration's checks meet their contracts. No condition. -/
namespace Go.Proofs.YtnkcmkegjckncaaDoor
open Go.RowKit

theorem In_ok : Meets Tryd.prog (fun _ => none) 51 cIn := In_meets fun a b c => by
  unfold In_VC
  simp only [pGe, pLe, Bool.cond_eq_ite, decide_eq_true_eq, Prod.mk.injEq, eq_self, and_true, inF]
  repeat' split
  all_goals (rw [Bool.eq_iff_iff]; simp only [Bool.and_eq_true, decide_eq_true_eq, Bool.false_eq_true]; constructor <;> intro h <;> first | omega | exact h.elim)
theorem one_ok : Meets Tryd.prog (fun _ => none) 60 cone := one_meets fun a b => by
  unfold one_VC
  simp only [pGe, pLe, Bool.cond_eq_ite, decide_eq_true_eq, Prod.mk.injEq, eq_self, and_true, inF, labF]
  repeat' split
  all_goals (rw [Bool.eq_iff_iff]; simp only [Bool.and_eq_true, decide_eq_true_eq, Bool.false_eq_true]; constructor <;> intro h <;> first | omega | exact h.elim)

theorem cfgF_sites {c : CfgD} (h : inF c.1 1 4 = false) : cfgF c = 2 := by unfold cfgF; rw [h]; rfl
theorem cfgF_len {c : CfgD} (h1 : inF c.1 1 4 = true) (h : inF (pInt c.2.1.length) 1 6 = false) : cfgF c = 1 := by unfold cfgF; rw [h1, h]; rfl
theorem cfgF_first {c : CfgD} {n : Int} (h1 : inF c.1 1 4 = true) (h2 : inF (pInt c.2.1.length) 1 6 = true) (h : firstE (labE c.2.1) c.2.1.length = n) (hn : pEq n 0 = false) : cfgF c = n := by
  unfold cfgF; rw [h1, h2, h, hn]; rfl
theorem cfgF_end {c : CfgD} (h1 : inF c.1 1 4 = true) (h2 : inF (pInt c.2.1.length) 1 6 = true) (h : firstE (labE c.2.1) c.2.1.length = 0) : cfgF c = cond (inF c.2.2.1 1 1048576) 0 2 := by
  unfold cfgF; rw [h1, h2, h]; rfl
theorem inF_iff {x a b : Int} : inF x a b = true ↔ a ≤ x ∧ x ≤ b := by simp [inF, pLe]
theorem inF_not {x a b : Int} : inF x a b = false ↔ ¬ (a ≤ x ∧ x ≤ b) := by rw [← inF_iff]; simp

theorem labE_bad {l : List LabD} {k : Nat} (h : labF (pGet tyLab l k) = false) : labE l k = 2 := by unfold labE; rw [h]; rfl
theorem labE_ok {l : List LabD} {k : Nat} (h : labF (pGet tyLab l k) = true) : labE l k = cond (allUpto (fun i => !eqLabAt l i k) k) 0 7 := by unfold labE; rw [h]; rfl

/-- the loop over the labels, behind the first two tests -/
theorem cfg_round {c : CfgD} (h1 : inF c.1 1 4 = true) (h2 : inF (pInt c.2.1.length) 1 6 = true) {k : Nat} (hk : pEq (labE c.2.1 k) 0 = false → firstE (labE c.2.1) c.2.1.length = labE c.2.1 k)
    (h : labF (pGet tyLab c.2.1 k) = false) : ((2 : Int), ()) = (cfgF c, ()) := by
  rw [cfgF_first h1 h2 (n := 2) (by rw [hk (by rw [labE_bad h]; rfl), labE_bad h]) rfl]
theorem cfg_twice {c : CfgD} (h1 : inF c.1 1 4 = true) (h2 : inF (pInt c.2.1.length) 1 6 = true) {k : Nat} (hk : pEq (labE c.2.1 k) 0 = false → firstE (labE c.2.1) c.2.1.length = labE c.2.1 k)
    (h : labF (pGet tyLab c.2.1 k) = true) (ha : allUpto (fun i => !eqLabAt c.2.1 i k) k = false) : ((7 : Int), ()) = (cfgF c, ()) := by
  have e : labE c.2.1 k = 7 := by rw [labE_ok h, ha]; rfl
  rw [cfgF_first h1 h2 (n := 7) (by rw [hk (by rw [e]; rfl), e]) rfl]

theorem lB_start {cn : Int} {cl : List LabD} {cp : Int} {k : Nat} : lCheckBInv cn cl cp (k : Int) (0, ()) := UpInv.start
theorem lB_round {cn : Int} {cl : List LabD} {cp : Int} {k : Nat} {z : denVars [.slot 41 false tI]} (hk : k < 4611686018427387904) (h : lCheckBInv cn cl cp (k : Int) z) :
    (∃ i : Nat, z = ((i : Int), ()) ∧ i < k ∧ i < 4611686018427387904 ∧ (eqLabAt cl i k = true → allUpto (fun i => !eqLabAt cl i k) k = false) ∧
      (eqLabAt cl i k = false → lCheckBInv cn cl cp (k : Int) (pAdd .i64 (i : Int) 1, ()) ∧ Nat.le (Nat.succ (lCheckBMu cn cl cp (k : Int) (pAdd .i64 (i : Int) 1, ()))) (lCheckBMu cn cl cp (k : Int) ((i : Int), ())))) ∨
    (z = ((k : Int), ()) ∧ allUpto (fun i => !eqLabAt cl i k) k = true) := by
  unfold lCheckBInv lCheckBMu at *
  simp only [pNat_coe] at h ⊢
  rcases UpInv.round hk h with ⟨i, hz, hi, hib, _, hF, hT⟩ | h
  · exact .inl ⟨i, hz, hi, hib, fun h => hF (by simp [h]), fun h => hT (by simp [h])⟩
  · exact .inr h

theorem lCheck_ok : Meets Tryd.prog (fun _ => none) 32 clCheck := lCheck_meets one_ok fun cn cl cp hp => by
  have hl : cl.length < 4611686018427387904 := hp _ List.mem_cons_self
  unfold lCheck_VC
  simp only [pLen]
  cases hb1 : pLt cn 1
  case true => exact congrArg (·, ()) (cfgF_sites (by rw [inF_not]; simp only [pLt, decide_eq_true_eq] at hb1; omega)).symm
  cases hb2 : pGt cn 4
  case true => exact congrArg (·, ()) (cfgF_sites (by rw [inF_not]; simp only [pGt, decide_eq_true_eq] at hb2; simp only; omega)).symm
  have h1 : inF cn 1 4 = true := by rw [inF_iff]; simp only [pLt, pGt, decide_eq_false_iff_not] at hb1 hb2; omega
  cases hb3 : pLt (pInt cl.length) 1
  case true => exact congrArg (·, ()) (cfgF_len h1 (by rw [inF_not]; simp only [pLt, decide_eq_true_eq] at hb3; simp only; omega)).symm
  cases hb4 : pGt (pInt cl.length) 6
  case true => exact congrArg (·, ()) (cfgF_len h1 (by rw [inF_not]; simp only [pGt, decide_eq_true_eq] at hb4; simp only; omega)).symm
  have h2 : inF (pInt cl.length) 1 6 = true := by rw [inF_iff]; simp only [pLt, pGt, decide_eq_false_iff_not] at hb3 hb4; omega
  refine ⟨UpInv.start, fun y hy => ?_⟩
  rcases FirstInv.round hl hy with ⟨k, rfl, hk, hb, hF, hT⟩ | ⟨rfl, hT⟩
  · simp only [pLt_coe, pLen, hk, decide_true, cond_true, pIn_coe, pNat_coe, true_and]
    cases hlab : labF (pGet tyLab cl k)
    case false => exact cfg_round (c := (cn, cl, cp, ())) h1 h2 hF hlab
    refine ⟨by rw [pTo_coe]; omega, lB_start, fun z hz => ?_⟩
    rcases lB_round hb hz with ⟨i, rfl, hi, hib, hiF, hiT⟩ | ⟨rfl, hiT⟩
    · rw [pSub0_len (by omega), bif_true (show pLt (i : Int) (pInt k) = true from by simp [pLt_coe, hi])]
      refine ⟨pIn_coe.2 hi, ?_⟩
      rw [pNat_coe, pGet_sub0 hi]
      have e : pAndB (pEq (pGet tyLab cl i).1 (pGet tyLab cl k).1) (pEq (pGet tyLab cl i).2.1 (pGet tyLab cl k).2.1) = eqLabAt cl i k := rfl
      rw [e]
      cases hq : eqLabAt cl i k with
      | true => exact cfg_twice (c := (cn, cl, cp, ())) h1 h2 hF hlab (hiF hq)
      | false => exact hiT hq
    · rw [pSub0_len (by omega), bif_false (show pLt (k : Int) (pInt k) = false from by simp [pLt_coe])]
      exact hT (by rw [labE_ok hlab, hiT]; rfl)
  · simp only [pLt_coe, Nat.lt_irrefl, decide_false, cond_false]
    rw [cfgF_end (c := (cn, cl, cp, ())) h1 h2 hT]
    simp only [pLt, pGt, Bool.cond_eq_ite, decide_eq_true_eq, inF_iff]
    repeat' split
    all_goals first | rfl | (exfalso; omega)

theorem cFault_ok : Meets Tryd.prog (fun _ => none) 52 ccFault := cFault_meets In_ok fun cn cl cp hp => by
  have hl : cl.length < 4611686018427387904 := hp _ List.mem_cons_self
  unfold cFault_VC
  cases h1 : inF cn 1 4
  case false => exact congrArg (·, ()) (cfgF_sites h1).symm
  simp only [pLen]
  cases h2 : inF (pInt cl.length) 1 6
  case false => exact congrArg (·, ()) (cfgF_len h1 h2).symm
  refine ⟨UpInv.start, fun y hy => ?_⟩
  rcases FirstInv.round hl hy with ⟨k, rfl, hk, hb, hF, hT⟩ | ⟨rfl, hT⟩
  · simp only [pLt_coe, hk, decide_true, cond_true, pIn_coe, pNat_coe, true_and]
    cases ha : inF (pGet tyLab cl k).1 0 9
    case false => exact cfg_round (c := (cn, cl, cp, ())) h1 h2 hF (by unfold labF; rw [ha]; rfl)
    cases hc : inF (pGet tyLab cl k).2.1 0 15
    case false => exact cfg_round (c := (cn, cl, cp, ())) h1 h2 hF (by unfold labF; rw [ha, hc]; rfl)
    have hlab : labF (pGet tyLab cl k) = true := by unfold labF; rw [ha, hc]; rfl
    refine ⟨lB_start, fun z hz => ?_⟩
    rcases lB_round hb hz with ⟨i, rfl, hi, hib, hiF, hiT⟩ | ⟨rfl, hiT⟩
    · have hi2 : i < cl.length := by omega
      rw [bif_true (show pLt (i : Int) (k : Int) = true from by simp [pLt, hi])]
      refine ⟨pIn_coe.2 hi2, ?_⟩
      rw [pNat_coe]
      have e : pAndB (pEq (pGet tyLab cl i).1 (pGet tyLab cl k).1) (pEq (pGet tyLab cl i).2.1 (pGet tyLab cl k).2.1) = eqLabAt cl i k := rfl
      rw [e]
      cases hq : eqLabAt cl i k with
      | true => exact cfg_twice (c := (cn, cl, cp, ())) h1 h2 hF hlab (hiF hq)
      | false => exact hiT hq
    · rw [show pLt (k : Int) (k : Int) = false from by simp [pLt]]
      exact hT (by rw [labE_ok hlab, hiT]; rfl)
  · simp only [pLt_coe, Nat.lt_irrefl, decide_false, cond_false]
    rw [cfgF_end (c := (cn, cl, cp, ())) h1 h2 hT]
    cases inF cp 1 1048576 <;> rfl

theorem pSub_len1 {n : Nat} (h : n < 4611686018427387904) : pSubI .i64 (pInt n) 1 = (n : Int) - 1 := by unfold pInt; rw [pSubI_in (by omega)]
theorem labelMay_ok : Meets Tryd.prog (fun _ => none) 50 clabelMay := labelMay_meets In_ok fun cn cl cp l hp => by
  have hl : cl.length < 4611686018427387904 := hp _ List.mem_cons_self
  unfold labelMay_VC
  rw [pLen, pSub_len1 hl]
  refine congrArg (·, ()) ?_
  rw [Bool.eq_iff_iff]
  simp only [pInt, placeF]
  simp only [inF, pLe, pLt, Bool.and_eq_true, decide_eq_true_eq]
  omega
theorem task_ok : Meets Tryd.prog (fun _ => none) 71 ctask := task_meets fun cn cl cp tw tl tk tv te ta td ts hp => by
  unfold task_VC
  have hf : taskF (cn, cl, cp, ()) (tw, tl, tk, tv, te, ta, td, ts, ()) = (pLe 0 tl && pLt tl (pInt cl.length) && inF tk 0 7 && inF tv 0 1073741824 && inF te 0 1048576 && inF ta 1 1048576 && (td || (!ts && (tw || (pEq tv 0 && pEq te 0))))) := rfl
  rw [hf]
  simp only [pLen]
  cases h1 : pLt tl 0
  case true => exact congrArg (·, ()) (by simp only [pLt, pLe, decide_eq_true_eq] at h1 ⊢; simp only [show ¬ (0 ≤ tl) from by omega, decide_false, Bool.false_and])
  cases h2 : pGe tl (pInt cl.length)
  case true => exact congrArg (·, ()) (by simp only [pLt, pGe, decide_eq_true_eq] at h2 ⊢; simp only [show ¬ (tl < pInt cl.length) from by omega, decide_false, Bool.false_and, Bool.and_false])
  cases h3 : pLt tk 0
  case true => exact congrArg (·, ()) (by rw [show inF tk 0 7 = false from by rw [inF_not]; simp only [pLt, decide_eq_true_eq] at h3; omega]; simp only [Bool.false_and, Bool.and_false])
  cases h4 : pGe tk 8
  case true => exact congrArg (·, ()) (by rw [show inF tk 0 7 = false from by rw [inF_not]; simp only [pGe, decide_eq_true_eq] at h4; omega]; simp only [Bool.false_and, Bool.and_false])
  cases h5 : pLt tv 0
  case true => exact congrArg (·, ()) (by rw [show inF tv 0 1073741824 = false from by rw [inF_not]; simp only [pLt, decide_eq_true_eq] at h5; omega]; simp only [Bool.false_and, Bool.and_false])
  cases h6 : pGt tv 1073741824
  case true => exact congrArg (·, ()) (by rw [show inF tv 0 1073741824 = false from by rw [inF_not]; simp only [pGt, decide_eq_true_eq] at h6; omega]; simp only [Bool.false_and, Bool.and_false])
  cases h7 : pLt te 0
  case true => exact congrArg (·, ()) (by rw [show inF te 0 1048576 = false from by rw [inF_not]; simp only [pLt, decide_eq_true_eq] at h7; omega]; simp only [Bool.false_and, Bool.and_false])
  cases h8 : pGt te 1048576
  case true => exact congrArg (·, ()) (by rw [show inF te 0 1048576 = false from by rw [inF_not]; simp only [pGt, decide_eq_true_eq] at h8; omega]; simp only [Bool.false_and, Bool.and_false])
  cases h9 : pLt ta 1
  case true => exact congrArg (·, ()) (by rw [show inF ta 1 1048576 = false from by rw [inF_not]; simp only [pLt, decide_eq_true_eq] at h9; omega]; simp only [Bool.false_and, Bool.and_false])
  cases h10 : pGt ta 1048576
  case true => exact congrArg (·, ()) (by rw [show inF ta 1 1048576 = false from by rw [inF_not]; simp only [pGt, decide_eq_true_eq] at h10; omega]; simp only [Bool.false_and, Bool.and_false])
  simp only [pLt, pGt, pGe, decide_eq_false_iff_not] at h1 h2 h3 h4 h5 h6 h7 h8 h9 h10
  have e1 : pLe 0 tl = true := by simp only [pLe, decide_eq_true_eq]; omega
  have e2 : pLt tl (pInt cl.length) = true := by simp only [pLt, decide_eq_true_eq]; omega
  have e3 : inF tk 0 7 = true := by rw [inF_iff]; omega
  have e4 : inF tv 0 1073741824 = true := by rw [inF_iff]; omega
  have e5 : inF te 0 1048576 = true := by rw [inF_iff]; omega
  have e6 : inF ta 1 1048576 = true := by rw [inF_iff]; omega
  have e7 : pEq (pAdd .i64 tv te) 0 = (pEq tv 0 && pEq te 0) := by
    rw [pAdd_in (by omega), Bool.eq_iff_iff]; simp only [pEq, beq_iff_eq, Bool.and_eq_true]; omega
  rw [e1, e2, e3, e4, e5, e6, e7]
  cases td <;> cases ts <;> cases tw <;> rfl
theorem taskMay_ok : Meets Tryd.prog (fun _ => none) 74 ctaskMay := taskMay_meets In_ok labelMay_ok fun cn cl cp tw tl tk tv te ta td ts hp => by
  have hl : cl.length < 4611686018427387904 := hp _ List.mem_cons_self
  unfold taskMay_VC
  refine ⟨hl, ?_⟩
  simp only [taskF]
  cases placeF (cn, cl, cp, ()) tl <;> cases inF tk 0 7 <;> cases inF tv 0 1073741824 <;> cases inF te 0 1048576 <;> cases inF ta 1 1048576 <;> cases td <;> cases ts <;> cases tw <;> cases pEq tv 0 <;> simp [pNot]


end Go.Proofs.YtnkcmkegjckncaaDoor
