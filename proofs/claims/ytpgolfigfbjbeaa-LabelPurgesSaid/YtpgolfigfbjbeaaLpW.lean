/- Plain words of a configuration and of a purge: what may be, what is seen. No condition. -/
import Derived.Test.YtpgolfigfbjbeaaFF
namespace Go.Proofs.Ytpgolfigfbjbeaa
open Go.RowKit

abbrev tI : Ty := .int .i64
abbrev tyN : Ty := .pair tI .unit
abbrev tyLab : Ty := .pair tI (.pair tI .unit)
abbrev ND := Int × Unit
abbrev LabD := Int × Int × Unit
abbrev CfgD := Int × List LabD × Int × Unit
abbrev CallD := Int × Int × Int × Int × Int × Unit
abbrev ActD := Int × Int × Int × Int × Int × List ND × Int × Int × Int × Int × Int × ByteArray × Unit
abbrev pLab : Par := .agg [.rd tI, .rd tI]
abbrev pCfg : Par := .agg [.rd tI, .rd (.sl tyLab), .rd tI]
abbrev pCall : Par := .agg [.rd tI, .rd tI, .rd tI, .rd tI, .rd tI]
abbrev pAct : Par := .agg [.rd tI, .rd tI, .rd tI, .rd tI, .rd tI, .rd (.sl tyN), .rd tI, .rd tI, .rd tI, .rd tI, .rd tI, .rd .str]
abbrev wLab : TyW := wStruct [wInt, wInt]
abbrev wCfg : TyW := wStruct [wInt, wSl wLab 16, wInt]
abbrev wCall : TyW := wStruct [wInt, wInt, wInt, wInt, wInt]
abbrev wAct : TyW := wStruct [wInt, wInt, wInt, wInt, wInt, wSl wInt 8, wCall, wStr]

abbrev tyAct : Ty := .pair tI (.pair tI (.pair tI (.pair tI (.pair tI (.pair (.sl tyN) (.pair tI (.pair tI (.pair tI (.pair tI (.pair tI (.pair .str .unit)))))))))))
abbrev vAct : List (Bool × Ty) := [(false, tI), (false, tI), (false, tI), (false, tI), (false, tI), (true, tyN), (false, tI), (false, tI), (false, tI), (false, tI), (false, tI), (false, .str)]

def inF (x a b : Int) : Bool := pLe a x && pLe x b
def labF (a : LabD) : Bool := inF a.1 0 9 && inF a.2.1 0 15
def eqLabAt (l : List LabD) (k i : Nat) : Bool := pAndB (pEq (pGet tyLab l k).1 (pGet tyLab l i).1) (pEq (pGet tyLab l k).2.1 (pGet tyLab l i).2.1)
/-- what is wrong with a label, behind those ahead of it -/
def labE (l : List LabD) (i : Nat) : Int := cond (labF (pGet tyLab l i)) (cond (allUpto (fun k => !eqLabAt l k i) i) 0 7) 2
def cfgF (c : CfgD) : Int :=
  cond (inF c.1 1 4) (cond (inF (pInt c.2.1.length) 1 6) (cond (pEq (firstE (labE c.2.1) c.2.1.length) 0) (cond (inF c.2.2.1 1 1048576) 0 2) (firstE (labE c.2.1) c.2.1.length)) 1) 2
def placeF (c : CfgD) (l : Int) : Bool := pLe 0 l && pLt l (pInt c.2.1.length)
def lCheckAInv (_ : Int) (cl : List LabD) (_ : Int) : denVars [.slot 28 false tI] → Prop := FirstInv (labE cl) cl.length
def lCheckAMu (_ : Int) (cl : List LabD) (_ : Int) : denVars [.slot 28 false tI] → Nat := UpMu cl.length
def lCheckBInv (_ : Int) (cl : List LabD) (_ : Int) (i : Int) : denVars [.slot 41 false tI] → Prop := UpInv (fun k => !eqLabAt cl k (pNat i)) (pNat i)
def lCheckBMu (_ : Int) (_ : List LabD) (_ : Int) (i : Int) : denVars [.slot 41 false tI] → Nat := UpMu (pNat i)

def aboveF (a b : LabD) : Bool := bif pGe a.1 b.1 then pEq (pAnd .i64 a.2.1 b.2.1) b.2.1 else false
/-- is a label's place one that l does not see? -/
def hideF (c : CfgD) (l i : Int) : Bool := placeF c i && !aboveF (pGet tyLab c.2.1 (pNat l)) (pGet tyLab c.2.1 (pNat i))
/-- the first k of a row of numbers, some of them 0 -/
def zapK (h : Nat → Bool) (l : List ND) (k : Nat) : List ND := (List.range k).map fun i => cond (h i) (0, ()) (pGet tyN l i)
def withKeep (a : ActD) (e : List ND) : ActD := (a.1, a.2.1, a.2.2.1, a.2.2.2.1, a.2.2.2.2.1, e, a.2.2.2.2.2.2)
def hidAt (c : CfgD) (l : Int) (a : ActD) (i : Nat) : Bool := pEq a.1 6 && hideF c l (i : Int)
def purgeAct (c : CfgD) (l : Int) (a : ActD) : ActD := withKeep a (zapK (hidAt c l a) a.2.2.2.2.2.1 a.2.2.2.2.2.1.length)
def bottomF (k : Int) : Bool := pEq k 5 || pEq k 7 || pEq k 6
def goneF (c : CfgD) (l : Int) (a : ActD) : Bool := !bottomF a.1 && hideF c l a.2.2.2.1
def purgeK (c : CfgD) (l : Int) (zs : List ActD) (k : Nat) : List ActD := ((zs.take k).filter fun a => !goneF c l a).map (purgeAct c l)
def purgeF (c : CfgD) (l : Int) (zs : List ActD) : List ActD := cond (pEq (cfgF c) 0) (cond (placeF c l) (purgeK c l zs zs.length) []) []
def purgeE (c : CfgD) (l : Int) : Int := cond (pEq (cfgF c) 0) (cond (placeF c l) 0 6) (cfgF c)
def purgeInv (cn : Int) (cl : List LabD) (cp l : Int) (zs : List ActD) : Int × List ActD × Unit → Prop := fun y => ∃ k : Nat, y = ((k : Int), purgeK (cn, cl, cp, ()) l zs k, ()) ∧ k ≤ zs.length
def purgeMu (_ : Int) (_ : List LabD) (_ _ : Int) (zs : List ActD) : Int × List ActD × Unit → Nat := fun y => zs.length - y.1.toNat
def purgeKInv (cn : Int) (cl : List LabD) (cp l : Int) (zs : List ActD) (i : Int) : Int × ActD × Unit → Prop := fun y => ∃ j : Nat, y = ((j : Int), withKeep (pGet tyAct zs (pNat i)) (zapK (fun q => hideF (cn, cl, cp, ()) l (q : Int)) (pGet tyAct zs (pNat i)).2.2.2.2.2.1 j ++ (pGet tyAct zs (pNat i)).2.2.2.2.2.1.drop j), ()) ∧ j ≤ (pGet tyAct zs (pNat i)).2.2.2.2.2.1.length
def purgeKMu (_ : Int) (_ : List LabD) (_ _ : Int) (zs : List ActD) (i : Int) : Int × ActD × Unit → Nat := fun y => (pGet tyAct zs (pNat i)).2.2.2.2.2.1.length - y.1.toNat
def purgeOfInv (cn : Int) (cl : List LabD) (cp l : Int) (zs : List ActD) (i : Int) : Int × List ND × Unit → Prop := fun y => ∃ j : Nat, y = ((j : Int), zapK (hidAt (cn, cl, cp, ()) l (pGet tyAct zs (pNat i))) (pGet tyAct zs (pNat i)).2.2.2.2.2.1 j, ()) ∧ j ≤ (pGet tyAct zs (pNat i)).2.2.2.2.2.1.length
def purgeOfMu (_ : Int) (_ : List LabD) (_ _ : Int) (zs : List ActD) (i : Int) : Int × List ND × Unit → Nat := fun y => (pGet tyAct zs (pNat i)).2.2.2.2.2.1.length - y.1.toNat

def eqNAt (l m : List ND) (j : Nat) : Bool := pEq (pGet tyN l j).1 (pGet tyN m j).1
def sameIntsF (l m : List ND) : Bool := decide (l.length = m.length) && allUpto (eqNAt l m) l.length
def sameIntsInv (l m : List ND) : Int × Unit → Prop := fun y => l.length = m.length ∧ UpInv (eqNAt l m) l.length y
def sameIntsMu (l _m : List ND) : Int × Unit → Nat := UpMu l.length
def eqAct (a b : ActD) : Bool := !(bif pNe a.1 b.1 then true else bif pNe a.2.1 b.2.1 then true else bif pNe a.2.2.1 b.2.2.1 then true else bif pNe a.2.2.2.1 b.2.2.2.1 then true else bif pNe a.2.2.2.2.1 b.2.2.2.2.1 then true else
  bif pNot (pAndB (pEq a.2.2.2.2.2.2.1 b.2.2.2.2.2.2.1) (pAndB (pEq a.2.2.2.2.2.2.2.1 b.2.2.2.2.2.2.2.1) (pAndB (pEq a.2.2.2.2.2.2.2.2.1 b.2.2.2.2.2.2.2.2.1) (pAndB (pEq a.2.2.2.2.2.2.2.2.2.1 b.2.2.2.2.2.2.2.2.2.1) (pEq a.2.2.2.2.2.2.2.2.2.2.1 b.2.2.2.2.2.2.2.2.2.2.1))))) then true else
  bif pNot (pStrEq a.2.2.2.2.2.2.2.2.2.2.2.1 b.2.2.2.2.2.2.2.2.2.2.2.1) then true else pNot (sameIntsF a.2.2.2.2.2.1 b.2.2.2.2.2.1))
def eqActAt (l m : List ActD) (j : Nat) : Bool := eqAct (pGet tyAct l j) (pGet tyAct m j)
def sameActsF (l m : List ActD) : Bool := decide (l.length = m.length) && allUpto (eqActAt l m) l.length
def sameActsInv (l m : List ActD) : Int × Unit → Prop := fun y => l.length = m.length ∧ UpInv (eqActAt l m) l.length y
def sameActsMu (l _m : List ActD) : Int × Unit → Nat := UpMu l.length

end Go.Proofs.Ytpgolfigfbjbeaa
