/- Plain words of bytes of messages and records. No condition. -/
import Derived.Test.YtkimjjndbcbiaaaDoorNeW
namespace Go.Proofs.YtkimjjndbcbiaaaDoor
open Go.RowKit

abbrev ByteD := Int × Unit
abbrev tyNum : Ty := .pair tI .unit
abbrev NumD := Int × Unit
abbrev BsD := List ByteD × Unit
abbrev tyBs : Ty := .pair (.sl tyB) .unit
abbrev pRec : Par := .agg [.rd tI, .rd tI, .rd tI, .rd tI, .rd tI, .rd tI, .rd .bool, .rd (.sl tyNum)]
abbrev RecD := Int × Int × Int × Int × Int × Int × Bool × List NumD × Unit
abbrev wRec : TyW := wStruct [wInt, wTxn, wInt, wInt, wInt, wBool, wSl wInt 8]
abbrev vBy : List Var := [.slot 0 true tyB, .slot 1 false tI]
/-- what records have, by their kinds -/
def recordsT : List PartsD := [(false, false, false, false, false, false, false, false, ()), (false, true, true, false, true, false, false, false, ()), (false, false, false, false, false, true, false, false, ()), (false, false, false, false, false, false, false, true, ()), (false, false, false, false, false, false, false, false, ()), (false, false, false, false, false, false, false, false, ()), (false, false, false, false, false, true, false, false, ())]
def tabsR : Nat → Option Gl := look [(0, Gl.rows tyParts recordsT)]

/-- a number as so many bytes, the highest first -/
def bN (n k : Int) : List ByteD := (List.range (pNat k)).map fun i => ((n / 256 ^ (pNat k - 1 - i)) % 256, ())
def joinF (l : List BsD) : List ByteD := (l.map (·.1)).flatten
def txB (s n : Int) : List ByteD := bN s 1 ++ bN n 3
def bitB (d : Bool) : List ByteD := bN (cond d 1 0) 1
def optB (b : Bool) (l : List ByteD) : List ByteD := cond b l []
def siteAt (cn : Int) (l : List NumD) (i : Nat) : Bool := pLe 0 (pGet tyNum l i).1 && pLt (pGet tyNum l i).1 cn && (decide (i = 0) || pLt (pGet tyNum l (i - 1)).1 (pGet tyNum l i).1)
def recRange (c : CfgD) (r : RecD) : Bool := txnF c r.2.1 r.2.2.1 && inF r.2.2.2.1 0 7 && inF r.2.2.2.2.1 0 1073741824 && inF r.2.2.2.2.2.1 0 1048576 && allUpto (siteAt c.1 r.2.2.2.2.2.2.2.1) r.2.2.2.2.2.2.2.1.length
def recFormR (p : PartsD) (r : RecD) : Bool := (p.2.1 || pEq r.2.2.2.1 0) && (p.2.2.1 || pEq r.2.2.2.2.1 0) && (p.2.2.2.2.1 || pEq r.2.2.2.2.2.1 0) && (p.2.2.2.2.2.1 || !r.2.2.2.2.2.2.1) && (p.2.2.2.2.2.2.2.1 || pEq (pInt r.2.2.2.2.2.2.2.1.length) 0)
def recForm (r : RecD) : Bool := recFormR (pGet tyParts recordsT (pNat r.1)) r
def recF (c : CfgD) (r : RecD) : Int := cond (pEq (cfgF c) 0) (cond (inF r.1 1 6) (cond (recRange c r) (cond (recForm r) 0 4) 2) 3) (cfgF c)
def msgBR (p : PartsD) (m : MsgD) : List ByteD :=
  bN m.1 1 ++ bN m.2.1 1 ++ bN m.2.2.1 1 ++ txB m.2.2.2.1 m.2.2.2.2.1 ++ optB p.1 (bN m.2.2.2.2.2.1 1) ++ optB p.2.1 (bN m.2.2.2.2.2.2.1 1) ++ optB p.2.2.1 (bN m.2.2.2.2.2.2.2.1 4) ++ optB p.2.2.2.1 (bN m.2.2.2.2.2.2.2.2.1 3) ++
    optB p.2.2.2.2.1 (bN m.2.2.2.2.2.2.2.2.2.1 3) ++ optB p.2.2.2.2.2.1 (bitB m.2.2.2.2.2.2.2.2.2.2.1) ++ optB p.2.2.2.2.2.2.1 (bN m.2.2.2.2.2.2.2.2.2.2.2.1 1)
def msgB (c : CfgD) (m : MsgD) : List ByteD := cond (pEq (msgF c m) 0) (msgBR (pGet tyParts messagesT (pNat m.1)) m) []
def numsB (l : List NumD) : List ByteD := l.map fun x => (x.1 % 256, ())
def recBR (p : PartsD) (r : RecD) : List ByteD :=
  bN r.1 1 ++ txB r.2.1 r.2.2.1 ++ optB p.2.1 (bN r.2.2.2.1 1) ++ optB p.2.2.1 (bN r.2.2.2.2.1 4) ++ optB p.2.2.2.2.1 (bN r.2.2.2.2.2.1 3) ++ optB p.2.2.2.2.2.1 (bitB r.2.2.2.2.2.2.1) ++ optB p.2.2.2.2.2.2.2.1 (bN (pInt r.2.2.2.2.2.2.2.1.length) 1 ++ numsB r.2.2.2.2.2.2.2.1)
def recB (c : CfgD) (r : RecD) : List ByteD := cond (pEq (recF c r) 0) (recBR (pGet tyParts recordsT (pNat r.1)) r) []

def putInv (n k : Int) (bs : List ByteD) : Int × (List ByteD × Unit) × Unit → Prop := fun y => ∃ j : Nat, j ≤ pNat k ∧ y = (k - 1 - (j : Int), (bs ++ (bN n k).take j, ()), ())
def putMu (_ _ : Int) (_ : List ByteD) : Int × (List ByteD × Unit) × Unit → Nat := fun y => (y.1 + 1).toNat
def put0Inv (n k : Int) : Int × (List ByteD × Unit) × Unit → Prop := putInv n k []
def put0Mu (_ _ : Int) : Int × (List ByteD × Unit) × Unit → Nat := fun y => (y.1 + 1).toNat
def bytAInv (_ k : Int) : Int × Int × Unit → Prop := fun y => ∃ j : Nat, (j : Int) + 1 ≤ k ∧ y = ((j : Int) + 1, 256 ^ j, ())
def bytAMu (_ k : Int) : Int × Int × Unit → Nat := fun y => (k - y.1).toNat
def bytBInv (n k : Int) : Int × List ByteD × Int × Unit → Prop := fun y => ∃ j : Nat, j ≤ pNat k ∧ y = ((j : Int), (bN n k).take j, (if j < pNat k then 256 ^ (pNat k - 1 - j) else 0), ())
def bytBMu (_ k : Int) : Int × List ByteD × Int × Unit → Nat := fun y => (k - y.1).toNat
def joiAInv (l : List BsD) : Int × List ByteD × Unit → Prop := fun y => ∃ i : Nat, i ≤ l.length ∧ y = ((i : Int), joinF (l.take i), ())
def joiAMu (l : List BsD) : Int × List ByteD × Unit → Nat := fun y => l.length - y.1.toNat
def joiBInv (l : List BsD) (i : Int) : Int × List ByteD × Unit → Prop := fun y => ∃ j : Nat, j ≤ (pGet tyBs l (pNat i)).1.length ∧ y = ((j : Int), joinF (l.take (pNat i)) ++ ((pGet tyBs l (pNat i)).1.take j : List ByteD), ())
def joiBMu (l : List BsD) (i : Int) : Int × List ByteD × Unit → Nat := fun y => (pGet tyBs l (pNat i)).1.length - y.1.toNat
def recSInv (cn : Int) (_ : List LabD) (_ _ _ _ _ _ _ : Int) (_ : Bool) (rl : List NumD) : Int × Unit → Prop := UpInv (siteAt cn rl) rl.length
def recSMu (_ : Int) (_ : List LabD) (_ _ _ _ _ _ _ : Int) (_ : Bool) (rl : List NumD) : Int × Unit → Nat := UpMu rl.length
def recHead (rk rs rn : Int) (rl : List NumD) : List ByteD := bN rk 1 ++ txB rs rn ++ bN (pInt rl.length) 1
def rebSInv (_ : Int) (_ : List LabD) (_ rk rs rn _ _ _ : Int) (_ : Bool) (rl : List NumD) : Int × List ByteD × Unit → Prop := fun y => ∃ j : Nat, j ≤ rl.length ∧ y = ((j : Int), recHead rk rs rn rl ++ numsB (rl.take j), ())
def rebSMu (_ : Int) (_ : List LabD) (_ _ _ _ _ _ _ : Int) (_ : Bool) (rl : List NumD) : Int × List ByteD × Unit → Nat := fun y => rl.length - y.1.toNat
def encSInv (_ : Int) (_ : List LabD) (_ rk rs rn _ _ _ : Int) (_ : Bool) (rl : List NumD) : Int × (List ByteD × Unit) × Unit → Prop := fun y => ∃ j : Nat, j ≤ rl.length ∧ y = ((j : Int), (recHead rk rs rn rl ++ numsB (rl.take j), ()), ())
def encSMu (_ : Int) (_ : List LabD) (_ _ _ _ _ _ _ : Int) (_ : Bool) (rl : List NumD) : Int × (List ByteD × Unit) × Unit → Nat := fun y => rl.length - y.1.toNat

/-- the tables lie where they are to lie -/
def TabsR (W : World) : Prop := ∀ g gl, tabsR g = some gl → GlobR W (fun b => b < W.heap.size) g gl
theorem tabsR_ok : ∀ W, TabsR W → ∀ g gl, tabsR g = some gl → GlobR W (fun b => b < W.heap.size) g gl := fun _ h => h

end Go.Proofs.YtkimjjndbcbiaaaDoor
