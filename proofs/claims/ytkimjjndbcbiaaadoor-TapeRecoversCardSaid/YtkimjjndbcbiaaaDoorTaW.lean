/- Plain words of tapes. No condition. -/
import Derived.Test.YtkimjjndbcbiaaaDoorWhP
import Derived.Test.YtkimjjndbcbiaaaDoorWoW
namespace Go.Proofs.YtkimjjndbcbiaaaDoor
open Go.RowKit

abbrev pTape : Par := .agg [.rd (.sl tyB), .rd tI]
abbrev TapeD := List ByteD × Int × Unit
abbrev wTape : TyW := wStruct [wSl wByte 1, wInt]
abbrev tyRec : Ty := .pair tI (.pair tI (.pair tI (.pair tI (.pair tI (.pair tI (.pair .bool (.pair (.sl tyNum) .unit)))))))
abbrev vTape : List (Bool × Ty) := [(true, tyB), (false, tI)]
abbrev vTapeR : List (Bool × Ty) := [(false, .sl tyB), (false, tI)]

def noBytes : List ByteD := []
def tapeOk (d : List ByteD) (n : Int) : Bool := pLe (pInt d.length) 6000 && inF n 0 (pInt d.length)
def opD (d : List ByteD) (n : Int) : List ByteD := cond (tapeOk d n) d []
def opN (d : List ByteD) (n : Int) : Int := cond (tapeOk d n) n 0
def tapeE (c : CfgD) (d : List ByteD) (n : Int) (r : RecD) : Int := cond (tapeOk d n) (cond (pEq (recF c r) 0) (cond (decide (d.length + 1 + (recB c r).length ≤ 6000)) 0 8) (recF c r)) 9
def tapeB (c : CfgD) (d : List ByteD) (r : RecD) : List ByteD := d ++ ((pWrap .u8 (pInt (recB c r).length), ()) :: recB c r)
def tapeO (c : CfgD) (d : List ByteD) (n : Int) (r : RecD) : TapeD := cond (pEq (tapeE c d n r) 0) (tapeB c d r, n, ()) ([], 0, ())
/-- the bytes of the record that begins at a place; where the next one begins -/
def recNext (d : List ByteD) (k : Nat) : Nat := k + 1 + (byteAt d k).toNat
def recSub (d : List ByteD) (k : Nat) : List ByteD := pSub d (k + 1) (recNext d k)
def recGo (c : CfgD) (d : List ByteD) (k : Nat) : Bool := decide (k < d.length) && decide (recNext d k ≤ d.length) && pEq (recOE c (recSub d k)) 0
def recRun (c : CfgD) (d : List ByteD) : Nat → Nat × List RecD → Nat × List RecD
  | 0, y => y
  | n + 1, y => cond (recGo c d y.1) (recRun c d n (recNext d y.1, y.2 ++ [recO c (recSub d y.1)])) y
def recEnd (c : CfgD) (d : List ByteD) : Nat × List RecD := recRun c d d.length (0, [])
def recvE (c : CfgD) (d : List ByteD) (n : Int) : Int := cond (tapeOk d n) (cfgF c) 9
def recvO (c : CfgD) (d : List ByteD) (n : Int) : List RecD := cond (pEq (recvE c d n) 0) (recEnd c d).2 []
def recvT (c : CfgD) (d : List ByteD) (n : Int) : TapeD := cond (pEq (recvE c d n) 0) (d.take (recEnd c d).1, pMin n (pInt (recEnd c d).1), ()) ([], 0, ())

def samIInv (l _m : List NumD) : Int × Unit → Prop := UpInv (fun _ => true) l.length
def samIMu (l _m : List NumD) : Int × Unit → Nat := UpMu l.length
def samRInv (l _m : List RecD) : Int × Unit → Prop := UpInv (fun _ => true) l.length
def samRMu (l _m : List RecD) : Int × Unit → Nat := UpMu l.length
def conAInv (l : List BsD) : Int × Int × Unit → Prop := fun y => ∃ j : Nat, j ≤ l.length ∧ y = ((j : Int), (((joinF (l.take j)).length : Nat) : Int), ())
def conAMu (l : List BsD) : Int × Int × Unit → Nat := fun y => l.length - y.1.toNat
def conBInv (l : List BsD) : Int × List ByteD × Unit → Prop := fun y => ∃ j : Nat, j ≤ l.length ∧ y = ((j : Int), joinF (l.take j), ())
def conBMu (l : List BsD) : Int × List ByteD × Unit → Nat := fun y => l.length - y.1.toNat
def rcvInv (cn : Int) (cl : List LabD) (cp : Int) (d : List ByteD) (_ : Int) : Int × List RecD × Unit → Prop := fun y =>
  ∃ (k f : Nat), k ≤ d.length ∧ d.length ≤ k + f ∧ y.1 = (k : Int) ∧ y.2.1.length ≤ k ∧ recRun (cn, cl, cp, ()) d f (k, y.2.1) = recEnd (cn, cl, cp, ()) d
def rcvMu (_ : Int) (_ : List LabD) (_ : Int) (d : List ByteD) (_ : Int) : Int × List RecD × Unit → Nat := fun y => d.length - y.1.toNat
def rvdInv := rcvInv
def rvdMu := rcvMu

end Go.Proofs.YtkimjjndbcbiaaaDoor
