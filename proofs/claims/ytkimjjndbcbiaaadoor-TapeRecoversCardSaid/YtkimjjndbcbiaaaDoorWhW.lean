/- Plain words of messages and records out of their bytes. No condition. -/
import Derived.Test.YtkimjjndbcbiaaaDoorWiW
namespace Go.Proofs.YtkimjjndbcbiaaaDoor
open Go.RowKit

abbrev vMsg : List (Bool × Ty) := [(false, tI), (false, tI), (false, tI), (false, tI), (false, tI), (false, tI), (false, tI), (false, tI), (false, tI), (false, tI), (false, .bool), (false, tI)]
abbrev vRec : List (Bool × Ty) := [(false, tI), (false, tI), (false, tI), (false, tI), (false, tI), (false, tI), (false, .bool), (true, tyNum)]
abbrev vRd : List (Bool × Ty) := [(false, .sl tyB), (false, tI)]
abbrev vEy : List (Bool × Ty) := [(false, .sl tyB), (false, tI), (false, tI)]

def valB (l : List ByteD) : Int := l.foldl (fun n b => n * 256 + b.1) 0
def takeN (rs : List ByteD) (k : Int) : Int := cond (pLt (pInt rs.length) k) 0 (valB (rs.take (pNat k)))
def takeR (rs : List ByteD) (k : Int) : List ByteD := cond (pLt (pInt rs.length) k) [] (rs.drop (pNat k))
def takeE (rs : List ByteD) (fa k : Int) : Int := cond (pLt (pInt rs.length) k && pEq fa 0) 5 fa
def bitE (rs : List ByteD) (fa : Int) : Int := cond (pGt (takeN rs 1) 1 && pEq (takeE rs fa 1) 0) 4 (takeE rs fa 1)
def kindE (k : Int) (rs : List ByteD) (fa : Int) : Int := cond (!(inF (takeN rs 1) 1 k) && pEq (takeE rs fa 1) 0) 3 (takeE rs fa 1)
def endE (rs : List ByteD) (fa : Int) : Int := cond (pEq fa 0 && pGt (pInt rs.length) 0) 4 fa
def dropF (rs : List ByteD) (a : Int) : List ByteD := rs.drop (pNat a)
def atF (rs q : List ByteD) : Int := pInt (rs.length - q.length)
def okB (rs : List ByteD) : Prop := ∀ q ∈ rs, 0 ≤ q.1 ∧ q.1 ≤ 255
def eyOk (rs : List ByteD) (a fa : Int) : Prop := 0 ≤ a ∧ a ≤ (rs.length : Int) ∧ (fa = 5 → a = (rs.length : Int))

/-- the state of a reading: what is left, and what was wrong first -/
abbrev RdS := List ByteD × Int
def stepS (s : RdS) (k : Int) : RdS := (takeR s.1 k, takeE s.1 s.2 k)
def optV (b : Bool) (k : Int) (s : RdS) : Int := cond b (takeN s.1 k) 0
def optS (b : Bool) (k : Int) (s : RdS) : RdS := cond b (stepS s k) s
def bitS (b : Bool) (s : RdS) : RdS := cond b (takeR s.1 1, bitE s.1 s.2) s
def kindV (most : Int) (b : List ByteD) : Int := cond (pEq (kindE most b 0) 0) (takeN b 1) 0
def kindS (most : Int) (b : List ByteD) : RdS := (takeR b 1, kindE most b 0)
/-- the end of a reading -/
def lastE (s : RdS) (e : Int) : Int := cond (pEq (endE s.1 s.2) 0) e (endE s.1 s.2)

def mS5 (b : List ByteD) : RdS := stepS (stepS (stepS (stepS (kindS 9 b) 1) 1) 1) 3
def mS6 (p : PartsD) (b : List ByteD) : RdS := optS p.1 1 (mS5 b)
def mS7 (p : PartsD) (b : List ByteD) : RdS := optS p.2.1 1 (mS6 p b)
def mS8 (p : PartsD) (b : List ByteD) : RdS := optS p.2.2.1 4 (mS7 p b)
def mS9 (p : PartsD) (b : List ByteD) : RdS := optS p.2.2.2.1 3 (mS8 p b)
def mS10 (p : PartsD) (b : List ByteD) : RdS := optS p.2.2.2.2.1 3 (mS9 p b)
def mS11 (p : PartsD) (b : List ByteD) : RdS := bitS p.2.2.2.2.2.1 (mS10 p b)
def mS12 (p : PartsD) (b : List ByteD) : RdS := optS p.2.2.2.2.2.2.1 1 (mS11 p b)
/-- a message, read by what its kind has -/
def msgRaw (p : PartsD) (kv : Int) (b : List ByteD) : MsgD :=
  (kv, takeN (kindS 9 b).1 1, takeN (stepS (kindS 9 b) 1).1 1, takeN (stepS (stepS (kindS 9 b) 1) 1).1 1, takeN (stepS (stepS (stepS (kindS 9 b) 1) 1) 1).1 3,
    optV p.1 1 (mS5 b), optV p.2.1 1 (mS6 p b), optV p.2.2.1 4 (mS7 p b), optV p.2.2.2.1 3 (mS8 p b), optV p.2.2.2.2.1 3 (mS9 p b), (p.2.2.2.2.2.1 && pEq (takeN (mS10 p b).1 1) 1), optV p.2.2.2.2.2.2.1 1 (mS11 p b), ())
abbrev noMsg : MsgD := (0, 0, 0, 0, 0, 0, 0, 0, 0, 0, false, 0, ())
def msgPart (b : List ByteD) : PartsD := pGet tyParts messagesT (pNat (kindV 9 b))
def msgOE (c : CfgD) (b : List ByteD) : Int := cond (pEq (cfgF c) 0) (lastE (mS12 (msgPart b) b) (msgF c (msgRaw (msgPart b) (kindV 9 b) b))) (cfgF c)
def msgO (c : CfgD) (b : List ByteD) : MsgD := cond (pEq (msgOE c b) 0) (msgRaw (msgPart b) (kindV 9 b) b) noMsg

def rS3 (b : List ByteD) : RdS := stepS (stepS (kindS 6 b) 1) 3
def rS4 (p : PartsD) (b : List ByteD) : RdS := optS p.2.1 1 (rS3 b)
def rS5 (p : PartsD) (b : List ByteD) : RdS := optS p.2.2.1 4 (rS4 p b)
def rS6 (p : PartsD) (b : List ByteD) : RdS := optS p.2.2.2.2.1 3 (rS5 p b)
def rS7 (p : PartsD) (b : List ByteD) : RdS := bitS p.2.2.2.2.2.1 (rS6 p b)
/-- so many sites, as long as nothing is wrong -/
def sitS (s : RdS) : Nat → List NumD × RdS
  | 0 => ([], s)
  | n + 1 => cond (pEq s.2 0) (((takeN s.1 1, ()) :: (sitS (stepS s 1) n).1), (sitS (stepS s 1) n).2) ([], s)
def rSit (p : PartsD) (b : List ByteD) : List NumD × RdS := cond p.2.2.2.2.2.2.2.1 (sitS (stepS (rS7 p b) 1) (pNat (takeN (rS7 p b).1 1))) ([], rS7 p b)
def recRaw (p : PartsD) (kv : Int) (b : List ByteD) : RecD :=
  (kv, takeN (kindS 6 b).1 1, takeN (stepS (kindS 6 b) 1).1 3, optV p.2.1 1 (rS3 b), optV p.2.2.1 4 (rS4 p b), optV p.2.2.2.2.1 3 (rS5 p b), (p.2.2.2.2.2.1 && pEq (takeN (rS6 p b).1 1) 1), (rSit p b).1, ())
abbrev noRec : RecD := (0, 0, 0, 0, 0, 0, false, [], ())
def recPart (b : List ByteD) : PartsD := pGet tyParts recordsT (pNat (kindV 6 b))
def recOE (c : CfgD) (b : List ByteD) : Int := cond (pEq (cfgF c) 0) (lastE (rSit (recPart b) b).2 (recF c (recRaw (recPart b) (kindV 6 b) b))) (cfgF c)
def recO (c : CfgD) (b : List ByteD) : RecD := cond (pEq (recOE c b) 0) (recRaw (recPart b) (kindV 6 b) b) noRec

def rtakInv (k : Int) (rs : List ByteD) (_ : Int) : Int × Int × Unit → Prop := fun y => ∃ j : Nat, j ≤ pNat k ∧ y = ((j : Int), valB (rs.take j), ())
def rtakMu (k : Int) (_ : List ByteD) (_ : Int) : Int × Int × Unit → Nat := fun y => (k - y.1).toNat
def ynumInv (k : Int) (rs : List ByteD) (a fa : Int) : Int × Int × (List ByteD × Int × Int × Unit) × Unit → Prop := fun y => ∃ j : Nat, j ≤ pNat k ∧ y = ((j : Int), valB ((dropF rs a).take j), (rs, a + (j : Int), fa, ()), ())
def ynumMu (k : Int) (_ : List ByteD) (_ _ : Int) : Int × Int × (List ByteD × Int × Int × Unit) × Unit → Nat := fun y => (k - y.1).toNat

end Go.Proofs.YtkimjjndbcbiaaaDoor
