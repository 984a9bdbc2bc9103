/- Plain words of a configuration, of a site: what may be, what is answered. No condition. -/
import Derived.Test.YtkhnakdmkhidbaaSpD
namespace Go.Proofs.Ytkhnakdmkhidbaa
open Go.RowKit

abbrev tyN : Ty := .pair tI .unit
abbrev tyLab : Ty := .pair tI (.pair tI .unit)
abbrev ND := Int × Unit
abbrev LabD := Int × Int × Unit
abbrev CfgD := Int × List LabD × Int × Unit
abbrev pLab : Par := .agg [.rd tI, .rd tI]
abbrev pCfg : Par := .agg [.rd tI, .rd (.sl tyLab), .rd tI]
abbrev wLab : TyW := wStruct [wInt, wInt]
abbrev wCfg : TyW := wStruct [wInt, wSl wLab 16, wInt]

abbrev tySto : Ty := .pair (.sl tyItem) (.pair (.sl tyLock) (.pair (.sl tyDoubt) (.pair (.sl tyTxn) .unit)))
abbrev tyMsg : Ty := .pair tI (.pair tI (.pair tI (.pair tI (.pair tI (.pair tI (.pair tI (.pair tI (.pair tI (.pair tI (.pair .bool (.pair tI .unit)))))))))))
abbrev tyRec : Ty := .pair tI (.pair tI (.pair tI (.pair tI (.pair tI (.pair tI (.pair .bool (.pair (.sl tyN) .unit)))))))
abbrev tyNote : Ty := .pair tI (.pair tI (.pair .bool (.pair .bool .unit)))
abbrev MsgD := Int × Int × Int × Int × Int × Int × Int × Int × Int × Int × Bool × Int × Unit
abbrev RecD := Int × Int × Int × Int × Int × Int × Bool × List ND × Unit
abbrev NoteD := Int × Int × Bool × Bool × Unit
abbrev AnsD := List ItemD × List LockD × List DoubtD × List TxnD × List MsgD × List RecD × List NoteD × Unit
abbrev vAns : List (Bool × Ty) := [(true, tyItem), (true, tyLock), (true, tyDoubt), (true, tyTxn), (true, tyMsg), (true, tyRec), (true, tyNote)]
abbrev pAns : Par := .agg [.rd (.sl tyItem), .rd (.sl tyLock), .rd (.sl tyDoubt), .rd (.sl tyTxn), .rd (.sl tyMsg), .rd (.sl tyRec), .rd (.sl tyNote)]

def labF (a : LabD) : Bool := inF a.1 0 9 && inF a.2.1 0 15
def eqLabAt (l : List LabD) (k i : Nat) : Bool := pAndB (pEq (pGet tyLab l k).1 (pGet tyLab l i).1) (pEq (pGet tyLab l k).2.1 (pGet tyLab l i).2.1)
/-- what is wrong with a label, behind those ahead of it -/
def labE (l : List LabD) (i : Nat) : Int := cond (labF (pGet tyLab l i)) (cond (allUpto (fun k => !eqLabAt l k i) i) 0 7) 2
def cfgF (c : CfgD) : Int :=
  cond (inF c.1 1 4) (cond (inF (pInt c.2.1.length) 1 6) (cond (pEq (firstE (labE c.2.1) c.2.1.length) 0) (cond (inF c.2.2.1 1 1048576) 0 2) (firstE (labE c.2.1) c.2.1.length)) 1) 2
def placeF (c : CfgD) (l : Int) : Bool := pLe 0 l && pLt l (pInt c.2.1.length)
def lCheckAInv (_ : Int) (cl : List LabD) (_ : Int) : denVars [.slot 28 false tI] → Prop := FirstInv (labE cl) cl.length
def lCheckAMu (_ : Int) (cl : List LabD) (_ : Int) : denVars [.slot 28 false tI] → Nat := UpMu cl.length
def lCheckBInv (_ : Int) (cl : List LabD) (_ : Int) (i : Int) : denVars [.slot 41 false tI] → Prop := UpInv (fun k => !eqLabAt cl k (pNat i)) (pNat i)
def lCheckBMu (_ : Int) (_ : List LabD) (_ : Int) (i : Int) : denVars [.slot 41 false tI] → Nat := UpMu (pNat i)

/-- what is wrong with what is handed in to a site -/
def checkF (c : CfgD) (l me : Int) (ss : List StoD) : Int :=
  cond (pEq (cfgF c) 0) (cond (placeF c l) (cond (pLe 0 me && pLt me c.1) (cond (decide (ss.length = c.2.1.length)) (cond (allUpto (fun i => stoF (pGet tySto ss i)) ss.length) 0 9) 9) 2) 6) (cfgF c)
def tickE (c : CfgD) (l me : Int) (ss : List StoD) : Int := checkF c l me ss
def msgOf (me : Int) (t : TxnD) : MsgD := (9, me, t.1, t.1, t.2.1, 0, 0, 0, 0, 0, false, 0, ())
def tellK (cn me : Int) (ts : List TxnD) (k : Nat) : List MsgD := ((ts.take k).filter fun t => pLt t.1 cn).map (msgOf me)
def tickS (c : CfgD) (me : Int) (s : StoD) : AnsD :=
  ((ageS s c.2.2.1).1, (ageS s c.2.2.1).2.1, (ageS s c.2.2.1).2.2.1, (ageS s c.2.2.1).2.2.2.1, tellK c.1 me (ageL s c.2.2.1) (ageL s c.2.2.1).length, [], [], ())
def tickA (c : CfgD) (l me : Int) (ss : List StoD) : AnsD := cond (pEq (tickE c l me ss) 0) (tickS c me (pGet tySto ss (pNat l))) ([], [], [], [], [], [], [], ())
def scheckInv (_ : Int) (_ : List LabD) (_ _ _ : Int) (ss : List StoD) : Int × Unit → Prop := UpInv (fun i => stoF (pGet tySto ss i)) ss.length
def scheckMu (_ : Int) (_ : List LabD) (_ _ _ : Int) (ss : List StoD) : Int × Unit → Nat := UpMu ss.length
def siteFaultInv (_ : Int) (_ : List LabD) (_ _ _ : Int) (ss : List StoD) : Int × Unit → Prop := UpInv (fun i => stoF (pGet tySto ss i)) ss.length
def siteFaultMu (_ : Int) (_ : List LabD) (_ _ _ : Int) (ss : List StoD) : Int × Unit → Nat := UpMu ss.length
/-- so many are told -/
def TickAt (cn cp me : Int) (s : StoD) (y : Int × AnsD × Unit) : Prop := ∃ k : Nat, y = ((k : Int), ((ageS s cp).1, (ageS s cp).2.1, (ageS s cp).2.2.1, (ageS s cp).2.2.2.1, tellK cn me (ageL s cp) k, [], [], ()), ()) ∧ k ≤ (ageL s cp).length
def tickInv (cn : Int) (_ : List LabD) (cp l me : Int) (ss : List StoD) : Int × AnsD × Unit → Prop := TickAt cn cp me (pGet tySto ss (pNat l))
def tickMu (_ : Int) (_ : List LabD) (cp l _ : Int) (ss : List StoD) : Int × AnsD × Unit → Nat := fun y => (ageL (pGet tySto ss (pNat l)) cp).length - y.1.toNat
def tickedInv (cn : Int) (cl : List LabD) (cp l me : Int) (ss : List StoD) : Int × AnsD × Unit → Prop := tickInv cn cl cp l me ss
def tickedMu (cn : Int) (cl : List LabD) (cp l me : Int) (ss : List StoD) : Int × AnsD × Unit → Nat := tickMu cn cl cp l me ss

def eqMsg (a b : MsgD) : Bool := pAndB (pEq a.1 b.1) (pAndB (pEq a.2.1 b.2.1) (pAndB (pEq a.2.2.1 b.2.2.1) (pAndB (pEq a.2.2.2.1 b.2.2.2.1) (pAndB (pEq a.2.2.2.2.1 b.2.2.2.2.1) (pAndB (pEq a.2.2.2.2.2.1 b.2.2.2.2.2.1)
  (pAndB (pEq a.2.2.2.2.2.2.1 b.2.2.2.2.2.2.1) (pAndB (pEq a.2.2.2.2.2.2.2.1 b.2.2.2.2.2.2.2.1) (pAndB (pEq a.2.2.2.2.2.2.2.2.1 b.2.2.2.2.2.2.2.2.1) (pAndB (pEq a.2.2.2.2.2.2.2.2.2.1 b.2.2.2.2.2.2.2.2.2.1)
  (pAndB (pBeq a.2.2.2.2.2.2.2.2.2.2.1 b.2.2.2.2.2.2.2.2.2.2.1) (pEq a.2.2.2.2.2.2.2.2.2.2.2.1 b.2.2.2.2.2.2.2.2.2.2.2.1)))))))))))
def eqNote (a b : NoteD) : Bool := pAndB (pEq a.1 b.1) (pAndB (pEq a.2.1 b.2.1) (pAndB (pBeq a.2.2.1 b.2.2.1) (pBeq a.2.2.2.1 b.2.2.2.1)))
def eqMsgAt (l m : List MsgD) (j : Nat) : Bool := eqMsg (pGet tyMsg l j) (pGet tyMsg m j)
def eqNoteAt (l m : List NoteD) (j : Nat) : Bool := eqNote (pGet tyNote l j) (pGet tyNote m j)
def sameMsgsF (l m : List MsgD) : Bool := decide (l.length = m.length) && allUpto (eqMsgAt l m) l.length
def sameNotesF (l m : List NoteD) : Bool := decide (l.length = m.length) && allUpto (eqNoteAt l m) l.length
def sameMsgsInv (l m : List MsgD) : Int × Unit → Prop := fun y => l.length = m.length ∧ UpInv (eqMsgAt l m) l.length y
def sameMsgsMu (l _m : List MsgD) : Int × Unit → Nat := UpMu l.length
def sameNotesInv (l m : List NoteD) : Int × Unit → Prop := fun y => l.length = m.length ∧ UpInv (eqNoteAt l m) l.length y
def sameNotesMu (l _m : List NoteD) : Int × Unit → Nat := UpMu l.length
abbrev vAnsR : List (Bool × Ty) := [(true, tyItem), (true, tyLock), (true, tyDoubt), (true, tyTxn), (false, .sl tyMsg), (false, .sl tyRec), (false, .sl tyNote)]
abbrev wNote : TyW := wStruct [wTxn, wBool, wBool]
def noNotes : List NoteD := []


/- a force -/
def cntvInv (si : List ItemD) (sl : List LockD) (sd : List DoubtD) (so : List TxnD) (ts tn : Int) : Int × Int × Unit → Prop := cntwInv si sl sd so ts tn
def cntvMu (_ : List ItemD) (sl : List LockD) (_ : List DoubtD) (_ : List TxnD) (_ _ : Int) : Int × Int × Unit → Nat := fun y => sl.length - y.1.toNat
def notesCopyInv (l : List NoteD) : Int × List NoteD × Unit → Prop := fun y => ∃ k : Nat, y = ((k : Int), l.take k, ()) ∧ k ≤ l.length
def notesCopyMu (l : List NoteD) : Int × List NoteD × Unit → Nat := fun y => l.length - y.1.toNat
def writesN (s : StoD) (t : TxnD) : Int := cond (pEq (askE s t 0) 0) (cntW s.2.1 t.1 t.2.1) 0
def forceE (c : CfgD) (l me : Int) (ss : List StoD) (ns : List NoteD) (t : TxnD) (_ : Bool) : Int :=
  cond (pEq (checkF c l me ss) 0) (cond (pEq (askE (pGet tySto ss (pNat l)) t 0) 0) (cond (pEq (writesN (pGet tySto ss (pNat l)) t) 0) 6 (cond (pGe (pInt ns.length) 60) 8 0)) (askE (pGet tySto ss (pNat l)) t 0)) (checkF c l me ss)
def forceS (s : StoD) (ns : List NoteD) (t : TxnD) (g : Bool) : AnsD := ((endS s t g).1, (endS s t g).2.1, (endS s t g).2.2.1, (endS s t g).2.2.2.1, [], [(6, t.1, t.2.1, 0, 0, 0, g, [], ())], pApp ns [(t.1, t.2.1, g, false, ())], ())
def forceA (c : CfgD) (l me : Int) (ss : List StoD) (ns : List NoteD) (t : TxnD) (g : Bool) : AnsD :=
  cond (pEq (forceE c l me ss ns t g) 0) (forceS (pGet tySto ss (pNat l)) ns t g) ([], [], [], [], [], [], [], ())

/- what is the same -/
def eqNAt (l m : List ND) (j : Nat) : Bool := pEq (pGet tyN l j).1 (pGet tyN m j).1
def sameIntsF (l m : List ND) : Bool := decide (l.length = m.length) && allUpto (eqNAt l m) l.length
def sameIntsInv (l m : List ND) : Int × Unit → Prop := fun y => l.length = m.length ∧ UpInv (eqNAt l m) l.length y
def sameIntsMu (l _m : List ND) : Int × Unit → Nat := UpMu l.length
def sameRecF (a b : RecD) : Bool := pEq a.1 b.1 && (pEq a.2.1 b.2.1 && pEq a.2.2.1 b.2.2.1) && pEq a.2.2.2.1 b.2.2.2.1 && pEq a.2.2.2.2.1 b.2.2.2.2.1 && pEq a.2.2.2.2.2.1 b.2.2.2.2.2.1 && pBeq a.2.2.2.2.2.2.1 b.2.2.2.2.2.2.1 && sameIntsF a.2.2.2.2.2.2.2.1 b.2.2.2.2.2.2.2.1
def eqRecAt (l m : List RecD) (j : Nat) : Bool := sameRecF (pGet tyRec l j) (pGet tyRec m j)
def sameRecsF (l m : List RecD) : Bool := decide (l.length = m.length) && allUpto (eqRecAt l m) l.length
def sameRecordsInv (l m : List RecD) : Int × Unit → Prop := fun y => l.length = m.length ∧ UpInv (eqRecAt l m) l.length y
def sameRecordsMu (l _m : List RecD) : Int × Unit → Nat := UpMu l.length
def sameAnswF (a b : AnsD) : Bool := sameStoF (a.1, a.2.1, a.2.2.1, a.2.2.2.1, ()) (b.1, b.2.1, b.2.2.1, b.2.2.2.1, ()) && sameMsgsF a.2.2.2.2.1 b.2.2.2.2.1 && sameRecsF a.2.2.2.2.2.1 b.2.2.2.2.2.1 && sameNotesF a.2.2.2.2.2.2.1 b.2.2.2.2.2.2.1

end Go.Proofs.Ytkhnakdmkhidbaa
