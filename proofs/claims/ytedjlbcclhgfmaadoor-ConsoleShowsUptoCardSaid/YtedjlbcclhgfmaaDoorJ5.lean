/- What operators see, the program's side: functions meet their contracts. The table of powers of ten lies where it is to lie. -/
import Derived.Test.YtedjlbcclhgfmaaDoorJ4
import Derived.Test.YtedjlbcclhgfmaaDoorJ3
import Derived.Test.YtedjlbcclhgfmaaDoorJ1

/- Contracts, and what the evaluator says, as plain propositions: CtxV. Printed by vc.py. -/
namespace Go.Proofs.YtedjlbcclhgfmaaDoor
open Go.RowKit Go.ChangeShapes Go.WideShapes Go.Deep

abbrev WriteString0_S : Shape := ⟨[.one (.lit (.pt 0 0)), .one (.rd .str)], [.box [.lit (.sp 0 TBl), .lit .sz]]⟩
abbrev WriteString0_f : Shape.den WriteString0_S → denVars [.slot 0 false tI, .slot 1 false .unit, .box 0 (vBld 0)] := fun x => (pInt (pStrLen x.1.2.1), (), ((), bl x.1.2.1, ()), ())
abbrev WriteString0_p : Shape.den WriteString0_S → List Prop := fun x => [pRoom (pStrLen x.1.2.1) 1]
def cWriteString0 : Ctr := shCtr WriteString0_S WriteString0_p [] [.slot 0 false tI, .slot 1 false .unit, .box 0 (vBld 0)] WriteString0_f
abbrev ShownOf_S : Shape := ⟨[pCfg, .one (.rd tI), .one (.rd (.sl tySto)), .one (.rd (.sl tyNotes)), pCmd], []⟩
abbrev ShownOf_f : Shape.den ShownOf_S → denVars [.slot 0 false .str, .slot 1 false tI] := fun x => (shwS x.1.1 x.1.2.1 x.1.2.2.1 x.1.2.2.2.1 x.1.2.2.2.2.1, shwE x.1.1 x.1.2.1 x.1.2.2.1 x.1.2.2.2.1 x.1.2.2.2.2.1, ())
abbrev ShownOf_p : Shape.den ShownOf_S → List Prop := fun x => [pLen x.1.1.2.1 < 4611686018427387904, pLen x.1.2.2.1 < 4611686018427387904, pLen x.1.2.2.2.1 < 4611686018427387904, (∀ q ∈ x.1.2.2.1, pLen q.1 < 4611686018427387904 ∧ pLen q.2.1 < 4611686018427387904 ∧ pLen q.2.2.1 < 4611686018427387904 ∧ pLen q.2.2.2.1 < 4611686018427387904), (∀ q ∈ x.1.2.2.2.1, pLen q.1 < 4611686018427387904), pBulk x.1.2.2.1 x.1.2.2.2.1]
def cShownOf : Ctr := shCtr ShownOf_S ShownOf_p [] [.slot 0 false .str, .slot 1 false tI] ShownOf_f
abbrev Itoa_S : Shape := ⟨[.one (.rd tI)], []⟩
abbrev Itoa_f : Shape.den Itoa_S → denVars [.slot 0 false .str] := fun x => (pItoa x.1.1, ())
abbrev Itoa_p : Shape.den Itoa_S → List Prop := fun x => [pLe (-9223372036854775808) x.1.1 = true, pLe x.1.1 9223372036854775807 = true]
def cItoa : Ctr := shCtr Itoa_S Itoa_p [] [.slot 0 false .str] Itoa_f
abbrev words_S : Shape := ⟨[.one (.rd tI), pTxn], []⟩
abbrev words_f : Shape.den words_S → denVars [.slot 0 false .str] := fun x => (wordsF x.1.1 x.1.2.1, ())
abbrev words_p : Shape.den words_S → List Prop := fun x => [pLe 0 x.1.1 = true, pLe x.1.1 5 = true, txnF x.1.2.1 = true]
def cwords : Ctr := shCtr words_S words_p [] [.slot 0 false .str] words_f
abbrev list_S : Shape := ⟨[.one (.lit (.pt 0 0)), .one (.rd tI), pSto], [.box [.lit (.sp 0 TBl), .own 1], .row tyBl]⟩
abbrev list_f : Shape.den list_S → denVars [.box 0 (vBld 0)] := fun x => (((), pApp x.2.2.1 (bl (listF x.1.2.1 x.1.2.2.1)), ()), ())
abbrev list_p : Shape.den list_S → List Prop := fun x => [pLe 0 x.1.2.1 = true, pLe x.1.2.1 5 = true, stoF x.1.2.2.1 = true, pRoom (pPlus (pLen x.2.2.1) (pStrLen (listF x.1.2.1 x.1.2.2.1))) 1, pLen x.1.2.2.1.1 < 4611686018427387904, pLen x.1.2.2.1.2.1 < 4611686018427387904, pLen x.1.2.2.1.2.2.1 < 4611686018427387904, pLen x.1.2.2.1.2.2.2.1 < 4611686018427387904]
def clist : Ctr := shCtr list_S list_p [1] [.box 0 (vBld 0)] list_f
abbrev audit_S : Shape := ⟨[.one (.lit (.pt 0 0)), .one (.rd tI), .one (.rd (.sl tyNote))], [.box [.lit (.sp 0 TBl), .own 1], .row tyBl]⟩
abbrev audit_f : Shape.den audit_S → denVars [.box 0 (vBld 0)] := fun x => (((), pApp x.2.2.1 (bl (auditF x.1.2.1 x.1.2.2.1)), ()), ())
abbrev audit_p : Shape.den audit_S → List Prop := fun x => [pLe 0 x.1.2.1 = true, pLe x.1.2.1 5 = true, notesOk x.1.2.2.1, pRoom (pPlus (pLen x.2.2.1) (pStrLen (auditF x.1.2.1 x.1.2.2.1))) 1, pLen x.1.2.2.1 < 4611686018427387904]
def caudit : Ctr := shCtr audit_S audit_p [1] [.box 0 (vBld 0)] audit_f
def cShow : Ctr := shCtr ShownOf_S ShownOf_p [] [.slot 0 false .str, .slot 1 false tI] ShownOf_f
abbrev eqsCtxV : List TypeId := []

def WriteString0_VC (s : ByteArray) : Prop :=
  pRoom (pPlus (pLen (vnil (PUnit × Int × PUnit))) (pLen (pStrCells s))) 1 ∧ (pInt (pStrLen s), (), ((), pApp (vnil (PUnit × Int × PUnit)) (pTie (pStrCells s)), ()), ()) = (pInt (pStrLen s), (), ((), bl s, ()), ())
set_option maxRecDepth 100000 in
theorem WriteString0_meets (hCopy : MtG tabsP 53 cCopy) (h : ∀ (s : ByteArray), (∀ p ∈ WriteString0_p ⟨((), s, ()), (((), (), ()), ())⟩, p) → WriteString0_VC s) : MtG tabsP 18 cWriteString0 :=
  meets_vc (E := envOfG Tryd.prog tabsP [(53, (false, cCopy))] eqsCtxV) (envOfG_ok (fun p hp => (by simp only [List.mem_cons, List.not_mem_nil, or_false] at hp; rcases hp with rfl; exact hCopy)) (by kernel_rfl)) WriteString0_S (fun x => fun ky9 st9 => look [] ky9) Tryd.func18 (by kernel_rfl) (by kernel_rfl) WriteString0_p [] [.slot 0 false tI, .slot 1 false .unit, .box 0 (vBld 0)] WriteString0_f (fun x => WriteString0_VC x.1.2.1) (fun x => by kernel_rfl) (fun x hp => h x.1.2.1 hp)

def words_VC (l : Int) (t : TxnD) : Prop :=
  pLe (-9223372036854775808 : Int) l = Bool.true ∧ pLe l (9223372036854775807 : Int) = Bool.true ∧ pStrFits (pItoa l) (bs [32]) ∧ pLe (-9223372036854775808 : Int) t.1 = Bool.true ∧ pLe t.1 (9223372036854775807 : Int) = Bool.true ∧ pStrFits
 (pStrApp (pItoa l) (bs [32])) (pItoa t.1) ∧ pStrFits (pStrApp (pStrApp (pItoa l) (bs [32])) (pItoa t.1)) (bs [32]) ∧ pLe (-9223372036854775808 : Int) t.2.1 = Bool.true ∧ pLe t.2.1 (9223372036854775807 : Int) = Bool.true ∧ pStrFits (pStrApp
 (pStrApp (pStrApp (pItoa l) (bs [32])) (pItoa t.1)) (bs [32])) (pItoa t.2.1) ∧ (pStrApp (pStrApp (pStrApp (pStrApp (pItoa l) (bs [32])) (pItoa t.1)) (bs [32])) (pItoa t.2.1), ()) = (wordsF l t, ())
set_option maxRecDepth 100000 in
theorem words_meets (hItoa : MtG tabsP 20 cItoa) (h : ∀ (l : Int) (t : TxnD), (∀ p ∈ words_p ⟨(l, t, ()), ()⟩, p) → words_VC l t) : MtG tabsP 65 cwords :=
  meets_vc (E := envOfG Tryd.prog tabsP [(20, (false, cItoa))] eqsCtxV) (envOfG_ok (fun p hp => (by simp only [List.mem_cons, List.not_mem_nil, or_false] at hp; rcases hp with rfl; exact hItoa)) (by kernel_rfl)) words_S (fun x => fun ky9 st9 => look [] ky9) Tryd.func65 (by kernel_rfl) (by kernel_rfl) words_p [] [.slot 0 false .str] words_f (fun x => words_VC x.1.1 x.1.2.1) (fun x => by kernel_rfl) (fun x hp => h x.1.1 x.1.2.1 hp)

abbrev list_v0 (s : StoD) (y0 : kden Bool.false tI × denCells (vBld 0) × PUnit) := ((pGet tyItem s.2.2.1 (pNat y0.1)).1, (pGet tyItem s.2.2.1 (pNat y0.1)).2.1, ())
abbrev list_v1 (s : StoD) (y0 : kden Bool.false tI × denCells (vBld 0) × PUnit) := (pGet tyItem s.2.2.1 (pNat y0.1)).2.2.1
abbrev list_v2 (l : Int) (s : StoD) (y0 : kden Bool.false tI × denCells (vBld 0) × PUnit) := (pAdd IntKind.i64 y0.1 (1 : Int), ((), pApp y0.2.1.2.1 (bl (pStrApp (pStrApp (pStrApp (wordsF l (list_v0 s y0)) (bs [32])) (pItoa (list_v1 s y0))) (bs [10]))), ()), ())

def list_VC (l : Int) (s : StoD) (xs : List BD) : Prop :=
  lstInv l s xs ((0 : Int), ((), xs, ()), ()) ∧ ∀ (y0 : kden Bool.false tI × denCells (vBld 0) × PUnit), lstInv l s xs y0 → bif pLt y0.1 (pInt (pLen s.2.2.1)) then pIn y0.1 (pLen s.2.2.1) ∧ Nat.le (Nat.succ (pLen s.1)) 4611686018427387904 ∧
 Nat.le (Nat.succ (pLen s.2.1)) 4611686018427387904 ∧ Nat.le (Nat.succ (pLen s.2.2.1)) 4611686018427387904 ∧ Nat.le (Nat.succ (pLen s.2.2.2.1)) 4611686018427387904 ∧ bif prepF s (list_v0 s y0) then pLe (0 : Int) l = Bool.true ∧ pLe l (5 :
 Int) = Bool.true ∧ txnF (list_v0 s y0) = Bool.true ∧ pStrFits (wordsF l (list_v0 s y0)) (bs [32]) ∧ pLe (-9223372036854775808 : Int) (list_v1 s y0) = Bool.true ∧ pLe (list_v1 s y0) (9223372036854775807 : Int) = Bool.true ∧ pStrFits (pStrApp
 (wordsF l (list_v0 s y0)) (bs [32])) (pItoa (list_v1 s y0)) ∧ pStrFits (pStrApp (pStrApp (wordsF l (list_v0 s y0)) (bs [32])) (pItoa (list_v1 s y0))) (bs [10]) ∧ pRoom (pPlus (pLen y0.2.1.2.1) (pStrLen (pStrApp (pStrApp (pStrApp (wordsF l
 (list_v0 s y0)) (bs [32])) (pItoa (list_v1 s y0))) (bs [10])))) 1 ∧ lstInv l s xs (list_v2 l s y0) ∧ Nat.le (Nat.succ (lstMu l s xs (list_v2 l s y0))) (lstMu l s xs y0) else lstInv l s xs (pAdd IntKind.i64 y0.1 (1 : Int), ((), y0.2.1.2),
 ()) ∧ Nat.le (Nat.succ (lstMu l s xs (pAdd IntKind.i64 y0.1 (1 : Int), ((), y0.2.1.2), ()))) (lstMu l s xs y0) else (((), y0.2.1.2), ()) = (((), pApp xs (bl (listF l s)), ()), ())
set_option maxRecDepth 100000 in
theorem list_meets (hprepared : MtG tabsP 33 cprepared) (hwords : MtG tabsP 65 cwords) (hItoa : MtG tabsP 20 cItoa) (hWriteString : MtG tabsP 18 cWriteString) (h : ∀ (l : Int) (s : StoD) (xs : List BD), (∀ p ∈ list_p ⟨((), l, s, ()), (((), (), ()), xs, ())⟩, p) → list_VC l s xs) : MtG tabsP 31 clist :=
  meets_vc (E := envOfG Tryd.prog tabsP [(33, (false, cprepared)), (65, (false, cwords)), (20, (false, cItoa)), (18, (false, cWriteString))] eqsCtxV) (envOfG_ok (fun p hp => (by simp only [List.mem_cons, List.not_mem_nil, or_false] at hp; rcases hp with rfl | rfl | rfl | rfl; exact hprepared; exact hwords; exact hItoa; exact hWriteString)) (by kernel_rfl)) list_S (fun x => fun ky9 st9 => look [(2, (⟨[.slot 11 false tI, .box 0 (vBld 0)], lstInv x.1.2.1 x.1.2.2.1 x.2.2.1, lstMu x.1.2.1 x.1.2.2.1 x.2.2.1⟩ : Ann))] ky9) Tryd.func31 (by kernel_rfl) (by kernel_rfl) list_p [1] [.box 0 (vBld 0)] list_f (fun x => list_VC x.1.2.1 x.1.2.2.1 x.2.2.1) (fun x => by kernel_rfl) (fun x hp => h x.1.2.1 x.1.2.2.1 x.2.2.1 hp)

abbrev audit_v0 (n : List NoteD) (y0 : kden Bool.false tI × denCells (vBld 0) × PUnit) := ((pGet tyNote n (pNat y0.1)).1, (pGet tyNote n (pNat y0.1)).2.1, ())
abbrev audit_v1 (l : Int) (n : List NoteD) (y0 : kden Bool.false tI × denCells (vBld 0) × PUnit) := pApp y0.2.1.2.1 (bl (wordsF l (audit_v0 n y0)))
abbrev audit_v2 (n : List NoteD) (y0 : kden Bool.false tI × denCells (vBld 0) × PUnit) := (pGet tyNote n (pNat y0.1)).2.2.2.1
abbrev audit_v3 (l : Int) (n : List NoteD) (y0 : kden Bool.false tI × denCells (vBld 0) × PUnit) := (pAdd IntKind.i64 y0.1 (1 : Int), ((), pApp (pApp (pApp (audit_v1 l n y0) (bl (bs [32, 99, 111, 109, 109, 105, 116]))) (bl (bs [32, 100, 97, 109, 97, 103, 101]))) (((), (10 : Int), ()) :: vnil (PUnit × Int × PUnit)), ()), ())
abbrev audit_v4 (l : Int) (n : List NoteD) (y0 : kden Bool.false tI × denCells (vBld 0) × PUnit) := (pAdd IntKind.i64 y0.1 (1 : Int), ((), pApp (pApp (audit_v1 l n y0) (bl (bs [32, 99, 111, 109, 109, 105, 116]))) (((), (10 : Int), ()) :: vnil (PUnit × Int × PUnit)), ()), ())
abbrev audit_v5 (l : Int) (n : List NoteD) (y0 : kden Bool.false tI × denCells (vBld 0) × PUnit) := (pAdd IntKind.i64 y0.1 (1 : Int), ((), pApp (pApp (pApp (audit_v1 l n y0) (bl (bs [32, 97, 98, 111, 114, 116]))) (bl (bs [32, 100, 97, 109, 97, 103, 101]))) (((), (10 : Int), ()) :: vnil (PUnit × Int × PUnit)), ()), ())
abbrev audit_v6 (l : Int) (n : List NoteD) (y0 : kden Bool.false tI × denCells (vBld 0) × PUnit) := (pAdd IntKind.i64 y0.1 (1 : Int), ((), pApp (pApp (audit_v1 l n y0) (bl (bs [32, 97, 98, 111, 114, 116]))) (((), (10 : Int), ()) :: vnil (PUnit × Int × PUnit)), ()), ())

def audit_VC (l : Int) (n : (List NoteD)) (xs : List BD) : Prop :=
  audInv l n xs ((0 : Int), ((), xs, ()), ()) ∧ ∀ (y0 : kden Bool.false tI × denCells (vBld 0) × PUnit), audInv l n xs y0 → bif pLt y0.1 (pInt (pLen n)) then pIn y0.1 (pLen n) ∧ pLe (0 : Int) l = Bool.true ∧ pLe l (5 : Int) = Bool.true ∧ txnF
 (audit_v0 n y0) = Bool.true ∧ pRoom (pPlus (pLen y0.2.1.2.1) (pStrLen (wordsF l (audit_v0 n y0)))) 1 ∧ bif (pGet tyNote n (pNat y0.1)).2.2.1 then pRoom (pPlus (pLen (audit_v1 l n y0)) (pStrLen (bs [32, 99, 111, 109, 109, 105, 116]))) 1 ∧
 bif audit_v2 n y0 then pRoom (pPlus (pLen (pApp (audit_v1 l n y0) (bl (bs [32, 99, 111, 109, 109, 105, 116])))) (pStrLen (bs [32, 100, 97, 109, 97, 103, 101]))) 1 ∧ pRoom (pPlus (pLen (pApp (pApp (audit_v1 l n y0) (bl (bs [32, 99, 111, 109,
 109, 105, 116]))) (bl (bs [32, 100, 97, 109, 97, 103, 101])))) 1) 1 ∧ audInv l n xs (audit_v3 l n y0) ∧ Nat.le (Nat.succ (audMu l n xs (audit_v3 l n y0))) (audMu l n xs y0) else pRoom (pPlus (pLen (pApp (audit_v1 l n y0) (bl (bs [32, 99,
 111, 109, 109, 105, 116])))) 1) 1 ∧ audInv l n xs (audit_v4 l n y0) ∧ Nat.le (Nat.succ (audMu l n xs (audit_v4 l n y0))) (audMu l n xs y0) else pRoom (pPlus (pLen (audit_v1 l n y0)) (pStrLen (bs [32, 97, 98, 111, 114, 116]))) 1 ∧ bif
 audit_v2 n y0 then pRoom (pPlus (pLen (pApp (audit_v1 l n y0) (bl (bs [32, 97, 98, 111, 114, 116])))) (pStrLen (bs [32, 100, 97, 109, 97, 103, 101]))) 1 ∧ pRoom (pPlus (pLen (pApp (pApp (audit_v1 l n y0) (bl (bs [32, 97, 98, 111, 114,
 116]))) (bl (bs [32, 100, 97, 109, 97, 103, 101])))) 1) 1 ∧ audInv l n xs (audit_v5 l n y0) ∧ Nat.le (Nat.succ (audMu l n xs (audit_v5 l n y0))) (audMu l n xs y0) else pRoom (pPlus (pLen (pApp (audit_v1 l n y0) (bl (bs [32, 97, 98, 111,
 114, 116])))) 1) 1 ∧ audInv l n xs (audit_v6 l n y0) ∧ Nat.le (Nat.succ (audMu l n xs (audit_v6 l n y0))) (audMu l n xs y0) else (((), y0.2.1.2), ()) = (((), pApp xs (bl (auditF l n)), ()), ())
set_option maxRecDepth 100000 in
theorem audit_meets (hwords : MtG tabsP 65 cwords) (hWriteString : MtG tabsP 18 cWriteString) (hWriteByte : MtG tabsP 23 cWriteByte) (h : ∀ (l : Int) (n : (List NoteD)) (xs : List BD), (∀ p ∈ audit_p ⟨((), l, n, ()), (((), (), ()), xs, ())⟩, p) → audit_VC l n xs) : MtG tabsP 32 caudit :=
  meets_vc (E := envOfG Tryd.prog tabsP [(65, (false, cwords)), (18, (false, cWriteString)), (23, (false, cWriteByte))] eqsCtxV) (envOfG_ok (fun p hp => (by simp only [List.mem_cons, List.not_mem_nil, or_false] at hp; rcases hp with rfl | rfl | rfl; exact hwords; exact hWriteString; exact hWriteByte)) (by kernel_rfl)) audit_S (fun x => fun ky9 st9 => look [(1, (⟨[.slot 10 false tI, .box 0 (vBld 0)], audInv x.1.2.1 x.1.2.2.1 x.2.2.1, audMu x.1.2.1 x.1.2.2.1 x.2.2.1⟩ : Ann))] ky9) Tryd.func32 (by kernel_rfl) (by kernel_rfl) audit_p [1] [.box 0 (vBld 0)] audit_f (fun x => audit_VC x.1.2.1 x.1.2.2.1 x.2.2.1) (fun x => by kernel_rfl) (fun x hp => h x.1.2.1 x.1.2.2.1 x.2.2.1 hp)

abbrev Show_v0 (c : CfgD) (l : Int) (ss : List StoD) (ns : List NotesD) (x : CmdD) := (shwS c l ss ns x, shwE c l ss ns x, ())
abbrev Show_v1 (ss : List StoD) (y0 : kden Bool.false tI × PUnit) := pGet tySto ss (pNat y0.1)
abbrev Show_v2 (ns : List NotesD) (y1 : kden Bool.false tI × PUnit) := (pGet tyNotes ns (pNat y1.1)).1
abbrev Show_v3 (c : CfgD) (l : Int) := pGet tyTxn c.2.1 (pNat l)
abbrev Show_v4 (ss : List StoD) (y3 : kden Bool.false tI × denCells (vBld 320) × PUnit) := pGet tySto ss (pNat y3.1)
abbrev Show_v5 (_ : CfgD) (_ : Int) (ss : List StoD) (_ : List NotesD) (_ : CmdD) (_ : kden Bool.false tI × PUnit) (_ : kden Bool.false tI × PUnit) (y3 : kden Bool.false tI × denCells (vBld 320) × PUnit) := (pAdd IntKind.i64 y3.1 (1 : Int), ((), pApp y3.2.1.2.1 (bl (listF y3.1 (Show_v4 ss y3))), ()), ())
abbrev Show_v6 (ns : List NotesD) (y3 : kden Bool.false tI × denCells (vBld 320) × PUnit) := (pGet tyNotes ns (pNat y3.1)).1
abbrev Show_v7 (_ : CfgD) (_ : Int) (_ : List StoD) (ns : List NotesD) (_ : CmdD) (_ : kden Bool.false tI × PUnit) (_ : kden Bool.false tI × PUnit) (y3 : kden Bool.false tI × denCells (vBld 320) × PUnit) := (pAdd IntKind.i64 y3.1 (1 : Int), ((), pApp y3.2.1.2.1 (bl (auditF y3.1 (Show_v6 ns y3))), ()), ())
abbrev Show_v8 (ss : List StoD) (x : CmdD) := pGet tySto ss (pNat x.2.1)
abbrev Show_t9 (c : CfgD) (l : Int) (ss : List StoD) (ns : List NotesD) (x : CmdD) : Prop := pRoom (pStrLen (bs [117, 110, 107, 110, 111, 119, 110, 10])) 1 ∧ pIsBl (bl (bs [117, 110, 107, 110, 111, 119, 110, 10])) ∧ (unBl (bl (bs [117, 110, 107, 110, 111, 119, 110, 10])), (0 : Int), ()) = Show_v0 c l ss ns x
abbrev Show_v10 (c : CfgD) (l : Int) (ss : List StoD) (ns : List NotesD) (x : CmdD) := bif pEq x.1 (2 : Int) then bif pGe x.2.1 (0 : Int) then bif pLt x.2.1 (pInt (pLen c.2.1)) then pIn l (pLen c.2.1) ∧ pIn x.2.1 (pLen c.2.1) ∧ bif aboveF (Show_v3 c l) (pGet tyTxn c.2.1 (pNat x.2.1)) then pIn x.2.1 (pLen ss) ∧ Nat.le
 (Nat.succ (pLen (Show_v8 ss x).1)) 4611686018427387904 ∧ Nat.le (Nat.succ (pLen (Show_v8 ss x).2.1)) 4611686018427387904 ∧ Nat.le (Nat.succ (pLen (Show_v8 ss x).2.2.1)) 4611686018427387904 ∧ Nat.le (Nat.succ (pLen (Show_v8 ss x).2.2.2.1))
 4611686018427387904 ∧ bif prepF (Show_v8 ss x) (x.2.2.1, x.2.2.2.1, ()) then pRoom (pStrLen (bs [112, 114, 101, 112, 97, 114, 101, 100, 10])) 1 ∧ pIsBl (bl (bs [112, 114, 101, 112, 97, 114, 101, 100, 10])) ∧ (unBl (bl (bs [112, 114, 101,
 112, 97, 114, 101, 100, 10])), (0 : Int), ()) = Show_v0 c l ss ns x else Show_t9 c l ss ns x else Show_t9 c l ss ns x else Show_t9 c l ss ns x else Show_t9 c l ss ns x else ((bs []), (3 : Int), ()) = Show_v0 c l ss ns x
abbrev Show_v11 (ss : List StoD) (y2 : kden Bool.false tI × denCells (vBld 320) × PUnit) := pGet tySto ss (pNat y2.1)
abbrev Show_v12 (_ : CfgD) (_ : Int) (ss : List StoD) (_ : List NotesD) (_ : CmdD) (_ : kden Bool.false tI × PUnit) (_ : kden Bool.false tI × PUnit) (y2 : kden Bool.false tI × denCells (vBld 320) × PUnit) := (pAdd IntKind.i64 y2.1 (1 : Int), ((), pApp y2.2.1.2.1 (bl (listF y2.1 (Show_v11 ss y2))), ()), ())
abbrev Show_v13 (ns : List NotesD) (y2 : kden Bool.false tI × denCells (vBld 320) × PUnit) := (pGet tyNotes ns (pNat y2.1)).1
abbrev Show_v14 (_ : CfgD) (_ : Int) (_ : List StoD) (ns : List NotesD) (_ : CmdD) (_ : kden Bool.false tI × PUnit) (_ : kden Bool.false tI × PUnit) (y2 : kden Bool.false tI × denCells (vBld 320) × PUnit) := (pAdd IntKind.i64 y2.1 (1 : Int), ((), pApp y2.2.1.2.1 (bl (auditF y2.1 (Show_v13 ns y2))), ()), ())

def Show_VC (c : CfgD) (l : Int) (ss : (List StoD)) (ns : (List NotesD)) (x : CmdD) : Prop :=
  Nat.le (Nat.succ (pLen c.2.1)) 4611686018427387904 ∧ bif pNe (cfgF c) (0 : Int) then ((bs []), cfgF c, ()) = Show_v0 c l ss ns x else bif pLt l (0 : Int) then ((bs []), (6 : Int), ()) = Show_v0 c l ss ns x else bif pGe l (pInt (pLen c.2.1))
 then ((bs []), (6 : Int), ()) = Show_v0 c l ss ns x else bif pNe (pInt (pLen ss)) (pInt (pLen c.2.1)) then ((bs []), (9 : Int), ()) = Show_v0 c l ss ns x else bif pNe (pInt (pLen ns)) (pInt (pLen c.2.1)) then ((bs []), (9 : Int), ()) =
 Show_v0 c l ss ns x else shAInv ss ((0 : Int), ()) ∧ ∀ (y0 : kden Bool.false tI × PUnit), shAInv ss y0 → bif pLt y0.1 (pInt (pLen ss)) then pIn y0.1 (pLen ss) ∧ Nat.le (Nat.succ (pLen (Show_v1 ss y0).1)) 4611686018427387904 ∧ Nat.le
 (Nat.succ (pLen (Show_v1 ss y0).2.1)) 4611686018427387904 ∧ Nat.le (Nat.succ (pLen (Show_v1 ss y0).2.2.1)) 4611686018427387904 ∧ Nat.le (Nat.succ (pLen (Show_v1 ss y0).2.2.2.1)) 4611686018427387904 ∧ bif pNe (bif stoF (Show_v1 ss y0) then
 (0 : Int) else (9 : Int)) (0 : Int) then ((bs []), bif stoF (Show_v1 ss y0) then (0 : Int) else (9 : Int), ()) = Show_v0 c l ss ns x else shAInv ss (pAdd IntKind.i64 y0.1 (1 : Int), ()) ∧ Nat.le (Nat.succ (shAMu ss (pAdd IntKind.i64 y0.1 (1
 : Int), ()))) (shAMu ss y0) else shBInv ns ((0 : Int), ()) ∧ ∀ (y1 : kden Bool.false tI × PUnit), shBInv ns y1 → bif pLt y1.1 (pInt (pLen ns)) then pIn y1.1 (pLen ns) ∧ shCInv ns y1.1 ((0 : Int), ()) ∧ ∀ (y4 : kden Bool.false tI × PUnit),
 shCInv ns y1.1 y4 → bif pLt y4.1 (pInt (pLen (Show_v2 ns y1))) then pIn y4.1 (pLen (Show_v2 ns y1)) ∧ Nat.le (Nat.succ (pLen (vnil (Int × Int × Int × PUnit)))) 4611686018427387904 ∧ Nat.le (Nat.succ (pLen (vnil (Int × Int × Int × Bool × Int
 × Int × PUnit)))) 4611686018427387904 ∧ Nat.le (Nat.succ (pLen (vnil (Int × Int × Int × PUnit)))) 4611686018427387904 ∧ Nat.le (Nat.succ (pLen (vnil (Int × Int × PUnit)))) 4611686018427387904 ∧ bif pNe (askE (vnil (Int × Int × Int × PUnit),
 vnil (Int × Int × Int × Bool × Int × Int × PUnit), vnil (Int × Int × Int × PUnit), vnil (Int × Int × PUnit), ()) ((pGet tyNote (Show_v2 ns y1) (pNat y4.1)).1, (pGet tyNote (Show_v2 ns y1) (pNat y4.1)).2.1, ()) (0 : Int)) (0 : Int) then ((bs
 []), (9 : Int), ()) = Show_v0 c l ss ns x else shCInv ns y1.1 (pAdd IntKind.i64 y4.1 (1 : Int), ()) ∧ Nat.le (Nat.succ (shCMu ns y1.1 (pAdd IntKind.i64 y4.1 (1 : Int), ()))) (shCMu ns y1.1 y4) else shBInv ns (pAdd IntKind.i64 y1.1 (1 :
 Int), ()) ∧ Nat.le (Nat.succ (shBMu ns (pAdd IntKind.i64 y1.1 (1 : Int), ()))) (shBMu ns y1) else bif pEq x.1 (1 : Int) then bif pEq x.1 (1 : Int) then shDInv c l ss ns x ((0 : Int), ((), vnil (PUnit × Int × PUnit), ()), ()) ∧ ∀ (y3 : kden
 Bool.false tI × denCells (vBld 320) × PUnit), shDInv c l ss ns x y3 → bif pLt y3.1 (pInt (pLen c.2.1)) then pIn l (pLen c.2.1) ∧ pIn y3.1 (pLen c.2.1) ∧ bif pNot (aboveF (Show_v3 c l) (pGet tyTxn c.2.1 (pNat y3.1))) then shDInv c l ss ns x
 (pAdd IntKind.i64 y3.1 (1 : Int), ((), y3.2.1.2), ()) ∧ Nat.le (Nat.succ (shDMu c l ss ns x (pAdd IntKind.i64 y3.1 (1 : Int), ((), y3.2.1.2), ()))) (shDMu c l ss ns x y3) else bif pEq x.1 (1 : Int) then pIn y3.1 (pLen ss) ∧ pLe (0 : Int)
 y3.1 = Bool.true ∧ pLe y3.1 (5 : Int) = Bool.true ∧ stoF (Show_v4 ss y3) = Bool.true ∧ pRoom (pPlus (pLen y3.2.1.2.1) (pStrLen (listF y3.1 (Show_v4 ss y3)))) 1 ∧ Nat.le (Nat.succ (pLen (Show_v4 ss y3).1)) 4611686018427387904 ∧ Nat.le
 (Nat.succ (pLen (Show_v4 ss y3).2.1)) 4611686018427387904 ∧ Nat.le (Nat.succ (pLen (Show_v4 ss y3).2.2.1)) 4611686018427387904 ∧ Nat.le (Nat.succ (pLen (Show_v4 ss y3).2.2.2.1)) 4611686018427387904 ∧ shDInv c l ss ns x (Show_v5 c l ss ns x
 y0 y1 y3) ∧ Nat.le (Nat.succ (shDMu c l ss ns x (Show_v5 c l ss ns x y0 y1 y3))) (shDMu c l ss ns x y3) else pIn y3.1 (pLen ns) ∧ pLe (0 : Int) y3.1 = Bool.true ∧ pLe y3.1 (5 : Int) = Bool.true ∧ notesOk (Show_v6 ns y3) ∧ pRoom (pPlus (pLen
 y3.2.1.2.1) (pStrLen (auditF y3.1 (Show_v6 ns y3)))) 1 ∧ Nat.le (Nat.succ (pLen (Show_v6 ns y3))) 4611686018427387904 ∧ shDInv c l ss ns x (Show_v7 c l ss ns x y0 y1 y3) ∧ Nat.le (Nat.succ (shDMu c l ss ns x (Show_v7 c l ss ns x y0 y1 y3)))
 (shDMu c l ss ns x y3) else pIsBl y3.2.1.2.1 ∧ (unBl y3.2.1.2.1, (0 : Int), ()) = Show_v0 c l ss ns x else Show_v10 c l ss ns x else bif pEq x.1 (4 : Int) then shDInv c l ss ns x ((0 : Int), ((), vnil (PUnit × Int × PUnit), ()), ()) ∧ ∀ (y2
 : kden Bool.false tI × denCells (vBld 320) × PUnit), shDInv c l ss ns x y2 → bif pLt y2.1 (pInt (pLen c.2.1)) then pIn l (pLen c.2.1) ∧ pIn y2.1 (pLen c.2.1) ∧ bif pNot (aboveF (Show_v3 c l) (pGet tyTxn c.2.1 (pNat y2.1))) then shDInv c l
 ss ns x (pAdd IntKind.i64 y2.1 (1 : Int), ((), y2.2.1.2), ()) ∧ Nat.le (Nat.succ (shDMu c l ss ns x (pAdd IntKind.i64 y2.1 (1 : Int), ((), y2.2.1.2), ()))) (shDMu c l ss ns x y2) else bif pEq x.1 (1 : Int) then pIn y2.1 (pLen ss) ∧ pLe (0 :
 Int) y2.1 = Bool.true ∧ pLe y2.1 (5 : Int) = Bool.true ∧ stoF (Show_v11 ss y2) = Bool.true ∧ pRoom (pPlus (pLen y2.2.1.2.1) (pStrLen (listF y2.1 (Show_v11 ss y2)))) 1 ∧ Nat.le (Nat.succ (pLen (Show_v11 ss y2).1)) 4611686018427387904 ∧
 Nat.le (Nat.succ (pLen (Show_v11 ss y2).2.1)) 4611686018427387904 ∧ Nat.le (Nat.succ (pLen (Show_v11 ss y2).2.2.1)) 4611686018427387904 ∧ Nat.le (Nat.succ (pLen (Show_v11 ss y2).2.2.2.1)) 4611686018427387904 ∧ shDInv c l ss ns x (Show_v12 c
 l ss ns x y0 y1 y2) ∧ Nat.le (Nat.succ (shDMu c l ss ns x (Show_v12 c l ss ns x y0 y1 y2))) (shDMu c l ss ns x y2) else pIn y2.1 (pLen ns) ∧ pLe (0 : Int) y2.1 = Bool.true ∧ pLe y2.1 (5 : Int) = Bool.true ∧ notesOk (Show_v13 ns y2) ∧ pRoom
 (pPlus (pLen y2.2.1.2.1) (pStrLen (auditF y2.1 (Show_v13 ns y2)))) 1 ∧ Nat.le (Nat.succ (pLen (Show_v13 ns y2))) 4611686018427387904 ∧ shDInv c l ss ns x (Show_v14 c l ss ns x y0 y1 y2) ∧ Nat.le (Nat.succ (shDMu c l ss ns x (Show_v14 c l ss
 ns x y0 y1 y2))) (shDMu c l ss ns x y2) else pIsBl y2.2.1.2.1 ∧ (unBl y2.2.1.2.1, (0 : Int), ()) = Show_v0 c l ss ns x else Show_v10 c l ss ns x
set_option maxRecDepth 100000 in
theorem Show_meets (hlCheck : MtG tabsP 16 clCheck) (hCheck : MtG tabsP 28 cCheck) (hWrites : MtG tabsP 29 cWrites) (habove : MtG tabsP 30 cabove) (hlist : MtG tabsP 31 clist) (haudit : MtG tabsP 32 caudit) (hprepared : MtG tabsP 33 cprepared) (hWriteString0 : MtG tabsP 18 cWriteString0) (hBStr : MtG tabsP 24 cBStr) (h : ∀ (c : CfgD) (l : Int) (ss : (List StoD)) (ns : (List NotesD)) (x : CmdD), (∀ p ∈ ShownOf_p ⟨(c, l, ss, ns, x, ()), ()⟩, p) → Show_VC c l ss ns x) : MtG tabsP 9 cShow :=
  meets_vc (E := envOfG Tryd.prog tabsP [(16, (false, clCheck)), (28, (false, cCheck)), (29, (false, cWrites)), (30, (false, cabove)), (31, (false, clist)), (32, (false, caudit)), (33, (false, cprepared)), (18, (false, cWriteString0)), (24, (false, cBStr))] eqsCtxV) (envOfG_ok (fun p hp => (by simp only [List.mem_cons, List.not_mem_nil, or_false] at hp; rcases hp with rfl | rfl | rfl | rfl | rfl | rfl | rfl | rfl | rfl; exact hlCheck; exact hCheck; exact hWrites; exact habove; exact hlist; exact haudit; exact hprepared; exact hWriteString0; exact hBStr)) (by kernel_rfl)) ShownOf_S (fun x => fun ky9 st9 => look [(9, (⟨[.slot 55 false tI], shAInv x.1.2.2.1, shAMu x.1.2.2.1⟩ : Ann)), (16, (⟨[.slot 67 false tI], shBInv x.1.2.2.2.1, shBMu x.1.2.2.2.1⟩ : Ann)), (19, (⟨[.slot 73 false tI], shCInv x.1.2.2.2.1 (slotI st9 67), shCMu x.1.2.2.2.1 (slotI st9 67)⟩ : Ann)), (32, (⟨[.slot 96 false tI, .box (ptI st9 22) (vBld (ptI st9 22))], shDInv x.1.1 x.1.2.1 x.1.2.2.1 x.1.2.2.2.1 x.1.2.2.2.2.1, shDMu x.1.1 x.1.2.1 x.1.2.2.1 x.1.2.2.2.1 x.1.2.2.2.2.1⟩ : Ann))] ky9) Tryd.func9 (by kernel_rfl) (by kernel_rfl) ShownOf_p [] [.slot 0 false .str, .slot 1 false tI] ShownOf_f (fun x => Show_VC x.1.1 x.1.2.1 x.1.2.2.1 x.1.2.2.2.1 x.1.2.2.2.2.1) (fun x => by kernel_rfl) (fun x hp => h x.1.1 x.1.2.1 x.1.2.2.1 x.1.2.2.2.1 x.1.2.2.2.2.1 hp)

def ConsoleShows_VC (c : CfgD) (l : Int) (ss : (List StoD)) (ns : (List NotesD)) (x : CmdD) : Prop :=
  pRoom (pPlus (pLen (vnil (StoD))) (pLen ss)) 96 ∧ pRoom (pPlus (pLen (vnil (List (Int × Int × Bool × Bool × PUnit) × PUnit))) (pLen ns)) 24 ∧ Nat.le (Nat.succ (pLen c.2.1)) 4611686018427387904 ∧ Nat.le (Nat.succ (pLen (pApp (vnil (StoD))
 ss))) 4611686018427387904 ∧ Nat.le (Nat.succ (pLen (pApp (vnil (List (Int × Int × Bool × Bool × PUnit) × PUnit)) ns))) 4611686018427387904 ∧ (∀ (q0 : StoD), List.Mem q0 (pApp (vnil (StoD)) ss) → Nat.le (Nat.succ (pLen q0.1))
 4611686018427387904 ∧ Nat.le (Nat.succ (pLen q0.2.1)) 4611686018427387904 ∧ Nat.le (Nat.succ (pLen q0.2.2.1)) 4611686018427387904 ∧ Nat.le (Nat.succ (pLen q0.2.2.2.1)) 4611686018427387904) ∧ (∀ (q1 : List (Int × Int × Bool × Bool × PUnit) ×
 PUnit), List.Mem q1 (pApp (vnil (List (Int × Int × Bool × Bool × PUnit) × PUnit)) ns) → Nat.le (Nat.succ (pLen q1.1)) 4611686018427387904) ∧ pBulk (pApp (vnil (StoD)) ss) (pApp (vnil (List (Int × Int × Bool × Bool × PUnit) × PUnit)) ns) ∧
 Nat.le (Nat.succ (pLen c.2.1)) 4611686018427387904 ∧ Nat.le (Nat.succ (pLen ss)) 4611686018427387904 ∧ Nat.le (Nat.succ (pLen ns)) 4611686018427387904 ∧ (∀ (q2 : StoD), List.Mem q2 ss → Nat.le (Nat.succ (pLen q2.1)) 4611686018427387904 ∧
 Nat.le (Nat.succ (pLen q2.2.1)) 4611686018427387904 ∧ Nat.le (Nat.succ (pLen q2.2.2.1)) 4611686018427387904 ∧ Nat.le (Nat.succ (pLen q2.2.2.2.1)) 4611686018427387904) ∧ (∀ (q3 : List (Int × Int × Bool × Bool × PUnit) × PUnit), List.Mem q3
 ns → Nat.le (Nat.succ (pLen q3.1)) 4611686018427387904) ∧ pBulk ss ns ∧ bif pStrEq (shwS c l (pApp (vnil (StoD)) ss) (pApp (vnil (List (Int × Int × Bool × Bool × PUnit) × PUnit)) ns) x) (shwS c l ss ns x) then (pEq (shwE c l (pApp (vnil
 (StoD)) ss) (pApp (vnil (List (Int × Int × Bool × Bool × PUnit) × PUnit)) ns) x) (shwE c l ss ns x), ()) = (Bool.true, ()) else (Bool.false, ()) = (Bool.true, ())
end Go.Proofs.YtedjlbcclhgfmaaDoor

/- What operators see, the document's side: audits, answers to one question, errors; all of it as one contract. No condition. -/
namespace Go.Proofs.YtedjlbcclhgfmaaDoor
open Go.RowKit Go.Lib Go.IntWalk

theorem Shown2_ok : Mt 10 cShown2 := Shown2_meets cFaultN_ok labelMay_ok StoreMay1_ok plainTxn1_ok domin_ok preparedAt_ok Dec_ok fun c l ss ns xr hp => by
  have hc : pLen c.2.1 < 4611686018427387904 := (hp _ (List.mem_cons_of_mem _ List.mem_cons_self))
  have hls : pLen ss < 4611686018427387904 := (hp _ (List.mem_cons_of_mem _ (List.mem_cons_of_mem _ List.mem_cons_self)))
  have hln : pLen ns < 4611686018427387904 := (hp _ (List.mem_cons_of_mem _ (List.mem_cons_of_mem _ (List.mem_cons_of_mem _ List.mem_cons_self))))
  have h4 : ∀ q ∈ ss, pLen q.1 < 4611686018427387904 ∧ pLen q.2.1 < 4611686018427387904 ∧ pLen q.2.2.1 < 4611686018427387904 ∧ pLen q.2.2.2.1 < 4611686018427387904 := (hp _ (List.mem_cons_of_mem _ (List.mem_cons_of_mem _ (List.mem_cons_of_mem _ (List.mem_cons_of_mem _ List.mem_cons_self)))))
  have h1 : ∀ q ∈ ns, pLen q.1 < 4611686018427387904 := (hp _ (List.mem_cons_of_mem _ (List.mem_cons_of_mem _ (List.mem_cons_of_mem _ (List.mem_cons_of_mem _ (List.mem_cons_of_mem _ List.mem_cons_self))))))
  have hE : shwE c l ss ns (2, xr) = 0 := (hp _ (List.mem_cons_of_mem _ (List.mem_cons_of_mem _ (List.mem_cons_of_mem _ (List.mem_cons_of_mem _ (List.mem_cons_of_mem _ (List.mem_cons_of_mem _ (List.mem_cons_of_mem _ List.mem_cons_self))))))))
  clear hp
  obtain ⟨h, _⟩ := shw0 hE
  have hlS := h.lenS
  have hlN := h.lenN
  have hS : shwS c l ss ns (2, xr) = cond (stat c l ss xr) (bs [112, 114, 101, 112, 97, 114, 101, 100, 10]) (bs [117, 110, 107, 110, 111, 119, 110, 10]) := by unfold shwS; rw [hE]; rfl
  have no : stat c l ss xr = false → Shown2_t3 c l ss ns xr := fun e => by
    delta Shown2_t3
    rw [hS, e]; rfl
  delta Shown2_VC
  refine ⟨hc, h.cfg, hc, bif_ok (fun e => by rw [h.place] at e; cases e) fun _ => bif_ok (fun e => (lens_ne hlS e).elim) fun _ => bif_ok (fun e => (lens_ne hlN e).elim) fun _ => zoA_loop hls h.stos h4 (zoB_loop hln h.nots h1 ⟨hc, bif_ok (fun hpl => ?_) fun hpl => no (by unfold stat; rw [hpl]; rfl)⟩)⟩
  have hx := place_in hpl
  obtain ⟨k, hk⟩ : ∃ k : Nat, xr.1 = (k : Int) := ⟨xr.1.toNat, (Int.toNat_of_nonneg hx.1).symm⟩
  have hx2 : k < c.2.1.length := by have := hx.2; rw [hk] at this; exact Int.ofNat_lt.1 this
  have hks : k < ss.length := Nat.lt_of_lt_of_eq hx2 hlS.symm
  have hm : pGet tySto ss (pNat xr.1) ∈ ss := by rw [hk, pNat_coe, pGet_lt hks]; exact List.getElem_mem hks
  obtain ⟨q1, q2, q3, q4⟩ := h4 _ hm
  refine ⟨place_in h.place, hx, bif_ok (fun ha => ⟨by rw [hk]; exact pIn_coe.2 hks, q1, q2, q3, q4, bif_ok (fun hpr => ?_) fun hpr => no ?_⟩) fun ha => no ?_⟩
  · have ha : aboveF (pGet tyLab c.2.1 (pNat l)) (pGet tyLab c.2.1 (pNat xr.1)) = true := ha
    have hpr : prepF (pGet tySto ss (pNat xr.1)) (xr.2.1, xr.2.2.1, ()) = true := hpr
    have e : stat c l ss xr = true := by unfold stat; rw [hpl, ha, hpr]; rfl
    rw [hS, e]; rfl
  · have hpr : prepF (pGet tySto ss (pNat xr.1)) (xr.2.1, xr.2.2.1, ()) = false := hpr
    unfold stat; rw [hpr]; simp
  · have ha : aboveF (pGet tyLab c.2.1 (pNat l)) (pGet tyLab c.2.1 (pNat xr.1)) = false := ha
    unfold stat; rw [ha]; simp

def blkF4 (c : CfgD) (l : Int) (ns : List NotesD) (y2 y3 : kden Bool.false tI × kden Bool.false Ty.str × PUnit) : Prop :=
  so4FInv ns y3.2.1 y2.1 ((0 : Int), y3.2) ∧ ∀ (y4 : kden Bool.false tI × kden Bool.false Ty.str × PUnit), so4FInv ns y3.2.1 y2.1 y4 → pIn y2.1 (pLen ns) ∧ bif pLt y4.1 (pInt (pLen (Shown4_v2 ns y2))) then pIn y2.1 (pLen ns) ∧ pIn
  y4.1 (pLen (Shown4_v2 ns y2)) ∧ pLe (0 : Int) y2.1 = Bool.true ∧ pLe y2.1 (9223372036854775807 : Int) = Bool.true ∧ pStrFits y4.2.1 (pItoa y2.1) ∧ pStrFits (pStrApp y4.2.1 (pItoa y2.1)) (bs [32]) ∧ pLe (0 : Int) (Shown4_v7 ns y2
  y4) = Bool.true ∧ pLe (Shown4_v7 ns y2 y4) (9223372036854775807 : Int) = Bool.true ∧ pStrFits (pStrApp (pStrApp y4.2.1 (pItoa y2.1)) (bs [32])) (pItoa (Shown4_v7 ns y2 y4)) ∧ pStrFits (pStrApp (pStrApp (pStrApp y4.2.1 (pItoa
  y2.1)) (bs [32])) (pItoa (Shown4_v7 ns y2 y4))) (bs [32]) ∧ pLe (0 : Int) (Shown4_v8 ns y2 y4) = Bool.true ∧ pLe (Shown4_v8 ns y2 y4) (9223372036854775807 : Int) = Bool.true ∧ pStrFits (pStrApp (pStrApp (pStrApp (pStrApp y4.2.1
  (pItoa y2.1)) (bs [32])) (pItoa (Shown4_v7 ns y2 y4))) (bs [32])) (pItoa (Shown4_v8 ns y2 y4)) ∧ bif (pGet tyNote (Shown4_v2 ns y2) (pNat y4.1)).2.2.1 then pStrFits (Shown4_v9 ns y2 y4) (bs [32, 99, 111, 109, 109, 105, 116]) ∧ bif
  Shown4_v10 ns y2 y4 then pStrFits (pStrApp (Shown4_v9 ns y2 y4) (bs [32, 99, 111, 109, 109, 105, 116])) (bs [32, 100, 97, 109, 97, 103, 101]) ∧ pStrFits (pStrApp (pStrApp (Shown4_v9 ns y2 y4) (bs [32, 99, 111, 109, 109, 105,
  116])) (bs [32, 100, 97, 109, 97, 103, 101])) (bs [10]) ∧ so4FInv ns y3.2.1 y2.1 (pAdd IntKind.i64 y4.1 (1 : Int), pStrApp (pStrApp (pStrApp (Shown4_v9 ns y2 y4) (bs [32, 99, 111, 109, 109, 105, 116])) (bs [32, 100, 97, 109, 97,
  103, 101])) (bs [10]), ()) ∧ Nat.le (Nat.succ (so4FMu ns y3.2.1 y2.1 (pAdd IntKind.i64 y4.1 (1 : Int), pStrApp (pStrApp (pStrApp (Shown4_v9 ns y2 y4) (bs [32, 99, 111, 109, 109, 105, 116])) (bs [32, 100, 97, 109, 97, 103, 101]))
  (bs [10]), ()))) (so4FMu ns y3.2.1 y2.1 y4) else pStrFits (pStrApp (Shown4_v9 ns y2 y4) (bs [32, 99, 111, 109, 109, 105, 116])) (bs [10]) ∧ so4FInv ns y3.2.1 y2.1 (pAdd IntKind.i64 y4.1 (1 : Int), pStrApp (pStrApp (Shown4_v9 ns y2
  y4) (bs [32, 99, 111, 109, 109, 105, 116])) (bs [10]), ()) ∧ Nat.le (Nat.succ (so4FMu ns y3.2.1 y2.1 (pAdd IntKind.i64 y4.1 (1 : Int), pStrApp (pStrApp (Shown4_v9 ns y2 y4) (bs [32, 99, 111, 109, 109, 105, 116])) (bs [10]), ())))
  (so4FMu ns y3.2.1 y2.1 y4) else pStrFits (Shown4_v9 ns y2 y4) (bs [32, 97, 98, 111, 114, 116]) ∧ bif Shown4_v10 ns y2 y4 then pStrFits (pStrApp (Shown4_v9 ns y2 y4) (bs [32, 97, 98, 111, 114, 116])) (bs [32, 100, 97, 109, 97, 103,
  101]) ∧ pStrFits (pStrApp (pStrApp (Shown4_v9 ns y2 y4) (bs [32, 97, 98, 111, 114, 116])) (bs [32, 100, 97, 109, 97, 103, 101])) (bs [10]) ∧ so4FInv ns y3.2.1 y2.1 (pAdd IntKind.i64 y4.1 (1 : Int), pStrApp (pStrApp (pStrApp
  (Shown4_v9 ns y2 y4) (bs [32, 97, 98, 111, 114, 116])) (bs [32, 100, 97, 109, 97, 103, 101])) (bs [10]), ()) ∧ Nat.le (Nat.succ (so4FMu ns y3.2.1 y2.1 (pAdd IntKind.i64 y4.1 (1 : Int), pStrApp (pStrApp (pStrApp (Shown4_v9 ns y2
  y4) (bs [32, 97, 98, 111, 114, 116])) (bs [32, 100, 97, 109, 97, 103, 101])) (bs [10]), ()))) (so4FMu ns y3.2.1 y2.1 y4) else pStrFits (pStrApp (Shown4_v9 ns y2 y4) (bs [32, 97, 98, 111, 114, 116])) (bs [10]) ∧ so4FInv ns y3.2.1
  y2.1 (pAdd IntKind.i64 y4.1 (1 : Int), pStrApp (pStrApp (Shown4_v9 ns y2 y4) (bs [32, 97, 98, 111, 114, 116])) (bs [10]), ()) ∧ Nat.le (Nat.succ (so4FMu ns y3.2.1 y2.1 (pAdd IntKind.i64 y4.1 (1 : Int), pStrApp (pStrApp (Shown4_v9
  ns y2 y4) (bs [32, 97, 98, 111, 114, 116])) (bs [10]), ()))) (so4FMu ns y3.2.1 y2.1 y4) else so4DInv c l ns (pAdd IntKind.i64 y2.1 (1 : Int), y4.2) ∧ Nat.le (Nat.succ (so4DMu c l ns (pAdd IntKind.i64 y2.1 (1 : Int), y4.2)))
  (so4DMu c l ns y2)
theorem blkF4_ok {c : CfgD} {l : Int} {ss : List StoD} {ns : List NotesD} {k : Nat} {P : List UInt8} (hb : k < 4611686018427387904) (hk : k < ns.length) (hn : notesOk (pGet tyNotes ns k).1) (hP : P.length ≤ 83886080) (hN : (pGet tyNotes ns k).1.length ≤ 1048576)
    (nxt : ∀ z, z = (ba (P ++ auditL (k : Int) (pGet tyNotes ns k).1), ()) → so4DInv c l ns (pAdd .i64 (k : Int) 1, z) ∧ Nat.le (Nat.succ (so4DMu c l ns (pAdd .i64 (k : Int) 1, z))) (so4DMu c l ns ((k : Int), ba P, ()))) :
    blkF4 c l ns ((k : Int), ba P, ()) ((0 : Int), ba P, ()) := by
  unfold blkF4
  delta Shown4_v10 Shown4_v9 Shown4_v8 Shown4_v7 Shown4_v2
  dsimp only
  rw [pNat_coe]
  obtain ⟨N, hNe⟩ : ∃ N : List NoteD, (pGet tyNotes ns k).1 = N := ⟨_, rfl⟩
  refine ⟨StepInv.start ?_, fun y hy => ⟨pIn_coe.2 hk, ?_⟩⟩
  · show (ba P, ()) = (pStrApp (ba P) (ba []), ())
    rw [ba_app, List.append_nil]
  unfold so4FInv at hy
  simp only [pNat_coe, ba_app] at hy
  have hL : ∀ j, (auditL (k : Int) ((pGet tyNotes ns k).1.take j)).length ≤ 83886080 := fun j =>
    Nat.le_trans (audit_len (l := (k : Int)) (by omega) (by omega) ((pGet tyNotes ns k).1.take j) fun q hq => hn q (List.mem_of_mem_take hq)) (Nat.mul_le_mul_left 80 (Nat.le_trans (List.length_take_le' _ _) hN))
  rcases StepInv.round (Nat.lt_of_le_of_lt hN (by decide)) hy with ⟨j, rfl, hj, hb4, hz⟩ | rfl
  · rw [bif_true (by exact lt_true hj)]
    dsimp only
    rw [pNat_coe]
    have nx : ∀ z, z = (ba (P ++ auditL (k : Int) ((pGet tyNotes ns k).1.take (j + 1))), ()) → so4FInv ns (ba P) (k : Int) (pAdd IntKind.i64 (j : Int) (1 : Int), z) ∧ Nat.le (Nat.succ (so4FMu ns (ba P) (k : Int) (pAdd IntKind.i64 (j : Int) (1 : Int), z))) (so4FMu ns (ba P) (k : Int) ((j : Int), ba (P ++ auditL (k : Int) ((pGet tyNotes ns k).1.take j)), ())) := fun z e => by
      unfold so4FInv so4FMu
      simp only [pNat_coe, ba_app]
      exact hz z e
    have htk := audit_take (l := (k : Int)) (ns := (pGet tyNotes ns k).1) hj
    have hLen := hL j
    have hno := hn (pGet tyNote (pGet tyNotes ns k).1 j) (by rw [pGet_lt hj]; exact List.getElem_mem hj)
    rw [htk] at nx
    generalize hLe : auditL (k : Int) ((pGet tyNotes ns k).1.take j) = L at *
    obtain ⟨n, hn0⟩ : ∃ n : NoteD, pGet tyNote (pGet tyNotes ns k).1 j = n := ⟨_, rfl⟩
    rw [hn0] at nx hno
    rw [hn0]
    obtain ⟨t0, t1, t2, t3⟩ := txn_in hno
    have i0 := itoa_len (n := (k : Int)) (by omega) (by omega)
    have i1 : (itoa n.1).length ≤ 19 := itoa_len t0 t1
    have i2 : (itoa n.2.1).length ≤ 19 := itoa_len t2 t3
    have hd : nLine (k : Int) n = itoa (k : Int) ++ (32 :: (itoa n.1 ++ (32 :: itoa n.2.1))) ++ (cond n.2.2.1 [32, 99, 111, 109, 109, 105, 116] [32, 97, 98, 111, 114, 116] ++ (cond n.2.2.2.1 [32, 100, 97, 109, 97, 103, 101] [] ++ [10])) := rfl
    rw [hd] at nx
    simp only [pItoa_ba, b32, b10, bcom, babo, bdam, ba_app]
    have F : ∀ a b : List UInt8, a.length ≤ 1000000000 → b.length ≤ 1000 → pStrFits (ba a) (ba b) := fun a b h1 h2 => fits_ba (by omega)
    refine ⟨pIn_coe.2 hk, pIn_coe.2 hj, decide_eq_true (by omega), decide_eq_true (by omega), F _ _ ?_ (by omega), F _ _ ?_ (by decide), decide_eq_true t0, decide_eq_true t1, F _ _ ?_ (Nat.le_trans i1 (by decide)), F _ _ ?_ (by decide), decide_eq_true t2, decide_eq_true t3, F _ _ ?_ (Nat.le_trans i2 (by decide)), ?_⟩
    case refine_6 =>
      cases hy1 : n.2.2.1 <;> cases hy2 : n.2.2.2.1
      all_goals
        simp only [hy1, hy2, cond_true, cond_false] at nx ⊢
      · refine ⟨F _ _ ?_ (by decide), F _ _ ?_ (by decide), nx _ ?_⟩
        case refine_3 => simp only [List.append_assoc, List.cons_append, List.nil_append]
        all_goals (simp only [List.length_append, List.length_cons, List.length_nil]; omega)
      · refine ⟨F _ _ ?_ (by decide), F _ _ ?_ (by decide), F _ _ ?_ (by decide), nx _ ?_⟩
        case refine_4 => simp only [List.append_assoc, List.cons_append, List.nil_append]
        all_goals (simp only [List.length_append, List.length_cons, List.length_nil]; omega)
      · refine ⟨F _ _ ?_ (by decide), F _ _ ?_ (by decide), nx _ ?_⟩
        case refine_3 => simp only [List.append_assoc, List.cons_append, List.nil_append]
        all_goals (simp only [List.length_append, List.length_cons, List.length_nil]; omega)
      · refine ⟨F _ _ ?_ (by decide), F _ _ ?_ (by decide), F _ _ ?_ (by decide), nx _ ?_⟩
        case refine_4 => simp only [List.append_assoc, List.cons_append, List.nil_append]
        all_goals (simp only [List.length_append, List.length_cons, List.length_nil]; omega)
    all_goals (simp only [List.length_append, List.length_cons, List.length_nil]; omega)
  · rw [bif_false (by exact lt_self)]
    dsimp only
    exact nxt _ (by rw [List.take_length])

theorem Shown4_ok : Mt 10 cShown4 := Shown4_meets cFaultN_ok labelMayB_ok StoreMay1_ok plainTxn1_ok domin_ok preparedAt_ok Dec_ok fun c l ss ns xr hp => by
  have hc : pLen c.2.1 < 4611686018427387904 := (hp _ (List.mem_cons_of_mem _ List.mem_cons_self))
  have hls : pLen ss < 4611686018427387904 := (hp _ (List.mem_cons_of_mem _ (List.mem_cons_of_mem _ List.mem_cons_self)))
  have hln : pLen ns < 4611686018427387904 := (hp _ (List.mem_cons_of_mem _ (List.mem_cons_of_mem _ (List.mem_cons_of_mem _ List.mem_cons_self))))
  have h4 : ∀ q ∈ ss, pLen q.1 < 4611686018427387904 ∧ pLen q.2.1 < 4611686018427387904 ∧ pLen q.2.2.1 < 4611686018427387904 ∧ pLen q.2.2.2.1 < 4611686018427387904 := (hp _ (List.mem_cons_of_mem _ (List.mem_cons_of_mem _ (List.mem_cons_of_mem _ (List.mem_cons_of_mem _ List.mem_cons_self)))))
  have h1 : ∀ q ∈ ns, pLen q.1 < 4611686018427387904 := (hp _ (List.mem_cons_of_mem _ (List.mem_cons_of_mem _ (List.mem_cons_of_mem _ (List.mem_cons_of_mem _ (List.mem_cons_of_mem _ List.mem_cons_self))))))
  have hbulk : pBulk ss ns := (hp _ (List.mem_cons_of_mem _ (List.mem_cons_of_mem _ (List.mem_cons_of_mem _ (List.mem_cons_of_mem _ (List.mem_cons_of_mem _ (List.mem_cons_of_mem _ List.mem_cons_self)))))))
  have hE : shwE c l ss ns (4, xr) = 0 := (hp _ (List.mem_cons_of_mem _ (List.mem_cons_of_mem _ (List.mem_cons_of_mem _ (List.mem_cons_of_mem _ (List.mem_cons_of_mem _ (List.mem_cons_of_mem _ (List.mem_cons_of_mem _ List.mem_cons_self))))))))
  clear hp
  obtain ⟨h, _⟩ := shw0 hE
  have hlS := h.lenS
  have hlN := h.lenN
  have h6 := cfg_lens h.cfg
  delta Shown4_VC
  refine ⟨hc, h.cfg, hc, h.place, bif_ok (fun e => (lens_ne hlS e).elim) fun _ => bif_ok (fun e => (lens_ne hlN e).elim) fun _ => zoA_loop hls h.stos h4 (zoB_loop hln h.nots h1 ⟨StepInv.start rfl, fun y2 hy2 => ?_⟩)⟩
  rcases StepInv.round hc hy2 with ⟨k, rfl, hk, hb, hz⟩ | rfl
  · rw [bif_true (by exact lt_true hk)]
    have hkn : k < ns.length := Nat.lt_of_lt_of_eq hk hlN.symm
    have hks : k < ss.length := Nat.lt_of_lt_of_eq hk hlS.symm
    have fin : aboveF (pGet tyLab c.2.1 (pNat l)) (pGet tyLab c.2.1 k) = true → blkF4 c l ns ((k : Int), ba (partsTo (part4 c l ns) k), ()) ((0 : Int), ba (partsTo (part4 c l ns) k), ()) := fun ha => by
      refine blkF4_ok (ss := ss) hb hkn (nots_at h.nots hkn) (parts4_len h hbulk (Nat.le_of_lt hk)) (Nat.le_trans (Nat.le_trans (Nat.le_add_left _ (sumTo (fun i => (pGet tyNotes ns i).1.length) k)) (totN_ge (ns := ns) (k := k + 1) hkn)) (Nat.le_trans (Nat.le_add_left _ _) hbulk)) fun z ez => hz z (ez.trans ?_)
      show _ = (ba (partsTo (part4 c l ns) k ++ part4 c l ns k), ())
      rw [part4_above ha]
    refine ⟨place_in h.place, pIn_coe.2 hk, bif_ok (fun ha => ?_) fun ha => ?_⟩
    · have ha : aboveF (pGet tyLab c.2.1 (pNat l)) (pGet tyLab c.2.1 (pNat (k : Int))) = false := by simpa [pNot] using ha
      rw [pNat_coe] at ha
      refine hz _ ?_
      show (ba (partsTo (part4 c l ns) k), ()) = (ba (partsTo (part4 c l ns) k ++ part4 c l ns k), ())
      rw [part4_not ha, List.append_nil]
    · have ha : aboveF (pGet tyLab c.2.1 (pNat l)) (pGet tyLab c.2.1 (pNat (k : Int))) = true := by simpa [pNot] using ha
      rw [pNat_coe] at ha
      have hf := fin ha
      refine ⟨StepInv.start rfl, fun y3 hy3 => ⟨pIn_coe.2 hks, ?_⟩⟩
      obtain ⟨k3, hk3, rfl⟩ := hy3
      obtain rfl : k3 = 0 := Nat.le_zero.1 hk3
      exact bif_ok (fun _ => hf) fun _ => hf
  · rw [bif_false (by exact lt_self)]
    exact congrArg (·, (0 : Int), ()) (shwS_audit hE).symm

/- errors -/
theorem err_loops {ss : List StoD} {ns : List NotesD} {R : Prop} (hR : R) : zoAInv ss ((0 : Int), (), ()) ∧ ∀ y0 : Int × Unit × Unit, zoAInv ss y0 → bif pLt y0.1 (pInt (pLen ss)) then zoBInv ns ((0 : Int), (), ()) ∧ ∀ y2 : Int × Unit × Unit, zoBInv ns y2 → bif pLt y2.1 (pInt (pLen ns)) then R else R else
    zoBInv ns ((0 : Int), (), ()) ∧ ∀ y1 : Int × Unit × Unit, zoBInv ns y1 → bif pLt y1.1 (pInt (pLen ns)) then R else R :=
  ⟨StepInv.start rfl, fun _ _ => bif_ok (fun _ => ⟨StepInv.start rfl, fun _ _ => bif_ok (fun _ => hR) fun _ => hR⟩) fun _ => ⟨StepInv.start rfl, fun _ _ => bif_ok (fun _ => hR) fun _ => hR⟩⟩
theorem ShownE1_ok : Mt 10 cShownE1 := ShownE1_meets cFaultN_ok fun c l ss ns x hp => ⟨(hp _ List.mem_cons_self), (hp _ (List.mem_cons_of_mem _ (List.mem_cons_of_mem _ (List.mem_cons_of_mem _ (List.mem_cons_of_mem _ (List.mem_cons_of_mem _ (List.mem_cons_of_mem _ List.mem_cons_self))))))), err_loops rfl⟩
theorem ShownE2_ok : Mt 10 cShownE2 := ShownE2_meets cFaultN_ok fun c l ss ns x hp => ⟨(hp _ List.mem_cons_self), (hp _ (List.mem_cons_of_mem _ (List.mem_cons_of_mem _ (List.mem_cons_of_mem _ (List.mem_cons_of_mem _ (List.mem_cons_of_mem _ (List.mem_cons_of_mem _ List.mem_cons_self))))))), err_loops rfl⟩
theorem ShownE7_ok : Mt 10 cShownE7 := ShownE7_meets cFaultN_ok fun c l ss ns x hp => ⟨(hp _ List.mem_cons_self), (hp _ (List.mem_cons_of_mem _ (List.mem_cons_of_mem _ (List.mem_cons_of_mem _ (List.mem_cons_of_mem _ (List.mem_cons_of_mem _ (List.mem_cons_of_mem _ List.mem_cons_self))))))), err_loops rfl⟩
theorem ShownE6_ok : Mt 10 cShownE6 := ShownE6_meets cFaultN_ok labelMayB_ok fun c l ss ns x hp => ⟨(hp _ List.mem_cons_self), (hp _ (List.mem_cons_of_mem _ (List.mem_cons_of_mem _ (List.mem_cons_of_mem _ (List.mem_cons_of_mem _ (List.mem_cons_of_mem _ (List.mem_cons_of_mem _ List.mem_cons_self))))))), (hp _ List.mem_cons_self), (hp _ (List.mem_cons_of_mem _ (List.mem_cons_of_mem _ (List.mem_cons_of_mem _ (List.mem_cons_of_mem _ (List.mem_cons_of_mem _ (List.mem_cons_of_mem _ (List.mem_cons_of_mem _ List.mem_cons_self)))))))), err_loops rfl⟩
theorem ShownEL_ok : Mt 10 cShownEL := ShownEL_meets cFaultN_ok labelMayB_ok fun c l ss ns x hp => by
  have hL : lensF c ss ns = false := (hp _ (List.mem_cons_of_mem _ (List.mem_cons_of_mem _ (List.mem_cons_of_mem _ (List.mem_cons_of_mem _ (List.mem_cons_of_mem _ (List.mem_cons_of_mem _ (List.mem_cons_of_mem _ (List.mem_cons_of_mem _ List.mem_cons_self)))))))))
  refine ⟨(hp _ List.mem_cons_self), (hp _ (List.mem_cons_of_mem _ (List.mem_cons_of_mem _ (List.mem_cons_of_mem _ (List.mem_cons_of_mem _ (List.mem_cons_of_mem _ (List.mem_cons_of_mem _ List.mem_cons_self))))))), (hp _ List.mem_cons_self), (hp _ (List.mem_cons_of_mem _ (List.mem_cons_of_mem _ (List.mem_cons_of_mem _ (List.mem_cons_of_mem _ (List.mem_cons_of_mem _ (List.mem_cons_of_mem _ (List.mem_cons_of_mem _ List.mem_cons_self)))))))), bif_ok (fun _ => err_loops rfl) fun a => bif_ok (fun _ => err_loops rfl) fun b => ?_⟩
  have a : ss.length = c.2.1.length := by
    have a : ¬ ((ss.length : Int) ≠ (c.2.1.length : Int)) := by simpa [pNe, pInt, pLen] using a
    exact Int.ofNat_inj.1 (Decidable.not_not.1 a)
  have b : ns.length = c.2.1.length := by
    have b : ¬ ((ns.length : Int) ≠ (c.2.1.length : Int)) := by simpa [pNe, pInt, pLen] using b
    exact Int.ofNat_inj.1 (Decidable.not_not.1 b)
  unfold lensF at hL
  rw [decide_eq_true a, decide_eq_true b] at hL
  cases hL
theorem nine_blk {ns : List NotesD} {A B : Int × Int × Unit → Prop} : nineBInv ns ((0 : Int), 9, ()) ∧ ∀ y : Int × Int × Unit, nineBInv ns y → bif pLt y.1 (pInt (pLen ns)) then bif pEq y.2.1 (0 : Int) then False else (bif pEq y.2.1 (0 : Int) then A y else bif pNe y.2.1 (0 : Int) then (bs [], y.2) = (bs (vnil Nat), (9 : Int), ()) else B y)
    else (bif pEq y.2.1 (0 : Int) then A y else bif pNe y.2.1 (0 : Int) then (bs [], y.2) = (bs (vnil Nat), (9 : Int), ()) else B y) := by
  refine ⟨StepInv.start rfl, fun y hy => ?_⟩
  obtain ⟨k, _, rfl⟩ := hy
  refine bif_ok (fun _ => ?_) fun _ => ?_
  · rw [bif_false (by rfl), bif_false (by rfl), bif_true (by rfl)]
  · rw [bif_false (by rfl), bif_true (by rfl)]
theorem BadInv.step {p : Nat → Bool} {n k : Nat} {e e' : Int} (hk : k < n) (hb : k < 4611686018427387904) (h : (e = 0 ∧ ∀ j, j < k → p j = true) ∨ (e = 9 ∧ ∃ j, j < k ∧ p j = false)) (h1 : p k = true → e' = e) (h2 : p k = false → e' = 9) :
    BadInv p n (pAdd .i64 (k : Int) 1, e', ()) ∧ Nat.le (Nat.succ (StepMu n (pAdd .i64 (k : Int) 1, e', ()))) (StepMu n ((k : Int), e, ())) := by
  rw [pAdd1 hb]
  refine ⟨⟨k + 1, e', hk, rfl, ?_⟩, Nat.le_of_eq (by unfold StepMu; simp only [Int.toNat_natCast]; omega)⟩
  cases hp : p k with
  | false => exact .inr ⟨h2 hp, k, Nat.lt_succ_self k, hp⟩
  | true =>
    rw [h1 hp]
    rcases h with ⟨h0, ha⟩ | ⟨h9, j, hj, hf⟩
    · refine .inl ⟨h0, fun j hj => ?_⟩
      by_cases e : j = k
      · rw [e]; exact hp
      · exact ha j (by omega)
    · exact .inr ⟨h9, j, by omega, hf⟩
theorem ShownES_ok : Mt 10 cShownES := ShownES_meets cFaultN_ok labelMayB_ok StoreMay_ok fun c l ss ns x hp => by
  have hc : pLen c.2.1 < 4611686018427387904 := (hp _ List.mem_cons_self)
  have hls : pLen ss < 4611686018427387904 := (hp _ (List.mem_cons_of_mem _ List.mem_cons_self))
  have h4 : ∀ q ∈ ss, pLen q.1 < 4611686018427387904 ∧ pLen q.2.1 < 4611686018427387904 ∧ pLen q.2.2.1 < 4611686018427387904 ∧ pLen q.2.2.2.1 < 4611686018427387904 := (hp _ (List.mem_cons_of_mem _ (List.mem_cons_of_mem _ (List.mem_cons_of_mem _ List.mem_cons_self))))
  have hst : stosF ss = false := (hp _ (List.mem_cons_of_mem _ (List.mem_cons_of_mem _ (List.mem_cons_of_mem _ (List.mem_cons_of_mem _ (List.mem_cons_of_mem _ (List.mem_cons_of_mem _ (List.mem_cons_of_mem _ (List.mem_cons_of_mem _ (List.mem_cons_of_mem _ (List.mem_cons_of_mem _ List.mem_cons_self)))))))))))
  refine ⟨hc, (hp _ (List.mem_cons_of_mem _ (List.mem_cons_of_mem _ (List.mem_cons_of_mem _ (List.mem_cons_of_mem _ (List.mem_cons_of_mem _ (List.mem_cons_of_mem _ List.mem_cons_self))))))), hc, (hp _ (List.mem_cons_of_mem _ (List.mem_cons_of_mem _ (List.mem_cons_of_mem _ (List.mem_cons_of_mem _ (List.mem_cons_of_mem _ (List.mem_cons_of_mem _ (List.mem_cons_of_mem _ List.mem_cons_self)))))))), bif_ok (fun e => (lens_ne (hp _ (List.mem_cons_of_mem _ (List.mem_cons_of_mem _ (List.mem_cons_of_mem _ (List.mem_cons_of_mem _ (List.mem_cons_of_mem _ (List.mem_cons_of_mem _ (List.mem_cons_of_mem _ (List.mem_cons_of_mem _ List.mem_cons_self))))))))) e).elim) fun _ => bif_ok (fun e => (lens_ne (hp _ (List.mem_cons_of_mem _ (List.mem_cons_of_mem _ (List.mem_cons_of_mem _ (List.mem_cons_of_mem _ (List.mem_cons_of_mem _ (List.mem_cons_of_mem _ (List.mem_cons_of_mem _ (List.mem_cons_of_mem _ (List.mem_cons_of_mem _ List.mem_cons_self)))))))))) e).elim) fun _ => ?_⟩
  refine ⟨⟨0, 0, Nat.zero_le _, rfl, .inl ⟨rfl, fun j hj => absurd hj (Nat.not_lt_zero j)⟩⟩, fun y hy => ?_⟩
  obtain ⟨k, e, hk, rfl, hcase⟩ := hy
  by_cases hlt : k < ss.length
  · rw [bif_true (by exact lt_true hlt)]
    refine bif_ok (fun he => ?_) fun he => ?_
    · have he : e = 0 := by simpa [pEq] using he
      delta ShownES_v12
      dsimp only
      rw [pNat_coe]
      have hm : pGet tySto ss k ∈ ss := by rw [pGet_lt hlt]; exact List.getElem_mem hlt
      obtain ⟨q1, q2, q3, q4⟩ := h4 _ hm
      refine ⟨pIn_coe.2 hlt, q1, q2, q3, q4, bif_ok (fun hs => ?_) fun hs => ?_⟩
      · have hs : stoF (pGet tySto ss k) = false := by simpa [pNot] using hs
        exact BadInv.step hlt (Nat.lt_trans hlt hls) hcase (fun h => by rw [hs] at h; cases h) fun _ => rfl
      · have hs : stoF (pGet tySto ss k) = true := by simpa [pNot] using hs
        exact BadInv.step hlt (Nat.lt_trans hlt hls) hcase (fun _ => rfl) fun h => by rw [hs] at h; cases h
    · rcases hcase with ⟨h0, _⟩ | ⟨h9, _⟩
      · have he : e ≠ 0 := by simpa [pEq] using he
        exact absurd h0 he
      · subst h9; exact nine_blk
  · rw [bif_false (by show decide ((k : Int) < (ss.length : Int)) = false; exact decide_eq_false (by omega))]
    rcases hcase with ⟨_, ha⟩ | ⟨h9, _⟩
    · have : stosF ss = true := allUpto_true fun j hj => ha j (by omega)
      rw [hst] at this; cases this
    · subst h9; exact nine_blk
theorem ShownEN_ok : Mt 10 cShownEN := ShownEN_meets cFaultN_ok labelMayB_ok StoreMay1_ok plainTxn_ok fun c l ss ns x hp => by
  have hc : pLen c.2.1 < 4611686018427387904 := (hp _ List.mem_cons_self)
  have hls : pLen ss < 4611686018427387904 := (hp _ (List.mem_cons_of_mem _ List.mem_cons_self))
  have hln : pLen ns < 4611686018427387904 := (hp _ (List.mem_cons_of_mem _ (List.mem_cons_of_mem _ List.mem_cons_self)))
  have h4 : ∀ q ∈ ss, pLen q.1 < 4611686018427387904 ∧ pLen q.2.1 < 4611686018427387904 ∧ pLen q.2.2.1 < 4611686018427387904 ∧ pLen q.2.2.2.1 < 4611686018427387904 := (hp _ (List.mem_cons_of_mem _ (List.mem_cons_of_mem _ (List.mem_cons_of_mem _ List.mem_cons_self))))
  have h1 : ∀ q ∈ ns, pLen q.1 < 4611686018427387904 := (hp _ (List.mem_cons_of_mem _ (List.mem_cons_of_mem _ (List.mem_cons_of_mem _ (List.mem_cons_of_mem _ List.mem_cons_self)))))
  have hst : stosF ss = true := (hp _ (List.mem_cons_of_mem _ (List.mem_cons_of_mem _ (List.mem_cons_of_mem _ (List.mem_cons_of_mem _ (List.mem_cons_of_mem _ (List.mem_cons_of_mem _ (List.mem_cons_of_mem _ (List.mem_cons_of_mem _ (List.mem_cons_of_mem _ (List.mem_cons_of_mem _ List.mem_cons_self)))))))))))
  have hnt : notsF ns = false := (hp _ (List.mem_cons_of_mem _ (List.mem_cons_of_mem _ (List.mem_cons_of_mem _ (List.mem_cons_of_mem _ (List.mem_cons_of_mem _ (List.mem_cons_of_mem _ (List.mem_cons_of_mem _ (List.mem_cons_of_mem _ (List.mem_cons_of_mem _ (List.mem_cons_of_mem _ (List.mem_cons_of_mem _ List.mem_cons_self))))))))))))
  have fin : ∀ k : Nat, ShownEN_v3 c l ss ns x ((k : Int), 9, ()) := fun k => by
    delta ShownEN_v3 ShownEN_v2
    rw [bif_false (by rfl), bif_true (by rfl)]
  refine ⟨hc, (hp _ (List.mem_cons_of_mem _ (List.mem_cons_of_mem _ (List.mem_cons_of_mem _ (List.mem_cons_of_mem _ (List.mem_cons_of_mem _ (List.mem_cons_of_mem _ List.mem_cons_self))))))), hc, (hp _ (List.mem_cons_of_mem _ (List.mem_cons_of_mem _ (List.mem_cons_of_mem _ (List.mem_cons_of_mem _ (List.mem_cons_of_mem _ (List.mem_cons_of_mem _ (List.mem_cons_of_mem _ List.mem_cons_self)))))))), bif_ok (fun e => (lens_ne (hp _ (List.mem_cons_of_mem _ (List.mem_cons_of_mem _ (List.mem_cons_of_mem _ (List.mem_cons_of_mem _ (List.mem_cons_of_mem _ (List.mem_cons_of_mem _ (List.mem_cons_of_mem _ (List.mem_cons_of_mem _ List.mem_cons_self))))))))) e).elim) fun _ => bif_ok (fun e => (lens_ne (hp _ (List.mem_cons_of_mem _ (List.mem_cons_of_mem _ (List.mem_cons_of_mem _ (List.mem_cons_of_mem _ (List.mem_cons_of_mem _ (List.mem_cons_of_mem _ (List.mem_cons_of_mem _ (List.mem_cons_of_mem _ (List.mem_cons_of_mem _ List.mem_cons_self)))))))))) e).elim) fun _ => zoA_loop hls hst h4 ⟨⟨0, 0, Nat.zero_le _, rfl, .inl ⟨rfl, fun j hj => absurd hj (Nat.not_lt_zero j)⟩⟩, fun y hy => ?_⟩⟩
  obtain ⟨k, e, hk, rfl, hcase⟩ := hy
  by_cases hlt : k < ns.length
  · rw [bif_true (by exact lt_true hlt)]
    refine bif_ok (fun he => ?_) fun he => ?_
    · have he : e = 0 := by simpa [pEq] using he
      subst he
      have hm : pGet tyNotes ns k ∈ ns := by rw [pGet_lt hlt]; exact List.getElem_mem hlt
      have hl1 := h1 _ hm
      refine ⟨⟨0, 0, Nat.zero_le _, rfl, .inl ⟨rfl, fun j hj => absurd hj (Nat.not_lt_zero j)⟩⟩, fun y2 hy2 => ⟨pIn_coe.2 hlt, ?_⟩⟩
      delta ShownEN_v1
      dsimp only
      unfold soCInv at hy2
      simp only [pNat_coe] at hy2
      rw [pNat_coe]
      obtain ⟨j, e2, hj, rfl, hcase2⟩ := hy2
      by_cases hlt2 : j < (pGet tyNotes ns k).1.length
      · rw [bif_true (by exact lt_true hlt2)]
        dsimp only
        rw [pNat_coe]
        have stp : ∀ e', (noteOk (pGet tyNote (pGet tyNotes ns k).1 j) = true → e' = e2) → (noteOk (pGet tyNote (pGet tyNotes ns k).1 j) = false → e' = 9) → soCInv ns (0 : Int) (k : Int) (pAdd IntKind.i64 (j : Int) (1 : Int), e', ()) ∧ Nat.le (Nat.succ (soCMu ns (0 : Int) (k : Int) (pAdd IntKind.i64 (j : Int) (1 : Int), e', ()))) (soCMu ns (0 : Int) (k : Int) ((j : Int), e2, ())) := fun e' a b => by
          unfold soCInv soCMu
          simp only [pNat_coe]
          exact BadInv.step hlt2 (Nat.lt_trans hlt2 hl1) hcase2 a b
        refine ⟨pIn_coe.2 hlt, pIn_coe.2 hlt2, bif_ok (fun hs => ?_) fun hs => ?_⟩
        · have hs : noteOk (pGet tyNote (pGet tyNotes ns k).1 j) = false := by
            have hs : (!noteOk (pGet tyNote (pGet tyNotes ns k).1 j)) = true := hs
            simpa using hs
          exact stp 9 (fun h => by rw [hs] at h; cases h) fun _ => rfl
        · have hs : noteOk (pGet tyNote (pGet tyNotes ns k).1 j) = true := by
            have hs : (!noteOk (pGet tyNote (pGet tyNotes ns k).1 j)) = false := hs
            simpa using hs
          exact stp e2 (fun _ => rfl) fun h => by rw [hs] at h; cases h
      · have hje : j = (pGet tyNotes ns k).1.length := Nat.le_antisymm hj (Nat.le_of_not_lt hlt2)
        subst hje
        rw [bif_false (by exact lt_self)]
        refine BadInv.step hlt (Nat.lt_trans hlt hln) hcase (fun h => ?_) fun h => ?_
        · rcases hcase2 with ⟨h0, _⟩ | ⟨_, j, hj, hf⟩
          · exact h0
          · have := allUpto_at (p := fun j => noteOk (pGet tyNote (pGet tyNotes ns k).1 j)) h hj
            have hf : noteOk (pGet tyNote (pGet tyNotes ns k).1 j) = false := hf
            rw [hf] at this; cases this
        · rcases hcase2 with ⟨_, ha⟩ | ⟨h9, _⟩
          · have : notsAt ns k = true := allUpto_true ha
            rw [h] at this; cases this
          · exact h9
    · rcases hcase with ⟨h0, _⟩ | ⟨h9, _⟩
      · have he : e ≠ 0 := by simpa [pEq] using he
        exact absurd h0 he
      · subst h9; exact fin k
  · rw [bif_false (by show decide ((k : Int) < (ns.length : Int)) = false; exact decide_eq_false (by omega))]
    rcases hcase with ⟨_, ha⟩ | ⟨h9, _⟩
    · have : notsF ns = true := allUpto_true fun j hj => ha j (by omega)
      rw [hnt] at this; cases this
    · subst h9; exact fin k
theorem ShownEK_ok : Mt 10 cShownEK := ShownEK_meets cFaultN_ok labelMayB_ok StoreMay1_ok plainTxn1_ok fun c l ss ns x hp => by
  have hk : kindF x.1 = false := (hp _ (List.mem_cons_of_mem _ (List.mem_cons_of_mem _ (List.mem_cons_of_mem _ (List.mem_cons_of_mem _ (List.mem_cons_of_mem _ (List.mem_cons_of_mem _ (List.mem_cons_of_mem _ (List.mem_cons_of_mem _ (List.mem_cons_of_mem _ (List.mem_cons_of_mem _ (List.mem_cons_of_mem _ (List.mem_cons_of_mem _ List.mem_cons_self)))))))))))))
  unfold kindF at hk
  simp only [Bool.or_eq_false_iff] at hk
  refine ⟨(hp _ List.mem_cons_self), (hp _ (List.mem_cons_of_mem _ (List.mem_cons_of_mem _ (List.mem_cons_of_mem _ (List.mem_cons_of_mem _ (List.mem_cons_of_mem _ (List.mem_cons_of_mem _ List.mem_cons_self))))))), (hp _ List.mem_cons_self), (hp _ (List.mem_cons_of_mem _ (List.mem_cons_of_mem _ (List.mem_cons_of_mem _ (List.mem_cons_of_mem _ (List.mem_cons_of_mem _ (List.mem_cons_of_mem _ (List.mem_cons_of_mem _ List.mem_cons_self)))))))), bif_ok (fun e => (lens_ne (hp _ (List.mem_cons_of_mem _ (List.mem_cons_of_mem _ (List.mem_cons_of_mem _ (List.mem_cons_of_mem _ (List.mem_cons_of_mem _ (List.mem_cons_of_mem _ (List.mem_cons_of_mem _ (List.mem_cons_of_mem _ List.mem_cons_self))))))))) e).elim) fun _ => bif_ok (fun e => (lens_ne (hp _ (List.mem_cons_of_mem _ (List.mem_cons_of_mem _ (List.mem_cons_of_mem _ (List.mem_cons_of_mem _ (List.mem_cons_of_mem _ (List.mem_cons_of_mem _ (List.mem_cons_of_mem _ (List.mem_cons_of_mem _ (List.mem_cons_of_mem _ List.mem_cons_self)))))))))) e).elim) fun _ => zoA_loop (hp _ (List.mem_cons_of_mem _ List.mem_cons_self)) (hp _ (List.mem_cons_of_mem _ (List.mem_cons_of_mem _ (List.mem_cons_of_mem _ (List.mem_cons_of_mem _ (List.mem_cons_of_mem _ (List.mem_cons_of_mem _ (List.mem_cons_of_mem _ (List.mem_cons_of_mem _ (List.mem_cons_of_mem _ (List.mem_cons_of_mem _ List.mem_cons_self))))))))))) (hp _ (List.mem_cons_of_mem _ (List.mem_cons_of_mem _ (List.mem_cons_of_mem _ List.mem_cons_self)))) (zoB_loop (hp _ (List.mem_cons_of_mem _ (List.mem_cons_of_mem _ List.mem_cons_self))) (hp _ (List.mem_cons_of_mem _ (List.mem_cons_of_mem _ (List.mem_cons_of_mem _ (List.mem_cons_of_mem _ (List.mem_cons_of_mem _ (List.mem_cons_of_mem _ (List.mem_cons_of_mem _ (List.mem_cons_of_mem _ (List.mem_cons_of_mem _ (List.mem_cons_of_mem _ (List.mem_cons_of_mem _ List.mem_cons_self)))))))))))) (hp _ (List.mem_cons_of_mem _ (List.mem_cons_of_mem _ (List.mem_cons_of_mem _ (List.mem_cons_of_mem _ List.mem_cons_self))))) ?_)⟩
  have n : ∀ {i : Int}, pEq x.1 i = false → pNe x.1 i = true := fun {i} h => by simpa [pEq, pNe] using h
  rw [bif_true (n hk.1.1), bif_true (n hk.1.2), bif_true (n hk.2)]

/- all of it -/
theorem all_nil : ∀ p ∈ ([] : List Prop), p := fun _ h => by cases h
theorem all_cons {a : Prop} {l : List Prop} (h : a) (t : ∀ p ∈ l, p) : ∀ p ∈ a :: l, p := fun p hp => by
  rcases List.mem_cons.1 hp with rfl | hp
  · exact h
  · exact t p hp
theorem firstE_or (e : Nat → Int) (n : Nat) : firstE e n = 0 ∨ ∃ j, firstE e n = e j := by
  unfold firstE
  split
  · exact .inr ⟨_, rfl⟩
  · exact .inl rfl
theorem cfg_vals (c : CfgD) : cfgF c = 0 ∨ cfgF c = 1 ∨ cfgF c = 2 ∨ cfgF c = 7 := by
  unfold cfgF
  cases inF c.1 1 4
  · exact .inr (.inr (.inl rfl))
  cases inF (pInt c.2.1.length) 1 6
  · exact .inr (.inl rfl)
  simp only [cond_true]
  cases hq : pEq (firstE (labE c.2.1) c.2.1.length) 0
  · rw [cond_false]
    rcases firstE_or (labE c.2.1) c.2.1.length with h | ⟨j, h⟩
    · exact .inl h
    · rw [h]
      unfold labE
      cases labF (pGet tyLab c.2.1 j)
      · exact .inr (.inr (.inl rfl))
      · cases allUpto (fun k => !eqLabAt c.2.1 k j) j
        · exact .inr (.inr (.inr rfl))
        · exact .inl rfl
  · rw [cond_true]
    cases inF c.2.2.1 1 1048576
    · exact .inr (.inr (.inl rfl))
    · exact .inl rfl
theorem shw_bad {c : CfgD} {l : Int} {ss : List StoD} {ns : List NotesD} {x : CmdD} {e : Int} (h : shwE c l ss ns x = e) (he : pEq e 0 = false) : (bs [], e, ()) = (shwS c l ss ns x, shwE c l ss ns x, ()) := by
  unfold shwS
  rw [h, he]; rfl
theorem lens_of {c : CfgD} {ss : List StoD} {ns : List NotesD} (h1 : pLen ss = pLen c.2.1) (h2 : pLen ns = pLen c.2.1) : lensF c ss ns = true := by
  unfold lensF
  have h1 : ss.length = c.2.1.length := h1
  have h2 : ns.length = c.2.1.length := h2
  rw [decide_eq_true h1, decide_eq_true h2]; rfl
def shownPr : Nat → Shape.den ShownOf_S → List Prop
  | 0 => Shown1_p
  | 1 => Shown2_p
  | 2 => Shown4_p
  | 3 => ShownE1_p
  | 4 => ShownE2_p
  | 5 => ShownE7_p
  | 6 => ShownE6_p
  | 7 => ShownEL_p
  | 8 => ShownES_p
  | 9 => ShownEN_p
  | _ => ShownEK_p
theorem shown_all : ∀ i, Mt 10 (shCtr ShownOf_S (shownPr i) [] [.slot 0 false .str, .slot 1 false tI] ShownOf_f)
  | 0 => meets_mono Shown1_ok fun x hp => ⟨hp, by have h := (hp _ (List.mem_cons_of_mem _ (List.mem_cons_of_mem _ (List.mem_cons_of_mem _ (List.mem_cons_of_mem _ (List.mem_cons_of_mem _ (List.mem_cons_of_mem _ (List.mem_cons_of_mem _ List.mem_cons_self)))))))); exact congrArg (fun e => (shwS x.1.1 x.1.2.1 x.1.2.2.1 x.1.2.2.2.1 x.1.2.2.2.2.1, e, ())) h.symm⟩
  | 1 => meets_mono Shown2_ok fun x hp => ⟨hp, by have h := (hp _ (List.mem_cons_of_mem _ (List.mem_cons_of_mem _ (List.mem_cons_of_mem _ (List.mem_cons_of_mem _ (List.mem_cons_of_mem _ (List.mem_cons_of_mem _ (List.mem_cons_of_mem _ List.mem_cons_self)))))))); exact congrArg (fun e => (shwS x.1.1 x.1.2.1 x.1.2.2.1 x.1.2.2.2.1 x.1.2.2.2.2.1, e, ())) h.symm⟩
  | 2 => meets_mono Shown4_ok fun x hp => ⟨hp, by have h := (hp _ (List.mem_cons_of_mem _ (List.mem_cons_of_mem _ (List.mem_cons_of_mem _ (List.mem_cons_of_mem _ (List.mem_cons_of_mem _ (List.mem_cons_of_mem _ (List.mem_cons_of_mem _ List.mem_cons_self)))))))); exact congrArg (fun e => (shwS x.1.1 x.1.2.1 x.1.2.2.1 x.1.2.2.2.1 x.1.2.2.2.2.1, e, ())) h.symm⟩
  | 3 => meets_mono ShownE1_ok fun x hp => ⟨hp, shw_bad (by have h : cfgF x.1.1 = 1 := (hp _ (List.mem_cons_of_mem _ (List.mem_cons_of_mem _ (List.mem_cons_of_mem _ (List.mem_cons_of_mem _ (List.mem_cons_of_mem _ (List.mem_cons_of_mem _ List.mem_cons_self))))))); unfold shwE; rw [h]; rfl) rfl⟩
  | 4 => meets_mono ShownE2_ok fun x hp => ⟨hp, shw_bad (by have h : cfgF x.1.1 = 2 := (hp _ (List.mem_cons_of_mem _ (List.mem_cons_of_mem _ (List.mem_cons_of_mem _ (List.mem_cons_of_mem _ (List.mem_cons_of_mem _ (List.mem_cons_of_mem _ List.mem_cons_self))))))); unfold shwE; rw [h]; rfl) rfl⟩
  | 5 => meets_mono ShownE7_ok fun x hp => ⟨hp, shw_bad (by have h : cfgF x.1.1 = 7 := (hp _ (List.mem_cons_of_mem _ (List.mem_cons_of_mem _ (List.mem_cons_of_mem _ (List.mem_cons_of_mem _ (List.mem_cons_of_mem _ (List.mem_cons_of_mem _ List.mem_cons_self))))))); unfold shwE; rw [h]; rfl) rfl⟩
  | 6 => meets_mono ShownE6_ok fun x hp => ⟨hp, shw_bad (by have h : cfgF x.1.1 = 0 := (hp _ (List.mem_cons_of_mem _ (List.mem_cons_of_mem _ (List.mem_cons_of_mem _ (List.mem_cons_of_mem _ (List.mem_cons_of_mem _ (List.mem_cons_of_mem _ List.mem_cons_self))))))); have h2 : placeF x.1.1 x.1.2.1 = false := (hp _ (List.mem_cons_of_mem _ (List.mem_cons_of_mem _ (List.mem_cons_of_mem _ (List.mem_cons_of_mem _ (List.mem_cons_of_mem _ (List.mem_cons_of_mem _ (List.mem_cons_of_mem _ List.mem_cons_self)))))))); unfold shwE; rw [h, h2]; rfl) rfl⟩
  | 7 => meets_mono ShownEL_ok fun x hp => ⟨hp, shw_bad (by have h : cfgF x.1.1 = 0 := (hp _ (List.mem_cons_of_mem _ (List.mem_cons_of_mem _ (List.mem_cons_of_mem _ (List.mem_cons_of_mem _ (List.mem_cons_of_mem _ (List.mem_cons_of_mem _ List.mem_cons_self))))))); have h2 : placeF x.1.1 x.1.2.1 = true := (hp _ (List.mem_cons_of_mem _ (List.mem_cons_of_mem _ (List.mem_cons_of_mem _ (List.mem_cons_of_mem _ (List.mem_cons_of_mem _ (List.mem_cons_of_mem _ (List.mem_cons_of_mem _ List.mem_cons_self)))))))); have h3 : lensF x.1.1 x.1.2.2.1 x.1.2.2.2.1 = false := (hp _ (List.mem_cons_of_mem _ (List.mem_cons_of_mem _ (List.mem_cons_of_mem _ (List.mem_cons_of_mem _ (List.mem_cons_of_mem _ (List.mem_cons_of_mem _ (List.mem_cons_of_mem _ (List.mem_cons_of_mem _ List.mem_cons_self))))))))); unfold shwE; rw [h, h2, h3]; rfl) rfl⟩
  | 8 => meets_mono ShownES_ok fun x hp => ⟨hp, shw_bad (by have h : cfgF x.1.1 = 0 := (hp _ (List.mem_cons_of_mem _ (List.mem_cons_of_mem _ (List.mem_cons_of_mem _ (List.mem_cons_of_mem _ (List.mem_cons_of_mem _ (List.mem_cons_of_mem _ List.mem_cons_self))))))); have h2 : placeF x.1.1 x.1.2.1 = true := (hp _ (List.mem_cons_of_mem _ (List.mem_cons_of_mem _ (List.mem_cons_of_mem _ (List.mem_cons_of_mem _ (List.mem_cons_of_mem _ (List.mem_cons_of_mem _ (List.mem_cons_of_mem _ List.mem_cons_self)))))))); have h3 : lensF x.1.1 x.1.2.2.1 x.1.2.2.2.1 = true := lens_of (hp _ (List.mem_cons_of_mem _ (List.mem_cons_of_mem _ (List.mem_cons_of_mem _ (List.mem_cons_of_mem _ (List.mem_cons_of_mem _ (List.mem_cons_of_mem _ (List.mem_cons_of_mem _ (List.mem_cons_of_mem _ List.mem_cons_self))))))))) (hp _ (List.mem_cons_of_mem _ (List.mem_cons_of_mem _ (List.mem_cons_of_mem _ (List.mem_cons_of_mem _ (List.mem_cons_of_mem _ (List.mem_cons_of_mem _ (List.mem_cons_of_mem _ (List.mem_cons_of_mem _ (List.mem_cons_of_mem _ List.mem_cons_self)))))))))); have h4 : stosF x.1.2.2.1 = false := (hp _ (List.mem_cons_of_mem _ (List.mem_cons_of_mem _ (List.mem_cons_of_mem _ (List.mem_cons_of_mem _ (List.mem_cons_of_mem _ (List.mem_cons_of_mem _ (List.mem_cons_of_mem _ (List.mem_cons_of_mem _ (List.mem_cons_of_mem _ (List.mem_cons_of_mem _ List.mem_cons_self))))))))))); unfold shwE; rw [h, h2, h3, h4]; rfl) rfl⟩
  | 9 => meets_mono ShownEN_ok fun x hp => ⟨hp, shw_bad (by have h : cfgF x.1.1 = 0 := (hp _ (List.mem_cons_of_mem _ (List.mem_cons_of_mem _ (List.mem_cons_of_mem _ (List.mem_cons_of_mem _ (List.mem_cons_of_mem _ (List.mem_cons_of_mem _ List.mem_cons_self))))))); have h2 : placeF x.1.1 x.1.2.1 = true := (hp _ (List.mem_cons_of_mem _ (List.mem_cons_of_mem _ (List.mem_cons_of_mem _ (List.mem_cons_of_mem _ (List.mem_cons_of_mem _ (List.mem_cons_of_mem _ (List.mem_cons_of_mem _ List.mem_cons_self)))))))); have h3 : lensF x.1.1 x.1.2.2.1 x.1.2.2.2.1 = true := lens_of (hp _ (List.mem_cons_of_mem _ (List.mem_cons_of_mem _ (List.mem_cons_of_mem _ (List.mem_cons_of_mem _ (List.mem_cons_of_mem _ (List.mem_cons_of_mem _ (List.mem_cons_of_mem _ (List.mem_cons_of_mem _ List.mem_cons_self))))))))) (hp _ (List.mem_cons_of_mem _ (List.mem_cons_of_mem _ (List.mem_cons_of_mem _ (List.mem_cons_of_mem _ (List.mem_cons_of_mem _ (List.mem_cons_of_mem _ (List.mem_cons_of_mem _ (List.mem_cons_of_mem _ (List.mem_cons_of_mem _ List.mem_cons_self)))))))))); have h4 : stosF x.1.2.2.1 = true := (hp _ (List.mem_cons_of_mem _ (List.mem_cons_of_mem _ (List.mem_cons_of_mem _ (List.mem_cons_of_mem _ (List.mem_cons_of_mem _ (List.mem_cons_of_mem _ (List.mem_cons_of_mem _ (List.mem_cons_of_mem _ (List.mem_cons_of_mem _ (List.mem_cons_of_mem _ List.mem_cons_self))))))))))); have h5 : notsF x.1.2.2.2.1 = false := (hp _ (List.mem_cons_of_mem _ (List.mem_cons_of_mem _ (List.mem_cons_of_mem _ (List.mem_cons_of_mem _ (List.mem_cons_of_mem _ (List.mem_cons_of_mem _ (List.mem_cons_of_mem _ (List.mem_cons_of_mem _ (List.mem_cons_of_mem _ (List.mem_cons_of_mem _ (List.mem_cons_of_mem _ List.mem_cons_self)))))))))))); unfold shwE; rw [h, h2, h3, h4, h5]; rfl) rfl⟩
  | _ + 10 => meets_mono ShownEK_ok fun x hp => ⟨hp, shw_bad (by have h : cfgF x.1.1 = 0 := (hp _ (List.mem_cons_of_mem _ (List.mem_cons_of_mem _ (List.mem_cons_of_mem _ (List.mem_cons_of_mem _ (List.mem_cons_of_mem _ (List.mem_cons_of_mem _ List.mem_cons_self))))))); have h2 : placeF x.1.1 x.1.2.1 = true := (hp _ (List.mem_cons_of_mem _ (List.mem_cons_of_mem _ (List.mem_cons_of_mem _ (List.mem_cons_of_mem _ (List.mem_cons_of_mem _ (List.mem_cons_of_mem _ (List.mem_cons_of_mem _ List.mem_cons_self)))))))); have h3 : lensF x.1.1 x.1.2.2.1 x.1.2.2.2.1 = true := lens_of (hp _ (List.mem_cons_of_mem _ (List.mem_cons_of_mem _ (List.mem_cons_of_mem _ (List.mem_cons_of_mem _ (List.mem_cons_of_mem _ (List.mem_cons_of_mem _ (List.mem_cons_of_mem _ (List.mem_cons_of_mem _ List.mem_cons_self))))))))) (hp _ (List.mem_cons_of_mem _ (List.mem_cons_of_mem _ (List.mem_cons_of_mem _ (List.mem_cons_of_mem _ (List.mem_cons_of_mem _ (List.mem_cons_of_mem _ (List.mem_cons_of_mem _ (List.mem_cons_of_mem _ (List.mem_cons_of_mem _ List.mem_cons_self)))))))))); have h4 : stosF x.1.2.2.1 = true := (hp _ (List.mem_cons_of_mem _ (List.mem_cons_of_mem _ (List.mem_cons_of_mem _ (List.mem_cons_of_mem _ (List.mem_cons_of_mem _ (List.mem_cons_of_mem _ (List.mem_cons_of_mem _ (List.mem_cons_of_mem _ (List.mem_cons_of_mem _ (List.mem_cons_of_mem _ List.mem_cons_self))))))))))); have h5 : notsF x.1.2.2.2.1 = true := (hp _ (List.mem_cons_of_mem _ (List.mem_cons_of_mem _ (List.mem_cons_of_mem _ (List.mem_cons_of_mem _ (List.mem_cons_of_mem _ (List.mem_cons_of_mem _ (List.mem_cons_of_mem _ (List.mem_cons_of_mem _ (List.mem_cons_of_mem _ (List.mem_cons_of_mem _ (List.mem_cons_of_mem _ List.mem_cons_self)))))))))))); have h6 : kindF x.1.2.2.2.2.1.1 = false := (hp _ (List.mem_cons_of_mem _ (List.mem_cons_of_mem _ (List.mem_cons_of_mem _ (List.mem_cons_of_mem _ (List.mem_cons_of_mem _ (List.mem_cons_of_mem _ (List.mem_cons_of_mem _ (List.mem_cons_of_mem _ (List.mem_cons_of_mem _ (List.mem_cons_of_mem _ (List.mem_cons_of_mem _ (List.mem_cons_of_mem _ List.mem_cons_self))))))))))))); unfold shwE; rw [h, h2, h3, h4, h5, h6]; rfl) rfl⟩
theorem ShownOf_ok : Mt 10 cShownOf := by
  refine meets_split shownPr 0 shown_all fun x hp => ?_
  obtain ⟨⟨c, l, ss, ns, x, _⟩, _⟩ := x
  have p0 := (hp _ List.mem_cons_self)
  have p1 := (hp _ (List.mem_cons_of_mem _ List.mem_cons_self))
  have p2 := (hp _ (List.mem_cons_of_mem _ (List.mem_cons_of_mem _ List.mem_cons_self)))
  have p3 := (hp _ (List.mem_cons_of_mem _ (List.mem_cons_of_mem _ (List.mem_cons_of_mem _ List.mem_cons_self))))
  have p4 := (hp _ (List.mem_cons_of_mem _ (List.mem_cons_of_mem _ (List.mem_cons_of_mem _ (List.mem_cons_of_mem _ List.mem_cons_self)))))
  have p5 := (hp _ (List.mem_cons_of_mem _ (List.mem_cons_of_mem _ (List.mem_cons_of_mem _ (List.mem_cons_of_mem _ (List.mem_cons_of_mem _ List.mem_cons_self))))))
  have all : ∀ {t : List Prop}, (∀ p ∈ t, p) → ∀ p ∈ (pLen c.2.1 < 4611686018427387904) :: (pLen ss < 4611686018427387904) :: (pLen ns < 4611686018427387904) :: (∀ q ∈ ss, pLen q.1 < 4611686018427387904 ∧ pLen q.2.1 < 4611686018427387904 ∧ pLen q.2.2.1 < 4611686018427387904 ∧ pLen q.2.2.2.1 < 4611686018427387904) :: (∀ q ∈ ns, pLen q.1 < 4611686018427387904) :: pBulk ss ns :: t, p := fun h => all_cons p0 (all_cons p1 (all_cons p2 (all_cons p3 (all_cons p4 (all_cons p5 h)))))
  clear hp
  rcases cfg_vals c with hc | hc | hc | hc
  · cases hp : placeF c l
    · exact ⟨6, all (all_cons hc (all_cons hp all_nil))⟩
    cases hL : lensF c ss ns
    · exact ⟨7, all (all_cons hc (all_cons hp (all_cons hL all_nil)))⟩
    have hLs := hL
    unfold lensF at hLs
    simp only [Bool.and_eq_true, decide_eq_true_eq] at hLs
    obtain ⟨l1, l2⟩ := hLs
    cases hS : stosF ss
    · exact ⟨8, all (all_cons hc (all_cons hp (all_cons l1 (all_cons l2 (all_cons hS all_nil)))))⟩
    cases hN : notsF ns
    · exact ⟨9, all (all_cons hc (all_cons hp (all_cons l1 (all_cons l2 (all_cons hS (all_cons hN all_nil))))))⟩
    cases hK : kindF x.1
    · exact ⟨10, all (all_cons hc (all_cons hp (all_cons l1 (all_cons l2 (all_cons hS (all_cons hN (all_cons hK all_nil)))))))⟩
    have hE : shwE c l ss ns x = 0 := by unfold shwE; rw [hc, hp, hL, hS, hN, hK]; rfl
    obtain ⟨k, xr⟩ := x
    unfold kindF at hK
    simp only [Bool.or_eq_true] at hK
    rcases hK with (h | h) | h
    · have h : k = 1 := by simpa [pEq] using h
      exact ⟨0, all_cons h (all (all_cons hE all_nil))⟩
    · have h : k = 2 := by simpa [pEq] using h
      exact ⟨1, all_cons h (all (all_cons hE all_nil))⟩
    · have h : k = 4 := by simpa [pEq] using h
      exact ⟨2, all_cons h (all (all_cons hE all_nil))⟩
  · exact ⟨3, all (all_cons hc all_nil)⟩
  · exact ⟨4, all (all_cons hc all_nil)⟩
  · exact ⟨5, all (all_cons hc all_nil)⟩


end Go.Proofs.YtedjlbcclhgfmaaDoor

/- What operators see, the program's side: functions meet their contracts. The table of powers of ten lies where it is to lie. -/
namespace Go.Proofs.YtedjlbcclhgfmaaDoor
open Go.RowKit Go.Lib Go.IntWalk

theorem ItoaP_ok : MtG tabsP 20 cItoa := by
  refine ⟨⟨_, Tryd.func20, by kernel_rfl, by kernel_rfl⟩, fun args m0 obs r m1 hc hp => ?_⟩
  unfold cItoa shCtr at hc
  split at hc
  · rename_i x hx
    simp only [Option.some.injEq, Prod.mk.injEq] at hc
    obtain ⟨rfl, hrm⟩ := hc
    refine shape_spec hx ?_
    obtain ⟨⟨n, _⟩, _⟩ := x
    have h0 : -9223372036854775808 ≤ n := of_decide_eq_true (hp _ List.mem_cons_self)
    have h1 : n ≤ 9223372036854775807 := of_decide_eq_true (hp _ (List.mem_cons_of_mem _ List.mem_cons_self))
    have er : r = .v false [.str (pItoa n)] := (congrArg Prod.fst hrm).symm
    have em : m1 = [] := (congrArg Prod.snd hrm).symm
    subst er em
    refine spec_below fun w N ρ vs hg hlt ha => ?_
    obtain ⟨v, rfl, hv⟩ := all2_1 ha
    have hv : v = .int .i64 n := hv
    subst hv
    obtain ⟨vals, hvar, hva⟩ := glob_var (show Tryd.prog.globalNamed "internal/strconv.uint64pow10" = some 3 by kernel_rfl) (hg 3 _ rfl)
    have htab : Go.Lib.TabIs Tryd.prog w "internal/strconv.uint64pow10" .u64 Go.Lib.pow10Tab := by
      unfold Go.Lib.TabIs
      rw [hvar, ← all2_ints hva]
    have c : Calls Tryd.prog 20 #[.int .i64 n] w fun e w' => e = .returned (.string ⟨(Go.Lib.itoa n).toArray⟩) ∧ ∃ k os, w' = Go.Sort.grow (w.drewN k) os := Any.strconv_Itoa lItoa n h0 h1 w htab
    refine c.mono fun e w' ⟨he, k, os, hw⟩ => ⟨_, he, ?_, ⟨_, rfl, rfl⟩⟩
    subst hw
    exact grow_below
  · cases hc
theorem cells_lenP (s : ByteArray) : pLen (pStrCells s) = pStrLen s := by unfold pStrCells pLen pStrLen; rw [List.length_map]; rfl
theorem WriteString0_ok : MtG tabsP 18 cWriteString0 := WriteString0_meets CopyCheck_ok fun s hp => by
  have h : pRoom (pStrLen s) 1 := (hp _ List.mem_cons_self)
  refine ⟨?_, rfl⟩
  rw [cells_lenP]
  show (0 + pStrLen s) * 1 ≤ 140737488351232
  rw [Nat.zero_add]; exact h
theorem lo_ok {n : Int} (h : 0 ≤ n) : pLe (-9223372036854775808) n = true := decide_eq_true (Int.le_trans (by decide) h)
theorem words_ok : MtG tabsP 65 cwords := words_meets ItoaP_ok fun l t hp => by
  have h0 : 0 ≤ l := of_decide_eq_true (hp _ List.mem_cons_self)
  have h5 : l ≤ 5 := of_decide_eq_true (hp _ (List.mem_cons_of_mem _ List.mem_cons_self))
  have ht : txnF t = true := (hp _ (List.mem_cons_of_mem _ (List.mem_cons_of_mem _ List.mem_cons_self)))
  obtain ⟨t0, t1, t2, t3⟩ := txn_in ht
  have i0 := itoa_len h0 (by omega)
  have i1 := itoa_len t0 t1
  have i2 := itoa_len t2 t3
  delta words_VC
  simp only [pItoa_ba, b32, ba_app]
  refine ⟨lo_ok h0, decide_eq_true (by omega), fits_ba ?_, lo_ok t0, decide_eq_true t1, fits_ba ?_, fits_ba ?_, lo_ok t2, decide_eq_true t3, fits_ba ?_, ?_⟩
  case refine_5 =>
    refine congrArg (fun q => (ba q, ())) ?_
    unfold wordsL
    simp only [List.append_assoc, List.cons_append, List.nil_append]
  all_goals (simp only [List.length_append, List.length_cons, List.length_nil]; omega)
theorem wordsF_ba (l : Int) (t : TxnD) : wordsF l t = ba (wordsL l t) := rfl
theorem list_ok : MtG tabsP 31 clist := list_meets prepared_ok.any words_ok ItoaP_ok WriteString_ok.any fun l s xs hp => by
  have h0 : 0 ≤ l := of_decide_eq_true (hp _ List.mem_cons_self)
  have h5 : l ≤ 5 := of_decide_eq_true (hp _ (List.mem_cons_of_mem _ List.mem_cons_self))
  have hst : stoF s = true := (hp _ (List.mem_cons_of_mem _ (List.mem_cons_of_mem _ List.mem_cons_self)))
  have hroom : pRoom (pPlus (pLen xs) (pStrLen (listF l s))) 1 := (hp _ (List.mem_cons_of_mem _ (List.mem_cons_of_mem _ (List.mem_cons_of_mem _ List.mem_cons_self))))
  have q1 : pLen s.1 < 4611686018427387904 := (hp _ (List.mem_cons_of_mem _ (List.mem_cons_of_mem _ (List.mem_cons_of_mem _ (List.mem_cons_of_mem _ List.mem_cons_self)))))
  have q2 : pLen s.2.1 < 4611686018427387904 := (hp _ (List.mem_cons_of_mem _ (List.mem_cons_of_mem _ (List.mem_cons_of_mem _ (List.mem_cons_of_mem _ (List.mem_cons_of_mem _ List.mem_cons_self))))))
  have q3 : pLen s.2.2.1 < 4611686018427387904 := (hp _ (List.mem_cons_of_mem _ (List.mem_cons_of_mem _ (List.mem_cons_of_mem _ (List.mem_cons_of_mem _ (List.mem_cons_of_mem _ (List.mem_cons_of_mem _ List.mem_cons_self)))))))
  have q4 : pLen s.2.2.2.1 < 4611686018427387904 := (hp _ (List.mem_cons_of_mem _ (List.mem_cons_of_mem _ (List.mem_cons_of_mem _ (List.mem_cons_of_mem _ (List.mem_cons_of_mem _ (List.mem_cons_of_mem _ (List.mem_cons_of_mem _ List.mem_cons_self))))))))
  clear hp
  have hroom : (xs.length + (listL l s s.2.2.1).length) * 1 ≤ 140737488351232 := by
    have h : (pLen xs + pStrLen (listF l s)) * 1 ≤ 140737488351232 := hroom
    unfold listF at h
    rw [ba_len] at h
    exact h
  delta list_VC
  refine ⟨StepInv.start ?_, fun y hy => ?_⟩
  · show (((), xs, ()), ()) = (((), pApp xs (bl (ba [])), ()), ())
    have : bl (ba []) = [] := rfl
    rw [this]; unfold pApp; rw [List.append_nil]
  rcases StepInv.round q3 hy with ⟨j, rfl, hj, hb, hz⟩ | rfl
  · rw [bif_true (by exact lt_true hj)]
    delta list_v2 list_v1 list_v0
    dsimp only
    rw [pNat_coe]
    obtain ⟨a0, a1, a2⟩ := doubt_age hst hj
    have htk := list_take (l := l) (s := s) hj
    have htot : listL l s s.2.2.1 = listL l s (s.2.2.1.take (j + 1)) ++ listL l s (s.2.2.1.drop (j + 1)) := by rw [← listL_app, List.take_append_drop]
    rw [htk] at htot
    have nx : ∀ z, z = (((), pApp xs (bl (ba (listL l s (s.2.2.1.take (j + 1))))), ()), ()) → _ := hz
    rw [htk] at nx
    generalize listL l s (s.2.2.1.take j) = L at *
    obtain ⟨d, hd0⟩ : ∃ d : DoubtD, pGet tyDoubt s.2.2.1 j = d := ⟨_, rfl⟩
    have hd1 : pGet tyItem s.2.2.1 j = d := hd0
    rw [hd0] at nx a0 a1 a2 htot
    rw [hd1]
    have hlx : ∀ b : List UInt8, pLen (pApp xs (bl (ba b))) = xs.length + b.length := fun b => by
      unfold pApp pLen
      rw [List.length_append]
      exact congrArg _ (blba_len b)
    have happ : ∀ a b : List UInt8, pApp (pApp xs (bl (ba a))) (bl (ba b)) = pApp xs (bl (ba (a ++ b))) := fun a b => by
      rw [← bl_ba a b]; unfold pApp; rw [List.append_assoc]
    refine ⟨pIn_coe.2 hj, q1, q2, q3, q4, bif_ok (fun hpr => ?_) fun hpr => ?_⟩
    · have hpr : prepF s (dTxn d) = true := hpr
      have hd : dLine l s d = wordsL l (dTxn d) ++ (32 :: (itoa d.2.2.1 ++ [10])) := by unfold dLine; rw [hpr]; rfl
      have hdt : (d.1, d.2.1, ()) = dTxn d := rfl
      rw [hd] at nx htot
      rw [hdt]
      have hw := words_len h0 (by omega) a2
      have i3 : (itoa d.2.2.1).length ≤ 19 := itoa_len a0 (Int.le_trans a1 (by decide))
      rw [htot] at hroom
      simp only [List.length_append, List.length_cons, List.length_nil] at hroom
      simp only [wordsF_ba, pItoa_ba, b32, b10, ba_app]
      refine ⟨decide_eq_true h0, decide_eq_true h5, a2, fits_ba ?_, lo_ok a0, decide_eq_true (Int.le_trans a1 (by decide)), fits_ba ?_, fits_ba ?_, ?_, nx _ ?_⟩
      case refine_4 =>
        rw [hlx, ba_len]
        show (xs.length + L.length + _) * 1 ≤ 140737488351232
        simp only [List.length_append, List.length_cons, List.length_nil]; omega
      case refine_5 =>
        rw [happ]
        simp only [List.append_assoc, List.cons_append, List.nil_append]
      all_goals (simp only [List.length_append, List.length_cons, List.length_nil]; omega)
    · have hpr : prepF s (dTxn d) = false := hpr
      have hd : dLine l s d = [] := by unfold dLine; rw [hpr]; rfl
      rw [hd, List.append_nil] at nx
      exact nx _ rfl
  · rw [bif_false (by exact lt_self)]
    show (((), pApp xs (bl (ba (listL l s (s.2.2.1.take s.2.2.1.length)))), ()), ()) = _
    rw [List.take_length]; rfl
theorem audit_ok : MtG tabsP 32 caudit := audit_meets words_ok WriteString_ok.any WriteByte_ok.any fun l n xs hp => by
  have h0 : 0 ≤ l := of_decide_eq_true (hp _ List.mem_cons_self)
  have h5 : l ≤ 5 := of_decide_eq_true (hp _ (List.mem_cons_of_mem _ List.mem_cons_self))
  have hok : notesOk n := (hp _ (List.mem_cons_of_mem _ (List.mem_cons_of_mem _ List.mem_cons_self)))
  have hroom : pRoom (pPlus (pLen xs) (pStrLen (auditF l n))) 1 := (hp _ (List.mem_cons_of_mem _ (List.mem_cons_of_mem _ (List.mem_cons_of_mem _ List.mem_cons_self))))
  have q1 : pLen n < 4611686018427387904 := (hp _ (List.mem_cons_of_mem _ (List.mem_cons_of_mem _ (List.mem_cons_of_mem _ (List.mem_cons_of_mem _ List.mem_cons_self)))))
  clear hp
  have hroom : (xs.length + (auditL l n).length) * 1 ≤ 140737488351232 := by
    have h : (pLen xs + pStrLen (auditF l n)) * 1 ≤ 140737488351232 := hroom
    unfold auditF at h
    rw [ba_len] at h
    exact h
  delta audit_VC
  refine ⟨StepInv.start ?_, fun y hy => ?_⟩
  · show (((), xs, ()), ()) = (((), pApp xs (bl (ba [])), ()), ())
    have : bl (ba []) = [] := rfl
    rw [this]; unfold pApp; rw [List.append_nil]
  rcases StepInv.round q1 hy with ⟨j, rfl, hj, hb, hz⟩ | rfl
  · rw [bif_true (by exact lt_true hj)]
    delta audit_v6 audit_v5 audit_v4 audit_v3 audit_v2 audit_v1 audit_v0
    dsimp only
    rw [pNat_coe]
    have hno := hok (pGet tyNote n j) (by rw [pGet_lt hj]; exact List.getElem_mem hj)
    have htk := audit_take (l := l) (ns := n) hj
    have htot : auditL l n = auditL l (n.take (j + 1)) ++ auditL l (n.drop (j + 1)) := by rw [← auditL_app, List.take_append_drop]
    rw [htk] at htot
    have nx : ∀ z, z = (((), pApp xs (bl (ba (auditL l (n.take (j + 1))))), ()), ()) → _ := hz
    rw [htk] at nx
    generalize auditL l (n.take j) = L at *
    obtain ⟨d, hd0⟩ : ∃ d : NoteD, pGet tyNote n j = d := ⟨_, rfl⟩
    rw [hd0] at nx hno htot
    rw [hd0]
    have hlx : ∀ b : List UInt8, pLen (pApp xs (bl (ba b))) = xs.length + b.length := fun b => by
      unfold pApp pLen
      rw [List.length_append]
      exact congrArg _ (blba_len b)
    have happ : ∀ a b : List UInt8, pApp (pApp xs (bl (ba a))) (bl (ba b)) = pApp xs (bl (ba (a ++ b))) := fun a b => by
      rw [← bl_ba a b]; unfold pApp; rw [List.append_assoc]
    have hdt : (d.1, d.2.1, ()) = nTxn d := rfl
    rw [hdt]
    have hd : nLine l d = wordsL l (nTxn d) ++ (cond d.2.2.1 [32, 99, 111, 109, 109, 105, 116] [32, 97, 98, 111, 114, 116] ++ (cond d.2.2.2.1 [32, 100, 97, 109, 97, 103, 101] [] ++ [10])) := rfl
    rw [hd] at nx htot
    have hw := words_len h0 (by omega) hno
    rw [htot] at hroom
    simp only [wordsF_ba, bcom, babo, bdam, nl_bl, happ, hlx, ba_len]
    have R : ∀ a b : Nat, (xs.length + a + b) * 1 ≤ 140737488351232 → pRoom (pPlus (xs.length + a) b) 1 := fun _ _ h => h
    refine ⟨pIn_coe.2 hj, decide_eq_true h0, decide_eq_true h5, hno, ?_, ?_⟩
    · simp only [List.length_append] at hroom
      refine R _ _ ?_
      omega
    cases hy1 : d.2.2.1 <;> cases hy2 : d.2.2.2.1
    all_goals
      simp only [hy1, hy2, cond_true, cond_false, List.length_append, List.length_cons, List.length_nil] at nx hroom ⊢
    · refine ⟨R _ _ (by omega), R _ _ (by omega), nx _ ?_⟩
      simp only [List.append_assoc, List.cons_append, List.nil_append]
    · refine ⟨R _ _ (by omega), R _ _ (by omega), R _ _ (by omega), nx _ ?_⟩
      simp only [List.append_assoc, List.cons_append, List.nil_append]
    · refine ⟨R _ _ (by omega), R _ _ (by omega), nx _ ?_⟩
      simp only [List.append_assoc, List.cons_append, List.nil_append]
    · refine ⟨R _ _ (by omega), R _ _ (by omega), R _ _ (by omega), nx _ ?_⟩
      simp only [List.append_assoc, List.cons_append, List.nil_append]
  · rw [bif_false (by exact lt_self)]
    show (((), pApp xs (bl (ba (auditL l (n.take n.length)))), ()), ()) = _
    rw [List.take_length]; rfl

def blkD (c : CfgD) (l : Int) (ss : List StoD) (ns : List NotesD) (x : CmdD) (y0 y1 : kden Bool.false tI × PUnit) : Prop :=
  shDInv c l ss ns x ((0 : Int), ((), vnil (PUnit × Int × PUnit), ()), ()) ∧ ∀ (y3 : kden Bool.false tI × denCells (vBld 320) × PUnit), shDInv c l ss ns x y3 → bif pLt y3.1 (pInt (pLen c.2.1)) then pIn l (pLen c.2.1) ∧ pIn y3.1
  (pLen c.2.1) ∧ bif pNot (aboveF (Show_v3 c l) (pGet tyTxn c.2.1 (pNat y3.1))) then shDInv c l ss ns x (pAdd IntKind.i64 y3.1 (1 : Int), ((), y3.2.1.2), ()) ∧ Nat.le (Nat.succ (shDMu c l ss ns x (pAdd IntKind.i64 y3.1 (1 : Int),
  ((), y3.2.1.2), ()))) (shDMu c l ss ns x y3) else bif pEq x.1 (1 : Int) then pIn y3.1 (pLen ss) ∧ pLe (0 : Int) y3.1 = Bool.true ∧ pLe y3.1 (5 : Int) = Bool.true ∧ stoF (Show_v4 ss y3) = Bool.true ∧ pRoom (pPlus (pLen y3.2.1.2.1)
  (pStrLen (listF y3.1 (Show_v4 ss y3)))) 1 ∧ Nat.le (Nat.succ (pLen (Show_v4 ss y3).1)) 4611686018427387904 ∧ Nat.le (Nat.succ (pLen (Show_v4 ss y3).2.1)) 4611686018427387904 ∧ Nat.le (Nat.succ (pLen (Show_v4 ss y3).2.2.1))
  4611686018427387904 ∧ Nat.le (Nat.succ (pLen (Show_v4 ss y3).2.2.2.1)) 4611686018427387904 ∧ shDInv c l ss ns x (Show_v5 c l ss ns x y0 y1 y3) ∧ Nat.le (Nat.succ (shDMu c l ss ns x (Show_v5 c l ss ns x y0 y1 y3))) (shDMu c l ss ns
  x y3) else pIn y3.1 (pLen ns) ∧ pLe (0 : Int) y3.1 = Bool.true ∧ pLe y3.1 (5 : Int) = Bool.true ∧ notesOk (Show_v6 ns y3) ∧ pRoom (pPlus (pLen y3.2.1.2.1) (pStrLen (auditF y3.1 (Show_v6 ns y3)))) 1 ∧ Nat.le (Nat.succ (pLen
  (Show_v6 ns y3))) 4611686018427387904 ∧ shDInv c l ss ns x (Show_v7 c l ss ns x y0 y1 y3) ∧ Nat.le (Nat.succ (shDMu c l ss ns x (Show_v7 c l ss ns x y0 y1 y3))) (shDMu c l ss ns x y3) else pIsBl y3.2.1.2.1 ∧ (unBl y3.2.1.2.1, (0 :
  Int), ()) = Show_v0 c l ss ns x
theorem partX_len {c : CfgD} {l : Int} {ss : List StoD} {ns : List NotesD} {x : Int} (h : ShwOk c l ss ns) (hb : pBulk ss ns) {k : Nat} (hk : k ≤ c.2.1.length) : (partsTo (partX c l ss ns x) k).length ≤ 83886080 := by
  cases hx : pEq x 1
  · have e : partX c l ss ns x = part4 c l ns := by funext i; unfold partX; rw [hx]; rfl
    rw [e]; exact parts4_len h hb hk
  · have e : partX c l ss ns x = part1 c l ss := by funext i; unfold partX; rw [hx]; rfl
    rw [e]; exact parts1_len h hb hk
theorem blkD_ok {c : CfgD} {l : Int} {ss : List StoD} {ns : List NotesD} {x : CmdD} {y0 y1 : Int × Unit} (hc : pLen c.2.1 < 4611686018427387904) (h4 : ∀ q ∈ ss, pLen q.1 < 4611686018427387904 ∧ pLen q.2.1 < 4611686018427387904 ∧ pLen q.2.2.1 < 4611686018427387904 ∧ pLen q.2.2.2.1 < 4611686018427387904)
    (h1 : ∀ q ∈ ns, pLen q.1 < 4611686018427387904) (hbulk : pBulk ss ns) (hE : shwE c l ss ns x = 0) (hx2 : pEq x.1 2 = false) : blkD c l ss ns x y0 y1 := by
  obtain ⟨h, _⟩ := shw0 hE
  have hlS := h.lenS
  have hlN := h.lenN
  have h6 := cfg_lens h.cfg
  refine ⟨StepInv.start rfl, fun y3 hy3 => ?_⟩
  rcases StepInv.round hc hy3 with ⟨k, rfl, hk, hb, hz⟩ | rfl
  · rw [bif_true (by exact lt_true hk)]
    have hkn : k < ns.length := Nat.lt_of_lt_of_eq hk hlN.symm
    have hks : k < ss.length := Nat.lt_of_lt_of_eq hk hlS.symm
    have hk6 : k < 6 := Nat.lt_of_lt_of_le hk h6
    delta Show_v7 Show_v6 Show_v5 Show_v4 Show_v3
    dsimp only
    rw [pNat_coe]
    have hP := partX_len (x := x.1) h hbulk (Nat.le_of_lt hk)
    have hP1 := partX_len (x := x.1) h hbulk (k := k + 1) hk
    have hPs : partsTo (partX c l ss ns x.1) (k + 1) = partsTo (partX c l ss ns x.1) k ++ partX c l ss ns x.1 k := rfl
    rw [hPs, List.length_append] at hP1
    refine ⟨place_in h.place, pIn_coe.2 hk, bif_ok (fun ha => ?_) fun ha => bif_ok (fun hk1 => ?_) fun hk1 => ?_⟩
    · have ha : aboveF (pGet tyLab c.2.1 (pNat l)) (pGet tyLab c.2.1 k) = false := by simpa [pNot] using ha
      have e : partX c l ss ns x.1 k = [] := by unfold partX; rw [part1_not ha, part4_not ha]; cases pEq x.1 1 <;> rfl
      rw [e, List.append_nil] at hPs
      refine hz _ ?_
      rw [hPs]
    · have ha : aboveF (pGet tyLab c.2.1 (pNat l)) (pGet tyLab c.2.1 k) = true := by simpa [pNot] using ha
      have e : partX c l ss ns x.1 k = listL k (pGet tySto ss k) (pGet tySto ss k).2.2.1 := by unfold partX; rw [hk1]; exact part1_above ha
      rw [e] at hPs hP1
      have hm : pGet tySto ss k ∈ ss := by rw [pGet_lt hks]; exact List.getElem_mem hks
      obtain ⟨q1, q2, q3, q4⟩ := h4 _ hm
      refine ⟨pIn_coe.2 hks, decide_eq_true (by omega), decide_eq_true (by omega), stos_at h.stos hks, ?_, q1, q2, q3, q4, hz _ ?_⟩
      · unfold listF
        rw [blba_len, ba_len]
        show (_ + _) * 1 ≤ 140737488351232
        omega
      · rw [hPs]
        unfold listF
        rw [bl_ba]
    · have ha : aboveF (pGet tyLab c.2.1 (pNat l)) (pGet tyLab c.2.1 k) = true := by simpa [pNot] using ha
      have e : partX c l ss ns x.1 k = auditL k (pGet tyNotes ns k).1 := by unfold partX; rw [hk1]; exact part4_above ha
      rw [e] at hPs hP1
      have hm : pGet tyNotes ns k ∈ ns := by rw [pGet_lt hkn]; exact List.getElem_mem hkn
      refine ⟨pIn_coe.2 hkn, decide_eq_true (by omega), decide_eq_true (by omega), nots_at h.nots hkn, ?_, h1 _ hm, hz _ ?_⟩
      · unfold auditF
        rw [blba_len, ba_len]
        show (_ + _) * 1 ≤ 140737488351232
        omega
      · rw [hPs]
        unfold auditF
        rw [bl_ba]
  · rw [bif_false (by exact lt_self)]
    refine ⟨isBl_bl _, ?_⟩
    dsimp only
    rw [unBl_bl]
    have e : shwS c l ss ns x = ba (partsTo (partX c l ss ns x.1) c.2.1.length) := by unfold shwS; rw [hE, hx2]; rfl
    delta Show_v0
    rw [e, hE]
    rfl
theorem ask_none (t : TxnD) : askE ([], [], [], [], ()) t 0 = cond (txnF t) 0 2 := by
  have h : stoF ([], [], [], [], ()) = true := by decide
  unfold askE
  rw [h]
  cases txnF t <;> rfl
theorem Show_ok : MtG tabsP 9 cShow := Show_meets lCheck_ok.any Check_ok.any Writes_ok.any above_ok.any list_ok audit_ok prepared_ok.any WriteString0_ok BStr_ok fun c l ss ns x hp => by
  have hc : pLen c.2.1 < 4611686018427387904 := (hp _ List.mem_cons_self)
  have hls : pLen ss < 4611686018427387904 := (hp _ (List.mem_cons_of_mem _ List.mem_cons_self))
  have hln : pLen ns < 4611686018427387904 := (hp _ (List.mem_cons_of_mem _ (List.mem_cons_of_mem _ List.mem_cons_self)))
  have h4 : ∀ q ∈ ss, pLen q.1 < 4611686018427387904 ∧ pLen q.2.1 < 4611686018427387904 ∧ pLen q.2.2.1 < 4611686018427387904 ∧ pLen q.2.2.2.1 < 4611686018427387904 := (hp _ (List.mem_cons_of_mem _ (List.mem_cons_of_mem _ (List.mem_cons_of_mem _ List.mem_cons_self))))
  have h1 : ∀ q ∈ ns, pLen q.1 < 4611686018427387904 := (hp _ (List.mem_cons_of_mem _ (List.mem_cons_of_mem _ (List.mem_cons_of_mem _ (List.mem_cons_of_mem _ List.mem_cons_self)))))
  have hbulk : pBulk ss ns := (hp _ (List.mem_cons_of_mem _ (List.mem_cons_of_mem _ (List.mem_cons_of_mem _ (List.mem_cons_of_mem _ (List.mem_cons_of_mem _ List.mem_cons_self))))))
  clear hp
  refine ⟨hc, bif_ok (fun h => ?_) fun h => ?_⟩
  · have h0 : pEq (cfgF c) 0 = false := by simpa [pNe, pEq] using h
    exact shw_bad (by unfold shwE; rw [h0]; rfl) h0
  have hcf : cfgF c = 0 := by simpa [pNe] using h
  have six : placeF c l = false → shwE c l ss ns x = 6 := fun e => by unfold shwE; rw [hcf, e]; rfl
  refine bif_ok (fun h => shw_bad (six ?_) rfl) fun hl0 => bif_ok (fun h => shw_bad (six ?_) rfl) fun hl1 => ?_
  · unfold placeF
    have h : l < 0 := of_decide_eq_true h
    rw [show pLe 0 l = false from decide_eq_false (by omega)]; rfl
  · unfold placeF
    have h : l ≥ (c.2.1.length : Int) := of_decide_eq_true h
    rw [show pLt l (pInt c.2.1.length) = false from decide_eq_false (Int.not_lt.2 h)]; simp
  have hpl : placeF c l = true := by
    unfold placeF
    have a : ¬ l < 0 := of_decide_eq_false hl0
    have b : ¬ l ≥ (c.2.1.length : Int) := of_decide_eq_false hl1
    rw [show pLe 0 l = true from decide_eq_true (by omega), show pLt l (pInt c.2.1.length) = true from decide_eq_true (Int.not_le.1 b)]; rfl
  have nine : lensF c ss ns = false → shwE c l ss ns x = 9 := fun e => by unfold shwE; rw [hcf, hpl, e]; rfl
  refine bif_ok (fun h => shw_bad (nine ?_) rfl) fun ha => bif_ok (fun h => shw_bad (nine ?_) rfl) fun hb => ?_
  · unfold lensF
    rw [decide_eq_false fun e : ss.length = c.2.1.length => (lens_ne e h).elim]; rfl
  · unfold lensF
    rw [decide_eq_false fun e : ns.length = c.2.1.length => (lens_ne e h).elim]; simp
  have a : ss.length = c.2.1.length := by
    have a : ¬ ((ss.length : Int) ≠ (c.2.1.length : Int)) := by simpa [pNe, pInt, pLen] using ha
    exact Int.ofNat_inj.1 (Decidable.not_not.1 a)
  have b : ns.length = c.2.1.length := by
    have b : ¬ ((ns.length : Int) ≠ (c.2.1.length : Int)) := by simpa [pNe, pInt, pLen] using hb
    exact Int.ofNat_inj.1 (Decidable.not_not.1 b)
  have hL : lensF c ss ns = true := lens_of a b
  refine ⟨UpInv.start, fun y0 hy0 => ?_⟩
  rcases UpInv.round hls hy0 with ⟨k, rfl, hk, hkb, _, hF, hT⟩ | ⟨rfl, hS⟩
  · rw [bif_true (by exact lt_true hk)]
    delta Show_v1
    dsimp only
    rw [pNat_coe]
    have hm : pGet tySto ss k ∈ ss := by rw [pGet_lt hk]; exact List.getElem_mem hk
    obtain ⟨q1, q2, q3, q4⟩ := h4 _ hm
    refine ⟨pIn_coe.2 hk, q1, q2, q3, q4, ?_⟩
    cases hs : stoF (pGet tySto ss k)
    · have hst : stosF ss = false := hF hs
      exact shw_bad (by unfold shwE; rw [hcf, hpl, hL, hst]; rfl) rfl
    · exact hT hs
  rw [bif_false (by exact lt_self)]
  have hst : stosF ss = true := hS
  refine ⟨UpInv.start, fun y1 hy1 => ?_⟩
  rcases UpInv.round hln hy1 with ⟨k, rfl, hk, hkb, _, hF, hT⟩ | ⟨rfl, hN⟩
  · rw [bif_true (by exact lt_true hk)]
    have hm : pGet tyNotes ns k ∈ ns := by rw [pGet_lt hk]; exact List.getElem_mem hk
    have hl1' := h1 _ hm
    refine ⟨pIn_coe.2 hk, UpInv.start, fun y4 hy4 => ?_⟩
    delta Show_v2
    dsimp only
    unfold shCInv at hy4
    rw [pNat_coe] at hy4 ⊢
    rcases UpInv.round hl1' hy4 with ⟨j, rfl, hj, hjb, _, hF4, hT4⟩ | ⟨rfl, hN4⟩
    · rw [bif_true (by exact lt_true hj)]
      dsimp only
      rw [pNat_coe]
      refine ⟨pIn_coe.2 hj, Nat.zero_lt_succ _, Nat.zero_lt_succ _, Nat.zero_lt_succ _, Nat.zero_lt_succ _, ?_⟩
      have ek : askE (vnil (Int × Int × Int × PUnit), vnil (Int × Int × Int × Bool × Int × Int × PUnit), vnil (Int × Int × Int × PUnit), vnil (Int × Int × PUnit), ()) ((pGet tyNote (pGet tyNotes ns k).1 j).1, (pGet tyNote (pGet tyNotes ns k).1 j).2.1, ()) (0 : Int) = cond (noteOk (pGet tyNote (pGet tyNotes ns k).1 j)) 0 2 := ask_none _
      rw [ek]
      cases hs : noteOk (pGet tyNote (pGet tyNotes ns k).1 j)
      · have hna : notsAt ns k = false := hF4 hs
        have hnt : notsF ns = false := hF hna
        exact shw_bad (by unfold shwE; rw [hcf, hpl, hL, hst, hnt]; rfl) rfl
      · unfold shCInv shCMu
        rw [pNat_coe]
        exact hT4 hs
    · rw [bif_false (by exact lt_self)]
      exact hT hN4
  rw [bif_false (by exact lt_self)]
  have hnt : notsF ns = true := hN
  have hEk : kindF x.1 = true → shwE c l ss ns x = 0 := fun e => by unfold shwE; rw [hcf, hpl, hL, hst, hnt, e]; rfl
  have v10 : pEq x.1 1 = false → pEq x.1 4 = false → Show_v10 c l ss ns x := fun n1 n4 => by
    delta Show_v10
    refine bif_ok (fun k2 => ?_) fun k2 => shw_bad (e := 3) (by
      have e : kindF x.1 = false := by unfold kindF; rw [n1, k2, n4]; rfl
      unfold shwE; rw [hcf, hpl, hL, hst, hnt, e]; rfl) rfl
    have hE := hEk (by unfold kindF; rw [k2]; simp)
    have hS : shwS c l ss ns x = cond (stat c l ss x.2) (bs [112, 114, 101, 112, 97, 114, 101, 100, 10]) (bs [117, 110, 107, 110, 111, 119, 110, 10]) := by unfold shwS; rw [hE, k2]; rfl
    have no : stat c l ss x.2 = false → Show_t9 c l ss ns x := fun e => by
      delta Show_t9 Show_v0
      rw [hS, hE, e, unBl_bl]
      exact ⟨by show 8 * 1 ≤ 140737488351232; decide, isBl_bl _, rfl⟩
    refine bif_ok (fun g0 => bif_ok (fun g1 => ?_) fun g1 => no ?_) fun g0 => no ?_
    · have hpx : placeF c x.2.1 = true := by
        unfold placeF
        rw [show pLe 0 x.2.1 = true from g0, show pLt x.2.1 (pInt c.2.1.length) = true from g1]; rfl
      have hx := place_in hpx
      obtain ⟨k, hk⟩ : ∃ k : Nat, x.2.1 = (k : Int) := ⟨x.2.1.toNat, (Int.toNat_of_nonneg hx.1).symm⟩
      have hx2 : k < c.2.1.length := by have := hx.2; rw [hk] at this; exact Int.ofNat_lt.1 this
      have hks : k < ss.length := Nat.lt_of_lt_of_eq hx2 a.symm
      have hm : pGet tySto ss (pNat x.2.1) ∈ ss := by rw [hk, pNat_coe, pGet_lt hks]; exact List.getElem_mem hks
      obtain ⟨q1, q2, q3, q4⟩ := h4 _ hm
      refine ⟨place_in hpl, hx, bif_ok (fun ha => ⟨by rw [hk]; exact pIn_coe.2 hks, q1, q2, q3, q4, bif_ok (fun hpr => ?_) fun hpr => no ?_⟩) fun ha => no ?_⟩
      · have ha : aboveF (pGet tyLab c.2.1 (pNat l)) (pGet tyLab c.2.1 (pNat x.2.1)) = true := ha
        have hpr : prepF (pGet tySto ss (pNat x.2.1)) (x.2.2.1, x.2.2.2.1, ()) = true := hpr
        have e : stat c l ss x.2 = true := by unfold stat; rw [hpx, ha, hpr]; rfl
        delta Show_v0
        rw [hS, hE, e, unBl_bl]
        exact ⟨by show 9 * 1 ≤ 140737488351232; decide, isBl_bl _, rfl⟩
      · have hpr : prepF (pGet tySto ss (pNat x.2.1)) (x.2.2.1, x.2.2.2.1, ()) = false := hpr
        unfold stat; rw [hpr]; simp
      · have ha : aboveF (pGet tyLab c.2.1 (pNat l)) (pGet tyLab c.2.1 (pNat x.2.1)) = false := ha
        unfold stat; rw [ha]; simp
    · have g1 : pLt x.2.1 (pInt c.2.1.length) = false := g1
      unfold stat placeF; rw [g1]; simp
    · have g0 : pLe 0 x.2.1 = false := g0
      unfold stat placeF; rw [g0]; rfl
  have two : ∀ {i : Int}, pEq x.1 i = true → i ≠ 2 → pEq x.1 2 = false := fun {i} e n => by
    have e : x.1 = i := by simpa [pEq] using e
    rw [e]; simpa [pEq] using n
  refine bif_ok (fun k1 => bif_ok (fun _ => blkD_ok (y0 := ((0 : Int), ())) (y1 := ((0 : Int), ())) hc h4 h1 hbulk (hEk (by unfold kindF; rw [k1]; rfl)) (two k1 (by decide))) fun e => absurd k1 (by rw [e]; simp)) fun k1 => bif_ok (fun k4 => blkD_ok (y0 := ((0 : Int), ())) (y1 := ((0 : Int), ())) hc h4 h1 hbulk (hEk (by unfold kindF; rw [k4]; simp)) (two k4 (by decide))) fun k4 => v10 k1 k4


end Go.Proofs.YtedjlbcclhgfmaaDoor
