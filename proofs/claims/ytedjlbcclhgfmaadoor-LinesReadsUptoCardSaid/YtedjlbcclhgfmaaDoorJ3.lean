/- A call's words, a line: the document's functions meet their contracts. No condition. -/
import Derived.Test.YtedjlbcclhgfmaaDoorJ2
import Derived.Test.YtedjlbcclhgfmaaDoorJ1
import Derived.Shelf.Small.Strs
import Derived.Shelf.Strings.Cut
import Derived.Test.YtedjlbcclhgfmaaDoorProg

/- Contracts, and what the evaluator says, as plain propositions: LqV. Printed by vc.py. -/
namespace Go.Proofs.YtedjlbcclhgfmaaDoor
open Go.RowKit Go.ChangeShapes Go.WideShapes Go.Deep
variable {mL : Int}

abbrev Split_S : Shape := ⟨[.one (.rd .str), .one (.rd .str)], []⟩
abbrev Split_f : Shape.den Split_S → denVars [.slot 0 false (.sl tyS)] := fun x => (pSplit x.1.1 x.1.2.1, ())
abbrev Split_p : Shape.den Split_S → List Prop := fun x => [pShort x.1.1, pOne x.1.2.1]
def cSplit : Ctr := shCtr Split_S Split_p [] [.slot 0 false (.sl tyS)] Split_f
abbrev Itoa_S : Shape := ⟨[.one (.rd tI)], []⟩
abbrev Itoa_f : Shape.den Itoa_S → denVars [.slot 0 false .str] := fun x => (pItoa x.1.1, ())
abbrev Itoa_p : Shape.den Itoa_S → List Prop := fun x => [pLe (-9223372036854775808) x.1.1 = true, pLe x.1.1 9223372036854775807 = true]
def cItoa : Ctr := shCtr Itoa_S Itoa_p [] [.slot 0 false .str] Itoa_f
abbrev Cut_f : Shape.den Split_S → denVars [.slot 0 false .str, .slot 1 false .str, .slot 2 false .bool] := fun x => (cutA x.1.1 x.1.2.1, cutB x.1.1 x.1.2.1, cutF x.1.1 x.1.2.1, ())
abbrev Cut_p : Shape.den Split_S → List Prop := fun x => [pShort x.1.1]
def cCut : Ctr := shCtr Split_S Cut_p [] [.slot 0 false .str, .slot 1 false .str, .slot 2 false .bool] Cut_f
abbrev IndexByte_S : Shape := ⟨[.one (.rd .str), .one (.rd (.int .u8))], []⟩
abbrev IndexByte_f : Shape.den IndexByte_S → denVars [.slot 0 false tI] := fun x => (idxB x.1.1 x.1.2.1, ())
abbrev IndexByte_p : Shape.den IndexByte_S → List Prop := fun _ => []
def cIndexByte : Ctr := shCtr IndexByte_S IndexByte_p [] [.slot 0 false tI] IndexByte_f
abbrev number_S : Shape := ⟨[.one (.lit (.pt 0 0))], [.box [.rd (.sl tyS), .rd .bool]]⟩
abbrev number_f : Shape.den number_S → denVars [.slot 0 false tI, .box 0 vTak] := fun x => (pAtoiN (nextS x.2.1.1), (nextL x.2.1.1, (nextB x.2.1.1 x.2.1.2.1 || !numOk (nextS x.2.1.1)), ()), ())
abbrev number_p : Shape.den number_S → List Prop := fun x => [pFewW x.2.1.1]
def cnumber : Ctr := shCtr number_S number_p [] [.slot 0 false tI, .box 0 vTak] number_f
abbrev text_f : Shape.den number_S → denVars [.slot 0 false .str, .box 0 vTak] := fun x => (txtS (nextS x.2.1.1), (nextL x.2.1.1, (nextB x.2.1.1 x.2.1.2.1 || !txtB (nextS x.2.1.1)), ()), ())
def ctext : Ctr := shCtr number_S number_p [] [.slot 0 false .str, .box 0 vTak] text_f
abbrev tcall_f : Shape.den number_S → denVars [.agg 0 vCall, .box 0 vTak] := fun x => (takC x.2.1.1 x.2.1.2.1, (takL x.2.1.1 x.2.1.2.1, takB x.2.1.1 x.2.1.2.1, ()), ())
def ctcall : Ctr := shCtr number_S number_p [] [.agg 0 vCall, .box 0 vTak] tcall_f
abbrev lone_S : Shape := ⟨[.one (.rd .str)], []⟩
abbrev lone_f : Shape.den lone_S → denVars [.agg 0 vAct, .slot 1 false .bool] := fun x => (oneA x.1.1, oneB x.1.1, ())
abbrev lone_p : Shape.den lone_S → List Prop := fun x => [pShort x.1.1]
def clone : Ctr := shCtr lone_S lone_p [] [.agg 0 vAct, .slot 1 false .bool] lone_f
abbrev oneF_f : Shape.den lone_S → denVars [.agg 0 vActF, .slot 1 false .bool] := fun x => (oneA x.1.1, oneB x.1.1, ())
def coneF : Ctr := shCtr lone_S lone_p [] [.agg 0 vActF, .slot 1 false .bool] oneF_f
abbrev Read_S : Shape := ⟨[pCfg, .one (.rd .str)], []⟩
abbrev Read_f : Shape.den Read_S → denVars [.slot 0 true tyAct, .slot 1 false tI, .slot 2 false tI] := fun x => (readL x.1.1 x.1.2.1, readI x.1.1 x.1.2.1, readE x.1.1 x.1.2.1, ())
abbrev Read_p : Shape.den Read_S → List Prop := fun x => [pLen x.1.1.2.1 < 4611686018427387904, pShort x.1.2.1]
def cRead : Ctr := shCtr Read_S Read_p [] [.slot 0 true tyAct, .slot 1 false tI, .slot 2 false tI] Read_f
abbrev eqsLqV : List TypeId := []

abbrev number_v0 (l : List SD) (b : Bool) := (pAtoiN (nextS l), (nextL l, bif nextB l b then Bool.true else bif numOk (nextS l) then Bool.false else Bool.true, ()), ())

def number_VC (l : List SD) (b : Bool) : Prop :=
  pFewW l ∧ pShort (nextS l) ∧ bif nextB l b then (pAtoiN (nextS l), (nextL l, Bool.true, ()), ()) = number_v0 l b else bif pAtoiB (nextS l) then (pAtoiN (nextS l), (nextL l, Bool.true, ()), ()) = number_v0 l b else pLe (-9223372036854775808
 : Int) (pAtoiN (nextS l)) = Bool.true ∧ pLe (pAtoiN (nextS l)) (9223372036854775807 : Int) = Bool.true ∧ (pAtoiN (nextS l), (nextL l, pNot (pStrEq (pItoa (pAtoiN (nextS l))) (nextS l)), ()), ()) = number_v0 l b
set_option maxRecDepth 100000 in
theorem number_meets (hnext : MtG (tabsL mL) 73 cnext) (hAtoi : MtG (tabsL mL) 70 cAtoi) (hItoa : MtG (tabsL mL) 20 cItoa) (h : ∀ (l : List SD) (b : Bool), (∀ p ∈ number_p ⟨((), ()), ((l, b, ()), ())⟩, p) → number_VC l b) : MtG (tabsL mL) 74 cnumber :=
  meets_vc (E := envOfG Tryd.prog (tabsL mL) [(73, (false, cnext)), (70, (false, cAtoi)), (20, (false, cItoa))] eqsLqV) (envOfG_ok (fun p hp => (by simp only [List.mem_cons, List.not_mem_nil, or_false] at hp; rcases hp with rfl | rfl | rfl; exact hnext; exact hAtoi; exact hItoa)) (by kernel_rfl)) number_S (fun x => fun ky9 st9 => look [] ky9) Tryd.func74 (by kernel_rfl) (by kernel_rfl) number_p [] [.slot 0 false tI, .box 0 vTak] number_f (fun x => number_VC x.2.1.1 x.2.1.2.1) (fun x => by kernel_rfl) (fun x hp => h x.2.1.1 x.2.1.2.1 hp)

abbrev text_v0 (l : List SD) (b : Bool) := (txtS (nextS l), (nextL l, bif nextB l b then Bool.true else bif txtB (nextS l) then Bool.false else Bool.true, ()), ())
abbrev text_t1 (l : List SD) (b : Bool) : Prop := ((bs []), (nextL l, Bool.true, ()), ()) = text_v0 l b
abbrev text_v2 (l : List SD) (y0 : kden Bool.false tI × kden Bool.true tB8 × PUnit) := (pWrap IntKind.u8 (pOr IntKind.i64 (pShl IntKind.i64 (idxB (bs [48, 49, 50, 51, 52, 53, 54, 55, 56, 57, 97, 98, 99, 100, 101, 102]) (pStrGet (nextS l) (pNat y0.1))) (4 : Int)) (idxB (bs [48, 49, 50, 51, 52, 53, 54, 55, 56, 57, 97, 98, 99,
 100, 101, 102]) (pStrGet (nextS l) (pNat (pAdd IntKind.i64 y0.1 (1 : Int)))))), ()) :: vnil (Int × PUnit)

def text_VC (l : List SD) (b : Bool) : Prop :=
  pFewW l ∧ pNz (2 : Int) ∧ bif pNe (pRem (pInt (pStrLen (nextS l))) (2 : Int)) (1 : Int) then text_t1 l b else pIn (0 : Int) (pStrLen (nextS l)) ∧ bif pNe (pStrGet (nextS l) (pNat (0 : Int))) (46 : Int) then text_t1 l b else txtInv l b ((1 :
 Int), vnil (Int × PUnit), ()) ∧ ∀ (y0 : kden Bool.false tI × kden Bool.true tB8 × PUnit), txtInv l b y0 → bif pLt y0.1 (pInt (pStrLen (nextS l))) then pIn y0.1 (pStrLen (nextS l)) ∧ pIn (pAdd IntKind.i64 y0.1 (1 : Int)) (pStrLen (nextS l))
 ∧ bif pLt (idxB (bs [48, 49, 50, 51, 52, 53, 54, 55, 56, 57, 97, 98, 99, 100, 101, 102]) (pStrGet (nextS l) (pNat y0.1))) (0 : Int) then text_t1 l b else bif pLt (idxB (bs [48, 49, 50, 51, 52, 53, 54, 55, 56, 57, 97, 98, 99, 100, 101, 102])
 (pStrGet (nextS l) (pNat (pAdd IntKind.i64 y0.1 (1 : Int))))) (0 : Int) then text_t1 l b else pGe0 (4 : Int) ∧ pRoom (pPlus (pLen y0.2.1) (pLen (text_v2 l y0))) 1 ∧ txtInv l b (pAdd IntKind.i64 y0.1 (2 : Int), pApp y0.2.1 (text_v2 l y0),
 ()) ∧ Nat.le (Nat.succ (txtMu l b (pAdd IntKind.i64 y0.1 (2 : Int), pApp y0.2.1 (text_v2 l y0), ()))) (txtMu l b y0) else (pBytes y0.2.1, (nextL l, nextB l b, ()), ()) = text_v0 l b
set_option maxRecDepth 100000 in
theorem text_meets (hnext : MtG (tabsL mL) 73 cnext) (hIndexByte : MtG (tabsL mL) 96 cIndexByte) (h : ∀ (l : List SD) (b : Bool), (∀ p ∈ number_p ⟨((), ()), ((l, b, ()), ())⟩, p) → text_VC l b) : MtG (tabsL mL) 76 ctext :=
  meets_vc (E := envOfG Tryd.prog (tabsL mL) [(73, (false, cnext)), (96, (false, cIndexByte))] eqsLqV) (envOfG_ok (fun p hp => (by simp only [List.mem_cons, List.not_mem_nil, or_false] at hp; rcases hp with rfl | rfl; exact hnext; exact hIndexByte)) (by kernel_rfl)) number_S (fun x => fun ky9 st9 => look [(7, (⟨[.slot 5 false tI, .slot 4 true tB8], txtInv x.2.1.1 x.2.1.2.1, txtMu x.2.1.1 x.2.1.2.1⟩ : Ann))] ky9) Tryd.func76 (by kernel_rfl) (by kernel_rfl) number_p [] [.slot 0 false .str, .box 0 vTak] text_f (fun x => text_VC x.2.1.1 x.2.1.2.1) (fun x => by kernel_rfl) (fun x hp => h x.2.1.1 x.2.1.2.1 hp)

abbrev tcall_v0 := pSub callsT (pNat (1 : Int)) 6
abbrev tcall_v1 (l : List SD) := (pAdd IntKind.i64 (idxS tcall_v0 (nextS l)) (1 : Int), pAtoiN (nextS (nextL l)), (0 : Int), (0 : Int), (0 : Int), ())
abbrev tcall_v2 (l : List SD) (b : Bool) := (takC l b, (takL l b, takB l b, ()), ())
abbrev tcall_v3 (l : List SD) (b : Bool) := bif nextB (nextL (nextL l)) (bif nextB (nextL l) (nextB l b) then Bool.true else bif numOk (nextS (nextL l)) then Bool.false else Bool.true) then Bool.true else bif numOk (nextS (nextL (nextL l))) then Bool.false else Bool.true
abbrev tcall_v4 (l : List SD) (b : Bool) := ((nextL (nextL (nextL (nextL l))), bif nextB (nextL (nextL (nextL l))) (tcall_v3 l b) then Bool.true else bif numOk (nextS (nextL (nextL (nextL l)))) then Bool.false else Bool.true, ()), ())

def tcall_VC (l : List SD) (b : Bool) : Prop :=
  pTo (1 : Int) 6 ∧ pFewW l ∧ Nat.le (Nat.succ (pLen tcall_v0)) 4611686018427387904 ∧ bif pGt (pAdd IntKind.i64 (idxS tcall_v0 (nextS l)) (1 : Int)) (1 : Int) then pFewW (nextL l) ∧ bif pEq (pAdd IntKind.i64 (idxS tcall_v0 (nextS l)) (1 :
 Int)) (0 : Int) then (tcall_v1 l, (nextL (nextL l), Bool.true, ()), ()) = tcall_v2 l b else bif pEq (pAdd IntKind.i64 (idxS tcall_v0 (nextS l)) (1 : Int)) (2 : Int) then pFewW (nextL (nextL l)) ∧ pFewW (nextL (nextL (nextL l))) ∧ ((pAdd
 IntKind.i64 (idxS tcall_v0 (nextS l)) (1 : Int), pAtoiN (nextS (nextL l)), pAtoiN (nextS (nextL (nextL l))), pAtoiN (nextS (nextL (nextL (nextL l)))), (0 : Int), ()), tcall_v4 l b) = tcall_v2 l b else bif pEq (pAdd IntKind.i64 (idxS
 tcall_v0 (nextS l)) (1 : Int)) (3 : Int) then pFewW (nextL (nextL l)) ∧ pFewW (nextL (nextL (nextL l))) ∧ ((pAdd IntKind.i64 (idxS tcall_v0 (nextS l)) (1 : Int), pAtoiN (nextS (nextL l)), (0 : Int), pAtoiN (nextS (nextL (nextL l))), pAtoiN
 (nextS (nextL (nextL (nextL l)))), ()), tcall_v4 l b) = tcall_v2 l b else (tcall_v1 l, (nextL (nextL l), bif nextB (nextL l) (nextB l b) then Bool.true else bif numOk (nextS (nextL l)) then Bool.false else Bool.true, ()), ()) = tcall_v2 l b
 else bif pEq (pAdd IntKind.i64 (idxS tcall_v0 (nextS l)) (1 : Int)) (0 : Int) then ((pAdd IntKind.i64 (idxS tcall_v0 (nextS l)) (1 : Int), (0 : Int), (0 : Int), (0 : Int), (0 : Int), ()), (nextL l, Bool.true, ()), ()) = tcall_v2 l b else
 bif pEq (pAdd IntKind.i64 (idxS tcall_v0 (nextS l)) (1 : Int)) (2 : Int) then pFewW (nextL l) ∧ pFewW (nextL (nextL l)) ∧ ((pAdd IntKind.i64 (idxS tcall_v0 (nextS l)) (1 : Int), (0 : Int), pAtoiN (nextS (nextL l)), pAtoiN (nextS (nextL
 (nextL l))), (0 : Int), ()), (nextL (nextL (nextL l)), tcall_v3 l b, ()), ()) = tcall_v2 l b else bif pEq (pAdd IntKind.i64 (idxS tcall_v0 (nextS l)) (1 : Int)) (3 : Int) then pFewW (nextL l) ∧ pFewW (nextL (nextL l)) ∧ ((pAdd IntKind.i64
 (idxS tcall_v0 (nextS l)) (1 : Int), (0 : Int), (0 : Int), pAtoiN (nextS (nextL l)), pAtoiN (nextS (nextL (nextL l))), ()), (nextL (nextL (nextL l)), tcall_v3 l b, ()), ()) = tcall_v2 l b else ((pAdd IntKind.i64 (idxS tcall_v0 (nextS l)) (1
 : Int), (0 : Int), (0 : Int), (0 : Int), (0 : Int), ()), (nextL l, nextB l b, ()), ()) = tcall_v2 l b
set_option maxRecDepth 100000 in
theorem tcall_meets (hnext : MtG (tabsL mL) 73 cnext) (hidxS : MtG (tabsL mL) 72 cidxS) (hnumber : MtG (tabsL mL) 74 cnumber) (h : ∀ (l : List SD) (b : Bool), (∀ p ∈ number_p ⟨((), ()), ((l, b, ()), ())⟩, p) → tcall_VC l b) : MtG (tabsL mL) 75 ctcall :=
  meets_vc (E := envOfG Tryd.prog (tabsL mL) [(73, (false, cnext)), (72, (false, cidxS)), (74, (false, cnumber))] eqsLqV) (envOfG_ok (fun p hp => (by simp only [List.mem_cons, List.not_mem_nil, or_false] at hp; rcases hp with rfl | rfl | rfl; exact hnext; exact hidxS; exact hnumber)) (by kernel_rfl)) number_S (fun x => fun ky9 st9 => look [] ky9) Tryd.func75 (by kernel_rfl) (by kernel_rfl) number_p [] [.agg 0 vCall, .box 0 vTak] tcall_f (fun x => tcall_VC x.2.1.1 x.2.1.2.1) (fun x => by kernel_rfl) (fun x hp => h x.2.1.1 x.2.1.2.1 hp)

abbrev lone_v0 := pSub wordsT (pNat (1 : Int)) 9
abbrev lone_v1 (s : ByteArray) := pAdd IntKind.i64 (idxS lone_v0 (nextS (pSplit s (bs [32])))) (1 : Int)
abbrev lone_v2 := (vnil (Int × PUnit), (0 : Int), (0 : Int), (0 : Int), (0 : Int), (0 : Int), (bs []), ())
abbrev lone_v3 (s : ByteArray) := (lone_v1 s, (0 : Int), (0 : Int), (0 : Int), (0 : Int), lone_v2)
abbrev lone_v4 (s : ByteArray) := bif nextB (nextL (pSplit s (bs [32]))) (nextB (pSplit s (bs [32])) Bool.false) then Bool.true else bif numOk (nextS (nextL (pSplit s (bs [32])))) then Bool.false else Bool.true
abbrev lone_v5 (s : ByteArray) := bif nextB (nextL (nextL (pSplit s (bs [32])))) (lone_v4 s) then Bool.true else bif numOk (nextS (nextL (nextL (pSplit s (bs [32]))))) then Bool.false else Bool.true
abbrev lone_v6 (s : ByteArray) := bif nextB (nextL (nextL (nextL (pSplit s (bs [32]))))) (lone_v5 s) then Bool.true else bif numOk (nextS (nextL (nextL (nextL (pSplit s (bs [32])))))) then Bool.false else Bool.true
abbrev lone_v7 (s : ByteArray) := (lone_v1 s, pAtoiN (nextS (nextL (pSplit s (bs [32])))), pAtoiN (nextS (nextL (nextL (pSplit s (bs [32]))))), pAtoiN (nextS (nextL (nextL (nextL (pSplit s (bs [32])))))), pAtoiN (nextS (nextL (nextL (nextL (nextL (pSplit s (bs [32]))))))),
 lone_v2)
abbrev lone_t8 (s : ByteArray) : Prop := pFewW (nextL (nextL (pSplit s (bs [32])))) ∧ pFewW (nextL (nextL (nextL (pSplit s (bs [32]))))) ∧ pFewW (nextL (nextL (nextL (nextL (pSplit s (bs [32])))))) ∧ bif pNot (bif nextB (nextL (nextL (nextL (nextL (pSplit s (bs [32])))))) (lone_v6
 s) then Bool.true else bif numOk (nextS (nextL (nextL (nextL (nextL (pSplit s (bs [32]))))))) then Bool.false else Bool.true) then (lone_v7 s, pEq (pInt (pLen (nextL (nextL (nextL (nextL (nextL (pSplit s (bs [32]))))))))) (0 : Int), ()) =
 (oneA s, oneB s, ()) else (lone_v7 s, Bool.false, ()) = (oneA s, oneB s, ())
abbrev lone_v9 (s : ByteArray) := (lone_v1 s, pAtoiN (nextS (nextL (pSplit s (bs [32])))), (0 : Int), (0 : Int), (0 : Int), lone_v2)
abbrev lone_v10 (s : ByteArray) := ((nextL (nextL (pSplit s (bs [32]))), lone_v4 s, ()), ())
abbrev lone_v11 (_ : ByteArray) (y5 : denCells vAct × denCells vTak × PUnit) := ((y5.1.1, y5.1.2.1, y5.1.2.2.1, y5.1.2.2.2.1, y5.1.2.2.2.2.1, pApp y5.1.2.2.2.2.2.1 ((pAtoiN (nextS y5.2.1.1), ()) :: vnil (Int × PUnit)), y5.1.2.2.2.2.2.2), (nextL y5.2.1.1, bif nextB y5.2.1.1 y5.2.1.2.1 then Bool.true else bif numOk
 (nextS y5.2.1.1) then Bool.false else Bool.true, ()), ())
abbrev lone_v12 (s : ByteArray) (y5 : denCells vAct × denCells vTak × PUnit) := bif pNot y5.2.1.2.1 then (y5.1, pEq (pInt (pLen y5.2.1.1)) (0 : Int), ()) = (oneA s, oneB s, ()) else (y5.1, Bool.false, ()) = (oneA s, oneB s, ())
abbrev lone_v13 (s : ByteArray) := (lone_v1 s, pAtoiN (nextS (nextL (pSplit s (bs [32])))), (0 : Int), pAtoiN (nextS (nextL (nextL (pSplit s (bs [32]))))), (0 : Int), vnil (Int × PUnit), (takC (nextL (nextL (nextL (pSplit s (bs [32]))))) (lone_v5 s)).1, (takC (nextL (nextL
 (nextL (pSplit s (bs [32]))))) (lone_v5 s)).2.1, (takC (nextL (nextL (nextL (pSplit s (bs [32]))))) (lone_v5 s)).2.2.1, (takC (nextL (nextL (nextL (pSplit s (bs [32]))))) (lone_v5 s)).2.2.2.1, (takC (nextL (nextL (nextL (pSplit s (bs
 [32]))))) (lone_v5 s)).2.2.2.2.1, (bs []), ())
abbrev lone_v14 (s : ByteArray) := (lone_v1 s, pAtoiN (nextS (nextL (pSplit s (bs [32])))), (0 : Int), pAtoiN (nextS (nextL (nextL (pSplit s (bs [32]))))), (0 : Int), vnil (Int × PUnit), (0 : Int), (0 : Int), (0 : Int), (0 : Int), (0 : Int), txtS (nextS (nextL (nextL (nextL
 (pSplit s (bs [32])))))), ())
abbrev lone_v15 (s : ByteArray) := bif pEq (lone_v1 s) (1 : Int) then pFewW (nextL (nextL (pSplit s (bs [32])))) ∧ pFewW (nextL (nextL (nextL (pSplit s (bs [32]))))) ∧ bif pNot (takB (nextL (nextL (nextL (pSplit s (bs [32]))))) (lone_v5 s)) then (lone_v13 s, pEq (pInt (pLen
 (takL (nextL (nextL (nextL (pSplit s (bs [32]))))) (lone_v5 s)))) (0 : Int), ()) = (oneA s, oneB s, ()) else (lone_v13 s, Bool.false, ()) = (oneA s, oneB s, ()) else bif pEq (lone_v1 s) (8 : Int) then pFewW (nextL (nextL (pSplit s (bs
 [32])))) ∧ pFewW (nextL (nextL (nextL (pSplit s (bs [32]))))) ∧ bif pNot (bif nextB (nextL (nextL (nextL (pSplit s (bs [32]))))) (lone_v5 s) then Bool.true else bif txtB (nextS (nextL (nextL (nextL (pSplit s (bs [32])))))) then Bool.false
 else Bool.true) then (lone_v14 s, pEq (pInt (pLen (nextL (nextL (nextL (nextL (pSplit s (bs [32])))))))) (0 : Int), ()) = (oneA s, oneB s, ()) else (lone_v14 s, Bool.false, ()) = (oneA s, oneB s, ()) else bif pNot (lone_v4 s) then (lone_v9
 s, pEq (pInt (pLen (nextL (nextL (pSplit s (bs [32])))))) (0 : Int), ()) = (oneA s, oneB s, ()) else (lone_v9 s, Bool.false, ()) = (oneA s, oneB s, ())
abbrev lone_v16 (_ : ByteArray) (y4 : denCells vAct × denCells vTak × PUnit) := ((y4.1.1, y4.1.2.1, y4.1.2.2.1, y4.1.2.2.2.1, y4.1.2.2.2.2.1, pApp y4.1.2.2.2.2.2.1 ((pAtoiN (nextS y4.2.1.1), ()) :: vnil (Int × PUnit)), y4.1.2.2.2.2.2.2), (nextL y4.2.1.1, bif nextB y4.2.1.1 y4.2.1.2.1 then Bool.true else bif numOk
 (nextS y4.2.1.1) then Bool.false else Bool.true, ()), ())
abbrev lone_v17 (s : ByteArray) (y4 : denCells vAct × denCells vTak × PUnit) := bif pNot y4.2.1.2.1 then (y4.1, pEq (pInt (pLen y4.2.1.1)) (0 : Int), ()) = (oneA s, oneB s, ()) else (y4.1, Bool.false, ()) = (oneA s, oneB s, ())
abbrev lone_v18 (_ : ByteArray) (y3 : denCells vAct × denCells vTak × PUnit) := ((y3.1.1, y3.1.2.1, y3.1.2.2.1, y3.1.2.2.2.1, y3.1.2.2.2.2.1, pApp y3.1.2.2.2.2.2.1 ((pAtoiN (nextS y3.2.1.1), ()) :: vnil (Int × PUnit)), y3.1.2.2.2.2.2.2), (nextL y3.2.1.1, bif nextB y3.2.1.1 y3.2.1.2.1 then Bool.true else bif numOk
 (nextS y3.2.1.1) then Bool.false else Bool.true, ()), ())
abbrev lone_v19 (s : ByteArray) (y3 : denCells vAct × denCells vTak × PUnit) := bif pNot y3.2.1.2.1 then (y3.1, pEq (pInt (pLen y3.2.1.1)) (0 : Int), ()) = (oneA s, oneB s, ()) else (y3.1, Bool.false, ()) = (oneA s, oneB s, ())
abbrev lone_v20 (s : ByteArray) := (lone_v1 s, (0 : Int), pAtoiN (nextS (nextL (pSplit s (bs [32])))), pAtoiN (nextS (nextL (nextL (pSplit s (bs [32]))))), pAtoiN (nextS (nextL (nextL (nextL (pSplit s (bs [32])))))), lone_v2)
abbrev lone_t21 (s : ByteArray) : Prop := pFewW (nextL (pSplit s (bs [32]))) ∧ pFewW (nextL (nextL (pSplit s (bs [32])))) ∧ pFewW (nextL (nextL (nextL (pSplit s (bs [32]))))) ∧ bif pNot (lone_v6 s) then (lone_v20 s, pEq (pInt (pLen (nextL (nextL (nextL (nextL (pSplit s (bs
 [32])))))))) (0 : Int), ()) = (oneA s, oneB s, ()) else (lone_v20 s, Bool.false, ()) = (oneA s, oneB s, ())
abbrev lone_v22 (s : ByteArray) := ((nextL (pSplit s (bs [32])), nextB (pSplit s (bs [32])) Bool.false, ()), ())
abbrev lone_v23 (_ : ByteArray) (y2 : denCells vAct × denCells vTak × PUnit) := ((y2.1.1, y2.1.2.1, y2.1.2.2.1, y2.1.2.2.2.1, y2.1.2.2.2.2.1, pApp y2.1.2.2.2.2.2.1 ((pAtoiN (nextS y2.2.1.1), ()) :: vnil (Int × PUnit)), y2.1.2.2.2.2.2.2), (nextL y2.2.1.1, bif nextB y2.2.1.1 y2.2.1.2.1 then Bool.true else bif numOk
 (nextS y2.2.1.1) then Bool.false else Bool.true, ()), ())
abbrev lone_v24 (s : ByteArray) (y2 : denCells vAct × denCells vTak × PUnit) := bif pNot y2.2.1.2.1 then (y2.1, pEq (pInt (pLen y2.2.1.1)) (0 : Int), ()) = (oneA s, oneB s, ()) else (y2.1, Bool.false, ()) = (oneA s, oneB s, ())
abbrev lone_v25 (s : ByteArray) := (lone_v1 s, (0 : Int), (0 : Int), pAtoiN (nextS (nextL (pSplit s (bs [32])))), (0 : Int), vnil (Int × PUnit), (takC (nextL (nextL (pSplit s (bs [32])))) (lone_v4 s)).1, (takC (nextL (nextL (pSplit s (bs [32])))) (lone_v4 s)).2.1, (takC
 (nextL (nextL (pSplit s (bs [32])))) (lone_v4 s)).2.2.1, (takC (nextL (nextL (pSplit s (bs [32])))) (lone_v4 s)).2.2.2.1, (takC (nextL (nextL (pSplit s (bs [32])))) (lone_v4 s)).2.2.2.2.1, (bs []), ())
abbrev lone_v26 (s : ByteArray) := (lone_v1 s, (0 : Int), (0 : Int), pAtoiN (nextS (nextL (pSplit s (bs [32])))), (0 : Int), vnil (Int × PUnit), (0 : Int), (0 : Int), (0 : Int), (0 : Int), (0 : Int), txtS (nextS (nextL (nextL (pSplit s (bs [32]))))), ())
abbrev lone_v27 (s : ByteArray) := bif pEq (lone_v1 s) (1 : Int) then pFewW (nextL (pSplit s (bs [32]))) ∧ pFewW (nextL (nextL (pSplit s (bs [32])))) ∧ bif pNot (takB (nextL (nextL (pSplit s (bs [32])))) (lone_v4 s)) then (lone_v25 s, pEq (pInt (pLen (takL (nextL (nextL
 (pSplit s (bs [32])))) (lone_v4 s)))) (0 : Int), ()) = (oneA s, oneB s, ()) else (lone_v25 s, Bool.false, ()) = (oneA s, oneB s, ()) else bif pEq (lone_v1 s) (8 : Int) then pFewW (nextL (pSplit s (bs [32]))) ∧ pFewW (nextL (nextL (pSplit s
 (bs [32])))) ∧ bif pNot (bif nextB (nextL (nextL (pSplit s (bs [32])))) (lone_v4 s) then Bool.true else bif txtB (nextS (nextL (nextL (pSplit s (bs [32]))))) then Bool.false else Bool.true) then (lone_v26 s, pEq (pInt (pLen (nextL (nextL
 (nextL (pSplit s (bs [32]))))))) (0 : Int), ()) = (oneA s, oneB s, ()) else (lone_v26 s, Bool.false, ()) = (oneA s, oneB s, ()) else bif pNot (nextB (pSplit s (bs [32])) Bool.false) then (lone_v3 s, pEq (pInt (pLen (nextL (pSplit s (bs
 [32]))))) (0 : Int), ()) = (oneA s, oneB s, ()) else (lone_v3 s, Bool.false, ()) = (oneA s, oneB s, ())
abbrev lone_v28 (_ : ByteArray) (y1 : denCells vAct × denCells vTak × PUnit) := ((y1.1.1, y1.1.2.1, y1.1.2.2.1, y1.1.2.2.2.1, y1.1.2.2.2.2.1, pApp y1.1.2.2.2.2.2.1 ((pAtoiN (nextS y1.2.1.1), ()) :: vnil (Int × PUnit)), y1.1.2.2.2.2.2.2), (nextL y1.2.1.1, bif nextB y1.2.1.1 y1.2.1.2.1 then Bool.true else bif numOk
 (nextS y1.2.1.1) then Bool.false else Bool.true, ()), ())
abbrev lone_v29 (s : ByteArray) (y1 : denCells vAct × denCells vTak × PUnit) := bif pNot y1.2.1.2.1 then (y1.1, pEq (pInt (pLen y1.2.1.1)) (0 : Int), ()) = (oneA s, oneB s, ()) else (y1.1, Bool.false, ()) = (oneA s, oneB s, ())
abbrev lone_v30 (_ : ByteArray) (y0 : denCells vAct × denCells vTak × PUnit) := ((y0.1.1, y0.1.2.1, y0.1.2.2.1, y0.1.2.2.2.1, y0.1.2.2.2.2.1, pApp y0.1.2.2.2.2.2.1 ((pAtoiN (nextS y0.2.1.1), ()) :: vnil (Int × PUnit)), y0.1.2.2.2.2.2.2), (nextL y0.2.1.1, bif nextB y0.2.1.1 y0.2.1.2.1 then Bool.true else bif numOk
 (nextS y0.2.1.1) then Bool.false else Bool.true, ()), ())
abbrev lone_v31 (s : ByteArray) (y0 : denCells vAct × denCells vTak × PUnit) := bif pNot y0.2.1.2.1 then (y0.1, pEq (pInt (pLen y0.2.1.1)) (0 : Int), ()) = (oneA s, oneB s, ()) else (y0.1, Bool.false, ()) = (oneA s, oneB s, ())

def lone_VC (s : ByteArray) : Prop :=
  pShort s ∧ pOne (bs [32]) ∧ pTo (1 : Int) 9 ∧ pFewW (pSplit s (bs [32])) ∧ Nat.le (Nat.succ (pLen lone_v0)) 4611686018427387904 ∧ bif pEq (lone_v1 s) (0 : Int) then (lone_v3 s, Bool.false, ()) = (oneA s, oneB s, ()) else bif pNe (lone_v1 s)
 (5 : Int) then pFewW (nextL (pSplit s (bs [32]))) ∧ bif pEq (lone_v1 s) (2 : Int) then bif pEq (lone_v1 s) (2 : Int) then lone_t8 s else bif pEq (lone_v1 s) (6 : Int) then crashInv (lone_v1 s) (pAtoiN (nextS (nextL (pSplit s (bs [32])))))
 (nextL (nextL (pSplit s (bs [32])))) (lone_v4 s) (lone_v9 s, lone_v10 s) ∧ ∀ (y5 : denCells vAct × denCells vTak × PUnit), crashInv (lone_v1 s) (pAtoiN (nextS (nextL (pSplit s (bs [32]))))) (nextL (nextL (pSplit s (bs [32])))) (lone_v4 s)
 y5 → bif pGt (pInt (pLen y5.2.1.1)) (0 : Int) then bif pNot y5.2.1.2.1 then pFewW y5.2.1.1 ∧ pRoom (pPlus (pLen y5.1.2.2.2.2.2.1) (pLen ((pAtoiN (nextS y5.2.1.1), ()) :: vnil (Int × PUnit)))) 8 ∧ crashInv (lone_v1 s) (pAtoiN (nextS (nextL
 (pSplit s (bs [32]))))) (nextL (nextL (pSplit s (bs [32])))) (lone_v4 s) (lone_v11 s y5) ∧ Nat.le (Nat.succ (crashMu (lone_v1 s) (pAtoiN (nextS (nextL (pSplit s (bs [32]))))) (nextL (nextL (pSplit s (bs [32])))) (lone_v4 s) (lone_v11 s
 y5))) (crashMu (lone_v1 s) (pAtoiN (nextS (nextL (pSplit s (bs [32]))))) (nextL (nextL (pSplit s (bs [32])))) (lone_v4 s) y5) else lone_v12 s y5 else lone_v12 s y5 else lone_v15 s else bif pEq (lone_v1 s) (3 : Int) then bif pEq (lone_v1 s)
 (3 : Int) then lone_t8 s else bif pEq (lone_v1 s) (6 : Int) then crashInv (lone_v1 s) (pAtoiN (nextS (nextL (pSplit s (bs [32]))))) (nextL (nextL (pSplit s (bs [32])))) (lone_v4 s) (lone_v9 s, lone_v10 s) ∧ ∀ (y4 : denCells vAct × denCells
 vTak × PUnit), crashInv (lone_v1 s) (pAtoiN (nextS (nextL (pSplit s (bs [32]))))) (nextL (nextL (pSplit s (bs [32])))) (lone_v4 s) y4 → bif pGt (pInt (pLen y4.2.1.1)) (0 : Int) then bif pNot y4.2.1.2.1 then pFewW y4.2.1.1 ∧ pRoom (pPlus
 (pLen y4.1.2.2.2.2.2.1) (pLen ((pAtoiN (nextS y4.2.1.1), ()) :: vnil (Int × PUnit)))) 8 ∧ crashInv (lone_v1 s) (pAtoiN (nextS (nextL (pSplit s (bs [32]))))) (nextL (nextL (pSplit s (bs [32])))) (lone_v4 s) (lone_v16 s y4) ∧ Nat.le (Nat.succ
 (crashMu (lone_v1 s) (pAtoiN (nextS (nextL (pSplit s (bs [32]))))) (nextL (nextL (pSplit s (bs [32])))) (lone_v4 s) (lone_v16 s y4))) (crashMu (lone_v1 s) (pAtoiN (nextS (nextL (pSplit s (bs [32]))))) (nextL (nextL (pSplit s (bs [32]))))
 (lone_v4 s) y4) else lone_v17 s y4 else lone_v17 s y4 else lone_v15 s else bif pEq (lone_v1 s) (4 : Int) then lone_t8 s else bif pEq (lone_v1 s) (6 : Int) then crashInv (lone_v1 s) (pAtoiN (nextS (nextL (pSplit s (bs [32]))))) (nextL (nextL
 (pSplit s (bs [32])))) (lone_v4 s) (lone_v9 s, lone_v10 s) ∧ ∀ (y3 : denCells vAct × denCells vTak × PUnit), crashInv (lone_v1 s) (pAtoiN (nextS (nextL (pSplit s (bs [32]))))) (nextL (nextL (pSplit s (bs [32])))) (lone_v4 s) y3 → bif pGt
 (pInt (pLen y3.2.1.1)) (0 : Int) then bif pNot y3.2.1.2.1 then pFewW y3.2.1.1 ∧ pRoom (pPlus (pLen y3.1.2.2.2.2.2.1) (pLen ((pAtoiN (nextS y3.2.1.1), ()) :: vnil (Int × PUnit)))) 8 ∧ crashInv (lone_v1 s) (pAtoiN (nextS (nextL (pSplit s (bs
 [32]))))) (nextL (nextL (pSplit s (bs [32])))) (lone_v4 s) (lone_v18 s y3) ∧ Nat.le (Nat.succ (crashMu (lone_v1 s) (pAtoiN (nextS (nextL (pSplit s (bs [32]))))) (nextL (nextL (pSplit s (bs [32])))) (lone_v4 s) (lone_v18 s y3))) (crashMu
 (lone_v1 s) (pAtoiN (nextS (nextL (pSplit s (bs [32]))))) (nextL (nextL (pSplit s (bs [32])))) (lone_v4 s) y3) else lone_v19 s y3 else lone_v19 s y3 else lone_v15 s else bif pEq (lone_v1 s) (2 : Int) then bif pEq (lone_v1 s) (2 : Int) then
 lone_t21 s else bif pEq (lone_v1 s) (6 : Int) then crashInv (lone_v1 s) (0 : Int) (nextL (pSplit s (bs [32]))) (nextB (pSplit s (bs [32])) Bool.false) (lone_v3 s, lone_v22 s) ∧ ∀ (y2 : denCells vAct × denCells vTak × PUnit), crashInv
 (lone_v1 s) (0 : Int) (nextL (pSplit s (bs [32]))) (nextB (pSplit s (bs [32])) Bool.false) y2 → bif pGt (pInt (pLen y2.2.1.1)) (0 : Int) then bif pNot y2.2.1.2.1 then pFewW y2.2.1.1 ∧ pRoom (pPlus (pLen y2.1.2.2.2.2.2.1) (pLen ((pAtoiN
 (nextS y2.2.1.1), ()) :: vnil (Int × PUnit)))) 8 ∧ crashInv (lone_v1 s) (0 : Int) (nextL (pSplit s (bs [32]))) (nextB (pSplit s (bs [32])) Bool.false) (lone_v23 s y2) ∧ Nat.le (Nat.succ (crashMu (lone_v1 s) (0 : Int) (nextL (pSplit s (bs
 [32]))) (nextB (pSplit s (bs [32])) Bool.false) (lone_v23 s y2))) (crashMu (lone_v1 s) (0 : Int) (nextL (pSplit s (bs [32]))) (nextB (pSplit s (bs [32])) Bool.false) y2) else lone_v24 s y2 else lone_v24 s y2 else lone_v27 s else bif pEq
 (lone_v1 s) (3 : Int) then bif pEq (lone_v1 s) (3 : Int) then lone_t21 s else bif pEq (lone_v1 s) (6 : Int) then crashInv (lone_v1 s) (0 : Int) (nextL (pSplit s (bs [32]))) (nextB (pSplit s (bs [32])) Bool.false) (lone_v3 s, lone_v22 s) ∧ ∀
 (y1 : denCells vAct × denCells vTak × PUnit), crashInv (lone_v1 s) (0 : Int) (nextL (pSplit s (bs [32]))) (nextB (pSplit s (bs [32])) Bool.false) y1 → bif pGt (pInt (pLen y1.2.1.1)) (0 : Int) then bif pNot y1.2.1.2.1 then pFewW y1.2.1.1 ∧
 pRoom (pPlus (pLen y1.1.2.2.2.2.2.1) (pLen ((pAtoiN (nextS y1.2.1.1), ()) :: vnil (Int × PUnit)))) 8 ∧ crashInv (lone_v1 s) (0 : Int) (nextL (pSplit s (bs [32]))) (nextB (pSplit s (bs [32])) Bool.false) (lone_v28 s y1) ∧ Nat.le (Nat.succ
 (crashMu (lone_v1 s) (0 : Int) (nextL (pSplit s (bs [32]))) (nextB (pSplit s (bs [32])) Bool.false) (lone_v28 s y1))) (crashMu (lone_v1 s) (0 : Int) (nextL (pSplit s (bs [32]))) (nextB (pSplit s (bs [32])) Bool.false) y1) else lone_v29 s y1
 else lone_v29 s y1 else lone_v27 s else bif pEq (lone_v1 s) (4 : Int) then lone_t21 s else bif pEq (lone_v1 s) (6 : Int) then crashInv (lone_v1 s) (0 : Int) (nextL (pSplit s (bs [32]))) (nextB (pSplit s (bs [32])) Bool.false) (lone_v3 s,
 lone_v22 s) ∧ ∀ (y0 : denCells vAct × denCells vTak × PUnit), crashInv (lone_v1 s) (0 : Int) (nextL (pSplit s (bs [32]))) (nextB (pSplit s (bs [32])) Bool.false) y0 → bif pGt (pInt (pLen y0.2.1.1)) (0 : Int) then bif pNot y0.2.1.2.1 then
 pFewW y0.2.1.1 ∧ pRoom (pPlus (pLen y0.1.2.2.2.2.2.1) (pLen ((pAtoiN (nextS y0.2.1.1), ()) :: vnil (Int × PUnit)))) 8 ∧ crashInv (lone_v1 s) (0 : Int) (nextL (pSplit s (bs [32]))) (nextB (pSplit s (bs [32])) Bool.false) (lone_v30 s y0) ∧
 Nat.le (Nat.succ (crashMu (lone_v1 s) (0 : Int) (nextL (pSplit s (bs [32]))) (nextB (pSplit s (bs [32])) Bool.false) (lone_v30 s y0))) (crashMu (lone_v1 s) (0 : Int) (nextL (pSplit s (bs [32]))) (nextB (pSplit s (bs [32])) Bool.false) y0)
 else lone_v31 s y0 else lone_v31 s y0 else lone_v27 s
set_option maxRecDepth 100000 in
theorem lone_meets (hSplit : MtG (tabsL mL) 40 cSplit) (hnext : MtG (tabsL mL) 73 cnext) (hidxS : MtG (tabsL mL) 72 cidxS) (hnumber : MtG (tabsL mL) 74 cnumber) (htext : MtG (tabsL mL) 76 ctext) (htcall : MtG (tabsL mL) 75 ctcall) (h : ∀ (s : ByteArray), (∀ p ∈ lone_p ⟨(s, ()), ()⟩, p) → lone_VC s) : MtG (tabsL mL) 46 clone :=
  meets_vc (E := envOfG Tryd.prog (tabsL mL) [(40, (false, cSplit)), (73, (false, cnext)), (72, (false, cidxS)), (74, (false, cnumber)), (76, (false, ctext)), (75, (false, ctcall))] eqsLqV) (envOfG_ok (fun p hp => (by simp only [List.mem_cons, List.not_mem_nil, or_false] at hp; rcases hp with rfl | rfl | rfl | rfl | rfl | rfl; exact hSplit; exact hnext; exact hidxS; exact hnumber; exact htext; exact htcall)) (by kernel_rfl)) lone_S (fun x => fun ky9 st9 => look [(15, (⟨[.box (ptI st9 5) vAct, .box (ptI st9 4) vTak], crashInv (cellD tI st9 (ptI st9 5) 0) (cellD tI st9 (ptI st9 5) 1) (cellD (.sl tyS) st9 (ptI st9 4) 0) (cellD .bool st9 (ptI st9 4) 1), crashMu (cellD tI st9 (ptI st9 5) 0) (cellD tI st9 (ptI st9 5) 1) (cellD (.sl tyS) st9 (ptI st9 4) 0) (cellD .bool st9 (ptI st9 4) 1)⟩ : Ann))] ky9) Tryd.func46 (by kernel_rfl) (by kernel_rfl) lone_p [] [.agg 0 vAct, .slot 1 false .bool] lone_f (fun x => lone_VC x.1.1) (fun x => by kernel_rfl) (fun x hp => h x.1.1 hp)

abbrev Read_v0 (c : CfgD) (s : ByteArray) := (readL c s, readI c s, readE c s, ())
abbrev Read_v1 (y0 : kden Bool.false Ty.str × kden Bool.false tI × kden Bool.true tyAct × PUnit) := (cutB y0.1 (bs [10]), pAdd IntKind.i64 y0.2.1 (1 : Int), pApp y0.2.2.1 (oneA (cutA y0.1 (bs [10])) :: vnil (Int × Int × Int × Int × Int × List (Int × PUnit) × Int × Int × Int × Int × Int × ByteArray × PUnit)), ())

def Read_VC (c : CfgD) (s : ByteArray) : Prop :=
  Nat.le (Nat.succ (pLen c.2.1)) 4611686018427387904 ∧ bif pNe (cfgF c) (0 : Int) then (vnil (Int × Int × Int × Int × Int × List (Int × PUnit) × Int × Int × Int × Int × Int × ByteArray × PUnit), (0 : Int), cfgF c, ()) = Read_v0 c s else
 readInv c s (s, (0 : Int), vnil (Int × Int × Int × Int × Int × List (Int × PUnit) × Int × Int × Int × Int × Int × ByteArray × PUnit), ()) ∧ ∀ (y0 : kden Bool.false Ty.str × kden Bool.false tI × kden Bool.true tyAct × PUnit), readInv c s y0
 → bif pNot (pStrEq y0.1 (bs [])) then pShort y0.1 ∧ bif pEq y0.2.1 (3000 : Int) then (vnil (Int × Int × Int × Int × Int × List (Int × PUnit) × Int × Int × Int × Int × Int × ByteArray × PUnit), y0.2.1, (1 : Int), ()) = Read_v0 c s else
 pShort (cutA y0.1 (bs [10])) ∧ bif pNot (cutF y0.1 (bs [10])) then (vnil (Int × Int × Int × Int × Int × List (Int × PUnit) × Int × Int × Int × Int × Int × ByteArray × PUnit), y0.2.1, (4 : Int), ()) = Read_v0 c s else bif pNot (oneB (cutA
 y0.1 (bs [10]))) then (vnil (Int × Int × Int × Int × Int × List (Int × PUnit) × Int × Int × Int × Int × Int × ByteArray × PUnit), y0.2.1, (4 : Int), ()) = Read_v0 c s else Nat.le (Nat.succ (pLen c.2.1)) 4611686018427387904 ∧ Nat.le
 (Nat.succ (pLen (oneA (cutA y0.1 (bs [10]))).2.2.2.2.2.1)) 4611686018427387904 ∧ bif pNe (actF c (oneA (cutA y0.1 (bs [10])))) (0 : Int) then (vnil (Int × Int × Int × Int × Int × List (Int × PUnit) × Int × Int × Int × Int × Int × ByteArray
 × PUnit), y0.2.1, actF c (oneA (cutA y0.1 (bs [10]))), ()) = Read_v0 c s else pRoom (pPlus (pLen y0.2.2.1) (pLen (oneA (cutA y0.1 (bs [10])) :: vnil (Int × Int × Int × Int × Int × List (Int × PUnit) × Int × Int × Int × Int × Int × ByteArray
 × PUnit)))) 120 ∧ readInv c s (Read_v1 y0) ∧ Nat.le (Nat.succ (readMu c s (Read_v1 y0))) (readMu c s y0) else (y0.2.2.1, (0 : Int), (0 : Int), ()) = Read_v0 c s
set_option maxRecDepth 100000 in
theorem Read_meets (hlCheck : MtG (tabsL mL) 16 clCheck) (hCut : MtG (tabsL mL) 45 cCut) (honeF : MtG (tabsL mL) 46 coneF) (hliCheck : MtG (tabsL mL) 17 cliCheck) (h : ∀ (c : CfgD) (s : ByteArray), (∀ p ∈ Read_p ⟨(c, s, ()), ()⟩, p) → Read_VC c s) : MtG (tabsL mL) 13 cRead :=
  meets_vc (E := envOfG Tryd.prog (tabsL mL) [(16, (false, clCheck)), (45, (false, cCut)), (46, (false, coneF)), (17, (false, cliCheck))] eqsLqV) (envOfG_ok (fun p hp => (by simp only [List.mem_cons, List.not_mem_nil, or_false] at hp; rcases hp with rfl | rfl | rfl | rfl; exact hlCheck; exact hCut; exact honeF; exact hliCheck)) (by kernel_rfl)) Read_S (fun x => fun ky9 st9 => look [(6, (⟨[.slot 1 false .str, .slot 9 false tI, .slot 8 true tyAct], readInv x.1.1 x.1.2.1, readMu x.1.1 x.1.2.1⟩ : Ann))] ky9) Tryd.func13 (by kernel_rfl) (by kernel_rfl) Read_p [] [.slot 0 true tyAct, .slot 1 false tI, .slot 2 false tI] Read_f (fun x => Read_VC x.1.1 x.1.2.1) (fun x => by kernel_rfl) (fun x hp => h x.1.1 x.1.2.1 hp)

def LinesReads_VC (c : CfgD) (s : ByteArray) : Prop :=
  Nat.le (Nat.succ (pLen c.2.1)) 4611686018427387904 ∧ pShort s ∧ Nat.le (Nat.succ (pLen c.2.1)) 4611686018427387904 ∧ pShort s ∧ bif pEq (readI c s) (readI c s) then bif pEq (readE c s) (readE c s) then Nat.le (Nat.succ (pLen (readL c s)))
 4611686018427387904 ∧ (∀ (q0 : Int × Int × Int × Int × Int × List (Int × PUnit) × Int × Int × Int × Int × Int × ByteArray × PUnit), List.Mem q0 (readL c s) → Nat.le (Nat.succ (pLen q0.2.2.2.2.2.1)) 4611686018427387904) ∧ (sameActsF (readL c
 s) (readL c s), ()) = (Bool.true, ()) else (Bool.false, ()) = (Bool.true, ()) else (Bool.false, ()) = (Bool.true, ())
end Go.Proofs.YtedjlbcclhgfmaaDoor

/- Functions of Go's library in this program: their bodies are those that the library's laws speak of. No condition. -/
namespace Go.Proofs.YtedjlbcclhgfmaaDoor
open Go.Shelf

def lIndexByte_ren : Go.Shelf.Ren := ⟨fun | 137 => 96 | 217 => 116 | 266 => 130 | n => n, fun | 9 => 9 | 5 => 5 | 3 => 3 | n => n, fun | n => n⟩
theorem lIndexByte : Go.Proofs.Lays.n137 Tryd.prog lIndexByte_ren := {
  mixed := by kernel_rfl
  f137 := Tryd.func96.trans (congrArg some (by kernel_rfl))
  f217 := Tryd.func116.trans (congrArg some (by kernel_rfl))
  f266 := Tryd.func130.trans (congrArg some (by kernel_rfl))
  t3 := Tryd.underlying3
  a3 := Tryd.isAgg3
  z3 := Tryd.sizeOf3
  v3 := Tryd.zeroValue3
  t5 := Tryd.underlying5
  a5 := Tryd.isAgg5
  z5 := Tryd.sizeOf5
  v5 := Tryd.zeroValue5
  t9 := Tryd.underlying9
  a9 := Tryd.isAgg9
  z9 := Tryd.sizeOf9
  v9 := Tryd.zeroValue9 }

def lCut_ren : Go.Shelf.Ren := ⟨fun | 145 => 45 | 220 => 71 | 219 => 95 | 217 => 116 | 225 => 117 | 224 => 118 | 267 => 119 | 266 => 130 | 314 => 131 | n => n, fun | 9 => 9 | 4 => 4 | 59 => 101 | 3 => 3 | 5 => 5 | 46 => 111 | 146 => 183 | 51 => 174 | n => n, fun | 1 => 2 | n => n⟩
theorem lCut : Go.Proofs.Lays.n145 Tryd.prog lCut_ren := {
  mixed := by kernel_rfl
  f145 := Tryd.func45.trans (congrArg some (by kernel_rfl))
  f217 := Tryd.func116.trans (congrArg some (by kernel_rfl))
  f219 := Tryd.func95.trans (congrArg some (by kernel_rfl))
  f220 := Tryd.func71.trans (congrArg some (by kernel_rfl))
  f224 := Tryd.func118.trans (congrArg some (by kernel_rfl))
  f225 := Tryd.func117.trans (congrArg some (by kernel_rfl))
  f266 := Tryd.func130.trans (congrArg some (by kernel_rfl))
  f267 := Tryd.func119.trans (congrArg some (by kernel_rfl))
  f314 := Tryd.func131.trans (congrArg some (by kernel_rfl))
  t3 := Tryd.underlying3
  a3 := Tryd.isAgg3
  z3 := Tryd.sizeOf3
  v3 := Tryd.zeroValue3
  t4 := Tryd.underlying4
  a4 := Tryd.isAgg4
  z4 := Tryd.sizeOf4
  v4 := Tryd.zeroValue4
  t5 := Tryd.underlying5
  a5 := Tryd.isAgg5
  z5 := Tryd.sizeOf5
  v5 := Tryd.zeroValue5
  t9 := Tryd.underlying9
  a9 := Tryd.isAgg9
  z9 := Tryd.sizeOf9
  v9 := Tryd.zeroValue9
  t46 := Tryd.underlying111
  a46 := Tryd.isAgg111
  z46 := Tryd.sizeOf111
  v46 := Tryd.zeroValue111
  t51 := Tryd.underlying174
  a51 := Tryd.isAgg174
  z51 := Tryd.sizeOf174
  v51 := Tryd.zeroValue174
  t59 := Tryd.underlying101
  a59 := Tryd.isAgg101
  z59 := Tryd.sizeOf101
  v59 := Tryd.zeroValue101
  t146 := Tryd.underlying183
  a146 := Tryd.isAgg183
  z146 := Tryd.sizeOf183
  v146 := Tryd.zeroValue183
  g1 := by kernel_rfl }



end Go.Proofs.YtedjlbcclhgfmaaDoor

/- Functions of Go's library on strings, with the tables of lines: they meet their contracts. No condition. -/
namespace Go.Proofs.YtedjlbcclhgfmaaDoor
open Go.RowKit Go.Shelf
variable {mL : Int}

theorem tabs_more {m : Int} : ∀ n gl, tabsS m n = some gl → tabsL m n = some gl := fun n gl h => by
  by_cases h1 : n = 3
  · subst h1; exact h
  by_cases h2 : n = 2
  · subst h2; exact h
  by_cases h3 : n = 4
  · subst h3; exact h
  by_cases h4 : n = 5
  · subst h4; exact h
  have f : ∀ a : Nat, n ≠ a → Nat.beq a n = false := fun a hne => by
    cases hq : Nat.beq a n with
    | false => rfl
    | true => exact absurd (Nat.eq_of_beq_eq_true hq).symm hne
  unfold tabsS at h
  simp only [look, f _ h1, f _ h2, f _ h3, f _ h4, cond_false] at h
  cases h
theorem ItoaL_ok : MtG (tabsL mL) 20 cItoa := Itoa_ok.more tabs_more
theorem SplitL_ok : MtG (tabsL mL) 40 cSplit := Split_ok.more tabs_more
theorem AtoiL_ok : MtG (tabsL mL) 70 cAtoi := Atoi_ok.more tabs_more
theorem IndexByte_ok : MtG (tabsL mL) 96 cIndexByte := by
  refine ⟨⟨_, Tryd.func96, by kernel_rfl, by kernel_rfl⟩, fun args m0 obs r m1 hc hp => ?_⟩
  unfold cIndexByte shCtr at hc
  split at hc
  · rename_i x hx
    simp only [Option.some.injEq, Prod.mk.injEq] at hc
    obtain ⟨rfl, hrm⟩ := hc
    refine shape_spec hx ?_
    obtain ⟨⟨s, b, _⟩, _⟩ := x
    have er : r = .v false [.int .i64 (idxB s b)] := (congrArg Prod.fst hrm).symm
    have em : m1 = [] := (congrArg Prod.snd hrm).symm
    subst er em
    refine spec_below fun w N ρ vs hg hlt ha => ?_
    obtain ⟨v, u, rfl, hv, hu⟩ := all2_2 ha
    have hv : v = .string s := hv
    have hu : u = .int .u8 b := hu
    subst hv hu
    have c : Calls Tryd.prog 96 #[.string s, .int .u8 b] w fun e w' => e = .returned (.int .i64 (Go.Lib.indexByte s.data.toList b.toNat.toUInt8)) ∧ w' = w := Any.strings_IndexByte lIndexByte s b w
    exact c.mono fun e w' ⟨he, hw⟩ => ⟨_, he, by subst hw; exact Below.refl _ _, ⟨_, rfl, rfl⟩⟩
  · cases hc
theorem Cut_ok : MtG (tabsL mL) 45 cCut := by
  refine ⟨⟨_, Tryd.func45, by kernel_rfl, by kernel_rfl⟩, fun args m0 obs r m1 hc hp => ?_⟩
  unfold cCut shCtr at hc
  split at hc
  · rename_i x hx
    simp only [Option.some.injEq, Prod.mk.injEq] at hc
    obtain ⟨rfl, hrm⟩ := hc
    refine shape_spec hx ?_
    obtain ⟨⟨s, p, _⟩, _⟩ := x
    have h0 : pShort s := hp _ List.mem_cons_self
    have er : r = .tup [(false, [.str (cutA s p)]), (false, [.str (cutB s p)]), (false, [.bool (cutF s p)])] := (congrArg Prod.fst hrm).symm
    have em : m1 = [] := (congrArg Prod.snd hrm).symm
    subst er em
    refine spec_below fun w N ρ vs hg hlt ha => ?_
    obtain ⟨v, u, rfl, hv, hu⟩ := all2_2 ha
    have hv : v = .string s := hv
    have hu : u = .string p := hu
    subst hv hu
    have hmc : w.cell? ⟨2, 0, none⟩ = some (.int .i64 mL) := by
      obtain ⟨_, vals, T, fz, hh, ha, _⟩ := hg 2 _ rfl
      obtain ⟨l⟩ := vals
      cases ha with
      | cons a r =>
        cases r
        have a : _ = _ := a
        subst a
        simp [World.cell?, hh]
    have c : Calls Tryd.prog 45 #[.string s, .string p] w fun e w' => e = .returned (.tuple #[.string ⟨(Go.Lib.cut s.data.toList p.data.toList).1.toArray⟩, .string ⟨(Go.Lib.cut s.data.toList p.data.toList).2.1.toArray⟩, .bool (Go.Lib.cut s.data.toList p.data.toList).2.2]) ∧ ∃ n, w' = w.drewN n := Any.strings_Cut lCut s p mL w h0 hmc
    refine c.mono fun e w' ⟨he, n, hw⟩ => ⟨_, he, ?_, ⟨_, rfl, .cons ⟨_, rfl, rfl⟩ (.cons ⟨_, rfl, rfl⟩ (.cons ⟨_, rfl, rfl⟩ .nil))⟩⟩
    subst hw
    exact ⟨rfl, rfl, rfl, Nat.le_refl _, fun _ _ => rfl⟩
  · cases hc


end Go.Proofs.YtedjlbcclhgfmaaDoor

/- Words, numbers, texts of lines: functions meet their contracts. No condition. -/
namespace Go.Proofs.YtedjlbcclhgfmaaDoor
open Go.RowKit Go.Lib Go.IntWalk

theorem u8_wrap (n : Int) : IntKind.u8.wrap n = n % 256 := by
  unfold IntKind.wrap
  simp [IntKind.bits, IntKind.signed]
theorem wrap_u8 (n : Int) : pWrap .u8 n = n % 256 := u8_wrap n
theorem get_byte {s : ByteArray} {k : Nat} (h : k < s.size) : ∃ c : UInt8, s.data.toList[k]? = some c ∧ pStrGet s k = (c.toNat : Int) ∧ s.data.toList.take (k + 1) = s.data.toList.take k ++ [c] := by
  have hl : k < s.data.toList.length := by rw [← size_eq]; exact h
  refine ⟨s.data.toList[k], List.getElem?_eq_getElem hl, ?_, List.take_succ_eq_append_getElem hl⟩
  unfold pStrGet
  have : s[k]? = some (s.data.toList[k]) := by
    rw [getElem?_pos s k h]; rfl
  rw [this]; rfl
theorem spl_len : ∀ (l : List UInt8), (spl l).length ≤ l.length + 1 ∧ ∀ w ∈ spl l, w.length ≤ l.length
  | [] => ⟨Nat.le_refl _, fun w hw => by rw [List.mem_singleton.1 hw]; exact Nat.le_refl _⟩
  | x :: r => by
    obtain ⟨h1, h2⟩ := spl_len r
    unfold spl
    split
    · refine ⟨Nat.succ_le_succ h1, fun w hw => ?_⟩
      rcases List.mem_cons.1 hw with rfl | hw
      · exact Nat.zero_le _
      · exact Nat.le_succ_of_le (h2 w hw)
    · cases hs : spl r with
      | nil =>
        refine ⟨Nat.succ_le_succ (Nat.zero_le _), fun w hw => ?_⟩
        rw [List.mem_singleton.1 hw]; exact Nat.succ_le_succ (Nat.zero_le _)
      | cons a t =>
        rw [hs] at h1 h2
        refine ⟨Nat.le_succ_of_le h1, fun w hw => ?_⟩
        rcases List.mem_cons.1 hw with rfl | hw
        · exact Nat.succ_le_succ (h2 a List.mem_cons_self)
        · exact Nat.le_succ_of_le (h2 w (List.mem_cons_of_mem _ hw))
/-- few words, and short ones -/
theorem ext_toS (s : ByteArray) (f k : Nat) : (pStrSub s f k, ()) = toS ((s.data.toList.drop f).take (k - f)) := by
  unfold toS pStrSub
  refine congrArg (·, ()) (ba_eq ?_)
  rw [ByteArray.data_extract, Array.toList_extract]
theorem partsOf_ok : Mt 43 cpartsOf := partsOf_meets fun s hp => by
  have h1 : pShort s := hp (pShort s) (by simp)
  unfold pShort at h1
  have hL := size_eq s
  delta partsOf_VC
  refine ⟨⟨0, 0, [], rfl, Nat.le_refl _, Nat.zero_le _, Nat.le_refl _, .inl ⟨Nat.zero_le _, rfl, fun c hc => (by cases hc)⟩⟩, fun y hy => ?_⟩
  obtain ⟨k, f, out, rfl, hf, hk, ho, hc⟩ := hy
  refine bif_ok (fun a => ?_) fun a => ?_
  · have a : (k : Int) ≤ (s.size : Int) := of_decide_eq_true a
    have a : k ≤ s.size := by omega
    obtain ⟨_, hs, hn⟩ : k ≤ s.size ∧ spl s.data.toList = out ++ spl (s.data.toList.drop f) ∧ ∀ c ∈ (s.data.toList.drop f).take (k - f), c ≠ 32 := by
      rcases hc with h | h
      · exact h
      · omega
    have t1 : spl (s.data.toList.drop f) = (s.data.toList.drop f).take (k - f) :: spl (s.data.toList.drop (k + 1)) ∨ (k = s.size ∧ spl (s.data.toList.drop f) = [(s.data.toList.drop f).take (k - f)]) →
        (k < s.size → s.data.toList[k]? = some 32) → partsOf_t1 s ((k : Int), (f : Int), out.map toS, ()) := fun h h32 => by
      delta partsOf_t1 partsOf_v0
      dsimp only
      rw [pNat_coe, pNat_coe, pAdd1 (by omega), ext_toS]
      refine ⟨pTo_coe.2 a, pTo_coe.2 hf, ?_, ⟨k + 1, k + 1, out ++ [(s.data.toList.drop f).take (k - f)], ?_, Nat.le_refl _, Nat.succ_le_succ a, ?_, ?_⟩, ?_⟩
      · show ((out.map toS).length + 1) * 16 ≤ 140737488351232
        rw [List.length_map]; omega
      · rw [List.map_append]; rfl
      · rw [List.length_append]; exact Nat.succ_le_succ (Nat.le_trans ho hf)
      · rcases Nat.lt_or_eq_of_le a with hlt | rfl
        · rcases h with h | ⟨h, _⟩
          · exact .inl ⟨hlt, by rw [hs, h, List.append_assoc]; rfl, fun c hc => by rw [Nat.sub_self] at hc; cases hc⟩
          · omega
        · rcases h with h | ⟨_, h⟩
          · exfalso
            have hd : (s.data.toList.drop f).take (s.size - f) = s.data.toList.drop f := List.take_of_length_le (by rw [List.length_drop, ← hL]; exact Nat.le_refl _)
            rw [hd] at hn h
            rw [spl_none _ hn, List.drop_of_length_le (i := s.size + 1) (by rw [← hL]; exact Nat.le_succ _)] at h
            simp [spl] at h
          · exact .inr ⟨rfl, by rw [hs, h]⟩
      · show s.size + 1 - ((k + 1 : Nat) : Int).toNat + 1 ≤ s.size + 1 - ((k : Nat) : Int).toNat
        simp only [Int.toNat_natCast]; omega
    refine bif_ok (fun b => t1 (.inr ?_) fun h => ?_) fun b => ?_
    · have b : (k : Int) = (s.size : Int) := beq_iff_eq.1 b
      obtain rfl : k = s.size := by omega
      have hd : (s.data.toList.drop f).take (s.size - f) = s.data.toList.drop f := List.take_of_length_le (by rw [List.length_drop, ← hL]; exact Nat.le_refl _)
      rw [hd] at hn ⊢
      exact ⟨rfl, spl_none _ hn⟩
    · have b : (k : Int) = (s.size : Int) := beq_iff_eq.1 b
      omega
    · have b : ¬ (k : Int) = (s.size : Int) := fun h => by
        have b : ((k : Int) == (s.size : Int)) = false := b
        rw [h] at b; simp at b
      have hlt : k < s.size := by omega
      obtain ⟨c, hcc, hg, ht⟩ := get_byte hlt
      have hd : s.data.toList.drop f = (s.data.toList.drop f).take (k - f) ++ c :: s.data.toList.drop (k + 1) := by
        have h1 := (List.take_append_drop (k - f) (s.data.toList.drop f)).symm
        rw [List.drop_drop, show f + (k - f) = k by omega] at h1
        rw [List.getElem?_eq_some_iff] at hcc
        obtain ⟨hl, hcc⟩ := hcc
        rw [List.drop_eq_getElem_cons hl, hcc] at h1
        exact h1
      refine ⟨pIn_coe.2 hlt, ?_⟩
      dsimp only
      rw [pNat_coe, hg]
      refine bif_ok (fun e => t1 (.inl ?_) fun _ => ?_) fun e => ?_
      · have e : (c.toNat : Int) = 32 := beq_iff_eq.1 e
        have e : c = 32 := UInt8.toNat_inj.1 (by show c.toNat = 32; omega)
        subst e
        have h2 := spl_cut _ (s.data.toList.drop (k + 1)) hn
        rw [← hd] at h2
        exact h2
      · have e : (c.toNat : Int) = 32 := beq_iff_eq.1 e
        have e : c = 32 := UInt8.toNat_inj.1 (by show c.toNat = 32; omega)
        rw [hcc, e]
      · have e : c ≠ 32 := fun h => by
          subst h
          cases e
        rw [pAdd1 (by omega)]
        refine ⟨⟨k + 1, f, out, rfl, Nat.le_succ_of_le hf, Nat.succ_le_succ a, ho, .inl ⟨hlt, hs, fun x hx => ?_⟩⟩, ?_⟩
        · have h3 : (s.data.toList.drop f).take (k + 1 - f) = (s.data.toList.drop f).take (k - f) ++ [c] := by
            have h4 : k + 1 - f = ((s.data.toList.drop f).take (k - f)).length + 1 := by
              rw [List.length_take, List.length_drop, ← hL]; omega
            rw [h4]
            generalize (s.data.toList.drop f).take (k - f) = A at *
            rw [hd, List.take_length_add_append]; rfl
          rw [h3] at hx
          rcases List.mem_append.1 hx with hx | hx
          · exact hn x hx
          · rw [List.mem_singleton.1 hx]; exact e
        · show s.size + 1 - ((k + 1 : Nat) : Int).toNat + 1 ≤ s.size + 1 - ((k : Nat) : Int).toNat
          simp only [Int.toNat_natCast]; omega
  · have a : ¬ (k : Int) ≤ (s.size : Int) := of_decide_eq_false a
    rcases hc with h | ⟨_, h⟩
    · omega
    · show (out.map toS, ()) = (pSplit s (bs [32]), ())
      rw [split_spl, h]
theorem hexDigit_ok : Mt 60 chexDigit := hexDigit_meets fun n hp => by
  have h0 : 0 ≤ n := of_decide_eq_true (hp (pLe 0 n = true) (by simp))
  have h1 : n < 16 := of_decide_eq_true (hp (pLt n 16 = true) (by simp))
  delta hexDigit_VC
  refine bif_ok (fun a => congrArg (·, ()) ?_) fun a => congrArg (·, ()) ?_
  · have a2 : n < 10 := of_decide_eq_true a
    unfold hexD
    rw [a, cond_true, pAdd_in (by omega), wrap_u8]; omega
  · have a2 : ¬ n < 10 := of_decide_eq_false a
    unfold hexD
    rw [a, cond_false, pAdd_in (by omega), pSubI_in (by omega), wrap_u8]; omega
theorem next_ok : Mt 73 cnext := next_meets fun l b hp => by
  delta next_VC
  cases l with
  | nil => rw [bif_true (by rfl)]; show (bs [], (([] : List SD), true, ()), ()) = (bs [], (([] : List SD), b || true, ()), ()); rw [Bool.or_true]
  | cons a r =>
    rw [bif_false (by show pEq ((r.length + 1 : Nat) : Int) 0 = false; unfold pEq; rw [beq_eq_false_iff_ne]; omega)]
    refine ⟨pIn_coe.2 (Nat.succ_pos _), pTo_coe.2 (Nat.succ_le_succ (Nat.zero_le _)), ?_⟩
    show (a.1, (pSub (a :: r) 1 (r.length + 1), b, ()), ()) = (a.1, (r, b || false, ()), ())
    rw [Bool.or_false]
    have : pSub (a :: r) 1 (r.length + 1) = r := by unfold pSub; rw [List.take_succ_cons, List.take_length]; rfl
    rw [this]
theorem idxS_ok : Mt 72 cidxS := idxS_meets fun l s hp => by
  have hl : l.length < 4611686018427387904 := hp _ List.mem_cons_self
  refine ⟨UpInv.start, fun y hy => ?_⟩
  rcases FindInv.round hl hy with ⟨k, rfl, hk, hb, hT, hF⟩ | ⟨rfl, hT⟩
  · rw [bif_true (by simp [pLt_coe, pLen, hk]), pNat_coe]
    refine ⟨pIn_coe.2 hk, bif_ok (fun h => ?_) fun h => hF h⟩
    exact congrArg (·, ()) (hT h).symm
  · rw [bif_false (by simp [pLt_coe, pLen])]
    exact congrArg (·, ()) hT.symm
theorem sixteenth_ok : Mt 98 csixteenth := sixteenth_meets hexDigit_ok fun b hp => by
  refine ⟨UpInv.start, fun y hy => ?_⟩
  rcases FindInv.round (by decide) hy with ⟨k, rfl, hk, hb, hT, hF⟩ | ⟨rfl, hT⟩
  · dsimp only
    rw [bif_true (show pLt (k : Int) 16 = true from decide_eq_true (by omega))]
    refine ⟨decide_eq_true (by show (0 : Int) ≤ k; omega), decide_eq_true (by show (k : Int) < 16; omega), bif_ok (fun h => ?_) fun h => hF h⟩
    exact congrArg (·, ()) (hT h).symm
  · rw [bif_false (by rfl)]
    exact congrArg (·, ()) hT.symm
/- a byte of sixteen -/
theorem six_in (c : Int) : -1 ≤ sixF c ∧ sixF c < 16 := by
  unfold sixF idxOf
  cases h : (List.range 16).find? fun j : Nat => pEq (hexD (j : Int)) c with
  | none => exact ⟨by show (-1 : Int) ≤ -1; decide, by show (-1 : Int) < 16; decide⟩
  | some j =>
    have := List.mem_range.1 (List.mem_of_find?_eq_some h)
    exact ⟨by show (-1 : Int) ≤ (j : Int); omega, by show (j : Int) < 16; omega⟩
theorem cellsB_app (o : List UInt8) (c : UInt8) : pApp (cellsB o) (((c.toNat : Int), ()) :: vnil (Int × PUnit)) = cellsB (o ++ [c]) := by
  unfold cellsB; rw [List.map_append]; rfl
theorem pBytes_cells (o : List UInt8) : pBytes (cellsB o) = ba o := by
  unfold pBytes cellsB ba
  rw [List.map_map]
  refine congrArg (fun l : List UInt8 => (⟨l.toArray⟩ : ByteArray)) ?_
  induction o with
  | nil => rfl
  | cons a r ih => rw [List.map_cons, ih]; exact congrArg (· :: r) (by show UInt8.ofNat ((a.toNat : Int)).toNat = a; rw [Int.toNat_natCast]; exact UInt8.ofNat_toNat)
theorem get_two {s : ByteArray} {k : Nat} (h : k + 1 < s.size) : ∃ a b : UInt8, pStrGet s k = (a.toNat : Int) ∧ pStrGet s (k + 1) = (b.toNat : Int) ∧ s.data.toList.drop k = a :: b :: s.data.toList.drop (k + 2) := by
  have hL := size_eq s
  obtain ⟨a, ha, hga, -⟩ := get_byte (s := s) (k := k) (by omega)
  obtain ⟨b, hb, hgb, -⟩ := get_byte (s := s) (k := k + 1) (by omega)
  refine ⟨a, b, hga, hgb, ?_⟩
  rw [List.getElem?_eq_some_iff] at ha hb
  obtain ⟨h1, ha⟩ := ha
  obtain ⟨h2, hb⟩ := hb
  rw [List.drop_eq_getElem_cons h1, ha, List.drop_eq_getElem_cons h2, hb]
theorem pair_val {h l : Int} (h0 : 0 ≤ h) (h1 : h < 16) (l0 : 0 ≤ l) (l1 : l < 16) : pWrap .u8 (pAdd .i64 (pMul .i64 16 h) l) = ((UInt8.ofNat (16 * h + l).toNat).toNat : Int) := by
  have hm : pMul .i64 16 h = 16 * h := i64_in _ (by omega)
  rw [hm, pAdd_in (by omega), wrap_u8, u8_nat (by omega)]; omega
theorem txt_none {s : ByteArray} (h : txtO s = none) : (bs [], false, ()) = (txtS s, txtB s, ()) := by unfold txtS txtB; rw [h]; rfl
theorem txt_some {s : ByteArray} {l : List UInt8} (h : txtO s = some l) : (ba l, true, ()) = (txtS s, txtB s, ()) := by unfold txtS txtB; rw [h]; rfl
theorem unh_odd : ∀ (n : Nat) (l o : List UInt8), l.length ≤ n → l.length % 2 = 1 → unhR o l = none
  | _, [], _, _, h => by cases h
  | _, [_], _, _, _ => rfl
  | 0, _ :: _ :: _, _, h, _ => by cases h
  | n + 1, a :: b :: r, o, hn, h => by
    simp only [List.length_cons] at hn h
    unfold unhR
    split
    · rfl
    · exact unh_odd n r _ (by omega) (by omega)
theorem txt_even {s : ByteArray} (h : s.size % 2 = 0) : txtO s = none := by
  have hL := size_eq s
  unfold txtO
  split
  · rename_i r hr
    rw [hr, List.length_cons] at hL
    exact unh_odd _ r [] (Nat.le_refl _) (by omega)
  · rfl
theorem txt_nodot {s : ByteArray} {c : UInt8} {r : List UInt8} (h : s.data.toList = c :: r) (hc : c ≠ 46) : txtO s = none := by
  unfold txtO
  rw [h]
  split
  · rename_i r' hr
    injection hr with hr
    exact absurd hr hc
  · rfl
theorem txt_dot {s : ByteArray} {r : List UInt8} (h : s.data.toList = 46 :: r) : txtO s = unhR [] r := by
  unfold txtO
  rw [h]
  split
  · rename_i r' hr
    injection hr with _ hr
    rw [hr]
  · rename_i hn
    exact absurd rfl (hn r)
theorem undotted_ok : Mt 79 cundotted := undotted_meets sixteenth_ok fun s hp => by
  have h1 : s.size < 4294967281 := hp (pShort s) (by simp)
  have hL := size_eq s
  have no : txtO s = none → undotted_t0 s := fun h => txt_none h
  delta undotted_VC
  refine bif_ok (fun a => no ?_) fun a => ?_
  · have a : (s.size : Int) = 0 := beq_iff_eq.1 a
    exact txt_even (by omega)
  have a : ¬ (s.size : Int) = 0 := fun h => by
    have a : ((s.size : Int) == 0) = false := a
    rw [h] at a; cases a
  obtain ⟨c, hc, hg, -⟩ := get_byte (s := s) (k := 0) (by omega)
  obtain ⟨r, hr⟩ : ∃ r, s.data.toList = c :: r := by
    cases hh : s.data.toList with
    | nil => rw [hh] at hc; cases hc
    | cons x t =>
      rw [hh] at hc
      injection hc with hc
      exact ⟨t, by rw [hc]⟩
  have hg' : pStrGet s (pNat (0 : Int)) = (c.toNat : Int) := hg
  refine ⟨pIn_coe.2 (show 0 < s.size by omega), ?_⟩
  rw [hg']
  refine bif_ok (fun b => no (txt_nodot hr fun e => ?_)) fun b => ?_
  · subst e; cases b
  have b : c = 46 := by
    have b : ((c.toNat : Int) != 46) = false := b
    rw [bne_eq_false_iff_eq] at b
    exact UInt8.toNat_inj.1 (by show c.toNat = 46; omega)
  subst b
  refine ⟨by show (2 : Int) ≠ 0; decide, ?_⟩
  have hrem : pRem (pInt (pStrLen s)) (2 : Int) = ((s.size % 2 : Nat) : Int) := by
    show ((s.size : Int)).tmod 2 = _
    rw [Int.tmod_eq_emod_of_nonneg (by omega)]; omega
  rw [hrem]
  refine bif_ok (fun d => no (txt_even ?_)) fun d => ?_
  · have d : ((s.size % 2 : Nat) : Int) = 0 := beq_iff_eq.1 d
    omega
  have d : s.size % 2 = 1 := by
    rcases Nat.mod_two_eq_zero_or_one s.size with h | h
    · rw [h] at d; cases d
    · exact h
  refine ⟨⟨1, [], rfl, ?_, Nat.zero_le _, by omega, by omega⟩, fun y hy => ?_⟩
  · rw [txt_dot hr, hr]; rfl
  obtain ⟨k, o, rfl, hk, ho, hks, hev⟩ := hy
  dsimp only
  refine bif_ok (fun e => ?_) fun e => ?_
  · have e : (k : Int) < (s.size : Int) := of_decide_eq_true e
    obtain ⟨x, y, hx, hy, hd⟩ := get_two (s := s) (k := k) (by omega)
    rw [hd] at hk
    have hk1 : pAdd .i64 (k : Int) 1 = ((k + 1 : Nat) : Int) := pAdd1 (by omega)
    rw [hk1, pNat_coe, pNat_coe, hx, hy]
    have hx8 := x.toNat_lt
    have hy8 := y.toNat_lt
    obtain ⟨x0, x1⟩ := six_in (x.toNat : Int)
    obtain ⟨y0, y1⟩ := six_in (y.toNat : Int)
    refine ⟨pIn_coe.2 (show k < s.size by omega), decide_eq_true (by omega), decide_eq_true (by omega), pIn_coe.2 (show k + 1 < s.size by omega), decide_eq_true (by omega), decide_eq_true (by omega), bif_ok (fun p => no ?_) fun p => bif_ok (fun q => no ?_) fun q => ?_⟩
    · have p : sixF (x.toNat : Int) < 0 := of_decide_eq_true p
      rw [← hk]; unfold unhR; rw [if_pos (.inl p)]
    · have q : sixF (y.toNat : Int) < 0 := of_decide_eq_true q
      rw [← hk]; unfold unhR; rw [if_pos (.inr q)]
    · have p : ¬ sixF (x.toNat : Int) < 0 := of_decide_eq_false p
      have q : ¬ sixF (y.toNat : Int) < 0 := of_decide_eq_false q
      have hv : undotted_v1 s ((k : Int), cellsB o, ()) = (((UInt8.ofNat (16 * sixF (x.toNat : Int) + sixF (y.toNat : Int)).toNat).toNat : Int), ()) :: vnil (Int × PUnit) := by
        delta undotted_v1
        dsimp only
        rw [hk1, pNat_coe, pNat_coe, hx, hy, pair_val (by omega) x1 (by omega) y1]
      have hk2 : pAdd .i64 (k : Int) 2 = ((k + 2 : Nat) : Int) := by rw [pAdd_in (by omega)]; omega
      rw [hv, cellsB_app, hk2]
      refine ⟨?_, ⟨k + 2, _, rfl, ?_, ?_, by omega, by omega⟩, ?_⟩
      · show ((cellsB o).length + 1) * 1 ≤ 140737488351232
        unfold cellsB; rw [List.length_map]; omega
      · rw [← hk]
        conv => rhs; unfold unhR
        rw [if_neg (by omega)]
      · rw [List.length_append]; show o.length + 1 ≤ k + 2; omega
      · show s.size - ((k + 2 : Nat) : Int).toNat + 1 ≤ s.size - ((k : Nat) : Int).toNat
        simp only [Int.toNat_natCast]; omega
  · have e : ¬ (k : Int) < (s.size : Int) := of_decide_eq_false e
    have : s.data.toList.drop k = [] := List.drop_eq_nil_of_le (by rw [← hL]; omega)
    rw [this] at hk
    rw [pBytes_cells]
    exact txt_some hk.symm


end Go.Proofs.YtedjlbcclhgfmaaDoor

/- Whole numbers: the document's function meets its contract. No condition. -/
namespace Go.Proofs.YtedjlbcclhgfmaaDoor
open Go.RowKit Go.Lib Go.IntWalk

abbrev wNo (s : ByteArray) : Prop := ((0 : Int), Bool.false, ()) = whole_v0 s
abbrev wStep (d : ByteArray) (y : kden Bool.false tI × kden Bool.false tI × PUnit) := (pAdd IntKind.i64 y.1 (1 : Int), pSubI IntKind.i64 (pMul IntKind.i64 (10 : Int) y.2.1) (pWrap IntKind.i64 (pSubI IntKind.u8 (pStrGet d (pNat y.1)) (48 : Int))), ())
abbrev wLoop (s d : ByteArray) : Prop := wholeInv s ((0 : Int), (0 : Int), ()) ∧ ∀ (y : kden Bool.false tI × kden Bool.false tI × PUnit), wholeInv s y → bif pLt y.1 (pInt (pStrLen d)) then pIn y.1 (pStrLen d) ∧
  bif pNot (inF (pWrap IntKind.i64 (pStrGet d (pNat y.1))) (48 : Int) (57 : Int)) then wNo s else pIn y.1 (pStrLen d) ∧ wholeInv s (wStep d y) ∧ Nat.le (Nat.succ (wholeMu s (wStep d y))) (wholeMu s y)
  else bif pEq (pInt (pStrLen d)) (pInt (pStrLen s)) then (pSubI IntKind.i64 (0 : Int) y.2.1, Bool.true, ()) = whole_v0 s else (y.2.1, Bool.true, ()) = whole_v0 s
abbrev wMid (s d M : ByteArray) : Prop := bif pEq (pInt (pStrLen d)) (19 : Int) then bif pNot (pStrLe d M) then wNo s else wLoop s d else wLoop s d
def most8 : ByteArray := bs [57, 50, 50, 51, 51, 55, 50, 48, 51, 54, 56, 53, 52, 55, 55, 53, 56, 48, 56]
def most7 : ByteArray := bs [57, 50, 50, 51, 51, 55, 50, 48, 51, 54, 56, 53, 52, 55, 55, 53, 56, 48, 55]
abbrev wTail (s d : ByteArray) : Prop := bif pGt (pInt (pStrLen d)) (19 : Int) then wNo s else bif pLt (pInt (pStrLen d)) (pInt (pStrLen s)) then wMid s d most8 else wMid s d most7
abbrev wBlk (s d : ByteArray) : Prop := bif pEq (pInt (pStrLen d)) (0 : Int) then wNo s else pIn (0 : Int) (pStrLen d) ∧ bif pEq (pStrGet d (pNat (0 : Int))) (48 : Int) then bif pNot (pStrEq s (bs [48])) then wNo s else wTail s d else wTail s d

/-- what is known of a number's digits -/
structure WD (s d : ByteArray) (D : List UInt8) (B : Nat) (neg : Bool) : Prop where
  bytes : d.data.toList = D
  digs : digsOf s.data.toList = D
  iff : numOk s = true ↔ ((∀ c ∈ D, Dig c) ∧ val 0 D ≤ B)
  value : (∀ c ∈ D, Dig c) → val 0 D ≤ B → pAtoiN s = cond neg (-(val 0 D : Int)) (val 0 D : Int)
  size : s.size = D.length + cond neg 1 0
  most : B = cond neg 9223372036854775808 9223372036854775807
theorem no_of {s : ByteArray} (h : numOk s = false) : wNo s := by
  show ((0 : Int), false, ()) = (cond (numOk s) (pAtoiN s) 0, numOk s, ())
  rw [h]; rfl
theorem wLoop_ok {s d : ByteArray} {D : List UInt8} {B : Nat} {neg : Bool} (w : WD s d D B neg) (hl : D.length ≤ 19) (hB : (∀ c ∈ D, Dig c) → val 0 D ≤ B) : wLoop s d := by
  have hL : d.size = D.length := by rw [size_eq, w.bytes]
  have hB8 : B ≤ 9223372036854775808 := by rw [w.most]; cases neg <;> decide
  refine ⟨⟨0, rfl, Nat.zero_le _, fun c hc => (by cases hc)⟩, fun y hy => ?_⟩
  obtain ⟨k, rfl, hk, hd⟩ := hy
  rw [w.digs] at hk hd
  dsimp only
  refine bif_ok (fun a => ?_) fun a => ?_
  · have a : (k : Int) < (d.size : Int) := of_decide_eq_true a
    have hkd : k < d.size := by omega
    obtain ⟨c, hc, hg, ht⟩ := get_byte hkd
    rw [w.bytes] at hc ht
    have hc8 := c.toNat_lt
    rw [pNat_coe, hg]
    have hw : pWrap .i64 (c.toNat : Int) = (c.toNat : Int) := i64_in _ (by omega)
    rw [hw]
    refine ⟨pIn_coe.2 hkd, bif_ok (fun b => no_of ?_) fun b => ?_⟩
    · have b : inF (c.toNat : Int) 48 57 = false := by simpa [pNot] using b
      cases hn : numOk s with
      | false => rfl
      | true =>
        exfalso
        have := (w.iff.1 hn).1 c (List.mem_of_getElem? hc)
        unfold Dig at this
        have : inF (c.toNat : Int) 48 57 = true := inF_iff.2 ⟨by omega, by omega⟩
        rw [b] at this; cases this
    · have b : inF (c.toNat : Int) 48 57 = true := by simpa [pNot] using b
      have b := inF_iff.1 b
      have hdig : ∀ x ∈ D.take (k + 1), Dig x := fun x hx => by
        rw [ht] at hx
        rcases List.mem_append.1 hx with hx | hx
        · exact hd x hx
        · rw [List.mem_singleton.1 hx]; unfold Dig; omega
      have hv : val 0 (D.take (k + 1)) = 10 * val 0 (D.take k) + (c.toNat - 48) := by rw [ht, val_app]; rfl
      have hle : val 0 (D.take (k + 1)) ≤ 9223372036854775808 := by
        by_cases h : k + 1 = D.length
        · rw [h, List.take_length]
          rw [h, List.take_length] at hdig
          exact Nat.le_trans (hB hdig) hB8
        · have := val_short (k := 18) hdig (by rw [List.length_take]; omega)
          have e : (10 : Nat) ^ 18 = 1000000000000000000 := by decide
          omega
      have hu : pSubI .u8 (c.toNat : Int) 48 = ((c.toNat - 48 : Nat) : Int) := by
        show IntKind.u8.wrap ((c.toNat : Int) - 48) = _
        rw [u8_wrap]; omega
      have hm : pMul .i64 10 (-(val 0 (D.take k) : Int)) = 10 * -(val 0 (D.take k) : Int) := i64_in _ (by omega)
      have hx : pWrap .i64 ((c.toNat - 48 : Nat) : Int) = ((c.toNat - 48 : Nat) : Int) := i64_in _ (by omega)
      have hs : wStep d ((k : Int), -(val 0 ((digsOf s.data.toList).take k) : Int), ()) = (((k + 1 : Nat) : Int), -(val 0 ((digsOf s.data.toList).take (k + 1)) : Int), ()) := by
        delta wStep
        dsimp only
        rw [w.digs, pAdd1 (by omega), pNat_coe, hg, hu, hx, hm, pSubI_in (by omega), hv]
        refine congrArg (fun z : Int => (((k + 1 : Nat) : Int), z, ())) ?_
        omega
      refine ⟨pIn_coe.2 hkd, ?_⟩
      rw [hs]
      refine ⟨⟨k + 1, rfl, by rw [w.digs]; omega, by rw [w.digs]; exact hdig⟩, ?_⟩
      show (digsOf s.data.toList).length - ((k + 1 : Nat) : Int).toNat + 1 ≤ (digsOf s.data.toList).length - ((k : Nat) : Int).toNat
      rw [w.digs]
      simp only [Int.toNat_natCast]; omega
  · have a : ¬ (k : Int) < (d.size : Int) := of_decide_eq_false a
    obtain rfl : k = D.length := by omega
    rw [List.take_length] at hd
    rw [w.digs, List.take_length]
    have hb := hB hd
    have hn := w.iff.2 ⟨hd, hb⟩
    have hval := w.value hd hb
    have hz := w.size
    have e0 : whole_v0 s = (pAtoiN s, true, ()) := by delta whole_v0; rw [hn]; rfl
    rw [e0, hval]
    have hm := w.most
    cases neg with
    | true =>
      rw [bif_false (by show ((d.size : Int) == (s.size : Int)) = false; rw [beq_eq_false_iff_ne]; rw [cond_true] at hz; omega)]
      rfl
    | false =>
      rw [bif_true (by show ((d.size : Int) == (s.size : Int)) = true; rw [beq_iff_eq]; rw [cond_false] at hz; omega)]
      rw [cond_false] at hm
      rw [pSubI_in (by omega), cond_false]
      refine congrArg (fun z : Int => (z, true, ())) ?_
      omega
theorem digAll : (l : List UInt8) → (h : l.all (fun c => decide (48 ≤ c.toNat ∧ c.toNat ≤ 57)) = true) → ∀ c ∈ l, Dig c := fun l h c hc => by
  have := List.all_eq_true.1 h c hc
  unfold Dig; exact of_decide_eq_true this
theorem wMid_ok {s d M : ByteArray} {D : List UInt8} {B : Nat} {neg : Bool} (w : WD s d D B neg) (hl : D.length ≤ 19) (hM : M.data.toList.length = 19) (hMd : ∀ c ∈ M.data.toList, Dig c) (hMv : val 0 M.data.toList = B) : wMid s d M := by
  have hL : d.size = D.length := by rw [size_eq, w.bytes]
  have hB7 : 9223372036854775807 ≤ B := by rw [w.most]; cases neg <;> decide
  refine bif_ok (fun a => bif_ok (fun b => no_of ?_) fun b => wLoop_ok w hl fun h => ?_) fun a => wLoop_ok w hl fun h => ?_
  · have a : (d.size : Int) = 19 := beq_iff_eq.1 a
    have b : pStrLe d M = false := by simpa [pNot] using b
    cases hn : numOk s with
    | false => rfl
    | true =>
      exfalso
      obtain ⟨h1, h2⟩ := w.iff.1 hn
      have := (le_val (by rw [hM]; omega) h1 hMd).2 (by rw [hMv]; exact h2)
      unfold pStrLe at b
      rw [toList_data, toList_data, w.bytes, this] at b; cases b
  · have a : (d.size : Int) = 19 := beq_iff_eq.1 a
    have b : pStrLe d M = true := by simpa [pNot] using b
    unfold pStrLe at b
    rw [toList_data, toList_data, w.bytes] at b
    rw [← hMv]
    exact (le_val (by rw [hM]; omega) h hMd).1 b
  · have a : ¬ (d.size : Int) = 19 := fun h => by
      have a : ((d.size : Int) == 19) = false := a
      rw [h] at a; cases a
    have := val_short (k := 18) h (by omega)
    have e : (10 : Nat) ^ 18 = 1000000000000000000 := by decide
    omega
theorem wTail_ok {s d : ByteArray} {D : List UInt8} {B : Nat} {neg : Bool} (w : WD s d D B neg) (hc : Canon D) : wTail s d := by
  have hL : d.size = D.length := by rw [size_eq, w.bytes]
  have hz := w.size
  have hm := w.most
  refine bif_ok (fun a => no_of ?_) fun a => ?_
  · have a : (19 : Int) < (d.size : Int) := of_decide_eq_true a
    cases hn : numOk s with
    | false => rfl
    | true =>
      exfalso
      obtain ⟨h1, h2⟩ := w.iff.1 hn
      have := canon_len hc h1 (by omega)
      cases neg
      · rw [cond_false] at hm; omega
      · rw [cond_true] at hm; omega
  · have a : ¬ (19 : Int) < (d.size : Int) := of_decide_eq_false a
    refine bif_ok (fun b => ?_) fun b => ?_
    · have b : (d.size : Int) < (s.size : Int) := of_decide_eq_true b
      cases neg
      · rw [cond_false] at hz; omega
      · rw [cond_true] at hm
        subst hm
        exact wMid_ok w (by omega) rfl (digAll _ (by decide)) (by decide)
    · have b : ¬ (d.size : Int) < (s.size : Int) := of_decide_eq_false b
      cases neg
      · rw [cond_false] at hm
        subst hm
        exact wMid_ok w (by omega) rfl (digAll _ (by decide)) (by decide)
      · rw [cond_true] at hz; omega
theorem head_byte {d : ByteArray} {c : UInt8} {r : List UInt8} (h : d.data.toList = c :: r) : 0 < d.size ∧ pStrGet d (pNat (0 : Int)) = (c.toNat : Int) := by
  have hL : d.size = r.length + 1 := by rw [size_eq, h]; rfl
  obtain ⟨x, hx, hg, -⟩ := get_byte (s := d) (k := 0) (by omega)
  rw [h] at hx
  injection hx with hx
  subst hx
  exact ⟨by omega, hg⟩
theorem wBlk_minus {s : ByteArray} {r : List UInt8} (h : s.data.toList = 45 :: r) : wBlk s (pStrSub s (pNat (1 : Int)) (pStrLen s)) := by
  have hL : s.size = r.length + 1 := by rw [size_eq, h]; rfl
  have hb : (pStrSub s (pNat (1 : Int)) (pStrLen s)).data.toList = r := by
    unfold pStrSub
    rw [ByteArray.data_extract, Array.toList_extract]
    show (s.data.toList.drop 1).take (s.size - 1) = r
    rw [h]
    exact List.take_of_length_le (by show r.length ≤ s.size - 1; omega)
  generalize pStrSub s (pNat (1 : Int)) (pStrLen s) = d at hb
  have hd : d.size = r.length := by rw [size_eq, hb]
  have wd : Canon r → r ≠ [48] → WD s d r 9223372036854775808 true := fun h1 h3 => {
    bytes := hb
    digs := by rw [h]; rfl
    iff := by rw [num_minus h]; exact ⟨fun q => ⟨q.2.1, q.2.2.2⟩, fun q => ⟨h1, q.1, h3, q.2⟩⟩
    value := fun h2 h4 => num_minus_val h h1 h2 h3 h4
    size := hL
    most := rfl }
  refine bif_ok (fun a => no_of ?_) fun a => ?_
  · have a : (d.size : Int) = 0 := beq_iff_eq.1 a
    cases hn : numOk s with
    | false => rfl
    | true =>
      exfalso
      obtain ⟨⟨h1, _⟩, _⟩ := (num_minus h).1 hn
      exact h1 (List.eq_nil_of_length_eq_zero (by omega))
  · cases hr : r with
    | nil =>
      rw [hr] at hd
      have a : ((d.size : Int) == 0) = false := a
      rw [hd] at a; cases a
    | cons c t =>
      rw [hr] at hb
      obtain ⟨h0, hg⟩ := head_byte hb
      refine ⟨pIn_coe.2 h0, ?_⟩
      rw [hg]
      refine bif_ok (fun b => bif_ok (fun e => no_of ?_) fun e => ?_) fun b => ?_
      · have b : (c.toNat : Int) = 48 := beq_iff_eq.1 b
        have b : c = 48 := UInt8.toNat_inj.1 (by show c.toNat = 48; omega)
        subst b
        cases hn : numOk s with
        | false => rfl
        | true =>
          exfalso
          obtain ⟨h1, _, h3, _⟩ := (num_minus h).1 hn
          have := h1.2 t hr
          subst this
          exact h3 hr
      · exfalso
        have e : pStrEq s (bs [48]) = true := by simpa [pNot] using e
        have e := strEq_iff.1 e
        rw [e] at h
        have h : ([48] : List UInt8) = 45 :: r := h
        injection h with h _
        revert h; decide
      · have b : c ≠ 48 := fun e => by subst e; cases b
        rw [← hr] at hb
        have w := wd ⟨by rw [hr]; simp, fun t' ht => by rw [hr] at ht; injection ht with ht _; exact absurd ht b⟩ (fun e => by rw [hr] at e; injection e with e _; exact b e)
        exact wTail_ok w ⟨by rw [hr]; simp, fun t' ht => by rw [hr] at ht; injection ht with ht _; exact absurd ht b⟩
theorem wBlk_plain {s : ByteArray} (h : ∀ r, s.data.toList ≠ 45 :: r) : wBlk s s := by
  have hL := size_eq s
  have wd : Canon s.data.toList → WD s s s.data.toList 9223372036854775807 false := fun h1 => {
    bytes := rfl
    digs := by
      unfold digsOf
      split
      · rename_i r hr; exact absurd hr (h r)
      · rfl
    iff := by rw [num_plain h]; exact ⟨fun q => ⟨q.2.1, q.2.2⟩, fun q => ⟨h1, q.1, q.2⟩⟩
    value := fun h2 h4 => num_plain_val h1 h2 h4
    size := hL
    most := rfl }
  refine bif_ok (fun a => no_of ?_) fun a => ?_
  · have a : (s.size : Int) = 0 := beq_iff_eq.1 a
    cases hn : numOk s with
    | false => rfl
    | true =>
      exfalso
      obtain ⟨⟨h1, _⟩, _⟩ := (num_plain h).1 hn
      exact h1 (List.eq_nil_of_length_eq_zero (by omega))
  · cases hr : s.data.toList with
    | nil =>
      rw [hr] at hL
      have a : ((s.size : Int) == 0) = false := a
      rw [hL] at a; cases a
    | cons c t =>
      obtain ⟨h0, hg⟩ := head_byte hr
      refine ⟨pIn_coe.2 h0, ?_⟩
      rw [hg]
      refine bif_ok (fun b => bif_ok (fun e => no_of ?_) fun e => ?_) fun b => ?_
      · have b : (c.toNat : Int) = 48 := beq_iff_eq.1 b
        have b : c = 48 := UInt8.toNat_inj.1 (by show c.toNat = 48; omega)
        subst b
        cases hn : numOk s with
        | false => rfl
        | true =>
          exfalso
          obtain ⟨h1, _⟩ := (num_plain h).1 hn
          have := h1.2 t hr
          subst this
          have e : pStrEq s (bs [48]) = false := by simpa [pNot] using e
          rw [strEq_iff.2 (ba_eq hr)] at e; cases e
      · have e : pStrEq s (bs [48]) = true := by simpa [pNot] using e
        have e := strEq_iff.1 e
        have hc : Canon s.data.toList := by
          rw [e]
          exact ⟨by show ([48] : List UInt8) ≠ []; simp, fun r hr => by have hr : ([48] : List UInt8) = 48 :: r := hr; injection hr with _ hr; exact hr.symm⟩
        exact wTail_ok (wd hc) hc
      · have b : c ≠ 48 := fun e => by subst e; cases b
        have hc : Canon s.data.toList := by
          rw [hr]
          exact ⟨by simp, fun t' ht => by injection ht with ht _; exact absurd ht b⟩
        exact wTail_ok (wd hc) hc
theorem whole_vc (s : ByteArray) : whole_VC s := by
  have hL := size_eq s
  delta whole_VC
  refine bif_ok (fun a => ?_) fun a => ?_
  · have a : (0 : Int) < (s.size : Int) := of_decide_eq_true a
    cases hr : s.data.toList with
    | nil =>
      rw [hr] at hL
      have hL : s.size = 0 := hL
      omega
    | cons c t =>
      obtain ⟨h0, hg⟩ := head_byte hr
      refine ⟨pIn_coe.2 h0, ?_⟩
      refine bif_ok (fun b => ?_) fun b => ?_
      · rw [hg] at b
        have b : (c.toNat : Int) = 45 := beq_iff_eq.1 b
        have b : c = 45 := UInt8.toNat_inj.1 (by show c.toNat = 45; omega)
        subst b
        exact ⟨pTo_coe.2 h0, wBlk_minus hr⟩
      · rw [hg] at b
        have b : c ≠ 45 := fun e => by subst e; cases b
        exact wBlk_plain fun r h => by rw [hr] at h; injection h with h _; exact b h
  · have a : ¬ (0 : Int) < (s.size : Int) := of_decide_eq_false a
    exact wBlk_plain fun r h => by rw [h] at hL; rw [List.length_cons] at hL; omega
theorem whole_ok : Mt 97 cwhole := whole_meets In_ok fun s _ => whole_vc s
theorem wholB_app (a b : List SD) : wholB (a ++ b) = (wholB a && wholB b) := by unfold wholB; rw [List.all_append]
theorem numsL_app (a b : List SD) : numsL (a ++ b) = numsL a ++ numsL b := by unfold numsL; rw [List.map_append]
theorem wholB_take {l : List SD} {k : Nat} (hk : k < l.length) : wholB (l.take (k + 1)) = (wholB (l.take k) && numOk (pGet tyS l k).1) ∧ numsL (l.take (k + 1)) = numsL (l.take k) ++ [(pAtoiN (pGet tyS l k).1, ())] := by
  have h : l.take (k + 1) = l.take k ++ [pGet tyS l k] := by rw [pGet_lt hk, List.take_succ_eq_append_getElem hk]
  rw [h, wholB_app, numsL_app]
  refine ⟨?_, rfl⟩
  show (wholB (l.take k) && (numOk (pGet tyS l k).1 && true)) = _
  rw [Bool.and_true]
theorem wholes_ok : Mt 77 cwholes := wholes_meets whole_ok fun l hp => by
  have hf : pFewW l := hp (pFewW l) (by simp)
  obtain ⟨hl, hs⟩ := hf
  refine ⟨⟨0, rfl, Nat.zero_le _, rfl⟩, fun y hy => ?_⟩
  obtain ⟨k, rfl, hk, hd⟩ := hy
  dsimp only
  refine bif_ok (fun a => ?_) fun a => ?_
  · have a : (k : Int) < (l.length : Int) := of_decide_eq_true a
    have hkl : k < l.length := by omega
    obtain ⟨h1, h2⟩ := wholB_take hkl
    have hv : ∀ b : numOk (pGet tyS l k).1 = true, wholes_v0 l ((k : Int), numsL (l.take k), ()) = [(pAtoiN (pGet tyS l k).1, ())] := fun b => by
      delta wholes_v0
      dsimp only
      rw [pNat_coe, b]; rfl
    refine ⟨pIn_coe.2 hkl, hs _ (by rw [pNat_coe, pGet_lt hkl]; exact List.getElem_mem hkl), bif_ok (fun b => ?_) fun b => ?_⟩
    · rw [pNat_coe] at b
      have b : numOk (pGet tyS l k).1 = false := by simpa [pNot] using b
      have hn : wholB l = false := by
        have : wholB l = (wholB (l.take (k + 1)) && wholB (l.drop (k + 1))) := by rw [← wholB_app, List.take_append_drop]
        rw [this, h1, b]; simp
      unfold wholL
      rw [hn]; rfl
    · rw [pNat_coe] at b
      have b : numOk (pGet tyS l k).1 = true := by simpa [pNot] using b
      rw [hv b, pAdd1 (by omega)]
      refine ⟨?_, ⟨k + 1, ?_, hkl, by rw [h1, hd, b]; rfl⟩, ?_⟩
      · show ((numsL (l.take k)).length + 1) * 8 ≤ 140737488351232
        unfold numsL; rw [List.length_map, List.length_take]; omega
      · rw [h2]; rfl
      · show l.length - ((k + 1 : Nat) : Int).toNat + 1 ≤ l.length - ((k : Nat) : Int).toNat
        simp only [Int.toNat_natCast]; omega
  · have a : ¬ (k : Int) < (l.length : Int) := of_decide_eq_false a
    obtain rfl : k = l.length := by omega
    rw [List.take_length] at hd ⊢
    unfold wholL
    rw [hd]; rfl
theorem wholesF_ok : Mt 77 cwholesF := meets_frz wholes_ok rfl fun _ => rfl
theorem partsOfF_ok : Mt 43 cpartsOfF := meets_frz partsOf_ok rfl fun _ => rfl


end Go.Proofs.YtedjlbcclhgfmaaDoor

/- A call's words, a line: the document's functions meet their contracts. No condition. -/
namespace Go.Proofs.YtedjlbcclhgfmaaDoor
open Go.RowKit Go.Lib Go.IntWalk

theorem len_is {q : List ND} {n : Nat} (h : pEq (pInt (pLen q)) (n : Int) = true) : q.length = n := by
  have h : (q.length : Int) = (n : Int) := beq_iff_eq.1 h
  omega
theorem callW_vc (w : ByteArray) (q : List ND) (E : CallD × Bool × Unit) (hE : E = callW w q) (N : Prop) (hN : E = callNo → N) :
    bif pStrEq w (bs [98, 101, 103, 105, 110]) then (((1 : Int), (0 : Int), (0 : Int), (0 : Int), (0 : Int), ()), pEq (pInt (pLen q)) (0 : Int), ()) = E else
    bif pStrEq w (bs [103, 101, 116]) then bif pEq (pInt (pLen q)) (3 : Int) then pIn (0 : Int) (pLen q) ∧ pIn (1 : Int) (pLen q) ∧ pIn (2 : Int) (pLen q) ∧ (((2 : Int), (pGet tyN q (pNat (0 : Int))).1, (pGet tyN q (pNat (1 : Int))).1, (pGet tyN q (pNat (2 : Int))).1, (0 : Int), ()), Bool.true, ()) = E else N else
    bif pStrEq w (bs [112, 117, 116]) then bif pEq (pInt (pLen q)) (3 : Int) then pIn (0 : Int) (pLen q) ∧ pIn (1 : Int) (pLen q) ∧ pIn (2 : Int) (pLen q) ∧ (((3 : Int), (pGet tyN q (pNat (0 : Int))).1, (0 : Int), (pGet tyN q (pNat (1 : Int))).1, pGet tyN q (pNat (2 : Int))), Bool.true, ()) = E else N else
    bif pStrEq w (bs [99, 111, 109, 109, 105, 116]) then bif pEq (pInt (pLen q)) (1 : Int) then pIn (0 : Int) (pLen q) ∧ (((4 : Int), (pGet tyN q (pNat (0 : Int))).1, (0 : Int), (0 : Int), (0 : Int), ()), Bool.true, ()) = E else N else
    bif pStrEq w (bs [114, 111, 108, 108, 98, 97, 99, 107]) then bif pEq (pInt (pLen q)) (1 : Int) then pIn (0 : Int) (pLen q) ∧ (((5 : Int), (pGet tyN q (pNat (0 : Int))).1, (0 : Int), (0 : Int), (0 : Int), ()), Bool.true, ()) = E else N else N := by
  unfold callW at hE
  refine bif_ok (fun h1 => ?_) fun h1 => bif_ok (fun h2 => bif_ok (fun e => ?_) fun e => hN ?_) fun h2 => bif_ok (fun h3 => bif_ok (fun e => ?_) fun e => hN ?_) fun h3 => bif_ok (fun h4 => bif_ok (fun e => ?_) fun e => hN ?_) fun h4 => bif_ok (fun h5 => bif_ok (fun e => ?_) fun e => hN ?_) fun h5 => hN ?_
  · rw [h1, cond_true] at hE; exact hE.symm
  · have hl := len_is (n := 3) e
    rw [h1, cond_false, h2, cond_true, show pEq (pInt q.length) 3 = true from e, cond_true] at hE
    refine ⟨pIn_coe.2 (show 0 < q.length by omega), pIn_coe.2 (show 1 < q.length by omega), pIn_coe.2 (show 2 < q.length by omega), hE.symm⟩
  · rw [hE, h1, cond_false, h2, cond_true, show pEq (pInt q.length) 3 = false from e, cond_false]
  · have hl := len_is (n := 3) e
    rw [h1, cond_false, h2, cond_false, h3, cond_true, show pEq (pInt q.length) 3 = true from e, cond_true] at hE
    refine ⟨pIn_coe.2 (show 0 < q.length by omega), pIn_coe.2 (show 1 < q.length by omega), pIn_coe.2 (show 2 < q.length by omega), hE.symm⟩
  · rw [hE, h1, cond_false, h2, cond_false, h3, cond_true, show pEq (pInt q.length) 3 = false from e, cond_false]
  · have hl := len_is (n := 1) e
    rw [h1, cond_false, h2, cond_false, h3, cond_false, h4, cond_true, show pEq (pInt q.length) 1 = true from e, cond_true] at hE
    exact ⟨pIn_coe.2 (show 0 < q.length by omega), hE.symm⟩
  · rw [hE, h1, cond_false, h2, cond_false, h3, cond_false, h4, cond_true, show pEq (pInt q.length) 1 = false from e, cond_false]
  · have hl := len_is (n := 1) e
    rw [h1, cond_false, h2, cond_false, h3, cond_false, h4, cond_false, h5, cond_true, show pEq (pInt q.length) 1 = true from e, cond_true] at hE
    exact ⟨pIn_coe.2 (show 0 < q.length by omega), hE.symm⟩
  · rw [hE, h1, cond_false, h2, cond_false, h3, cond_false, h4, cond_false, h5, cond_true, show pEq (pInt q.length) 1 = false from e, cond_false]
  · rw [hE, h1, cond_false, h2, cond_false, h3, cond_false, h4, cond_false, h5, cond_false]
theorem sub_tail (a : SD) (r : List SD) : pSub (a :: r) (pNat (1 : Int)) (pLen (a :: r)) = r := by
  show ((a :: r).take (r.length + 1)).drop 1 = r
  rw [List.take_succ_cons, List.take_length]; rfl
theorem few_of {l m : List SD} (h : pFewW l) (hl : m.length ≤ l.length) (hm : ∀ a ∈ m, a ∈ l) : pFewW m := ⟨Nat.le_trans hl h.1, fun a ha => h.2 a (hm a ha)⟩
theorem callOf_ok : Mt 78 ccallOf := callOf_meets wholesF_ok fun l hp => by
  have hf : pFewW l := hp (pFewW l) (by simp)
  delta callOf_VC
  cases l with
  | nil => rw [bif_true (by rfl)]; rfl
  | cons a r =>
    rw [bif_false (by show pEq ((r.length + 1 : Nat) : Int) 0 = false; unfold pEq; rw [beq_eq_false_iff_ne]; omega)]
    delta callOf_t0 callOf_v1
    rw [sub_tail]
    refine ⟨pTo_coe.2 (Nat.succ_le_succ (Nat.zero_le _)), few_of hf (Nat.le_succ _) (fun x hx => List.mem_cons_of_mem a hx), bif_ok (fun h => ?_) fun h => ⟨pIn_coe.2 (Nat.succ_pos _), ?_⟩⟩
    · have h : wholB r = false := by simpa [pNot] using h
      show _ = cond (wholB r) (callW a.1 (wholL r)) callNo
      rw [h]; rfl
    · have h : wholB r = true := by simpa [pNot] using h
      have e : (callC (a :: r), callB (a :: r), ()) = callW a.1 (wholL r) := by
        show cond (wholB r) (callW a.1 (wholL r)) callNo = _
        rw [h]; rfl
      exact callW_vc a.1 (wholL r) _ e _ fun hn => hn.symm

abbrev lA_v0 (W : List SD) (_ : ActD × Bool × Unit) := (pGet tyS W (pNat (0 : Int))).1
abbrev lA_v1 := ((0 : Int), (0 : Int), (0 : Int), vnil (Int × PUnit), (0 : Int), (0 : Int), (0 : Int), (0 : Int), (0 : Int), (bs []), ())
abbrev lA_t2 (_ : List SD) (E : ActD × Bool × Unit) : Prop := (((0 : Int), (0 : Int), lA_v1), Bool.false, ()) = E
abbrev lA_v3 (W : List SD) (_ : ActD × Bool × Unit) := pSub W (pNat (1 : Int)) (pNat (3 : Int))
abbrev lA_v4 (W : List SD) (_ : ActD × Bool × Unit) := pSub W (pNat (3 : Int)) (pLen W)
abbrev lA_v5 (W : List SD) (_ : ActD × Bool × Unit) := (pGet tyS W (pNat (3 : Int))).1
abbrev lA_v6 (W : List SD) (E : ActD × Bool × Unit) := ((8 : Int), (pGet tyN (wholL (lA_v3 W E)) (pNat (0 : Int))).1, (0 : Int), (pGet tyN (wholL (lA_v3 W E)) (pNat (1 : Int))).1, (0 : Int), vnil (Int × PUnit), (0 : Int), (0 : Int), (0 : Int), (0 : Int), (0 : Int), txtS (lA_v5 W E),
 ())
abbrev lA_v7 (W : List SD) (E : ActD × Bool × Unit) := bif pLt (pInt (pLen W)) (4 : Int) then lA_t2 W E else pTo (3 : Int) (pLen W) ∧ pTo (1 : Int) (pNat (3 : Int)) ∧ pFewW (lA_v3 W E) ∧ bif pNot (wholB (lA_v3 W E)) then
 lA_t2 W E else pIn (0 : Int) (pLen W) ∧ bif pStrEq (lA_v0 W E) (bs [97, 115, 107]) then pTo (3 : Int) (pLen W) ∧ pFewW (lA_v4 W E) ∧ pIn (0 : Int) (pLen (wholL
 (lA_v3 W E))) ∧ pIn (1 : Int) (pLen (wholL (lA_v3 W E))) ∧ (((1 : Int), (pGet tyN (wholL (lA_v3 W E)) (pNat (0 : Int))).1, (0 : Int), (pGet tyN (wholL (lA_v3 W E)) (pNat (1 : Int))).1, (0 : Int), vnil (Int × PUnit), (callC
 (lA_v4 W E)).1, (callC (lA_v4 W E)).2.1, (callC (lA_v4 W E)).2.2.1, (callC (lA_v4 W E)).2.2.2.1, (callC (lA_v4 W E)).2.2.2.2.1, (bs []), ()), callB (lA_v4 W E), ()) = E else pIn (3 : Int) (pLen W) ∧ pShort (lA_v5 W E) ∧ pIn (0 : Int) (pLen (wholL (lA_v3 W E))) ∧ pIn (1 : Int) (pLen (wholL (lA_v3 W E))) ∧ bif txtB (lA_v5 W E) then (lA_v6 W E, pEq (pInt (pLen W)) (4
 : Int), ()) = E else (lA_v6 W E, Bool.false, ()) = E
abbrev lA_v8 (W : List SD) (_ : ActD × Bool × Unit) := pSub W (pNat (1 : Int)) (pLen W)
abbrev lA_v9 (W : List SD) (E : ActD × Bool × Unit) := (pGet tyN (wholL (lA_v8 W E)) (pNat (0 : Int))).1
abbrev lA_v10 (W : List SD) (E : ActD × Bool × Unit) := (lA_v9 W E, (pGet tyN (wholL (lA_v8 W E)) (pNat (1 : Int))).1, (pGet tyN (wholL (lA_v8 W E)) (pNat (2 : Int))).1, (pGet tyN (wholL (lA_v8 W E)) (pNat (3 : Int))).1, vnil (Int × PUnit), (0 : Int), (0 : Int), (0 : Int), (0 : Int),
 (0 : Int), (bs []), ())
abbrev lA_t11 (W : List SD) (E : ActD × Bool × Unit) : Prop := pIn (0 : Int) (pLen (wholL (lA_v8 W E))) ∧ pIn (1 : Int) (pLen (wholL (lA_v8 W E))) ∧ pIn (2 : Int) (pLen (wholL (lA_v8 W E))) ∧ pIn (3 : Int) (pLen (wholL (lA_v8 W E))) ∧ (((4 : Int), lA_v10 W E), Bool.true, ()) = E
abbrev lA_v12 (W : List SD) (E : ActD × Bool × Unit) := bif pEq (pInt (pLen (wholL (lA_v8 W E)))) (4 : Int) then pIn (0 : Int) (pLen W) ∧ bif pStrEq (lA_v0 W E) (bs [100, 114, 111, 112]) then pIn (0 : Int) (pLen W) ∧ bif pStrEq
 (lA_v0 W E) (bs [99, 111, 112, 121]) then lA_t11 W E else pIn (0 : Int) (pLen (wholL (lA_v8 W E))) ∧ pIn (1 : Int) (pLen (wholL (lA_v8 W E))) ∧ pIn (2 : Int) (pLen (wholL (lA_v8 W E))) ∧ pIn (3 : Int) (pLen (wholL (lA_v8 W E))) ∧ (((3 : Int), lA_v10 W E), Bool.true, ()) = E else pIn (0 : Int) (pLen W) ∧ bif pStrEq (lA_v0 W E) (bs [99, 111, 112, 121]) then lA_t11 W E else pIn (0 : Int) (pLen (wholL
 (lA_v8 W E))) ∧ pIn (1 : Int) (pLen (wholL (lA_v8 W E))) ∧ pIn (2 : Int) (pLen (wholL (lA_v8 W E))) ∧ pIn (3 : Int) (pLen (wholL (lA_v8 W E))) ∧ (((2 : Int), lA_v10 W E), Bool.true, ()) = E else lA_t2 W E

def lA_VC (W : List SD) (E : ActD × Bool × Unit) : Prop :=
  pIn (0 : Int) (pLen W) ∧ bif pStrEq (lA_v0 W E) (bs [97, 115, 107]) then lA_v7 W E else pIn (0 : Int) (pLen W) ∧ bif pStrEq (lA_v0 W E) (bs [116, 121, 112,
 101]) then lA_v7 W E else pTo (1 : Int) (pLen W) ∧ pFewW (lA_v8 W E) ∧ bif pNot (wholB (lA_v8 W E)) then lA_t2 W E else pIn (0 : Int) (pLen W) ∧ bif pStrEq
 (lA_v0 W E) (bs [116, 105, 99, 107]) then (((5 : Int), (0 : Int), lA_v1), pEq (pInt (pLen (wholL (lA_v8 W E)))) (0 : Int), ()) = E else bif pStrEq (lA_v0 W E) (bs [115, 116, 97, 114, 116]) then bif pEq (pInt
 (pLen (wholL (lA_v8 W E)))) (1 : Int) then pIn (0 : Int) (pLen (wholL (lA_v8 W E))) ∧ (((7 : Int), lA_v9 W E, lA_v1), Bool.true, ()) = E else lA_t2 W E else bif pStrEq (lA_v0 W E) (bs [99, 114, 97,
 115, 104]) then bif pGt (pInt (pLen (wholL (lA_v8 W E)))) (0 : Int) then pIn (0 : Int) (pLen (wholL (lA_v8 W E))) ∧ pTo (1 : Int) (pLen (wholL (lA_v8 W E))) ∧ (((6 : Int), lA_v9 W E, (0 : Int), (0 : Int), (0 : Int), pSub (wholL
 (lA_v8 W E)) (pNat (1 : Int)) (pLen (wholL (lA_v8 W E))), (0 : Int), (0 : Int), (0 : Int), (0 : Int), (0 : Int), (bs []), ()), Bool.true, ()) = E else lA_t2 W E else bif pStrEq (lA_v0 W E) (bs [100, 101, 108,
 105, 118, 101, 114]) then bif pStrEq (lA_v0 W E) (bs [100, 101, 108, 105, 118, 101, 114]) then lA_v12 W E else lA_t2 W E else bif pStrEq (lA_v0 W E) (bs [100, 114, 111, 112]) then bif pStrEq (lA_v0 W E) (bs [100, 114, 111,
 112]) then lA_v12 W E else lA_t2 W E else bif pStrEq (lA_v0 W E) (bs [99, 111, 112, 121]) then lA_v12 W E else lA_t2 W E

theorem str_ne {a b : List Nat} (h : a.map UInt8.ofNat ≠ b.map UInt8.ofNat) {w : ByteArray} (hw : pStrEq w (bs a) = true) : pStrEq w (bs b) = false := by
  cases hq : pStrEq w (bs b) with
  | false => rfl
  | true =>
    have h1 := strEq_iff.1 hw
    rw [strEq_iff.1 hq] at h1
    have h1 : ba (b.map UInt8.ofNat) = ba (a.map UInt8.ofNat) := h1
    have h2 : b.map UInt8.ofNat = a.map UInt8.ofNat := congrArg (fun x : ByteArray => x.data.toList) h1
    exact absurd h2.symm h
theorem line7_ok (a : SD) (r : List SD) (hf : pFewW (a :: r)) (E : ActD × Bool × Unit) (hE : E = cond (pLt (pInt (a :: r).length) 4) lineNo (cond (wholB (r.take 2)) (lineA a.1 (r.drop 2) (wholL (r.take 2))) lineNo)) : lA_v7 (a :: r) E := by
  delta lA_v7
  refine bif_ok (fun h => ?_) fun h => ?_
  · rw [show pLt (pInt (a :: r).length) 4 = true from h, cond_true] at hE; exact hE.symm
  · rw [show pLt (pInt (a :: r).length) 4 = false from h, cond_false] at hE
    have h4 : ¬ ((r.length + 1 : Nat) : Int) < 4 := of_decide_eq_false h
    obtain ⟨b, c, d, t, rfl⟩ : ∃ b c d t, r = b :: c :: d :: t := by
      match r, h4 with
      | [], h => exact absurd (show ((1 : Nat) : Int) < 4 by decide) h
      | [_], h => exact absurd (show ((2 : Nat) : Int) < 4 by decide) h
      | [_, _], h => exact absurd (show ((3 : Nat) : Int) < 4 by decide) h
      | b :: c :: d :: t, _ => exact ⟨b, c, d, t, rfl⟩
    have e4 : lA_v4 (a :: b :: c :: d :: t) E = d :: t := by
      show ((a :: b :: c :: d :: t).take (t.length + 4)).drop 3 = d :: t
      simp
    have hq : (wholB [b, c] = true) → (wholL [b, c]).length = 2 := fun h => by unfold wholL; rw [h]; rfl
    have hE : E = cond (wholB [b, c]) (lineA a.1 (d :: t) (wholL [b, c])) lineNo := hE
    refine ⟨pTo_coe.2 (show 3 ≤ t.length + 1 + 1 + 1 + 1 by omega), pTo_coe.2 (show 1 ≤ 3 by omega), few_of hf (show 2 ≤ t.length + 1 + 1 + 1 + 1 by omega) (fun x hx => ?_), bif_ok (fun g => ?_) fun g => ⟨pIn_coe.2 (Nat.succ_pos _), ?_⟩⟩
    · have hx : x ∈ [b, c] := hx
      rcases List.mem_cons.1 hx with rfl | hx
      · simp
      · rw [List.mem_singleton.1 hx]; simp
    · have g : pNot (wholB [b, c]) = true := g
      have g : wholB [b, c] = false := by simpa [pNot] using g
      rw [g, cond_false] at hE; exact hE.symm
    · have g : pNot (wholB [b, c]) = false := g
      have g : wholB [b, c] = true := by simpa [pNot] using g
      have h2 := hq g
      rw [g, cond_true] at hE
      unfold lineA at hE
      refine bif_ok (fun k => ⟨pTo_coe.2 (show 3 ≤ t.length + 1 + 1 + 1 + 1 by omega), ?_, pIn_coe.2 (show 0 < (wholL [b, c]).length by omega), pIn_coe.2 (show 1 < (wholL [b, c]).length by omega), ?_⟩) fun k => ⟨pIn_coe.2 (show 3 < t.length + 1 + 1 + 1 + 1 by omega), hf.2 d (by simp), pIn_coe.2 (show 0 < (wholL [b, c]).length by omega), pIn_coe.2 (show 1 < (wholL [b, c]).length by omega), bif_ok (fun x => ?_) fun x => ?_⟩
      · rw [e4]
        exact few_of hf (show t.length + 1 ≤ t.length + 1 + 1 + 1 + 1 by omega) fun x hx => by
          rcases List.mem_cons.1 hx with rfl | hx
          · simp
          · simp [hx]
      · have k : pStrEq a.1 (bs [97, 115, 107]) = true := k
        rw [k, cond_true] at hE
        rw [e4]
        exact hE.symm
      · have k : pStrEq a.1 (bs [97, 115, 107]) = false := k
        have x : txtB d.1 = true := x
        rw [k, cond_false, show txtB (nextS (d :: t)) = true from x, Bool.true_and] at hE
        have hlen : pEq (pInt (d :: t).length) 1 = pEq (pInt (pLen (a :: b :: c :: d :: t))) 4 := by
          show (((t.length + 1 : Nat) : Int) == 1) = (((t.length + 1 + 1 + 1 + 1 : Nat) : Int) == 4)
          rw [Bool.eq_iff_iff, beq_iff_eq, beq_iff_eq]; omega
        rw [hlen] at hE
        exact hE.symm
      · have k : pStrEq a.1 (bs [97, 115, 107]) = false := k
        have x : txtB d.1 = false := x
        rw [k, cond_false, show txtB (nextS (d :: t)) = false from x, Bool.false_and] at hE
        exact hE.symm
theorem path_ok (a : SD) (r : List SD) (E : ActD × Bool × Unit) (k : Int) (hd : pStrEq a.1 (bs [100, 114, 111, 112]) = pEq k 3) (hc : pStrEq a.1 (bs [99, 111, 112, 121]) = pEq k 4) (hk : k = 2 ∨ k = 3 ∨ k = 4) (hE : E = pathY k (wholL r)) : lA_v12 (a :: r) E := by
  have e8 : lA_v8 (a :: r) E = r := sub_tail a r
  delta lA_v12 lA_t11 lA_v10 lA_v9
  rw [e8]
  unfold pathY at hE
  refine bif_ok (fun h => ⟨pIn_coe.2 (Nat.succ_pos _), ?_⟩) fun h => ?_
  · have hl := len_is (n := 4) h
    rw [show pEq (pInt (wholL r).length) 4 = true from h, cond_true] at hE
    have p0 : pIn (0 : Int) (pLen (wholL r)) := pIn_coe.2 (show 0 < (wholL r).length by omega)
    have p1 : pIn (1 : Int) (pLen (wholL r)) := pIn_coe.2 (show 1 < (wholL r).length by omega)
    have p2 : pIn (2 : Int) (pLen (wholL r)) := pIn_coe.2 (show 2 < (wholL r).length by omega)
    have p3 : pIn (3 : Int) (pLen (wholL r)) := pIn_coe.2 (show 3 < (wholL r).length by omega)
    refine bif_ok (fun x => ⟨pIn_coe.2 (Nat.succ_pos _), bif_ok (fun y => ⟨p0, p1, p2, p3, ?_⟩) fun y => ⟨p0, p1, p2, p3, ?_⟩⟩) fun x => ⟨pIn_coe.2 (Nat.succ_pos _), bif_ok (fun y => ⟨p0, p1, p2, p3, ?_⟩) fun y => ⟨p0, p1, p2, p3, ?_⟩⟩
    all_goals
      have x := hd.symm.trans x
      have y := hc.symm.trans y
      rcases hk with rfl | rfl | rfl
      all_goals first
        | exact hE.symm
        | exact absurd x (by decide)
        | exact absurd y (by decide)
  · rw [show pEq (pInt (wholL r).length) 4 = false from h, cond_false] at hE
    exact hE.symm
theorem lA_ok (a : SD) (r : List SD) (hf : pFewW (a :: r)) (E : ActD × Bool × Unit) (hE : E = lineY (a :: r)) : lA_VC (a :: r) E := by
  have e8 : lA_v8 (a :: r) E = r := sub_tail a r
  have hE : E = cond (pStrEq a.1 (bs [97, 115, 107]) || pStrEq a.1 (bs [116, 121, 112, 101]))
      (cond (pLt (pInt (a :: r).length) 4) lineNo (cond (wholB (r.take 2)) (lineA a.1 (r.drop 2) (wholL (r.take 2))) lineNo)) (cond (wholB r) (lineB a.1 (wholL r)) lineNo) := hE
  have in0 : pIn (0 : Int) (pLen (a :: r)) := pIn_coe.2 (Nat.succ_pos _)
  delta lA_VC
  refine ⟨in0, bif_ok (fun h => line7_ok a r hf E ?_) fun h1 => ⟨in0, bif_ok (fun h => line7_ok a r hf E ?_) fun h2 => ?_⟩⟩
  · have h : pStrEq a.1 (bs [97, 115, 107]) = true := h
    rw [h, Bool.true_or, cond_true] at hE; exact hE
  · have h : pStrEq a.1 (bs [116, 121, 112, 101]) = true := h
    rw [h, Bool.or_true, cond_true] at hE; exact hE
  have h1 : pStrEq a.1 (bs [97, 115, 107]) = false := h1
  have h2 : pStrEq a.1 (bs [116, 121, 112, 101]) = false := h2
  rw [h1, h2, Bool.false_or, cond_false] at hE
  delta lA_v9
  rw [e8]
  refine ⟨pTo_coe.2 (Nat.succ_le_succ (Nat.zero_le _)), few_of hf (Nat.le_succ _) (fun x hx => List.mem_cons_of_mem a hx), bif_ok (fun g => ?_) fun g => ⟨in0, ?_⟩⟩
  · have g : wholB r = false := by simpa [pNot] using g
    rw [g, cond_false] at hE; exact hE.symm
  have g : wholB r = true := by simpa [pNot] using g
  rw [g, cond_true] at hE
  unfold lineB at hE
  refine bif_ok (fun h3 => ?_) fun h3 => bif_ok (fun h4 => bif_ok (fun e => ?_) fun e => ?_) fun h4 => bif_ok (fun h5 => bif_ok (fun e => ?_) fun e => ?_) fun h5 => bif_ok (fun h6 => bif_ok (fun _ => ?_) fun h7 => ?_) fun h6 => bif_ok (fun h7 => bif_ok (fun _ => ?_) fun h8 => ?_) fun h7 => bif_ok (fun h8 => ?_) fun h8 => ?_
  · rw [show pStrEq a.1 (bs [116, 105, 99, 107]) = true from h3, cond_true] at hE; exact hE.symm
  · have hl := len_is (n := 1) e
    rw [show pStrEq a.1 (bs [116, 105, 99, 107]) = false from h3, cond_false, show pStrEq a.1 (bs [115, 116, 97, 114, 116]) = true from h4, cond_true, show pEq (pInt (wholL r).length) 1 = true from e, cond_true] at hE
    exact ⟨pIn_coe.2 (show 0 < (wholL r).length by omega), hE.symm⟩
  · rw [show pStrEq a.1 (bs [116, 105, 99, 107]) = false from h3, cond_false, show pStrEq a.1 (bs [115, 116, 97, 114, 116]) = true from h4, cond_true, show pEq (pInt (wholL r).length) 1 = false from e, cond_false] at hE
    exact hE.symm
  · rw [show pStrEq a.1 (bs [116, 105, 99, 107]) = false from h3, cond_false, show pStrEq a.1 (bs [115, 116, 97, 114, 116]) = false from h4, cond_false, show pStrEq a.1 (bs [99, 114, 97, 115, 104]) = true from h5, cond_true, show pGt (pInt (wholL r).length) 0 = true from e, cond_true] at hE
    have e : (0 : Int) < ((wholL r).length : Int) := of_decide_eq_true e
    refine ⟨pIn_coe.2 (show 0 < (wholL r).length by omega), pTo_coe.2 (show 1 ≤ (wholL r).length by omega), ?_⟩
    have ht : pSub (wholL r) (pNat (1 : Int)) (pLen (wholL r)) = (wholL r).tail := by
      show ((wholL r).take (wholL r).length).drop 1 = _
      rw [List.take_length, List.drop_one]
    rw [ht]
    exact hE.symm
  · rw [show pStrEq a.1 (bs [116, 105, 99, 107]) = false from h3, cond_false, show pStrEq a.1 (bs [115, 116, 97, 114, 116]) = false from h4, cond_false, show pStrEq a.1 (bs [99, 114, 97, 115, 104]) = true from h5, cond_true, show pGt (pInt (wholL r).length) 0 = false from e, cond_false] at hE
    exact hE.symm
  all_goals rw [show pStrEq a.1 (bs [116, 105, 99, 107]) = false from h3, cond_false, show pStrEq a.1 (bs [115, 116, 97, 114, 116]) = false from h4, cond_false, show pStrEq a.1 (bs [99, 114, 97, 115, 104]) = false from h5, cond_false] at hE
  · have h6 : pStrEq a.1 (bs [100, 101, 108, 105, 118, 101, 114]) = true := h6
    rw [h6, cond_true] at hE
    exact path_ok a r E 2 (str_ne (by decide) h6) (str_ne (by decide) h6) (.inl rfl) hE
  · rw [h6] at h7; cases h7
  · have h6 : pStrEq a.1 (bs [100, 101, 108, 105, 118, 101, 114]) = false := h6
    have h7 : pStrEq a.1 (bs [100, 114, 111, 112]) = true := h7
    rw [h6, cond_false, h7, cond_true] at hE
    exact path_ok a r E 3 h7 (str_ne (by decide) h7) (.inr (.inl rfl)) hE
  · rw [h7] at h8; cases h8
  · have h6 : pStrEq a.1 (bs [100, 101, 108, 105, 118, 101, 114]) = false := h6
    have h7 : pStrEq a.1 (bs [100, 114, 111, 112]) = false := h7
    have h8 : pStrEq a.1 (bs [99, 111, 112, 121]) = true := h8
    rw [h6, cond_false, h7, cond_false, h8, cond_true] at hE
    exact path_ok a r E 4 h7 h8 (.inr (.inr rfl)) hE
  · have h6 : pStrEq a.1 (bs [100, 101, 108, 105, 118, 101, 114]) = false := h6
    have h7 : pStrEq a.1 (bs [100, 114, 111, 112]) = false := h7
    have h8 : pStrEq a.1 (bs [99, 111, 112, 121]) = false := h8
    rw [h6, cond_false, h7, cond_false, h8, cond_false] at hE
    exact hE.symm
theorem few_split {s : ByteArray} (h : pShort s) : pFewW (pSplit s (bs [32])) := by
  unfold pShort at h
  have hL := size_eq s
  obtain ⟨h1, h2⟩ := spl_len s.data.toList
  rw [split_spl]
  refine ⟨by rw [List.length_map]; omega, fun w hw => ?_⟩
  obtain ⟨x, hx, rfl⟩ := List.mem_map.1 hw
  show (ba x).size < 4294967281
  have := h2 x hx
  show x.toArray.size < 4294967281
  simp; omega
theorem split_ne (s : ByteArray) : ∃ a r, pSplit s (bs [32]) = a :: r := by
  rw [split_spl]
  cases h : spl s.data.toList with
  | nil =>
    exfalso
    revert h
    generalize s.data.toList = l
    intro h
    cases l with
    | nil => cases h
    | cons x t =>
      unfold spl at h
      split at h
      · cases h
      · unfold headTo at h; split at h <;> cases h
  | cons a r => exact ⟨_, _, rfl⟩
theorem lineAct_ok : Mt 47 clineAct := lineAct_meets partsOfF_ok wholesF_ok callOf_ok undotted_ok fun s hp => by
  have h1 : pShort s := hp (pShort s) (by simp)
  have hf := few_split h1
  obtain ⟨a, r, hW⟩ := split_ne s
  have hE : (linA s, linB s, ()) = lineY (pSplit s (bs [32])) := rfl
  rw [hW] at hf hE
  have := lA_ok a r hf _ hE
  rw [← hW] at this
  exact ⟨h1, this⟩


end Go.Proofs.YtedjlbcclhgfmaaDoor
