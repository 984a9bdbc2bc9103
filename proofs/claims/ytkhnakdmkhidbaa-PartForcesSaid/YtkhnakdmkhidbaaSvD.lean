/- Contracts, and what the evaluator says, as plain propositions: SvD. Printed by vc.py. -/
import Derived.Test.YtkhnakdmkhidbaaSpB
import Derived.Test.YtkhnakdmkhidbaaSvB
namespace Go.Proofs.Ytkhnakdmkhidbaa
open Go.RowKit Go.ChangeShapes Go.WideShapes Go.Deep

def cisNaN : Ctr := shCtr ⟨[.one (.rd tI)], []⟩ (fun _ => []) [] [.slot 0 false .bool] (fun x => (false, ()))
def cCompare : Ctr := shCtr ⟨[.one (.rd tI), .one (.rd tI)], []⟩ (fun _ => []) [] [.slot 0 false tI] (fun x => (cmpF x.1.1 x.1.2.1, ()))
def cat1 : Ctr := shCtr ⟨[(.agg [.rd tI, .rd tI, .rd tI]), .one (.rd tI)], []⟩ (fun _ => []) [] [.slot 0 false tI] (fun x => (cmpF x.1.1.1 x.1.2.1, ()))
def cbin : Ctr := shCtr ⟨[.one (.rd (.sl tyItem)), .one (.rd tI), .one (.lit (.fn 42 []))], []⟩ (fun x => [pLen x.1.1 < 4611686018427387904, sortF x.1.1 = true]) [] [.slot 0 false tI, .slot 1 false .bool] (fun x => (posF x.1.1 x.1.2.1, pGe (idxKeyF x.1.1 x.1.2.1) 0, ()))
def cat : Ctr := shCtr ⟨[.one (.rd (.sl tyItem)), .one (.rd tI)], []⟩ (fun x => [pLen x.1.1 < 4611686018427387904, sortF x.1.1 = true]) [] [.slot 0 false tI, .slot 1 false .bool] (fun x => (posF x.1.1 x.1.2.1, pGe (idxKeyF x.1.1 x.1.2.1) 0, ()))
def ccall : Ctr := shCtr ⟨[pSto, pTxn, .one (.rd tI)], []⟩ (fun x => [pLen x.1.1.1 < 4611686018427387904, pLen x.1.1.2.1 < 4611686018427387904, pLen x.1.1.2.2.1 < 4611686018427387904, pLen x.1.1.2.2.2.1 < 4611686018427387904]) [] [.slot 0 false tI] (fun x => (askE x.1.1 x.1.2.1 x.1.2.2.1, ()))
def caskFault : Ctr := shCtr ⟨[pSto, pTxn, .one (.rd tI)], []⟩ (fun x => [pLen x.1.1.1 < 4611686018427387904, pLen x.1.1.2.1 < 4611686018427387904, pLen x.1.1.2.2.1 < 4611686018427387904, pLen x.1.1.2.2.2.1 < 4611686018427387904]) [] [.slot 0 false tI] (fun x => (askE x.1.1 x.1.2.1 x.1.2.2.1, ()))

def isNaN_VC (a : Int) : Prop :=
  (pNe a a, ()) = (Bool.false, ())
set_option maxRecDepth 100000 in
theorem isNaN_meets  (h : ∀ (a : Int), isNaN_VC a) : Meets Try.prog (fun _ => none) 59 cisNaN :=
  meets_vc (E := envOf Try.prog [] [29, 51, 53, 55]) (envOf_ok (fun p hp => by cases hp) (by kernel_rfl)) ⟨[.one (.rd tI)], []⟩ (fun x => fun kk ss => look [] kk) Try.func59 (by kernel_rfl) (by kernel_rfl) (fun _ => []) [] [.slot 0 false .bool] (fun x => (false, ())) (fun x => isNaN_VC x.1.1) (fun x => by kernel_rfl) (fun x _ => h x.1.1)

def Compare_VC (a : Int) (b : Int) : Prop :=
  bif pLt a b then ((-1 : Int), ()) = (cmpF a b, ()) else bif pGt a b then ((1 : Int), ()) = (cmpF a b, ()) else ((0 : Int), ()) = (cmpF a b, ())
set_option maxRecDepth 100000 in
theorem Compare_meets (hisNaN : Meets Try.prog (fun _ => none) 59 cisNaN) (h : ∀ (a : Int) (b : Int), Compare_VC a b) : Meets Try.prog (fun _ => none) 43 cCompare :=
  meets_vc (E := envOf Try.prog [(59, (false, cisNaN))] [29, 51, 53, 55]) (envOf_ok (fun p hp => (by simp only [List.mem_cons, List.not_mem_nil, or_false] at hp; rcases hp with rfl; exact hisNaN)) (by kernel_rfl)) ⟨[.one (.rd tI), .one (.rd tI)], []⟩ (fun x => fun kk ss => look [] kk) Try.func43 (by kernel_rfl) (by kernel_rfl) (fun _ => []) [] [.slot 0 false tI] (fun x => (cmpF x.1.1 x.1.2.1, ())) (fun x => Compare_VC x.1.1 x.1.2.1) (fun x => by kernel_rfl) (fun x _ => h x.1.1 x.1.2.1)

def at1_VC (xk : Int) (xv : Int) (xn : Int) (k : Int) : Prop :=
  (cmpF xk k, ()) = (cmpF xk k, ())
set_option maxRecDepth 100000 in
theorem at1_meets (hCompare : Meets Try.prog (fun _ => none) 43 cCompare) (h : ∀ (xk : Int) (xv : Int) (xn : Int) (k : Int), at1_VC xk xv xn k) : Meets Try.prog (fun _ => none) 42 cat1 :=
  meets_vc (E := envOf Try.prog [(43, (false, cCompare))] [29, 51, 53, 55]) (envOf_ok (fun p hp => (by simp only [List.mem_cons, List.not_mem_nil, or_false] at hp; rcases hp with rfl; exact hCompare)) (by kernel_rfl)) ⟨[(.agg [.rd tI, .rd tI, .rd tI]), .one (.rd tI)], []⟩ (fun x => fun kk ss => look [] kk) Try.func42 (by kernel_rfl) (by kernel_rfl) (fun _ => []) [] [.slot 0 false tI] (fun x => (cmpF x.1.1.1 x.1.2.1, ())) (fun x => at1_VC x.1.1.1 x.1.1.2.1 x.1.1.2.2.1 x.1.2.1) (fun x => by kernel_rfl) (fun x _ => h x.1.1.1 x.1.1.2.1 x.1.1.2.2.1 x.1.2.1)

def bin_VC (l : (List ItemD)) (k : Int) : Prop :=
  binInv l k ((0 : Int), pInt (pLen l), ()) ∧ ∀ (y : kden Bool.false tI × kden Bool.false tI × PUnit), binInv l k y → bif pLt y.1 y.2.1 then pGe0 (1 : Int) ∧ pIn (pWrap IntKind.i64 (pShr IntKind.u64 (pWrap IntKind.u64
    (pAdd IntKind.i64 y.1 y.2.1)) (1 : Int))) (pLen l) ∧ bif pLt (cmpF (pGet tyItem l (pNat (pWrap IntKind.i64 (pShr IntKind.u64 (pWrap IntKind.u64 (pAdd IntKind.i64 y.1 y.2.1)) (1 : Int))))).1 k) (0 : Int) then binInv l k
    (pAdd IntKind.i64 (pWrap IntKind.i64 (pShr IntKind.u64 (pWrap IntKind.u64 (pAdd IntKind.i64 y.1 y.2.1)) (1 : Int))) (1 : Int), y.2.1, ()) ∧ Nat.le (Nat.succ (binMu l k (pAdd IntKind.i64 (pWrap IntKind.i64 (pShr
    IntKind.u64 (pWrap IntKind.u64 (pAdd IntKind.i64 y.1 y.2.1)) (1 : Int))) (1 : Int), y.2.1, ()))) (binMu l k y) else binInv l k (y.1, pWrap IntKind.i64 (pShr IntKind.u64 (pWrap IntKind.u64 (pAdd IntKind.i64 y.1 y.2.1)) (1
    : Int)), ()) ∧ Nat.le (Nat.succ (binMu l k (y.1, pWrap IntKind.i64 (pShr IntKind.u64 (pWrap IntKind.u64 (pAdd IntKind.i64 y.1 y.2.1)) (1 : Int)), ()))) (binMu l k y) else bif pLt y.1 (pInt (pLen l)) then pIn y.1 (pLen l)
    ∧ (y.1, pEq (cmpF (pGet tyItem l (pNat y.1)).1 k) (0 : Int), ()) = (posF l k, pGe (idxKeyF l k) (0 : Int), ()) else (y.1, Bool.false, ()) = (posF l k, pGe (idxKeyF l k) (0 : Int), ())
set_option maxRecDepth 100000 in
theorem bin_meets (hat1 : Meets Try.prog (fun _ => none) 42 cat1) (h : ∀ (l : (List ItemD)) (k : Int), (∀ p ∈ (fun x => [pLen x.1.1 < 4611686018427387904, sortF x.1.1 = true] : Shape.den ⟨[.one (.rd (.sl tyItem)), .one (.rd tI), .one (.lit (.fn 42 []))], []⟩ → List Prop) ⟨(l, k, (), ()), ()⟩, p) → bin_VC l k) : Meets Try.prog (fun _ => none) 41 cbin :=
  meets_vc (E := envOf Try.prog [(42, (false, cat1))] [29, 51, 53, 55]) (envOf_ok (fun p hp => (by simp only [List.mem_cons, List.not_mem_nil, or_false] at hp; rcases hp with rfl; exact hat1)) (by kernel_rfl)) ⟨[.one (.rd (.sl tyItem)), .one (.rd tI), .one (.lit (.fn 42 []))], []⟩ (fun x => fun kk ss => look [(3, (⟨[.slot 9 false tI, .slot 10 false tI], binInv x.1.1 x.1.2.1, binMu x.1.1 x.1.2.1⟩ : Ann))] kk) Try.func41 (by kernel_rfl) (by kernel_rfl) (fun x => [pLen x.1.1 < 4611686018427387904, sortF x.1.1 = true]) [] [.slot 0 false tI, .slot 1 false .bool] (fun x => (posF x.1.1 x.1.2.1, pGe (idxKeyF x.1.1 x.1.2.1) 0, ())) (fun x => bin_VC x.1.1 x.1.2.1) (fun x => by kernel_rfl) (fun x hp => h x.1.1 x.1.2.1 hp)

def at_VC (l : (List ItemD)) (k : Int) : Prop :=
  Nat.le (Nat.succ (pLen l)) 4611686018427387904 ∧ sortF l = Bool.true ∧ (posF l k, pGe (idxKeyF l k) (0 : Int), ()) = (posF l k, pGe (idxKeyF l k) (0 : Int), ())
set_option maxRecDepth 100000 in
theorem at_meets (hbin : Meets Try.prog (fun _ => none) 41 cbin) (h : ∀ (l : (List ItemD)) (k : Int), (∀ p ∈ (fun x => [pLen x.1.1 < 4611686018427387904, sortF x.1.1 = true] : Shape.den ⟨[.one (.rd (.sl tyItem)), .one (.rd tI)], []⟩ → List Prop) ⟨(l, k, ()), ()⟩, p) → at_VC l k) : Meets Try.prog (fun _ => none) 15 cat :=
  meets_vc (E := envOf Try.prog [(41, (false, cbin))] [29, 51, 53, 55]) (envOf_ok (fun p hp => (by simp only [List.mem_cons, List.not_mem_nil, or_false] at hp; rcases hp with rfl; exact hbin)) (by kernel_rfl)) ⟨[.one (.rd (.sl tyItem)), .one (.rd tI)], []⟩ (fun x => fun kk ss => look [] kk) Try.func15 (by kernel_rfl) (by kernel_rfl) (fun x => [pLen x.1.1 < 4611686018427387904, sortF x.1.1 = true]) [] [.slot 0 false tI, .slot 1 false .bool] (fun x => (posF x.1.1 x.1.2.1, pGe (idxKeyF x.1.1 x.1.2.1) 0, ())) (fun x => at_VC x.1.1 x.1.2.1) (fun x => by kernel_rfl) (fun x hp => h x.1.1 x.1.2.1 hp)

def call_VC (si : (List ItemD)) (sl : (List LockD)) (sd : (List DoubtD)) (so : (List TxnD)) (ts : Int) (tn : Int) (k : Int) : Prop :=
  Nat.le (Nat.succ (pLen si)) 4611686018427387904 ∧ Nat.le (Nat.succ (pLen sl)) 4611686018427387904 ∧ Nat.le (Nat.succ (pLen sd)) 4611686018427387904 ∧ Nat.le (Nat.succ (pLen so)) 4611686018427387904 ∧ bif pNe (bif stoF
    (si, sl, sd, so, ()) then (0 : Int) else (9 : Int)) (0 : Int) then (bif stoF (si, sl, sd, so, ()) then (0 : Int) else (9 : Int), ()) = (askE (si, sl, sd, so, ()) (ts, tn, ()) k, ()) else bif pNot (txnF (ts, tn, ())) then
    ((2 : Int), ()) = (askE (si, sl, sd, so, ()) (ts, tn, ()) k, ()) else bif pLt k (0 : Int) then ((2 : Int), ()) = (askE (si, sl, sd, so, ()) (ts, tn, ()) k, ()) else bif pGe k (8 : Int) then ((2 : Int), ()) = (askE (si,
    sl, sd, so, ()) (ts, tn, ()) k, ()) else ((0 : Int), ()) = (askE (si, sl, sd, so, ()) (ts, tn, ()) k, ())
set_option maxRecDepth 100000 in
theorem call_meets (hCheck : Meets Try.prog (fun _ => none) 35 cCheck) (htxn : Meets Try.prog (fun _ => none) 36 ctxn) (h : ∀ (si : (List ItemD)) (sl : (List LockD)) (sd : (List DoubtD)) (so : (List TxnD)) (ts : Int) (tn : Int) (k : Int), (∀ p ∈ (fun x => [pLen x.1.1.1 < 4611686018427387904, pLen x.1.1.2.1 < 4611686018427387904, pLen x.1.1.2.2.1 < 4611686018427387904, pLen x.1.1.2.2.2.1 < 4611686018427387904] : Shape.den ⟨[pSto, pTxn, .one (.rd tI)], []⟩ → List Prop) ⟨((si, sl, sd, so, ()), (ts, tn, ()), k, ()), ()⟩, p) → call_VC si sl sd so ts tn k) : Meets Try.prog (fun _ => none) 13 ccall :=
  meets_vc (E := envOf Try.prog [(35, (false, cCheck)), (36, (false, ctxn))] [29, 51, 53, 55]) (envOf_ok (fun p hp => (by simp only [List.mem_cons, List.not_mem_nil, or_false] at hp; rcases hp with rfl | rfl; exact hCheck; exact htxn)) (by kernel_rfl)) ⟨[pSto, pTxn, .one (.rd tI)], []⟩ (fun x => fun kk ss => look [] kk) Try.func13 (by kernel_rfl) (by kernel_rfl) (fun x => [pLen x.1.1.1 < 4611686018427387904, pLen x.1.1.2.1 < 4611686018427387904, pLen x.1.1.2.2.1 < 4611686018427387904, pLen x.1.1.2.2.2.1 < 4611686018427387904]) [] [.slot 0 false tI] (fun x => (askE x.1.1 x.1.2.1 x.1.2.2.1, ())) (fun x => call_VC x.1.1.1 x.1.1.2.1 x.1.1.2.2.1 x.1.1.2.2.2.1 x.1.2.1.1 x.1.2.1.2.1 x.1.2.2.1) (fun x => by kernel_rfl) (fun x hp => h x.1.1.1 x.1.1.2.1 x.1.1.2.2.1 x.1.1.2.2.2.1 x.1.2.1.1 x.1.2.1.2.1 x.1.2.2.1 hp)

def askFault_VC (si : (List ItemD)) (sl : (List LockD)) (sd : (List DoubtD)) (so : (List TxnD)) (ts : Int) (tn : Int) (k : Int) : Prop :=
  Nat.le (Nat.succ (pLen si)) 4611686018427387904 ∧ Nat.le (Nat.succ (pLen sl)) 4611686018427387904 ∧ Nat.le (Nat.succ (pLen sd)) 4611686018427387904 ∧ Nat.le (Nat.succ (pLen so)) 4611686018427387904 ∧ bif pNot (stoF (si,
    sl, sd, so, ())) then ((9 : Int), ()) = (askE (si, sl, sd, so, ()) (ts, tn, ()) k, ()) else bif pNot (txnF (ts, tn, ())) then ((2 : Int), ()) = (askE (si, sl, sd, so, ()) (ts, tn, ()) k, ()) else bif pNot (inF k (0 :
    Int) (7 : Int)) then ((2 : Int), ()) = (askE (si, sl, sd, so, ()) (ts, tn, ()) k, ()) else ((0 : Int), ()) = (askE (si, sl, sd, so, ()) (ts, tn, ()) k, ())
set_option maxRecDepth 100000 in
theorem askFault_meets (hStoreMay : Meets Try.prog (fun _ => none) 49 cStoreMay) (hplainTxn : Meets Try.prog (fun _ => none) 50 cplainTxn) (hIn : Meets Try.prog (fun _ => none) 51 cIn) (h : ∀ (si : (List ItemD)) (sl : (List LockD)) (sd : (List DoubtD)) (so : (List TxnD)) (ts : Int) (tn : Int) (k : Int), (∀ p ∈ (fun x => [pLen x.1.1.1 < 4611686018427387904, pLen x.1.1.2.1 < 4611686018427387904, pLen x.1.1.2.2.1 < 4611686018427387904, pLen x.1.1.2.2.2.1 < 4611686018427387904] : Shape.den ⟨[pSto, pTxn, .one (.rd tI)], []⟩ → List Prop) ⟨((si, sl, sd, so, ()), (ts, tn, ()), k, ()), ()⟩, p) → askFault_VC si sl sd so ts tn k) : Meets Try.prog (fun _ => none) 22 caskFault :=
  meets_vc (E := envOf Try.prog [(49, (false, cStoreMay)), (50, (false, cplainTxn)), (51, (false, cIn))] [29, 51, 53, 55]) (envOf_ok (fun p hp => (by simp only [List.mem_cons, List.not_mem_nil, or_false] at hp; rcases hp with rfl | rfl | rfl; exact hStoreMay; exact hplainTxn; exact hIn)) (by kernel_rfl)) ⟨[pSto, pTxn, .one (.rd tI)], []⟩ (fun x => fun kk ss => look [] kk) Try.func22 (by kernel_rfl) (by kernel_rfl) (fun x => [pLen x.1.1.1 < 4611686018427387904, pLen x.1.1.2.1 < 4611686018427387904, pLen x.1.1.2.2.1 < 4611686018427387904, pLen x.1.1.2.2.2.1 < 4611686018427387904]) [] [.slot 0 false tI] (fun x => (askE x.1.1 x.1.2.1 x.1.2.2.1, ())) (fun x => askFault_VC x.1.1.1 x.1.1.2.1 x.1.1.2.2.1 x.1.1.2.2.2.1 x.1.2.1.1 x.1.2.1.2.1 x.1.2.2.1) (fun x => by kernel_rfl) (fun x hp => h x.1.1.1 x.1.1.2.1 x.1.1.2.2.1 x.1.1.2.2.2.1 x.1.2.1.1 x.1.2.1.2.1 x.1.2.2.1 hp)

end Go.Proofs.Ytkhnakdmkhidbaa
