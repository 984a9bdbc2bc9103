/- Contracts, and what the evaluator says, as plain propositions: SvK. Printed by vc.py. -/
import Derived.Test.YtkhnakdmkhidbaaSpC
import Derived.Test.YtkhnakdmkhidbaaSvD
namespace Go.Proofs.Ytkhnakdmkhidbaa
open Go.RowKit Go.ChangeShapes Go.WideShapes Go.Deep

def cWritesOf : Ctr := shCtr ⟨[pSto, pTxn], []⟩ (fun x => [pLen x.1.1.1 < 4611686018427387904, pLen x.1.1.2.1 < 4611686018427387904, pLen x.1.1.2.2.1 < 4611686018427387904, pLen x.1.1.2.2.2.1 < 4611686018427387904]) [] [.slot 0 false tI, .slot 1 false tI] (fun x => (cond (pEq (askE x.1.1 x.1.2.1 0) 0) (cntW x.1.1.2.1 x.1.2.1.1 x.1.2.1.2.1) 0, askE x.1.1 x.1.2.1 0, ()))

def WritesOf_VC (si : (List ItemD)) (sl : (List LockD)) (sd : (List DoubtD)) (so : (List TxnD)) (ts : Int) (tn : Int) : Prop :=
  Nat.le (Nat.succ (pLen si)) 4611686018427387904 ∧ Nat.le (Nat.succ (pLen sl)) 4611686018427387904 ∧ Nat.le (Nat.succ (pLen sd)) 4611686018427387904 ∧ Nat.le (Nat.succ (pLen so)) 4611686018427387904 ∧ bif pNe (askE (si,
    sl, sd, so, ()) (ts, tn, ()) (0 : Int)) (0 : Int) then ((0 : Int), askE (si, sl, sd, so, ()) (ts, tn, ()) (0 : Int), ()) = (bif pEq (askE (si, sl, sd, so, ()) (ts, tn, ()) (0 : Int)) (0 : Int) then cntW sl ts tn else (0
    : Int), askE (si, sl, sd, so, ()) (ts, tn, ()) (0 : Int), ()) else cntwInv si sl sd so ts tn ((0 : Int), (0 : Int), ()) ∧ ∀ (y : kden Bool.false tI × kden Bool.false tI × PUnit), cntwInv si sl sd so ts tn y → bif pLt y.1
    (pInt (pLen sl)) then pIn y.1 (pLen sl) ∧ bif pAndB (pEq (pGet tyLock sl (pNat y.1)).1 ts) (pEq (pGet tyLock sl (pNat y.1)).2.1 tn) then pIn y.1 (pLen sl) ∧ bif (pGet tyLock sl (pNat y.1)).2.2.2.1 then cntwInv si sl sd
    so ts tn (pAdd IntKind.i64 y.1 (1 : Int), pAdd IntKind.i64 y.2.1 (1 : Int), ()) ∧ Nat.le (Nat.succ (cntwMu si sl sd so ts tn (pAdd IntKind.i64 y.1 (1 : Int), pAdd IntKind.i64 y.2.1 (1 : Int), ()))) (cntwMu si sl sd so ts
    tn y) else cntwInv si sl sd so ts tn (pAdd IntKind.i64 y.1 (1 : Int), y.2.1, ()) ∧ Nat.le (Nat.succ (cntwMu si sl sd so ts tn (pAdd IntKind.i64 y.1 (1 : Int), y.2.1, ()))) (cntwMu si sl sd so ts tn y) else cntwInv si sl
    sd so ts tn (pAdd IntKind.i64 y.1 (1 : Int), y.2.1, ()) ∧ Nat.le (Nat.succ (cntwMu si sl sd so ts tn (pAdd IntKind.i64 y.1 (1 : Int), y.2.1, ()))) (cntwMu si sl sd so ts tn y) else (y.2.1, (0 : Int), ()) = (bif pEq (askE
    (si, sl, sd, so, ()) (ts, tn, ()) (0 : Int)) (0 : Int) then cntW sl ts tn else (0 : Int), askE (si, sl, sd, so, ()) (ts, tn, ()) (0 : Int), ())
set_option maxRecDepth 100000 in
theorem WritesOf_meets (haskFault : Meets Try.prog (fun _ => none) 22 caskFault) (h : ∀ (si : (List ItemD)) (sl : (List LockD)) (sd : (List DoubtD)) (so : (List TxnD)) (ts : Int) (tn : Int), (∀ p ∈ (fun x => [pLen x.1.1.1 < 4611686018427387904, pLen x.1.1.2.1 < 4611686018427387904, pLen x.1.1.2.2.1 < 4611686018427387904, pLen x.1.1.2.2.2.1 < 4611686018427387904] : Shape.den ⟨[pSto, pTxn], []⟩ → List Prop) ⟨((si, sl, sd, so, ()), (ts, tn, ()), ()), ()⟩, p) → WritesOf_VC si sl sd so ts tn) : Meets Try.prog (fun _ => none) 31 cWritesOf :=
  meets_vc (E := envOf Try.prog [(22, (false, caskFault))] [29, 51, 53, 55]) (envOf_ok (fun p hp => (by simp only [List.mem_cons, List.not_mem_nil, or_false] at hp; rcases hp with rfl; exact haskFault)) (by kernel_rfl)) ⟨[pSto, pTxn], []⟩ (fun x => fun ky9 st9 => look [(6, (⟨[.slot 8 false tI, .slot 7 false tI], cntwInv x.1.1.1 x.1.1.2.1 x.1.1.2.2.1 x.1.1.2.2.2.1 x.1.2.1.1 x.1.2.1.2.1, cntwMu x.1.1.1 x.1.1.2.1 x.1.1.2.2.1 x.1.1.2.2.2.1 x.1.2.1.1 x.1.2.1.2.1⟩ : Ann))] ky9) Try.func31 (by kernel_rfl) (by kernel_rfl) (fun x => [pLen x.1.1.1 < 4611686018427387904, pLen x.1.1.2.1 < 4611686018427387904, pLen x.1.1.2.2.1 < 4611686018427387904, pLen x.1.1.2.2.2.1 < 4611686018427387904]) [] [.slot 0 false tI, .slot 1 false tI] (fun x => (cond (pEq (askE x.1.1 x.1.2.1 0) 0) (cntW x.1.1.2.1 x.1.2.1.1 x.1.2.1.2.1) 0, askE x.1.1 x.1.2.1 0, ())) (fun x => WritesOf_VC x.1.1.1 x.1.1.2.1 x.1.1.2.2.1 x.1.1.2.2.2.1 x.1.2.1.1 x.1.2.1.2.1) (fun x => by kernel_rfl) (fun x hp => h x.1.1.1 x.1.1.2.1 x.1.1.2.2.1 x.1.1.2.2.2.1 x.1.2.1.1 x.1.2.1.2.1 hp)

end Go.Proofs.Ytkhnakdmkhidbaa
