/- Contracts, and what the evaluator says, as plain propositions: SvI. Printed by vc.py. -/
import Derived.Test.YtkhnakdmkhidbaaSvI
namespace Go.Proofs.Ytkhnakdmkhidbaa
open Go.RowKit Go.ChangeShapes Go.WideShapes Go.Deep


def StoreEnds_VC (si : (List ItemD)) (sl : (List LockD)) (sd : (List DoubtD)) (so : (List TxnD)) (ts : Int) (tn : Int) (g : Bool) : Prop :=
  pRoom (pLen si) 24 ∧ pRoom (pLen sl) 48 ∧ pRoom (pLen sd) 24 ∧ pRoom (pLen so) 16 ∧ Nat.le (Nat.succ (pLen si)) 4611686018427387904 ∧ Nat.le (Nat.succ (pLen sl)) 4611686018427387904 ∧ Nat.le (Nat.succ (pLen sd))
    4611686018427387904 ∧ Nat.le (Nat.succ (pLen so)) 4611686018427387904 ∧ pRoom (pLen si) 24 ∧ pRoom (pLen sl) 48 ∧ pRoom (pLen sd) 24 ∧ pRoom (pLen so) 16 ∧ Nat.le (Nat.succ (pLen si)) 4611686018427387904 ∧ Nat.le
    (Nat.succ (pLen sl)) 4611686018427387904 ∧ Nat.le (Nat.succ (pLen sd)) 4611686018427387904 ∧ Nat.le (Nat.succ (pLen so)) 4611686018427387904 ∧ pRoom (pLen si) 24 ∧ pRoom (pLen sl) 48 ∧ pRoom (pLen sd) 24 ∧ pRoom (pLen
    so) 16 ∧ bif pEq (endE (si, sl, sd, so, ()) (ts, tn, ())) (endE (si, sl, sd, so, ()) (ts, tn, ())) then Nat.le (Nat.succ (pLen (endS (si, sl, sd, so, ()) (ts, tn, ()) g).1)) 4611686018427387904 ∧ Nat.le (Nat.succ (pLen
    (endS (si, sl, sd, so, ()) (ts, tn, ()) g).2.1)) 4611686018427387904 ∧ Nat.le (Nat.succ (pLen (endS (si, sl, sd, so, ()) (ts, tn, ()) g).2.2.1)) 4611686018427387904 ∧ Nat.le (Nat.succ (pLen (endS (si, sl, sd, so, ())
    (ts, tn, ()) g).2.2.2.1)) 4611686018427387904 ∧ bif sameStoF ((endS (si, sl, sd, so, ()) (ts, tn, ()) g).1, (endS (si, sl, sd, so, ()) (ts, tn, ()) g).2.1, (endS (si, sl, sd, so, ()) (ts, tn, ()) g).2.2.1, (endS (si, sl,
    sd, so, ()) (ts, tn, ()) g).2.2.2.1, ()) ((endS (si, sl, sd, so, ()) (ts, tn, ()) g).1, (endS (si, sl, sd, so, ()) (ts, tn, ()) g).2.1, (endS (si, sl, sd, so, ()) (ts, tn, ()) g).2.2.1, (endS (si, sl, sd, so, ()) (ts,
    tn, ()) g).2.2.2.1, ()) then Nat.le (Nat.succ (pLen si)) 4611686018427387904 ∧ Nat.le (Nat.succ (pLen sl)) 4611686018427387904 ∧ Nat.le (Nat.succ (pLen sd)) 4611686018427387904 ∧ Nat.le (Nat.succ (pLen so))
    4611686018427387904 ∧ (sameStoF (si, sl, sd, so, ()) (si, sl, sd, so, ()), ()) = (Bool.true, ()) else (Bool.false, ()) = (Bool.true, ()) else (Bool.false, ()) = (Bool.true, ())
set_option maxRecDepth 100000 in
theorem StoreEnds_walk {H : Type} {enc : TypeId × Value → H} (hEnd : Meets Try.prog (fun _ => none) 6 cEnd) (hEndOf : Meets Try.prog (fun _ => none) 7 cEndOf) (hStoreCopy : Meets Try.prog (fun _ => none) 5 cStoreCopy) (hsameStore : Meets Try.prog (fun _ => none) 8 csameStore) (h : ∀ (x : denL [(true, wSto), (true, wTxn), (false, wBool)]), okL [(true, wSto), (true, wTxn), (false, wBool)] x → StoreEnds_VC x.1.1 x.1.2.1 x.1.2.2.1 x.1.2.2.2.1 x.2.1.1 x.2.1.2.1 x.2.2.1.1) : ∀ (W : World) (base : Nat) (args : Array Value) (ds : List (DataW H)) (p : List MemPlace), DataW.TrodAll enc Try.prog W 0 (fun _ => true) true Try.f3.params.toList args.toList ds p → (∀ (j : Nat) (t : TypeId) (v : Value), Try.f3.params[j]? = some t → args[j]? = some v → Value.okWide Try.prog W .any base t v) → (∀ x ∈ p, x.block < W.heap.size) → (DataW.weightsEach Try.prog Try.f3.params.toList ds).all (· ≤ reachBytes) = true → Calls Try.prog 3 args W fun e W1 => e = .returned (.bool true) ∧ Below W.heap.size W W1 :=
  law_walkL (E := envOf Try.prog [(6, (false, cEnd)), (7, (false, cEndOf)), (5, (false, cStoreCopy)), (8, (false, csameStore))] [29, 51, 53, 55]) (envOf_ok (fun p hp => (by simp only [List.mem_cons, List.not_mem_nil, or_false] at hp; rcases hp with rfl | rfl | rfl | rfl; exact hEnd; exact hEndOf; exact hStoreCopy; exact hsameStore)) (by kernel_rfl)) rfl Try.func3 (by kernel_rfl) [(true, wSto), (true, wTxn), (false, wBool)] (by kernel_rfl) (fun x => fun ky9 st9 => look [] ky9) (fun x => StoreEnds_VC x.1.1 x.1.2.1 x.1.2.2.1 x.1.2.2.2.1 x.2.1.1 x.2.1.2.1 x.2.2.1.1) (fun x => by kernel_rfl) h

end Go.Proofs.Ytkhnakdmkhidbaa
