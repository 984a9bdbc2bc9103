/- Contracts, and what the evaluator says, as plain propositions: SvG. Printed by vc.py. -/
import Derived.Test.YtoalcmpjfnlkdaaSvG
namespace Go.Proofs.Ytoalcmpjfnlkdaa
open Go.RowKit Go.ChangeShapes Go.WideShapes Go.Deep


def StoreForgets_VC (si : (List ItemD)) (sl : (List LockD)) (sd : (List DoubtD)) (so : (List TxnD)) : Prop :=
  pRoom (pLen si) 24 ∧ pRoom (pLen sl) 48 ∧ pRoom (pLen sd) 24 ∧ pRoom (pLen so) 16 ∧ Nat.le (Nat.succ (pLen si)) 4611686018427387904 ∧ Nat.le (Nat.succ (pLen sl)) 4611686018427387904 ∧ Nat.le (Nat.succ (pLen sd))
    4611686018427387904 ∧ Nat.le (Nat.succ (pLen so)) 4611686018427387904 ∧ pRoom (pLen si) 24 ∧ pRoom (pLen sl) 48 ∧ pRoom (pLen sd) 24 ∧ pRoom (pLen so) 16 ∧ Nat.le (Nat.succ (pLen si)) 4611686018427387904 ∧ Nat.le
    (Nat.succ (pLen sl)) 4611686018427387904 ∧ Nat.le (Nat.succ (pLen sd)) 4611686018427387904 ∧ Nat.le (Nat.succ (pLen so)) 4611686018427387904 ∧ pRoom (pLen si) 24 ∧ pRoom (pLen sl) 48 ∧ pRoom (pLen sd) 24 ∧ pRoom (pLen
    so) 16 ∧ bif pEq (forgE (si, sl, sd, so, ())) (forgE (si, sl, sd, so, ())) then Nat.le (Nat.succ (pLen (forgS (si, sl, sd, so, ())).1)) 4611686018427387904 ∧ Nat.le (Nat.succ (pLen (forgS (si, sl, sd, so, ())).2.1))
    4611686018427387904 ∧ Nat.le (Nat.succ (pLen (forgS (si, sl, sd, so, ())).2.2.1)) 4611686018427387904 ∧ Nat.le (Nat.succ (pLen (forgS (si, sl, sd, so, ())).2.2.2.1)) 4611686018427387904 ∧ bif sameStoF ((forgS (si, sl,
    sd, so, ())).1, (forgS (si, sl, sd, so, ())).2.1, (forgS (si, sl, sd, so, ())).2.2.1, (forgS (si, sl, sd, so, ())).2.2.2.1, ()) ((forgS (si, sl, sd, so, ())).1, (forgS (si, sl, sd, so, ())).2.1, (forgS (si, sl, sd, so,
    ())).2.2.1, (forgS (si, sl, sd, so, ())).2.2.2.1, ()) then Nat.le (Nat.succ (pLen si)) 4611686018427387904 ∧ Nat.le (Nat.succ (pLen sl)) 4611686018427387904 ∧ Nat.le (Nat.succ (pLen sd)) 4611686018427387904 ∧ Nat.le
    (Nat.succ (pLen so)) 4611686018427387904 ∧ (sameStoF (si, sl, sd, so, ()) (si, sl, sd, so, ()), ()) = (Bool.true, ()) else (Bool.false, ()) = (Bool.true, ()) else (Bool.false, ()) = (Bool.true, ())
set_option maxRecDepth 100000 in
theorem StoreForgets_walk {H : Type} {enc : TypeId × Value → H} (hForget : Meets Try.prog (fun _ => none) 21 cForget) (hForgetOf : Meets Try.prog (fun _ => none) 22 cForgetOf) (hStoreCopy : Meets Try.prog (fun _ => none) 16 cStoreCopy) (hsameStore : Meets Try.prog (fun _ => none) 19 csameStore) (h : ∀ (x : denL [(true, wSto)]), okL [(true, wSto)] x → StoreForgets_VC x.1.1 x.1.2.1 x.1.2.2.1 x.1.2.2.2.1) : ∀ (W : World) (base : Nat) (args : Array Value) (ds : List (DataW H)) (p : List MemPlace), DataW.TrodAll enc Try.prog W 0 (fun _ => true) true Try.f6.params.toList args.toList ds p → (∀ (j : Nat) (t : TypeId) (v : Value), Try.f6.params[j]? = some t → args[j]? = some v → Value.okWide Try.prog W .any base t v) → (∀ x ∈ p, x.block < W.heap.size) → (DataW.weightsEach Try.prog Try.f6.params.toList ds).all (· ≤ reachBytes) = true → Calls Try.prog 6 args W fun e W1 => e = .returned (.bool true) ∧ Below W.heap.size W W1 :=
  law_walkL (E := envOf Try.prog [(21, (false, cForget)), (22, (false, cForgetOf)), (16, (false, cStoreCopy)), (19, (false, csameStore))] [32, 58, 61, 64]) (envOf_ok (fun p hp => (by simp only [List.mem_cons, List.not_mem_nil, or_false] at hp; rcases hp with rfl | rfl | rfl | rfl; exact hForget; exact hForgetOf; exact hStoreCopy; exact hsameStore)) (by kernel_rfl)) rfl Try.func6 (by kernel_rfl) [(true, wSto)] (by kernel_rfl) (fun x => fun ky9 st9 => look [] ky9) (fun x => StoreForgets_VC x.1.1 x.1.2.1 x.1.2.2.1 x.1.2.2.2.1) (fun x => by kernel_rfl) h

end Go.Proofs.Ytoalcmpjfnlkdaa
