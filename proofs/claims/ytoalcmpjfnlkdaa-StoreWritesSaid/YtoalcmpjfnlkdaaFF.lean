/- THE MACHINE OF READINGS, laws by the readings of their arguments. -/
import Derived.Test.YtoalcmpjfnlkdaaFE
namespace Go.Proofs.Ytoalcmpjfnlkdaa
open Go.RowKit Go.ChangeShapes Go.WideShapes Go.Deep

@[reducible] def denL : List (Bool × TyW) → Type
  | [] => Unit
  | p :: l => p.2.ty.den × denL l
def okL : (l : List (Bool × TyW)) → denL l → Prop
  | [], _ => True
  | p :: l, x => p.2.ok x.1 ∧ okL l x.2
def svsL : (l : List (Bool × TyW)) → denL l → List SV
  | [], _ => []
  | p :: l, x => .v p.1 (cellsOf p.2.ty x.1) :: svsL l x.2

/- readings of types, with their bounds -/
def wUnit : TyW := ⟨.unit, fun _ => True⟩
def wInt : TyW := ⟨.pair (.int .i64) .unit, fun x => IntKind.i64.min ≤ x.1 ∧ x.1 ≤ IntKind.i64.max⟩
def wByte : TyW := ⟨.pair (.int .u8) .unit, fun x => IntKind.u8.min ≤ x.1 ∧ x.1 ≤ IntKind.u8.max⟩
def wBool : TyW := ⟨.pair .bool .unit, fun _ => True⟩
def wStr : TyW := ⟨.pair .str .unit, fun x => x.1.size ≤ 140737488351232⟩
def wSl (e : TyW) (bytes : Nat) : TyW := ⟨.pair (.sl e.ty) .unit, fun x => x.1.length * bytes ≤ 140737488351232 ∧ ∀ y ∈ x.1, e.ok y⟩
def wStruct (l : List TyW) : TyW := l.foldr TyW.cat wUnit

def readsL (P : Program) (ts : List TypeId) : List (Bool × TyW) := ts.map fun t => (isAggT P t, tyW P 8 t)

theorem svs_L {P : Program} : ∀ {ts : List TypeId} (x : denTs P ts), ∃ y : denL (readsL P ts), svsL (readsL P ts) y = svsOf P ts x ∧ (okTs P ts x → okL (readsL P ts) y)
  | [], _ => ⟨(), rfl, fun _ => trivial⟩
  | t :: ts, x => by
    obtain ⟨y, h1, h2⟩ := svs_L x.2
    refine ⟨(x.1, y), ?_, fun h => ⟨h.1, h2 h.2⟩⟩
    show _ :: svsL (readsL P ts) y = _
    rw [h1]
    rfl

/-- THE WALK OF A LAW, by the readings of its arguments. -/
theorem law_walkL {H : Type} {enc : TypeId × Value → H} {E : Env} (hE : E.Ok) (hg : E.glob = fun _ => none) {K : FuncId} {f : Func} (hf : E.P.funcs[K]? = some f) (hr : f.params.toList.all (readOk E.P 8) = true)
    (L : List (Bool × TyW)) (hL : readsL E.P f.params.toList = L) (A : denL L → Nat → St → Option Ann) (VC : denL L → Prop)
    (he : ∀ x : denL L, afn E (A x) f (svsL L x) [] [] [.slot 0 false .bool] (fun y => y = (true, ())) = VC x) (h : ∀ x : denL L, okL L x → VC x) :
    ∀ (W : World) (base : Nat) (args : Array Value) (ds : List (DataW H)) (p : List MemPlace), DataW.TrodAll enc E.P W 0 (fun _ => true) true f.params.toList args.toList ds p →
      (∀ (j : Nat) (t : TypeId) (v : Value), f.params[j]? = some t → args[j]? = some v → Value.okWide E.P W .any base t v) →
      (∀ x ∈ p, x.block < W.heap.size) →
      (DataW.weightsEach E.P f.params.toList ds).all (· ≤ reachBytes) = true →
      Calls E.P K args W fun e W' => e = .returned (.bool true) ∧ Below W.heap.size W W' := by
  subst hL
  refine law_walk hE hg (fun x => A (Classical.choose (svs_L x))) hf hr fun x hx => ?_
  have hs := Classical.choose_spec (svs_L x)
  have := he (Classical.choose (svs_L x))
  rw [hs.1] at this
  rw [this]
  exact h _ (hs.2 hx)

end Go.Proofs.Ytoalcmpjfnlkdaa
