/- THE MACHINE OF READINGS, laws: what the evaluator says of a law's function, of all arguments, is its walk. -/
import Derived.Test.YtoalcmpjfnlkdaaFC
namespace Go.Proofs.Ytoalcmpjfnlkdaa
open Go.RowKit Go.ChangeShapes Go.WideShapes Go.Deep

@[reducible] def denTs (P : Program) : List TypeId → Type
  | [] => Unit
  | t :: ts => (tyW P 8 t).ty.den × denTs P ts
def okTs (P : Program) : (ts : List TypeId) → denTs P ts → Prop
  | [], _ => True
  | t :: ts, x => (tyW P 8 t).ok x.1 ∧ okTs P ts x.2
def svsOf (P : Program) : (ts : List TypeId) → denTs P ts → List SV
  | [], _ => []
  | t :: ts, x => .v (isAggT P t) (cellsOf (tyW P 8 t).ty x.1) :: svsOf P ts x.2

section
variable {H : Type} {enc : TypeId × Value → H} {P : Program} {W : World} {N : Blk} {ρ : Nat → Pl} {m : Mem}

theorem arg_one {base : Nat} {t : TypeId} {v : Value} {d : DataW H} {p : List MemPlace} (hr : readOk P 8 t = true) (hok : Value.okWide P W .any base t v)
    (ht : DataW.Trod enc P W 0 (fun _ => true) true t v d p) (hw : okW P t d) : ∃ x : (tyW P 8 t).ty.den, (tyW P 8 t).ok x ∧ SVR W (fun b => b < W.heap.size) ρ m (.v (isAggT P t) (cellsOf (tyW P 8 t).ty x)) v := by
  obtain ⟨hl, x, hx, hxo⟩ := (dec_ty hr).arg ht hw
  refine ⟨x, hxo, ?_⟩
  have hc : All2 (CR W (fun b => b < W.heap.size) ρ m) (cellsOf (tyW P 8 t).ty x) v.cells.toList := hx.cells
  cases ha : isAggT P t with
  | true =>
    unfold isAggT at ha
    split at ha
    · rename_i dsc hu
      unfold Value.okWide at hok
      rw [hu] at hok
      cases dsc <;> simp only [isAggD, Bool.false_eq_true] at ha
      all_goals
        obtain ⟨cs, rfl, _⟩ := hok
        exact ⟨cs.toList, by simp, by simpa [Value.cells] using hc⟩
    · cases ha
  | false =>
    have hone : v.cells = #[v] := by
      have hr0 := hr
      unfold readOk at hr0
      split at hr0
      · rename_i hu; obtain ⟨b, rfl⟩ := okWide_bool hu hok; rfl
      · rename_i hu; obtain ⟨b, rfl⟩ := okWide_int hu hok; rfl
      · rename_i hu; obtain ⟨b, rfl⟩ := okWide_string hu hok; rfl
      · rename_i hu; obtain ⟨a, b, c, rfl⟩ := okWide_slice hu hok; rfl
      · rename_i hu; unfold isAggT at ha; rw [hu] at ha; cases ha
      · cases hr0
    rw [hone] at hc
    generalize cellsOf (tyW P 8 t).ty x = cs at hc
    cases hc with
    | cons h1 h2 => cases h2; exact ⟨_, rfl, h1⟩

theorem args_all {base : Nat} : ∀ {ts : List TypeId} {vs : List Value} {ds : List (DataW H)} {p : List MemPlace}, (∀ t ∈ ts, readOk P 8 t = true) →
    (∀ (j : Nat) (t : TypeId) (v : Value), ts[j]? = some t → vs[j]? = some v → Value.okWide P W .any base t v) → DataW.TrodAll enc P W 0 (fun _ => true) true ts vs ds p → (DataW.weightsEach P ts ds).all (· ≤ reachBytes) = true →
    ∃ x : denTs P ts, okTs P ts x ∧ All2 (SVR W (fun b => b < W.heap.size) ρ m) (svsOf P ts x) vs
  | [], vs, ds, p, _, _, h, _ => by
    cases vs with
    | nil => exact ⟨(), trivial, .nil⟩
    | cons v vs => cases ds <;> exact h.elim
  | t :: ts, vs, ds, p, hr, hok, h, hw => by
    obtain ⟨v, vs1, d, ds1, a, b, rfl, rfl, rfl, h1, h2⟩ := trodAll_cons h
    have hw1 : okW P t d := weightsEach_get hw (i := 0) rfl rfl
    have hw2 : (DataW.weightsEach P ts ds1).all (· ≤ reachBytes) = true := by
      rw [DataW.weightsEach, List.all_append, Bool.and_eq_true] at hw; exact hw.2
    obtain ⟨x, hx, hsv⟩ := arg_one (ρ := ρ) (m := m) (hr t (by simp)) (hok 0 t v rfl rfl) h1 hw1
    obtain ⟨y, hy, hsvs⟩ := args_all (fun t ht => hr t (by simp [ht])) (fun j t v hj hv => hok (j + 1) t v (by simpa using hj) (by simpa using hv)) h2 hw2
    exact ⟨(x, y), ⟨hx, hy⟩, .cons hsv hsvs⟩

end

theorem svs_ids {P : Program} : ∀ {ts : List TypeId} {x : denTs P ts}, ∀ s ∈ svsOf P ts x, idsS s = []
  | [], _, s, h => by cases h
  | t :: ts, x, s, h => by
    rcases List.mem_cons.1 h with rfl | h
    · have : ∀ {t : Ty} {x : t.den}, idsCs (cellsOf t x) = [] := by
        intro t
        induction t with
        | pair a b iha ihb => intro x; simp only [cellsOf, idsCs, List.flatMap_append, List.append_eq_nil_iff]; exact ⟨iha, ihb⟩
        | _ => intro x; rfl
      exact this
    · exact svs_ids s h

/-- THE WALK OF A LAW. -/
theorem law_walk {H : Type} {enc : TypeId × Value → H} {E : Env} (hE : E.Ok) (hg : E.glob = fun _ => none) {K : FuncId} {f : Func} (A : denTs E.P f.params.toList → Nat → St → Option Ann) (hf : E.P.funcs[K]? = some f) (hr : f.params.toList.all (readOk E.P 8) = true)
    (h : ∀ x : denTs E.P f.params.toList, okTs E.P f.params.toList x → afn E (A x) f (svsOf E.P f.params.toList x) [] [] [.slot 0 false .bool] fun y => y = (true, ())) :
    ∀ (W : World) (base : Nat) (args : Array Value) (ds : List (DataW H)) (p : List MemPlace), DataW.TrodAll enc E.P W 0 (fun _ => true) true f.params.toList args.toList ds p →
      (∀ (j : Nat) (t : TypeId) (v : Value), f.params[j]? = some t → args[j]? = some v → Value.okWide E.P W .any base t v) →
      (∀ x ∈ p, x.block < W.heap.size) →
      (DataW.weightsEach E.P f.params.toList ds).all (· ≤ reachBytes) = true →
      Calls E.P K args W fun e W' => e = .returned (.bool true) ∧ Below W.heap.size W W' := by
  intro W base args ds p hA hval _ hsz
  obtain ⟨x, hx, hsv⟩ := args_all (ρ := fun _ => ⟨none, 0⟩) (m := memOf []) (fun t ht => by simpa using List.all_eq_true.1 hr t ht) (fun j t v hj hv => hval j t v (by simpa using hj) (by simpa using hv)) hA hsz
  have hno : ∀ b, ¬ Own (fun _ => ⟨none, 0⟩) (memOf []) b := fun b ⟨id, o, ho, _⟩ => by cases ho
  have := spec_of hE (A x) hf (h x hx) (fun y hy => hy) W (fun b => b < W.heap.size) (fun _ => ⟨none, 0⟩) args.toList (fun g cs hgc => by rw [hg] at hgc; cases hgc)
    ⟨(fun id o ho => by cases ho), (fun id id' o o' ho => by cases ho), fun b _ => hno b, fun b hb => hb⟩ hsv (fun s hs id hid => by rw [svs_ids s hs] at hid; cases hid) (fun n o ho => by cases ho)
  rw [show args.toList.toArray = args by simp] at this
  refine this.mono fun e W' he => ?_
  obtain ⟨v, ρ', N', rfl, _, _, _, hv, hs, _, _⟩ := he
  obtain ⟨c, hc, hv⟩ := hv
  have hc : [C.bool true] = [c] := hc
  simp only [List.cons.injEq, and_true] at hc
  subst hc
  have hv : v = .bool true := hv
  subst hv
  exact ⟨rfl, hs.os, hs.tape, hs.output, hs.size, fun k hk => hs.keep k hk (hno k)⟩

/-- A FUNCTION MEETS A CONTRACT when the evaluator comes to what is plainly so. -/
theorem meets_vc {E : Env} (hE : E.Ok) (S : Shape) (A : S.den → Nat → St → Option Ann) {K : FuncId} {fn : Func} (hf : E.P.funcs[K]? = some fn) (hb : fn.body.isSome = true) (hn : (fn.name == "runtime.NumGoroutine") = false)
    (pre : S.den → List Prop) (dead : List Nat) (vs : List Var) (f : S.den → denVars vs) (VC : S.den → Prop) (he : ∀ x, afn E (A x) fn (S.args x) (S.mem x) dead vs (fun y => y = f x) = VC x)
    (h : ∀ x, (∀ p ∈ pre x, p) → VC x) : Meets E.P E.glob K (shCtr S pre dead vs f) :=
  meets_of hE S A hf hb hn pre dead vs f fun x hp => by rw [he x]; exact h x hp

/-- an environment of contracts, by the functions' numbers -/
def envOf (P : Program) (l : List (FuncId × (Bool × Ctr))) (eqs : List TypeId) : Env := ⟨P, look l, fun _ => none, eqs⟩
theorem envOf_ok {P : Program} {l : List (FuncId × (Bool × Ctr))} {eqs : List TypeId} (hl : ∀ p ∈ l, Meets P (fun _ => none) p.1 p.2.2) (he : eqs.all (eqOk P) = true) : (envOf P l eqs).Ok :=
  ⟨fun K keep c h => hl _ (look_mem (show look l K = some (keep, c) from h)), fun T hT => eqT_of (List.all_eq_true.1 he T hT)⟩

end Go.Proofs.Ytoalcmpjfnlkdaa
