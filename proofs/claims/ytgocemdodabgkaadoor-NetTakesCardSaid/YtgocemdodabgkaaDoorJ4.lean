/- The law NetTakes: for every input it returns true and turns nothing. No condition. -/
import Derived.Test.YtgocemdodabgkaaDoorJ3
import Derived.Test.YtgocemdodabgkaaDoorFacts

/- The law NetTakes: for every input it returns true and turns nothing. No condition. -/
namespace Go.Proofs.YtgocemdodabgkaaDoor
open Go.RowKit Go.ChangeShapes Go.WideShapes Go.ChangeAt Go.Deep

def bools0 : List (List Bool) := [[false, false, false, false, false, false, false, false], [true, true, false, false, true, false, false, false], [false, true, true, false, true, false, false, false], [true, true, false, true, false, false, false, false], [false, false, false, false, false, true, false, false], [true, true, true, true, true, false, true, false], [false, true, false, false, true, false, true, false], [true, true, false, true, false, true, false, false], [false, false, false, false, false, false, false, false], [false, false, false, false, false, false, false, false]]
theorem table0 {W : World} (hc : ∀ i j r b, i < 10 → j < 8 → bools0[i]? = some r → r[j]? = some b → W.cell? ⟨1, i * 8 + j, none⟩ = some (.bool b)) : GlobR W (fun b => b < W.heap.size) 1 (.rows tyParts messagesT) := by
  have h0 := hc 0 0 _ _ (by decide) (by decide) rfl rfl
  refine glob_rows (cell_lt h0) (bools0.map fun r => r.map .bool) (fun i hi => ?_) fun i us j u hi hj => ?_
  · have hi : i < 10 := hi
    match i, hi with
    | 0, _ => exact ⟨_, rfl, ⟨[_], _, rfl, rfl, ⟨[_], _, rfl, rfl, ⟨[_], _, rfl, rfl, ⟨[_], _, rfl, rfl, ⟨[_], _, rfl, rfl, ⟨[_], _, rfl, rfl, ⟨[_], _, rfl, rfl, ⟨[_], _, rfl, rfl, rfl⟩⟩⟩⟩⟩⟩⟩⟩⟩
    | 1, _ => exact ⟨_, rfl, ⟨[_], _, rfl, rfl, ⟨[_], _, rfl, rfl, ⟨[_], _, rfl, rfl, ⟨[_], _, rfl, rfl, ⟨[_], _, rfl, rfl, ⟨[_], _, rfl, rfl, ⟨[_], _, rfl, rfl, ⟨[_], _, rfl, rfl, rfl⟩⟩⟩⟩⟩⟩⟩⟩⟩
    | 2, _ => exact ⟨_, rfl, ⟨[_], _, rfl, rfl, ⟨[_], _, rfl, rfl, ⟨[_], _, rfl, rfl, ⟨[_], _, rfl, rfl, ⟨[_], _, rfl, rfl, ⟨[_], _, rfl, rfl, ⟨[_], _, rfl, rfl, ⟨[_], _, rfl, rfl, rfl⟩⟩⟩⟩⟩⟩⟩⟩⟩
    | 3, _ => exact ⟨_, rfl, ⟨[_], _, rfl, rfl, ⟨[_], _, rfl, rfl, ⟨[_], _, rfl, rfl, ⟨[_], _, rfl, rfl, ⟨[_], _, rfl, rfl, ⟨[_], _, rfl, rfl, ⟨[_], _, rfl, rfl, ⟨[_], _, rfl, rfl, rfl⟩⟩⟩⟩⟩⟩⟩⟩⟩
    | 4, _ => exact ⟨_, rfl, ⟨[_], _, rfl, rfl, ⟨[_], _, rfl, rfl, ⟨[_], _, rfl, rfl, ⟨[_], _, rfl, rfl, ⟨[_], _, rfl, rfl, ⟨[_], _, rfl, rfl, ⟨[_], _, rfl, rfl, ⟨[_], _, rfl, rfl, rfl⟩⟩⟩⟩⟩⟩⟩⟩⟩
    | 5, _ => exact ⟨_, rfl, ⟨[_], _, rfl, rfl, ⟨[_], _, rfl, rfl, ⟨[_], _, rfl, rfl, ⟨[_], _, rfl, rfl, ⟨[_], _, rfl, rfl, ⟨[_], _, rfl, rfl, ⟨[_], _, rfl, rfl, ⟨[_], _, rfl, rfl, rfl⟩⟩⟩⟩⟩⟩⟩⟩⟩
    | 6, _ => exact ⟨_, rfl, ⟨[_], _, rfl, rfl, ⟨[_], _, rfl, rfl, ⟨[_], _, rfl, rfl, ⟨[_], _, rfl, rfl, ⟨[_], _, rfl, rfl, ⟨[_], _, rfl, rfl, ⟨[_], _, rfl, rfl, ⟨[_], _, rfl, rfl, rfl⟩⟩⟩⟩⟩⟩⟩⟩⟩
    | 7, _ => exact ⟨_, rfl, ⟨[_], _, rfl, rfl, ⟨[_], _, rfl, rfl, ⟨[_], _, rfl, rfl, ⟨[_], _, rfl, rfl, ⟨[_], _, rfl, rfl, ⟨[_], _, rfl, rfl, ⟨[_], _, rfl, rfl, ⟨[_], _, rfl, rfl, rfl⟩⟩⟩⟩⟩⟩⟩⟩⟩
    | 8, _ => exact ⟨_, rfl, ⟨[_], _, rfl, rfl, ⟨[_], _, rfl, rfl, ⟨[_], _, rfl, rfl, ⟨[_], _, rfl, rfl, ⟨[_], _, rfl, rfl, ⟨[_], _, rfl, rfl, ⟨[_], _, rfl, rfl, ⟨[_], _, rfl, rfl, rfl⟩⟩⟩⟩⟩⟩⟩⟩⟩
    | 9, _ => exact ⟨_, rfl, ⟨[_], _, rfl, rfl, ⟨[_], _, rfl, rfl, ⟨[_], _, rfl, rfl, ⟨[_], _, rfl, rfl, ⟨[_], _, rfl, rfl, ⟨[_], _, rfl, rfl, ⟨[_], _, rfl, rfl, ⟨[_], _, rfl, rfl, rfl⟩⟩⟩⟩⟩⟩⟩⟩⟩
  · rw [List.getElem?_map] at hi
    cases hr : bools0[i]? with
    | none => rw [hr] at hi; cases hi
    | some r =>
      rw [hr] at hi
      simp only [Option.map_some, Option.some.injEq] at hi
      subst hi
      rw [List.getElem?_map] at hj
      cases hb : r[j]? with
      | none => rw [hb] at hj; cases hj
      | some b =>
        rw [hb] at hj
        simp only [Option.map_some, Option.some.injEq] at hj
        subst hj
        have hi : i < 10 := (List.getElem?_eq_some_iff.1 hr).1
        have h8 : ∀ r ∈ bools0, r.length = 8 := by decide
        have hj : j < 8 := by
          have := (List.getElem?_eq_some_iff.1 hb).1
          rw [h8 r (List.mem_of_getElem? hr)] at this; exact this
        exact hc i j r b hi hj hr hb
theorem laid0 {W : World} {cs : Array Value} {p : List MemPlace} {base fuel : Nat} {sp : Nat → Bool} {held : Bool} (hvar : W.var? Tryd.prog "reredos/wire.messages" = some cs)
    (hd : DataW.trod (fun _ => ()) Tryd.prog W base sp held fuel 137 cs.toList = some (.agg (bools0.map fun r => .agg (r.map fun b => .lit (.bool b))), p)) : GlobR W (fun b => b < W.heap.size) 1 (.rows tyParts messagesT) := by
  have hc := cells_of_rows (m := 8) (eb := 4) (rows := bools0) Tryd.underlying137 Tryd.underlying120 (by kernel_rfl) Tryd.underlying4 (by kernel_rfl) (by decide) hd
  refine table0 fun i j r b hi hj hr hb => ?_
  have := hc i j r b hi hj hr hb
  have h2 := World.var?_cell (show Tryd.prog.globalNamed "reredos/wire.messages" = some 1 by kernel_rfl) hvar (i * 8 + j)
  rw [h2]
  simpa using this

set_option maxRecDepth 100000 in
theorem laidTabs {W : World} (h : laidMetH Tryd.prog Rows.netTakesRow.laid W) : TabsM W := by
  obtain ⟨ps, ⟨g0, t0, cs0, fu0, p0, q0, hg0, ht0, hvar0, hd0, _, _⟩, _⟩ := h
  obtain rfl := Option.some.inj ((show Tryd.prog.globalNamed "reredos/wire.messages" = some 1 by kernel_rfl).symm.trans hg0)
  obtain rfl := Option.some.inj ((show (Tryd.prog.globals[1]?).map (·.type) = some 137 by kernel_rfl).symm.trans ht0)
  have G0 := laid0 hvar0 hd0
  intro g gl hgl
  unfold tabsM at hgl
  rw [look_cons] at hgl
  split at hgl
  · rename_i h; subst h; cases hgl; exact G0
  cases hgl

noncomputable def laidWorld_ (os : Os) : World :=
  { World.holding Tryd.prog os ⟨#[], #[], []⟩ with heap := ((World.holding Tryd.prog os ⟨#[], #[], []⟩).heap.modify 1 fun
      | .cells _ t frozen => .cells #[.bool false, .bool false, .bool false, .bool false, .bool false, .bool false, .bool false, .bool false, .bool true, .bool true, .bool false, .bool false, .bool true, .bool false, .bool false, .bool false, .bool false, .bool true, .bool true, .bool false, .bool true, .bool false, .bool false, .bool false, .bool true, .bool true, .bool false, .bool true, .bool false, .bool false, .bool false, .bool false, .bool false, .bool false, .bool false, .bool false, .bool false, .bool true, .bool false, .bool false, .bool true, .bool true, .bool true, .bool true, .bool true, .bool false, .bool true, .bool false, .bool false, .bool true, .bool false, .bool false, .bool true, .bool false, .bool true, .bool false, .bool true, .bool true, .bool false, .bool true, .bool false, .bool true, .bool false, .bool false, .bool false, .bool false, .bool false, .bool false, .bool false, .bool false, .bool false, .bool false, .bool false, .bool false, .bool false, .bool false, .bool false, .bool false, .bool false, .bool false] t frozen
      | o => o) }
def wit : Array Value := #[.agg #[.int .i64 0, .slice none 0 0, .int .i64 0], .slice none 0 0, .int .i64 0, .int .i64 0, .int .i64 0, .int .i64 0]
theorem laid_met_ (os : Os) : laidMet Tryd.prog Rows.netTakesRow.laid ((laidWorld_ os).forCall (fun _ _ => 0) ⟨#[], wit, []⟩).memory :=
  laidMet_of_run' 8 (by kernel_rfl) (by kernel_rfl)
theorem reads_ (os : Os) {H : Type} (enc : TypeId × Value → H) : ∃ places, DataW.whole enc Tryd.prog ((laidWorld_ os).forCall (fun _ _ => 0) ⟨#[], wit, []⟩).memory Tryd.f5.params.toList Rows.netTakesSpec.vars false wit.toList 8 = some ([.agg [.lit (.int .i64 0), .nil, .lit (.int .i64 0)], .nil, .lit (.int .i64 0), .lit (.int .i64 0), .lit (.int .i64 0), .lit (.int .i64 0)], [], places) :=
  ⟨[], by kernel_rfl⟩

set_option maxRecDepth 100000 in
theorem netTakes_lifted (os : Os) (started : os.Started) (H : Type) (enc : TypeId × Value → H) (F : Stop.Interp) :
    ReturnsInHanded {} Tryd.checked os 5 .any ((OpenSpec.ofChange Rows.netTakesSpec).preRow enc Tryd.prog Tryd.f5 Rows.netTakesRow.domain false Rows.netTakesRow.laid) (((OpenSpec.ofChange Rows.netTakesSpec).at F).post enc Tryd.prog Tryd.f5 false true false false) := by
  obtain ⟨places, hx⟩ := reads_ os enc
  refine lift_card started _ _ Rows.netTakesSpec Rows.netTakesRow.laid Tryd.func5 (by kernel_rfl) rfl rfl (by kernel_rfl) ?_
    (witness_row_at (enc := enc) (C := Tryd.checked) false (laidWorld_ os) wit rfl (by kernel_rfl) (by kernel_rfl) (by kernel_rfl)
      (OpenSpec.preRow_of_cond 8 hx (by kernel_rfl) (fun k hk => by cases hk) (by kernel_rfl) (laid_met_ os))) ?_
  · intro ds hds
    match ds, hds with
    | [_, _, _, _, _, _], _ => rfl
  · intro W base args ds p hA hval hlt hsz hL
    refine NetTakes_walk FlyingCopy_ok.any Take_ok TakenOf_ok sameFly_ok.any (fun x h => ?_) W base args ds p hA hval hlt hsz (laidTabs hL)
    have c1 : x.1.2.1.length * 16 ≤ 140737488351232 := h.1.2.1.1
    have hf : RowsOk x.2.1.1 := ⟨h.2.1.1, fun q hq => (h.2.1.2 q hq).1⟩
    exact takes_vc _ _ _ _ _ _ _ _ (lt62 c1 (by decide)) hf

set_option maxRecDepth 100000 in
set_option maxHeartbeats 4000000 in
theorem netTakes_closed : joinedFacts Tryd.prog 5 Tryd.f5 (OpenSpec.ofChange Rows.netTakesSpec).bare Rows.netTakesRow = true := by
  unfold joinedFacts
  exact and_b (and_b (and_b (and_b (and_b (and_b (and_b (and_b (and_b (and_b (and_b (and_b (and_b (and_b (and_b (and_b (and_b (and_b (and_b (and_b (and_b (and_b (and_b (and_b (and_b (and_b (and_b (and_b (and_b (and_b (and_b ((by kernel_rfl)) Tryd.laidOut) pg_mapsRowed) (by kernel_rfl)) (by kernel_rfl)) (by kernel_rfl)) pg_stops) (by kernel_rfl)) pg_stopKnobs) (by kernel_rfl)) (by kernel_rfl)) (by kernel_rfl)) (by kernel_rfl)) (by kernel_rfl)) (by kernel_rfl)) (by kernel_rfl)) (by kernel_rfl)) (by kernel_rfl)) (by kernel_rfl)) (by kernel_rfl)) (by kernel_rfl)) (by kernel_rfl)) pg_plainKeys) (by kernel_rfl)) pg_stopsHeard) pg_mayEnter) pg_lifted) pg_make) (by kernel_rfl)) (by kernel_rfl)) (by kernel_rfl)) (by kernel_rfl)

theorem netTakes_said : Rows.NetTakesSaid :=
  OpenClaim.holds_of_cond 5 Tryd.f5 rfl rfl rfl rfl rfl rfl rfl ⟨rfl, rfl, rfl, rfl, rfl⟩ rfl rfl rfl rfl rfl (by kernel_rfl) Tryd.func5 netTakes_closed
    (of_decide_eq_true (by kernel_rfl)) (by unfold Func.isWrapper; rw [if_neg (of_decide_eq_false (by kernel_rfl))]; exact ⟨rfl, rfl⟩)
    (fun os started H enc _ F => by rw [OpenClaim.pre_eq_preRow]; exact netTakes_lifted os started H enc F)

theorem netTakes_stand : Tryd.f5.params.all (fun t => !Tryd.pinned.checked.prog.wantsStandIn t) = true := by kernel_rfl
theorem netTakes_plain (f : FuncId) (fn : Func) (hf : Tryd.pinned.checked.prog.funcNamed "reredos/reredoslaw.NetTakes" = some f) (hfn : Tryd.pinned.checked.prog.funcs[f]? = some fn) :
    false = Tryd.pinned.checked.prog.looks [] ∧ ∀ (j : Nat) t, fn.params[j]? = some t → Tryd.pinned.checked.prog.wantsStandIn t = false := by
  obtain rfl : f = 5 := Option.some.inj ((show Tryd.prog.funcNamed "reredos/reredoslaw.NetTakes" = some 5 by kernel_rfl).symm.trans hf) |>.symm
  obtain rfl : fn = Tryd.f5 := (Option.some.inj (Tryd.func5.symm.trans hfn)).symm
  refine ⟨pg_looks, fun j t ht => ?_⟩
  have h := Array.all_eq_true_iff_forall_mem.1 netTakes_stand t (Array.mem_of_getElem? ht)
  simpa using h
theorem netTakes_wf : Rows.netTakesRow.wfByText (OpenSpec.ofChange Rows.netTakesSpec) = true := by kernel_rfl
theorem netTakes_goes : false = Rows.netTakesRow.goesBy Tryd.pinned.checked.prog := by kernel_rfl

/-- NetTakes: the statement. -/
theorem netTakes_holds : Rows.NetTakesCardSaid :=
  Claim7.holds_tied_plain_at .later [] _ _ _ _ netTakes_said (fun _ h => by cases h) netTakes_wf (fun _ h => by cases h) netTakes_row_tie rfl ⟨rfl, rfl⟩ pg_main rfl netTakes_plain netTakes_goes


end Go.Proofs.YtgocemdodabgkaaDoor
