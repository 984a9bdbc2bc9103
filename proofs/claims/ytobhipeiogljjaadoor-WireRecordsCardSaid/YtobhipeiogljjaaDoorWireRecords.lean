/- The law WireRecords: for every input it returns true and turns nothing. -/
import Derived.Test.YtobhipeiogljjaaDoorRecJ
import Derived.Test.YtobhipeiogljjaaDoorFacts
namespace Go.Proofs.YtobhipeiogljjaaDoor
open Go.RowKit Go.ChangeShapes Go.WideShapes Go.ChangeAt Go.Deep

set_option maxHeartbeats 1000000 in
theorem wireRecords_walk (s p : Int) (A : Option Addr) (n c : Nat) (ls : List (Int × Int)) (r : Rec) (A2 : Option Addr) (n2 c2 : Nat) (w : World) (hls : LabelsAt w w.heap.size A n c ls) (hsi : IntsAt w w.heap.size A2 n2 c2 r.sites) (hT : RecTab w) :
    Calls Tryd.prog 4 #[.agg #[.int .i64 s, .slice A n c, .int .i64 p], .agg #[.int .i64 r.kind, .int .i64 r.site, .int .i64 r.num, .int .i64 r.key, .int .i64 r.value, .int .i64 r.ask, .bool r.yes, .slice A2 n2 c2]] w fun e w' => e = .returned (.bool true) ∧ Below w.heap.size w w' := by
  have hw0 := hT.lt
  go_enter Tryd.func4, Tryd.ntmps4
  go_wp2_with fail
  refine (checkRecord_any s p A n c ls r A2 n2 c2 _ (hls.below (Flat.stable _) (by (repeat (first | exact Below.refl _ _ | assumption | refine Below.alloc ?_ (by first | omega | (simp; done) | (simp; omega)) _ | refine below_drewN ?_ _ | refine Below.drew ?_ | refine Below.setCell ?_ (by first | omega | (simp; done) | (simp; omega)) _))) (by first | omega | (simp; done) | (simp; omega))) (hsi.below RInt.stable (by (repeat (first | exact Below.refl _ _ | assumption | refine Below.alloc ?_ (by first | omega | (simp; done) | (simp; omega)) _ | refine below_drewN ?_ _ | refine Below.drew ?_ | refine Below.setCell ?_ (by first | omega | (simp; done) | (simp; omega)) _))) (by first | omega | (simp; done) | (simp; omega))) (hT.below (by (repeat (first | exact Below.refl _ _ | assumption | refine Below.alloc ?_ (by first | omega | (simp; done) | (simp; omega)) _ | refine below_drewN ?_ _ | refine Below.drew ?_ | refine Below.setCell ?_ (by first | omega | (simp; done) | (simp; omega)) _))))).mono ?_
  rintro e w1 ⟨rfl, hb1⟩
  obtain ⟨hc1, hf1⟩ := bcell hb1; have hbb1 : Below w.heap.size w w1 := (by refine Below.trans ?_ (hb1.mono ?_); rotate_left; (focus (first | omega | (simp; done) | (simp; omega))); (repeat (first | exact Below.refl _ _ | assumption | refine Below.alloc ?_ (by first | omega | (simp; done) | (simp; omega)) _ | refine below_drewN ?_ _ | refine Below.drew ?_ | refine Below.setCell ?_ (by first | omega | (simp; done) | (simp; omega)) _))); have hsz1 := hb1.size; (try simp at hsz1)
  have z_w_w1_0 : w.heap.size < w1.heap.size := (by omega); have z_w_w1_1 : w.heap.size + 1 < w1.heap.size := (by omega)
  go_wp2_with fail
  refine (recordFault_any s p A n c ls r A2 n2 c2 _ (hls.below (Flat.stable _) hbb1 hbb1.size) (hsi.below RInt.stable hbb1 hbb1.size)).mono ?_
  rintro e w2 ⟨rfl, hb2⟩
  have hbb2 := hbb1.trans (hb2.mono hbb1.size)
  go_wp2_with fail
  all_goals
    go_ret
    exact ⟨by simp, hbb2⟩

theorem recTable {W : World} (h : laidMetH Tryd.prog Rows.wireRecordsRow.laid W) : RecTab W := by
  obtain ⟨ps, ⟨g', t', cs, fuel, p, q, hg', ht', hvar, hd, _, _⟩, _⟩ := h
  obtain rfl := Option.some.inj ((show Tryd.prog.globalNamed "reredos/wire.records" = some 1 by kernel_rfl).symm.trans hg')
  obtain rfl := Option.some.inj ((show (Tryd.prog.globals[1]?).map (·.type) = some 130 by kernel_rfl).symm.trans ht')
  have hc := cells_of_rows (m := 8) (eb := 4) (rows := recTab) Tryd.underlying130 Tryd.underlying126 (by kernel_rfl) Tryd.underlying4 (by kernel_rfl) (by decide) hd
  intro i j r b hr hb
  have hi : i < 7 := by
    have := (List.getElem?_eq_some_iff.1 hr).1
    simpa [recTab] using this
  have hr8 : r.length = 8 := by
    have h8 : ∀ r ∈ recTab, r.length = 8 := by decide
    exact h8 r (List.mem_of_getElem? hr)
  have hj : j < 8 := by
    have := (List.getElem?_eq_some_iff.1 hb).1
    omega
  have := hc i j r b hi hj hr hb
  have h2 := World.var?_cell (show Tryd.prog.globalNamed "reredos/wire.records" = some 1 by kernel_rfl) hvar (i * 8 + j)
  rw [h2]
  simpa using this

noncomputable def laidWorld_ (os : Os) : World :=
  { World.holding Tryd.prog os ⟨#[], #[], []⟩ with heap := (World.holding Tryd.prog os ⟨#[], #[], []⟩).heap.modify 1 fun
      | .cells _ t frozen => .cells #[.bool false, .bool false, .bool false, .bool false, .bool false, .bool false, .bool false, .bool false, .bool false, .bool true, .bool true, .bool false, .bool true, .bool false, .bool false, .bool false, .bool false, .bool false, .bool false, .bool false, .bool false, .bool true, .bool false, .bool false, .bool false, .bool false, .bool false, .bool false, .bool false, .bool false, .bool false, .bool true, .bool false, .bool false, .bool false, .bool false, .bool false, .bool false, .bool false, .bool false, .bool false, .bool false, .bool false, .bool false, .bool false, .bool false, .bool false, .bool false, .bool false, .bool false, .bool false, .bool false, .bool false, .bool true, .bool false, .bool false] t frozen
      | o => o }
def wit : Array Value := #[.agg #[.int .i64 0, .slice none 0 0, .int .i64 0], .agg #[.int .i64 0, .int .i64 0, .int .i64 0, .int .i64 0, .int .i64 0, .int .i64 0, .bool false, .slice none 0 0]]
theorem laid_met_ (os : Os) : laidMet Tryd.prog Rows.wireRecordsRow.laid ((laidWorld_ os).forCall (fun _ _ => 0) ⟨#[], wit, []⟩).memory :=
  laidMet_of_run' 8 (by kernel_rfl) (by kernel_rfl)
theorem reads_ (os : Os) {H : Type} (enc : TypeId × Value → H) : ∃ places, DataW.whole enc Tryd.prog ((laidWorld_ os).forCall (fun _ _ => 0) ⟨#[], wit, []⟩).memory Tryd.f4.params.toList Rows.wireRecordsSpec.vars false wit.toList 8 = some ([.agg [.lit (.int .i64 0), .nil, .lit (.int .i64 0)], .agg [.lit (.int .i64 0), .agg [.lit (.int .i64 0), .lit (.int .i64 0)], .lit (.int .i64 0), .lit (.int .i64 0), .lit (.int .i64 0), .lit (.bool false), .nil]], [], places) :=
  ⟨[], by kernel_rfl⟩

set_option maxRecDepth 100000 in
theorem wireRecords_lifted (os : Os) (started : os.Started) (H : Type) (enc : TypeId × Value → H) (F : Stop.Interp) :
    ReturnsInHanded {} Tryd.checked os 4 .any ((OpenSpec.ofChange Rows.wireRecordsSpec).preRow enc Tryd.prog Tryd.f4 Rows.wireRecordsRow.domain false Rows.wireRecordsRow.laid) (((OpenSpec.ofChange Rows.wireRecordsSpec).at F).post enc Tryd.prog Tryd.f4 false true false false) := by
  obtain ⟨places, hx⟩ := reads_ os enc
  refine lift_card started _ _ Rows.wireRecordsSpec Rows.wireRecordsRow.laid Tryd.func4 (by kernel_rfl) rfl rfl (by kernel_rfl) ?_
    (witness_row_at (enc := enc) (C := Tryd.checked) false (laidWorld_ os) wit rfl (by kernel_rfl) (by kernel_rfl) (by kernel_rfl)
      (OpenSpec.preRow_of_cond 8 hx (by kernel_rfl) (fun k hk => by cases hk) (by kernel_rfl) (laid_met_ os))) ?_
  · intro ds hds
    match ds, hds with
    | [_, _], _ => rfl
  · intro W base args ds p hA hval hlt hsz hL
    rw [Tryd.params4] at hA hval hsz
    obtain ⟨v0, v1, d0, d1, p0, p1, rfl, rfl, rfl, h0, h1⟩ := trodAll_two hA
    obtain ⟨c, A, n, cap, rfl, hls⟩ := arg_cfg (hval 0 _ v0 rfl rfl) h0 (weightsEach_get hsz (i := 0) rfl rfl)
    obtain ⟨r, A2, n2, c2, rfl, hsi⟩ := arg_rec (hval 1 _ v1 rfl rfl) h1 (weightsEach_get hsz (i := 1) rfl rfl)
    exact wireRecords_walk _ _ _ _ _ _ _ _ _ _ _ hls hsi (recTable hL)

set_option maxRecDepth 100000 in
set_option maxHeartbeats 4000000 in
theorem wireRecords_closed : joinedFacts Tryd.prog 4 Tryd.f4 (OpenSpec.ofChange Rows.wireRecordsSpec).bare Rows.wireRecordsRow = true := by
  unfold joinedFacts
  exact and_b (and_b (and_b (and_b (and_b (and_b (and_b (and_b (and_b (and_b (and_b (and_b (and_b (and_b (and_b (and_b (and_b (and_b (and_b (and_b (and_b (and_b (and_b (and_b (and_b (and_b (and_b (and_b (and_b (and_b (and_b ((by kernel_rfl)) Tryd.laidOut) pg_mapsRowed) (by kernel_rfl)) (by kernel_rfl)) (by kernel_rfl)) pg_stops) (by kernel_rfl)) pg_stopKnobs) (by kernel_rfl)) (by kernel_rfl)) (by kernel_rfl)) (by kernel_rfl)) (by kernel_rfl)) (by kernel_rfl)) (by kernel_rfl)) (by kernel_rfl)) (by kernel_rfl)) (by kernel_rfl)) (by kernel_rfl)) (by kernel_rfl)) (by kernel_rfl)) pg_plainKeys) (by kernel_rfl)) pg_stopsHeard) pg_mayEnter) pg_lifted) pg_make) (by kernel_rfl)) (by kernel_rfl)) (by kernel_rfl)) (by kernel_rfl)

theorem wireRecords_said : Rows.WireRecordsSaid :=
  OpenClaim.holds_of_cond 4 Tryd.f4 rfl rfl rfl rfl rfl rfl rfl ⟨rfl, rfl, rfl, rfl, rfl⟩ rfl rfl rfl rfl rfl (by kernel_rfl) Tryd.func4 wireRecords_closed
    (of_decide_eq_true (by kernel_rfl)) (by unfold Func.isWrapper; rw [if_neg (of_decide_eq_false (by kernel_rfl))]; exact ⟨rfl, rfl⟩)
    (fun os started H enc _ F => by rw [OpenClaim.pre_eq_preRow]; exact wireRecords_lifted os started H enc F)

theorem wireRecords_stand : Tryd.f4.params.all (fun t => !Tryd.pinned.checked.prog.wantsStandIn t) = true := by kernel_rfl
theorem wireRecords_plain (f : FuncId) (fn : Func) (hf : Tryd.pinned.checked.prog.funcNamed "reredos/reredoslaw.WireRecords" = some f) (hfn : Tryd.pinned.checked.prog.funcs[f]? = some fn) :
    true = Tryd.pinned.checked.prog.looks [] ∧ ∀ (j : Nat) t, fn.params[j]? = some t → Tryd.pinned.checked.prog.wantsStandIn t = false := by
  obtain rfl : f = 4 := Option.some.inj ((show Tryd.prog.funcNamed "reredos/reredoslaw.WireRecords" = some 4 by kernel_rfl).symm.trans hf) |>.symm
  obtain rfl : fn = Tryd.f4 := (Option.some.inj (Tryd.func4.symm.trans hfn)).symm
  refine ⟨pg_looks, fun j t ht => ?_⟩
  have h := Array.all_eq_true_iff_forall_mem.1 wireRecords_stand t (Array.mem_of_getElem? ht)
  simpa using h
theorem wireRecords_wf : Rows.wireRecordsRow.wfByText (OpenSpec.ofChange Rows.wireRecordsSpec) = true := by kernel_rfl
theorem wireRecords_goes : false = Rows.wireRecordsRow.goesBy Tryd.pinned.checked.prog := by kernel_rfl

/-- WireRecords: the statement. -/
theorem wireRecords_holds : Rows.WireRecordsCardSaid :=
  Claim7.holds_tied_plain_at .later [] _ _ _ _ wireRecords_said (fun _ h => by cases h) wireRecords_wf (fun _ h => by cases h) wireRecords_row_tie rfl ⟨rfl, rfl⟩ pg_main rfl wireRecords_plain wireRecords_goes


end Go.Proofs.YtobhipeiogljjaaDoor
