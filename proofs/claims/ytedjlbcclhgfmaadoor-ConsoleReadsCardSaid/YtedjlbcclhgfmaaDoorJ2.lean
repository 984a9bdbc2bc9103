/- The law ConsoleReads: for every input it returns true and turns nothing. No condition. -/
import Derived.Test.YtedjlbcclhgfmaaDoorJ1
import Derived.Test.YtedjlbcclhgfmaaDoorFacts
import Derived.Lay
import Derived.MakeChecks
import Derived.Stop.LaidErr
import Derived.Shelf.Vars

/- The law ConsoleReads: for every input it returns true and turns nothing. No condition. -/
namespace Go.Proofs.YtedjlbcclhgfmaaDoor
open Go.RowKit Go.ChangeShapes Go.WideShapes Go.ChangeAt Go.Deep


theorem var_row {W : World} {n : String} {g : Nat} {vals : Array Value} (hg : Tryd.prog.globalNamed n = some g) (h : W.var? Tryd.prog n = some vals) : ∃ T fz, W.heap[g]? = some (.cells vals T fz) := by
  unfold World.var? at h
  rw [hg, Option.bind_some] at h
  split at h
  · rename_i cs T fz e
    cases h
    exact ⟨T, fz, e⟩
  · cases h
theorem glob_cells {W : World} {g : Nat} {vals : Array Value} {T : TypeId} {fz : Nat × Nat} {cs : List C} (h : W.heap[g]? = some (.cells vals T fz)) (ha : All2 (CR W (fun b => b < W.heap.size) (fun _ => pl0 none 0) (fun _ => none)) cs vals.toList) (hi : idsCs cs = []) :
    GlobR W (fun b => b < W.heap.size) g (.cells cs) :=
  ⟨(Array.getElem?_eq_some_iff.1 h).1, vals, T, fz, h, ha, hi⟩
theorem ints_all {W : World} {N : Blk} {ρ : Nat → Pl} {m : Mem} {k : IntKind} : ∀ zs : List Int, All2 (CR W N ρ m) (zs.map (C.int k)) (zs.map (Value.int k))
  | [] => .nil
  | _ :: zs => .cons rfl (ints_all zs)
theorem sent_glob {W : World} {n nm : String} {d : DataW Unit} {r : List (String × DataW Unit)} {g : Nat} {ti : TypeId} {ms : Array (String × TypeId)} (h : laidMet Tryd.prog ((n, .iface nm d) :: r) W)
    (hg : Tryd.prog.globalNamed n = some g) (ht : (Tryd.prog.globals[g]?).map (·.type) = some ti) (hi : Tryd.prog.underlying ti = some (.interface ms)) : GlobR W (fun b => b < W.heap.size) g (.cells [C.ifc true]) := by
  obtain ⟨ps, ⟨g0, t0, cs0, f0, p0, q0, hg0, ht0, hv0, hd0, _, _⟩, _⟩ := h
  obtain rfl := Option.some.inj (hg.symm.trans hg0)
  obtain rfl := Option.some.inj (ht.symm.trans ht0)
  obtain ⟨_, u, v, hc, _, _⟩ := iface_of_trod hi hd0
  obtain ⟨T, fz, e⟩ := var_row hg hv0
  exact glob_cells e (by rw [hc]; exact .cons (.inl ⟨rfl, u, v, rfl⟩) .nil) rfl
theorem max_glob {W : World} (h : W.ShapedOpen Tryd.prog) : ∃ m, GlobR W (fun b => b < W.heap.size) 2 (.cells [C.int .i64 m]) := by
  obtain ⟨m, hm⟩ := cell_of_shapedOpen_int (zero := #[.int .i64 0]) (t := 3) (k := .i64) (g := 2) h (of_decide_eq_true (by kernel_rfl)) (by kernel_rfl) rfl (by kernel_rfl) (by kernel_rfl) Tryd.underlying3
  obtain ⟨cs, hh, hs, _⟩ := h.1 2 #[.int .i64 0] 3 (of_decide_eq_true (by kernel_rfl)) (by kernel_rfl)
  refine ⟨m, glob_cells hh ?_ rfl⟩
  have h1 : cs.size = 1 := hs
  have h2 : cs[0]? = some (.int .i64 m) := by
    rw [← hm]; simp [World.cell?, hh]
  obtain ⟨l⟩ := cs
  match l, h1, h2 with
  | [x], _, h2 =>
    have h2 : some x = some (.int .i64 m) := h2
    cases h2
    exact .cons rfl .nil
set_option maxRecDepth 100000 in
theorem laidTabs {W : World} (h : laidMetH Tryd.prog Rows.consoleReadsRow.laid W) (hsh : W.ShapedOpen Tryd.prog) : ∃ m, TabsS m W := by
  rw [MakeChecks.laidMetH_plain _ _ _ (by kernel_rfl)] at h
  obtain ⟨m, G1⟩ := max_glob hsh
  have h2 : laidMet Tryd.prog (("internal/strconv.uint64pow10", Go.Lib.tabData .u64 Go.Lib.pow10Tab) :: _) W := laidMet.tail (laidMet.tail h)
  have hv := Go.Lib.tabIs_of_head (g := 3) (t := 173) (e := 154) (n := 20) (by kernel_rfl) (by kernel_rfl) Tryd.underlying173 Tryd.underlying154 (by kernel_rfl) (by kernel_rfl) h2
  obtain ⟨T, fz, e⟩ := var_row (g := 3) (by kernel_rfl) hv
  have G0 : GlobR W (fun b => b < W.heap.size) 3 (.cells (Go.Lib.pow10Tab.map (C.int .u64))) := glob_cells e (ints_all _) rfl
  have G3 := sent_glob (g := 5) (laidMet.tail (laidMet.tail (laidMet.tail (laidMet.tail h)))) (by kernel_rfl) (ti := 58) (by kernel_rfl) Tryd.underlying58
  have G2 := sent_glob (g := 4) (laidMet.tail (laidMet.tail (laidMet.tail (laidMet.tail (laidMet.tail h))))) (by kernel_rfl) (ti := 58) (by kernel_rfl) Tryd.underlying58
  refine ⟨m, fun g gl hgl => ?_⟩
  unfold tabsS at hgl
  rw [look_cons] at hgl
  split at hgl
  · rename_i h; subst h; cases hgl; exact G0
  rw [look_cons] at hgl
  split at hgl
  · rename_i h; subst h; cases hgl; exact G1
  rw [look_cons] at hgl
  split at hgl
  · rename_i h; subst h; cases hgl; exact G2
  rw [look_cons] at hgl
  split at hgl
  · rename_i h; subst h; cases hgl; exact G3
  cases hgl

noncomputable def laidWorld_ (os : Os) : World := World.laidAll Tryd.prog os Rows.consoleReadsRow.laid
def wit : Array Value := #[.string ⟨#[]⟩]
theorem laid_met_ (os : Os) : laidMet Tryd.prog Rows.consoleReadsRow.laid ((laidWorld_ os).forCall (fun _ _ => 0) ⟨#[], wit, []⟩).memory :=
  laidMet_laidAll _ (by kernel_rfl) (by kernel_rfl)
theorem reads_ (os : Os) {H : Type} (enc : TypeId × Value → H) : ∃ places, DataW.whole enc Tryd.prog ((laidWorld_ os).forCall (fun _ _ => 0) ⟨#[], wit, []⟩).memory Tryd.f5.params.toList Rows.consoleReadsSpec.vars false wit.toList 8 = some ([.lit (.string [])], [], places) :=
  ⟨[], by kernel_rfl⟩

set_option maxRecDepth 100000 in
theorem consoleReads_lifted (os : Os) (started : os.Started) (H : Type) (enc : TypeId × Value → H) (F : Stop.Interp) :
    ReturnsInHanded {} Tryd.checked os 5 .any ((OpenSpec.ofChange Rows.consoleReadsSpec).preRow enc Tryd.prog Tryd.f5 Rows.consoleReadsRow.domain false Rows.consoleReadsRow.laid) (((OpenSpec.ofChange Rows.consoleReadsSpec).at F).post enc Tryd.prog Tryd.f5 false true false false) := by
  obtain ⟨places, hx⟩ := reads_ os enc
  refine lift_card started _ _ Rows.consoleReadsSpec Rows.consoleReadsRow.laid Tryd.func5 (by kernel_rfl) rfl rfl (by kernel_rfl) ?_
    (witness_row_at (enc := enc) (C := Tryd.checked) false (laidWorld_ os) wit (World.laidAll_os _ _ _) (by kernel_rfl) (by kernel_rfl) (by kernel_rfl)
      (OpenSpec.preRow_of_cond 8 hx (by kernel_rfl) (fun k hk => by cases hk) (by kernel_rfl) (laid_met_ os))) ?_
  · intro ds hds
    match ds, hds with
    | [_], _ => rfl
  · intro W base args ds p hA hval hlt hsz hL hsh
    obtain ⟨m, hT⟩ := laidTabs hL hsh
    refine ConsoleReads_walk Read_ok CommandOf_ok (fun x h => ?_) W base args ds p hA hval hlt hsz hT
    exact consoleReads_vc _

set_option maxRecDepth 100000 in
set_option maxHeartbeats 4000000 in
theorem consoleReads_closed : joinedFacts Tryd.prog 5 Tryd.f5 (OpenSpec.ofChange Rows.consoleReadsSpec).bare Rows.consoleReadsRow = true := by
  unfold joinedFacts
  exact and_b (and_b (and_b (and_b (and_b (and_b (and_b (and_b (and_b (and_b (and_b (and_b (and_b (and_b (and_b (and_b (and_b (and_b (and_b (and_b (and_b (and_b (and_b (and_b (and_b (and_b (and_b (and_b (and_b (and_b (and_b ((by kernel_rfl)) Tryd.laidOut) pg_mapsRowed) (by kernel_rfl)) (by kernel_rfl)) (by kernel_rfl)) pg_stops) (by kernel_rfl)) pg_stopKnobs) (by kernel_rfl)) (by kernel_rfl)) (by kernel_rfl)) (by kernel_rfl)) (by kernel_rfl)) (by kernel_rfl)) (by kernel_rfl)) (by kernel_rfl)) (by kernel_rfl)) (by kernel_rfl)) (by kernel_rfl)) (by kernel_rfl)) (by kernel_rfl)) pg_plainKeys) (by kernel_rfl)) pg_stopsHeard) pg_mayEnter) pg_lifted) pg_make) (by kernel_rfl)) (by kernel_rfl)) (by kernel_rfl)) (by kernel_rfl)

theorem consoleReads_said : Rows.ConsoleReadsSaid :=
  OpenClaim.holds_of_cond 5 Tryd.f5 rfl rfl rfl rfl rfl rfl rfl ⟨rfl, rfl, rfl, rfl, rfl⟩ rfl rfl rfl rfl rfl (by kernel_rfl) Tryd.func5 consoleReads_closed
    (of_decide_eq_true (by kernel_rfl)) (by unfold Func.isWrapper; rw [if_neg (of_decide_eq_false (by kernel_rfl))]; exact ⟨rfl, rfl⟩)
    (fun os started H enc _ F => by rw [OpenClaim.pre_eq_preRow]; exact consoleReads_lifted os started H enc F)

theorem consoleReads_stand : Tryd.f5.params.all (fun t => !Tryd.pinned.checked.prog.wantsStandIn t) = true := by kernel_rfl
theorem consoleReads_plain (f : FuncId) (fn : Func) (hf : Tryd.pinned.checked.prog.funcNamed "reredos/reredoslaw.ConsoleReads" = some f) (hfn : Tryd.pinned.checked.prog.funcs[f]? = some fn) :
    true = Tryd.pinned.checked.prog.looks [] ∧ ∀ (j : Nat) t, fn.params[j]? = some t → Tryd.pinned.checked.prog.wantsStandIn t = false := by
  obtain rfl : f = 5 := Option.some.inj ((show Tryd.prog.funcNamed "reredos/reredoslaw.ConsoleReads" = some 5 by kernel_rfl).symm.trans hf) |>.symm
  obtain rfl : fn = Tryd.f5 := (Option.some.inj (Tryd.func5.symm.trans hfn)).symm
  refine ⟨pg_looks, fun j t ht => ?_⟩
  have h := Array.all_eq_true_iff_forall_mem.1 consoleReads_stand t (Array.mem_of_getElem? ht)
  simpa using h
theorem consoleReads_wf : Rows.consoleReadsRow.wfByText (OpenSpec.ofChange Rows.consoleReadsSpec) = true := by kernel_rfl
theorem consoleReads_goes : false = Rows.consoleReadsRow.goesBy Tryd.pinned.checked.prog := by kernel_rfl

/-- ConsoleReads: the statement. -/
theorem consoleReads_holds : Rows.ConsoleReadsCardSaid :=
  Claim7.holds_tied_plain_at .later [] _ _ _ _ consoleReads_said (fun _ h => by cases h) consoleReads_wf (fun _ h => by cases h) consoleReads_row_tie rfl ⟨rfl, rfl⟩ pg_main rfl consoleReads_plain consoleReads_goes


end Go.Proofs.YtedjlbcclhgfmaaDoor
