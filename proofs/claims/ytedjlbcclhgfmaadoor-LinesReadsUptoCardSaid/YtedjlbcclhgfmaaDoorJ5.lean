/- The law LinesReads, where what it reads is of bulk at most 1048576: it returns true and turns nothing. No condition. -/
import Derived.Test.YtedjlbcclhgfmaaDoorJ4
import Derived.Test.YtedjlbcclhgfmaaDoorJ2
import Derived.Lay
import Derived.MakeChecks
import Derived.Stop.LaidErr
import Derived.Shelf.Vars
import Derived.Lib.LaidU8

/- The law LinesReads, where what it reads is of bulk at most 1048576: it returns true and turns nothing. No condition. -/
namespace Go.Proofs.YtedjlbcclhgfmaaDoor
open Go.RowKit Go.ChangeShapes Go.WideShapes Go.ChangeAt Go.Deep

theorem var_row {W : World} {n : String} {g : Nat} {vals : Array Value} (hg : Tryd.prog.globalNamed n = some g) (h : W.var? Tryd.prog n = some vals) : ∃ T fz, W.heap[g]? = some (.cells vals T fz) := by
  unfold World.var? at h
  rw [hg, Option.bind_some] at h
  split at h
  · rename_i cs T fz e
    cases h
    exact ⟨T, fz, e⟩
  · cases h
theorem glob_cells {W : World} {g : Nat} {vals : Array Value} {T : TypeId} {fz : Nat × Nat} {cs : List C} (h : W.heap[g]? = some (.cells vals T fz)) (ha : All2 (CR W (fun b => b < W.heap.size) (fun _ => pl0 none 0) (fun _ => none)) cs vals.toList) (hi : idsCs cs = []) :
    GlobR W (fun b => b < W.heap.size) g (.cells cs) :=
  ⟨(Array.getElem?_eq_some_iff.1 h).1, vals, T, fz, h, ha, hi⟩
theorem ints_all {W : World} {N : Blk} {ρ : Nat → Pl} {m : Mem} {k : IntKind} : ∀ zs : List Int, All2 (CR W N ρ m) (zs.map (C.int k)) (zs.map (Value.int k))
  | [] => .nil
  | _ :: zs => .cons rfl (ints_all zs)
theorem sent_glob {W : World} {n nm : String} {d : DataW Unit} {r : List (String × DataW Unit)} {g : Nat} {ti : TypeId} {ms : Array (String × TypeId)} (h : laidMet Tryd.prog ((n, .iface nm d) :: r) W)
    (hg : Tryd.prog.globalNamed n = some g) (ht : (Tryd.prog.globals[g]?).map (·.type) = some ti) (hi : Tryd.prog.underlying ti = some (.interface ms)) : GlobR W (fun b => b < W.heap.size) g (.cells [C.ifc true]) := by
  obtain ⟨ps, ⟨g0, t0, cs0, f0, p0, q0, hg0, ht0, hv0, hd0, _, _⟩, _⟩ := h
  obtain rfl := Option.some.inj (hg.symm.trans hg0)
  obtain rfl := Option.some.inj (ht.symm.trans ht0)
  obtain ⟨_, u, v, hc, _, _⟩ := iface_of_trod hi hd0
  obtain ⟨T, fz, e⟩ := var_row hg hv0
  exact glob_cells e (by rw [hc]; exact .cons (.inl ⟨rfl, u, v, rfl⟩) .nil) rfl
theorem max_glob {W : World} (h : W.ShapedOpen Tryd.prog) : ∃ m, GlobR W (fun b => b < W.heap.size) 2 (.cells [C.int .i64 m]) := by
  obtain ⟨m, hm⟩ := cell_of_shapedOpen_int (zero := #[.int .i64 0]) (t := 3) (k := .i64) (g := 2) h (of_decide_eq_true (by kernel_rfl)) (by kernel_rfl) rfl (by kernel_rfl) (by kernel_rfl) Tryd.underlying3
  obtain ⟨cs, hh, hs, _⟩ := h.1 2 #[.int .i64 0] 3 (of_decide_eq_true (by kernel_rfl)) (by kernel_rfl)
  refine ⟨m, glob_cells hh ?_ rfl⟩
  have h1 : cs.size = 1 := hs
  have h2 : cs[0]? = some (.int .i64 m) := by
    rw [← hm]; simp [World.cell?, hh]
  obtain ⟨l⟩ := cs
  match l, h1, h2 with
  | [x], _, h2 =>
    have h2 : some x = some (.int .i64 m) := h2
    cases h2
    exact .cons rfl .nil
/-- a table of words, as the row's condition lays it -/
theorem words_glob {W : World} {n : String} {g t e m : Nat} {T : List SD} (h : Go.Lib.VarReads Tryd.prog W n (.agg (T.map fun x => .lit (.string x.1.data.toList)))) (hg : Tryd.prog.globalNamed n = some g)
    (hty : (Tryd.prog.globals[g]?).map (·.type) = some t) (ht : Tryd.prog.underlying t = some (.array m e)) (he : Tryd.prog.underlying e = some .string) (hce : Tryd.prog.cellsOf e = 1) (hm : T.length = m) (h0 : 0 < m) :
    GlobR W (fun b => b < W.heap.size) g (.rows tyS T) := by
  obtain ⟨g0, t0, cs, fuel, p, hg0, ht0, hv, hd⟩ := h
  obtain rfl := Option.some.inj (hg.symm.trans hg0)
  obtain rfl := Option.some.inj (hty.symm.trans ht0)
  have hcell : ∀ i, (hi : i < T.length) → W.cell? ⟨g, i, none⟩ = some (.string T[i].1) := fun i hi => by
    obtain ⟨fu, d, q, h1, h2⟩ := Go.Lib.array_elem ht hd i (by omega)
    obtain ⟨s, h3, h4, _⟩ := DataW.trod_string he h2
    rw [hce] at h3
    have h5 : cs.toList[i]? = some (.string s) := by
      have := congrArg (·[0]?) h3
      simpa [List.getElem?_take, List.getElem?_drop] using this
    have h6 : d = .lit (.string s.data.toList) := congrArg Prod.fst h4
    subst h6
    rw [List.getElem?_map, List.getElem?_eq_getElem hi] at h1
    simp only [Option.map_some, Option.some.injEq, DataW.lit.injEq, Lit.string.injEq] at h1
    rw [World.var?_cell hg hv i, ← Array.getElem?_toList, h5]
    exact congrArg (fun x => some (Value.string x)) (ba_eq h1).symm
  refine glob_rows (cell_lt (hcell 0 (by omega))) (T.map fun x => [.string x.1]) (fun i hi => ⟨[.string T[i].1], by rw [List.getElem?_map, List.getElem?_eq_getElem hi]; rfl, ⟨[_], [], rfl, rfl, rfl⟩⟩) fun i us j u hi hj => ?_
  rw [List.getElem?_map] at hi
  cases hr : T[i]? with
  | none => rw [hr] at hi; cases hi
  | some r =>
    rw [hr] at hi
    simp only [Option.map_some, Option.some.injEq] at hi
    subst hi
    obtain ⟨hlt, rfl⟩ := List.getElem?_eq_some_iff.1 hr
    match j, hj with
    | 0, hj =>
      have hj : some (Value.string T[i].1) = some u := hj
      rw [← hj]
      have := hcell i hlt
      rwa [show i * tyS.size + 0 = i from Nat.mul_one i]
set_option maxRecDepth 100000 in
theorem laidTabs {W : World} (h : laidMetH Tryd.prog Rows.linesReadsUptoRow.laid W) (hsh : W.ShapedOpen Tryd.prog) : ∃ m, TabsL m W := by
  rw [MakeChecks.laidMetH_plain _ _ _ (by kernel_rfl)] at h
  obtain ⟨m, G1⟩ := max_glob hsh
  have h2 : laidMet Tryd.prog (("internal/strconv.uint64pow10", Go.Lib.tabData .u64 Go.Lib.pow10Tab) :: _) W := laidMet.tail (laidMet.tail h)
  have hv := Go.Lib.tabIs_of_head (g := 3) (t := 173) (e := 154) (n := 20) (by kernel_rfl) (by kernel_rfl) Tryd.underlying173 Tryd.underlying154 (by kernel_rfl) (by kernel_rfl) h2
  obtain ⟨T, fz, e⟩ := var_row (g := 3) (by kernel_rfl) hv
  have G0 : GlobR W (fun b => b < W.heap.size) 3 (.cells (Go.Lib.pow10Tab.map (C.int .u64))) := glob_cells e (ints_all _) rfl
  have G3 := sent_glob (g := 5) (laidMet.tail (laidMet.tail (laidMet.tail (laidMet.tail h)))) (by kernel_rfl) (ti := 58) (by kernel_rfl) Tryd.underlying58
  have G2 := sent_glob (g := 4) (laidMet.tail (laidMet.tail (laidMet.tail (laidMet.tail (laidMet.tail h))))) (by kernel_rfl) (ti := 58) (by kernel_rfl) Tryd.underlying58
  have h6 := laidMet.tail (laidMet.tail (laidMet.tail (laidMet.tail (laidMet.tail (laidMet.tail h)))))
  have r1 : Go.Lib.VarReads Tryd.prog W "reredos/lines.words" (.agg (wordsT.map fun x => .lit (.string x.1.data.toList))) := Go.Lib.laidMet.reads h6 (List.mem_cons.2 (.inl rfl))
  have r2 : Go.Lib.VarReads Tryd.prog W "reredos/lines.calls" (.agg (callsT.map fun x => .lit (.string x.1.data.toList))) := Go.Lib.laidMet.reads h6 (List.mem_cons_of_mem _ (List.mem_cons.2 (.inl rfl)))
  have G4 := words_glob r1 (g := 0) (t := 61) (e := 9) (m := 9) (by kernel_rfl) (by kernel_rfl) Tryd.underlying61 Tryd.underlying9 (by kernel_rfl) rfl (by decide)
  have G5 := words_glob r2 (g := 1) (t := 110) (e := 9) (m := 6) (by kernel_rfl) (by kernel_rfl) Tryd.underlying110 Tryd.underlying9 (by kernel_rfl) rfl (by decide)
  refine ⟨m, fun g gl hgl => ?_⟩
  unfold tabsL at hgl
  rw [look_cons] at hgl
  split at hgl
  · rename_i h; subst h; cases hgl; exact G4
  rw [look_cons] at hgl
  split at hgl
  · rename_i h; subst h; cases hgl; exact G5
  rw [look_cons] at hgl
  split at hgl
  · rename_i h; subst h; cases hgl; exact G0
  rw [look_cons] at hgl
  split at hgl
  · rename_i h; subst h; cases hgl; exact G1
  rw [look_cons] at hgl
  split at hgl
  · rename_i h; subst h; cases hgl; exact G2
  rw [look_cons] at hgl
  split at hgl
  · rename_i h; subst h; cases hgl; exact G3
  cases hgl

noncomputable def laidWorld_ (os : Os) : World := World.laidAll Tryd.prog os Rows.linesReadsUptoRow.laid
def wit : Array Value := #[.agg #[.int .i64 0, .slice none 0 0, .int .i64 0], .string ⟨#[]⟩]
theorem laid_met_ (os : Os) : laidMet Tryd.prog Rows.linesReadsUptoRow.laid ((laidWorld_ os).forCall (fun _ _ => 0) ⟨#[], wit, []⟩).memory :=
  laidMet_laidAll _ (by kernel_rfl) (by kernel_rfl)
def red (H : Type) : List (DataW H) := [.agg [.lit (.int .i64 0), .nil, .lit (.int .i64 0)], .lit (.string [])]
theorem reads_ (os : Os) {H : Type} (enc : TypeId × Value → H) : ∃ places, DataW.whole enc Tryd.prog ((laidWorld_ os).forCall (fun _ _ => 0) ⟨#[], wit, []⟩).memory Tryd.f6.params.toList Rows.linesReadsSpec.vars false wit.toList 8 = some (red H, [], places) :=
  ⟨[], by kernel_rfl⟩
theorem red_small {H : Type} : Rows.uptoSmall H (red H ++ []) = true := by kernel_rfl

set_option maxRecDepth 100000 in
theorem linesReads_walkU {mL : Int} {H : Type} {enc : TypeId × Value → H} (hRead : MtG (tabsL mL) 13 cRead) (hActsOf : MtG (tabsL mL) 14 cActsOf) (hsameActs : MtG (tabsL mL) 15 csameActs) (h : ∀ (x : denL [(true, wCfg), (false, wStr)]), okL [(true, wCfg), (false, wStr)] x → bulkL [(true, wCfg), (false, wStr)] x ≤ 1048576 → LinesReads_VC x.1 x.2.1.1) : ∀ (W : World) (base : Nat) (args : Array Value) (ds : List (DataW H)) (p : List MemPlace), DataW.TrodAll enc Tryd.prog W 0 (fun _ => true) true Tryd.f6.params.toList args.toList ds p → (∀ (j : Nat) (t : TypeId) (v : Value), Tryd.f6.params[j]? = some t → args[j]? = some v → Value.okWide Tryd.prog W .any base t v) → (DataW.weightsEach Tryd.prog Tryd.f6.params.toList ds).all (· ≤ reachBytes) = true → Rows.uptoBulkAll ds ≤ 1048576 → TabsL mL W → Calls Tryd.prog 6 args W fun e W1 => e = .returned (.bool true) ∧ Below W.heap.size W W1 :=
  law_walkLGU (E := envOfG Tryd.prog (tabsL mL) [(13, (false, cRead)), (14, (false, cActsOf)), (15, (false, csameActs))] eqsLqV) (envOfG_ok (fun p hp => (by simp only [List.mem_cons, List.not_mem_nil, or_false] at hp; rcases hp with rfl | rfl | rfl; exact hRead; exact hActsOf; exact hsameActs)) (by kernel_rfl)) (TabsL mL) tabsL_ok Tryd.func6 (by kernel_rfl) [(true, wCfg), (false, wStr)] (by kernel_rfl) (fun x => fun ky9 st9 => look [] ky9) (fun x => LinesReads_VC x.1 x.2.1.1) (fun x => by kernel_rfl) h

theorem readR_few (c : CfgD) : ∀ (f : Nat) (t : ByteArray) (i : Int) (out : List ActD), i = (out.length : Int) → t.size < 4294967281 → out.length ≤ 3000 → (∀ q ∈ out, q.2.2.2.2.2.1.length < 4611686018427387904) →
    (readR c f t i out).1.length ≤ 3000 ∧ ∀ q ∈ (readR c f t i out).1, q.2.2.2.2.2.1.length < 4611686018427387904
  | 0, _, _, _, _, _, h, hq => ⟨h, hq⟩
  | f + 1, t, i, out, hi, ht, h, hq => by
    obtain ⟨k1, k2⟩ := cut_small t
    have hz : ([] : List ActD).length ≤ 3000 ∧ ∀ q ∈ ([] : List ActD), q.2.2.2.2.2.1.length < 4611686018427387904 := ⟨Nat.zero_le _, fun q hq => absurd hq List.not_mem_nil⟩
    unfold readR
    cases pStrEq t (bs []) with
    | true => exact ⟨h, hq⟩
    | false =>
    rw [cond_false]
    cases h3 : pEq i 3000 with
    | true => exact hz
    | false =>
    rw [cond_false]
    cases hc : cutF t (bs [10]) with
    | false => exact hz
    | true =>
    rw [cond_true]
    cases linB (cutA t (bs [10])) with
    | false => exact hz
    | true =>
    rw [cond_true]
    cases pEq (actF c (linA (cutA t (bs [10])))) 0 with
    | false => exact hz
    | true =>
    rw [cond_true]
    have hk := k2 hc
    have hn : out.length ≠ 3000 := fun h => by
      have h3 : (i == 3000) = false := h3
      rw [hi, h] at h3; cases h3
    refine readR_few c f _ _ _ (by rw [hi, List.length_append]; rfl) (by omega) (by rw [List.length_append]; show out.length + 1 ≤ 3000; omega) fun q hq' => ?_
    rcases List.mem_append.1 hq' with h1 | h1
    · exact hq q h1
    · rw [List.mem_singleton] at h1
      rw [h1]
      exact keep_few _ (show (cutA t (bs [10])).size < 4294967281 by omega)
theorem reads_walked (c : CfgD) (s : ByteArray) (h1 : c.2.1.length * 16 ≤ 140737488351232) (h2 : s.size < 4294967281) : LinesReads_VC c s := by
  have k1 : c.2.1.length < 4611686018427387904 := by omega
  have hr : (readL c s).length ≤ 3000 ∧ ∀ q ∈ readL c s, q.2.2.2.2.2.1.length < 4611686018427387904 := by
    unfold readL readY
    cases pEq (cfgF c) 0 with
    | false => exact ⟨Nat.zero_le _, fun q hq => absurd hq List.not_mem_nil⟩
    | true => exact readR_few c _ _ _ _ rfl h2 (Nat.zero_le _) fun q hq => absurd hq List.not_mem_nil
  delta LinesReads_VC
  refine ⟨k1, h2, k1, h2, ?_⟩
  rw [bif_true (show pEq (readI c s) (readI c s) = true from beq_iff_eq.2 rfl), bif_true (show pEq (readE c s) (readE c s) = true from beq_iff_eq.2 rfl)]
  refine ⟨show (readL c s).length < 4611686018427387904 by omega, hr.2, ?_⟩
  exact congrArg (·, ()) (sameActs_refl _)

set_option maxRecDepth 100000 in
theorem linesReads_lifted (os : Os) (started : os.Started) (H : Type) (enc : TypeId × Value → H) (F : Stop.Interp) :
    ReturnsInHanded {} Tryd.checked os 6 .any ((Rows.OpenSpec.upto Rows.linesReadsSpec).preRow enc Tryd.prog Tryd.f6 Rows.linesReadsUptoRow.domain false Rows.linesReadsUptoRow.laid) (((Rows.OpenSpec.upto Rows.linesReadsSpec).at F).post enc Tryd.prog Tryd.f6 false true false false) := by
  obtain ⟨places, hx⟩ := reads_ os enc
  refine lift_cardU started _ _ Rows.linesReadsSpec Rows.linesReadsUptoRow.laid Tryd.func6 (by kernel_rfl) rfl rfl (by kernel_rfl) ?_
    (witness_row_at (enc := enc) (C := Tryd.checked) false (laidWorld_ os) wit (World.laidAll_os _ _ _) (by kernel_rfl) (by kernel_rfl) (by kernel_rfl)
      (OpenSpec.preRow_of_cond 8 hx (by kernel_rfl) (fun k hk => by obtain rfl := Option.some.inj hk; exact red_small) (by kernel_rfl) (laid_met_ os))) ?_
  · intro ds hds
    match ds, hds with
    | [_, _], _ => rfl
  · intro W base args ds p hA hval hsz hU hL hsh
    obtain ⟨m, hT⟩ := laidTabs hL hsh
    refine linesReads_walkU Read_ok ActsOf_ok.any sameActs_ok.any (fun x h hb => ?_) W base args ds p hA hval hsz hU hT
    obtain ⟨c, ⟨s, _⟩, _⟩ := x
    have hb : bulkT wCfg.ty c + ((s.size + 0) + 0) ≤ 1048576 := hb
    exact reads_walked c s h.1.2.1.1 (by omega)

set_option maxRecDepth 100000 in
set_option maxHeartbeats 4000000 in
theorem linesReads_closed : joinedFacts Tryd.prog 6 Tryd.f6 (Rows.OpenSpec.upto Rows.linesReadsSpec).bare Rows.linesReadsUptoRow = true := by
  unfold joinedFacts
  exact and_b (and_b (and_b (and_b (and_b (and_b (and_b (and_b (and_b (and_b (and_b (and_b (and_b (and_b (and_b (and_b (and_b (and_b (and_b (and_b (and_b (and_b (and_b (and_b (and_b (and_b (and_b (and_b (and_b (and_b (and_b ((by kernel_rfl)) Tryd.laidOut) pg_mapsRowed) (by kernel_rfl)) (by kernel_rfl)) (by kernel_rfl)) pg_stops) (by kernel_rfl)) pg_stopKnobs) (by kernel_rfl)) (by kernel_rfl)) (by kernel_rfl)) (by kernel_rfl)) (by kernel_rfl)) (by kernel_rfl)) (by kernel_rfl)) (by kernel_rfl)) (by kernel_rfl)) (by kernel_rfl)) (by kernel_rfl)) (by kernel_rfl)) (by kernel_rfl)) pg_plainKeys) (by kernel_rfl)) pg_stopsHeard) pg_mayEnter) pg_lifted) pg_make) (by kernel_rfl)) (by kernel_rfl)) (by kernel_rfl)) (by kernel_rfl)

theorem linesReads_said : Rows.LinesReadsUptoSaid :=
  OpenClaim.holds_of_cond 6 Tryd.f6 rfl rfl rfl rfl rfl rfl rfl ⟨rfl, rfl, rfl, rfl, rfl⟩ rfl rfl rfl rfl rfl (by kernel_rfl) Tryd.func6 linesReads_closed
    (of_decide_eq_true (by kernel_rfl)) (by unfold Func.isWrapper; rw [if_neg (of_decide_eq_false (by kernel_rfl))]; exact ⟨rfl, rfl⟩)
    (fun os started H enc _ F => by rw [OpenClaim.pre_eq_preRow]; exact linesReads_lifted os started H enc F)

theorem linesReads_stand : Tryd.f6.params.all (fun t => !Tryd.pinned.checked.prog.wantsStandIn t) = true := by kernel_rfl
theorem linesReads_plain (f : FuncId) (fn : Func) (hf : Tryd.pinned.checked.prog.funcNamed "reredos/reredoslaw.LinesReads" = some f) (hfn : Tryd.pinned.checked.prog.funcs[f]? = some fn) :
    true = Tryd.pinned.checked.prog.looks [] ∧ ∀ (j : Nat) t, fn.params[j]? = some t → Tryd.pinned.checked.prog.wantsStandIn t = false := by
  obtain rfl : f = 6 := Option.some.inj ((show Tryd.prog.funcNamed "reredos/reredoslaw.LinesReads" = some 6 by kernel_rfl).symm.trans hf) |>.symm
  obtain rfl : fn = Tryd.f6 := (Option.some.inj (Tryd.func6.symm.trans hfn)).symm
  refine ⟨pg_looks, fun j t ht => ?_⟩
  have h := Array.all_eq_true_iff_forall_mem.1 linesReads_stand t (Array.mem_of_getElem? ht)
  simpa using h
theorem linesReads_wf : Rows.linesReadsUptoRow.wfByText (Rows.OpenSpec.upto Rows.linesReadsSpec) = true := by kernel_rfl
theorem linesReads_goes : false = Rows.linesReadsUptoRow.goesBy Tryd.pinned.checked.prog := by kernel_rfl

/-- LinesReads: the statement. -/
theorem linesReads_holds : Rows.LinesReadsUptoCardSaid :=
  Claim7.holds_tied_plain_at .later [] _ _ _ _ linesReads_said (fun _ h => by cases h) linesReads_wf (fun _ h => by cases h) linesReadsUpto_row_tie rfl ⟨rfl, rfl⟩ pg_main rfl linesReads_plain linesReads_goes



end Go.Proofs.YtedjlbcclhgfmaaDoor
