/- The law LinesShows: for every input it returns true and turns nothing. No condition. -/
import Derived.Test.YtedjlbcclhgfmaaDoorJ2
import Derived.Test.YtedjlbcclhgfmaaDoorFrameD
import Derived.Lay
import Derived.MakeChecks
import Derived.Stop.LaidErr
import Derived.Shelf.Vars
import Derived.Lib.LaidU8

/- Acts as lines, what reads tables: functions meet their contracts; the law's body. The tables of words and of powers of ten lie where they are to lie. -/
namespace Go.Proofs.YtedjlbcclhgfmaaDoor
open Go.RowKit Go.Lib Go.IntWalk

theorem ItoaW_ok : MtG tabsW 20 cItoa := by
  refine ⟨⟨_, Tryd.func20, by kernel_rfl, by kernel_rfl⟩, fun args m0 obs r m1 hc hp => ?_⟩
  unfold cItoa shCtr at hc
  split at hc
  · rename_i x hx
    simp only [Option.some.injEq, Prod.mk.injEq] at hc
    obtain ⟨rfl, hrm⟩ := hc
    refine shape_spec hx ?_
    obtain ⟨⟨n, _⟩, _⟩ := x
    have h0 : -9223372036854775808 ≤ n := of_decide_eq_true (hp _ List.mem_cons_self)
    have h1 : n ≤ 9223372036854775807 := of_decide_eq_true (hp _ (List.mem_cons_of_mem _ List.mem_cons_self))
    have er : r = .v false [.str (pItoa n)] := (congrArg Prod.fst hrm).symm
    have em : m1 = [] := (congrArg Prod.snd hrm).symm
    subst er em
    refine spec_below fun w N ρ vs hg hlt ha => ?_
    obtain ⟨v, rfl, hv⟩ := all2_1 ha
    have hv : v = .int .i64 n := hv
    subst hv
    obtain ⟨vals, hvar, hva⟩ := glob_var (show Tryd.prog.globalNamed "internal/strconv.uint64pow10" = some 3 by kernel_rfl) (hg 3 _ rfl)
    have htab : Go.Lib.TabIs Tryd.prog w "internal/strconv.uint64pow10" .u64 Go.Lib.pow10Tab := by
      unfold Go.Lib.TabIs
      rw [hvar, ← all2_ints hva]
    have c : Calls Tryd.prog 20 #[.int .i64 n] w fun e w' => e = .returned (.string ⟨(Go.Lib.itoa n).toArray⟩) ∧ ∃ k os, w' = Go.Sort.grow (w.drewN k) os := Any.strconv_Itoa lItoa n h0 h1 w htab
    refine c.mono fun e w' ⟨he, k, os, hw⟩ => ⟨_, he, ?_, ⟨_, rfl, rfl⟩⟩
    subst hw
    exact grow_below
  · cases hc

theorem blanks_take {v : List ND} {k : Nat} (hk : k < v.length) : blanksL (v.take (k + 1)) = blanksL (v.take k) ++ (32 :: itoa (pGet tyN v k).1) := by
  rw [← take_app (t := tyN) hk]
  unfold pApp
  rw [blanksL_app]
  show _ ++ (32 :: (itoa (pGet tyN v k).1 ++ [])) = _
  rw [List.append_nil]
theorem num_at {v : List ND} (hn : pNums v) {k : Nat} (hk : k < v.length) : 0 ≤ (pGet tyN v k).1 ∧ (pGet tyN v k).1 ≤ 9223372036854775807 := by
  have := hn.2 _ (List.getElem_mem hk)
  rw [pGet_lt hk]; exact this
theorem word_num (n : Int) : pStrApp (bs [32]) (pItoa n) = ba (32 :: itoa n) := ba_app [32] (itoa n)
theorem ask_blk {x : CallD} {v : List ND} (hv : askV x = v) (hn : pNums v) : askInv x ((0 : Int), pStrApp (bs [32]) (asked_v0 x), ()) ∧ ∀ y : Int × ByteArray × Unit, askInv x y → bif pLt y.1 (pInt (pLen v)) then pIn y.1 (pLen v) ∧
    pLe (-9223372036854775808 : Int) (pGet tyN v (pNat y.1)).1 = Bool.true ∧ pLe (pGet tyN v (pNat y.1)).1 (9223372036854775807 : Int) = Bool.true ∧ pStrFits (bs [32]) (pItoa (pGet tyN v (pNat y.1)).1) ∧
    pStrFits y.2.1 (pStrApp (bs [32]) (pItoa (pGet tyN v (pNat y.1)).1)) ∧ askInv x (pAdd IntKind.i64 y.1 (1 : Int), pStrApp y.2.1 (pStrApp (bs [32]) (pItoa (pGet tyN v (pNat y.1)).1)), ()) ∧
    Nat.le (Nat.succ (askMu x (pAdd IntKind.i64 y.1 (1 : Int), pStrApp y.2.1 (pStrApp (bs [32]) (pItoa (pGet tyN v (pNat y.1)).1)), ()))) (askMu x y) else y.2 = (askedF x, ()) := by
  subst hv
  refine ⟨StepInv.start ?_, fun y hy => ?_⟩
  · delta asked_v0
    rw [call_ba]
    refine congrArg (·, ()) ((ba_app [32] _).trans ?_)
    show ba (32 :: callL x.1) = ba (32 :: (callL x.1 ++ []))
    rw [List.append_nil]
  have hl8 := hn.1
  rcases StepInv.round (by omega) hy with ⟨k, rfl, hk, hb, hz⟩ | rfl
  · rw [bif_true (by show decide ((k : Int) < ((askV x).length : Int)) = true; exact decide_eq_true (by omega))]
    dsimp only
    rw [pNat_coe, word_num]
    obtain ⟨q0, q1⟩ := num_at hn hk
    have hi := itoa_len q0 q1
    have hc := call_len x.1
    have h3 := blanks_len ((askV x).take k) fun q h => hn.2 q (List.mem_of_mem_take h)
    have hlk : ((askV x).take k).length ≤ 8 := by rw [List.length_take]; omega
    refine ⟨pIn_coe.2 hk, decide_eq_true (Int.le_trans (by decide) q0), decide_eq_true q1, fits_ba (a := [32]) (b := itoa _) (by show 1 + _ ≤ _; omega), fits_ba (by simp only [List.length_append, List.length_cons]; omega), hz _ ?_⟩
    rw [ba_app, blanks_take hk]
    simp
  · rw [bif_false (by show decide (((askV x).length : Int) < ((askV x).length : Int)) = false; exact decide_eq_false (by omega)), List.take_length]
    rfl
theorem asked_ok : MtG tabsW 21 casked := asked_meets ItoaW_ok fun x hp => by
  have hx : callF x = 0 := hp _ List.mem_cons_self
  have h := call_facts hx
  clear hp
  have hn := ask_nums h
  have hk := h.kind
  have hc := call_len x.1
  have k0 : ∀ {y : Int × ByteArray × Unit}, askInv x y → pLt y.1 0 = false := fun {y} ⟨k, _, e⟩ => by rw [e]; exact decide_eq_false (by omega)
  delta asked_VC
  refine ⟨⟨by omega, by show x.1 < 6; omega⟩, by delta asked_v0; rw [call_ba]; exact fits_ba (a := [32]) (by show 1 + _ ≤ _; omega), bif_ok (fun h2 => ?_) fun h2 => bif_ok (fun h3 => ?_) fun h3 => bif_ok (fun h4 => bif_ok (fun _ => ?_) fun e => absurd h4 (by rw [e]; simp)) fun h4 => bif_ok (fun h5 => ?_) fun h5 => ?_⟩
  · have hv : askV x = asked_v1 x := by unfold askV; rw [h2]; rfl
    exact ask_blk hv (hv ▸ hn)
  · have hv : askV x = asked_v3 x := by unfold askV; rw [h2, h3]; rfl
    exact ask_blk hv (hv ▸ hn)
  · have hv : askV x = [(x.2.1, ())] := by
      have e : x.1 = 4 := by simpa [pEq] using h4
      unfold askV; rw [e]; rfl
    exact ask_blk hv (hv ▸ hn)
  · have hv : askV x = [(x.2.1, ())] := by
      have e : x.1 = 5 := by simpa [pEq] using h5
      unfold askV; rw [e]; rfl
    exact ask_blk hv (hv ▸ hn)
  · have t : ∀ {i : Int}, pEq x.1 i = false → x.1 ≠ i := fun {i} a => by simpa [pEq] using a
    have := t h2; have := t h3; have := t h4; have := t h5
    have e : x.1 = 1 := by omega
    have hv : askV x = [] := by unfold askV; rw [e]; rfl
    obtain ⟨a, b⟩ := ask_blk hv (hv ▸ hn)
    refine ⟨a, fun y hy => ?_⟩
    rw [bif_false (k0 hy)]
    have := b y hy
    rw [bif_false (by have : pLt y.1 (pInt (pLen ([] : List ND))) = pLt y.1 0 := rfl; rw [this]; exact k0 hy)] at this
    exact this

theorem bl_ba (a b : List UInt8) : pApp (bl (ba a)) (bl (ba b)) = bl (ba (a ++ b)) := by rw [bl_app]; exact congrArg bl (ba_app a b)
theorem blba_len (a : List UInt8) : pLen (bl (ba a)) = a.length := by unfold pLen; rw [bl_len, ba_size]
theorem nl_bl : (((), (10 : Int), ()) :: vnil (PUnit × Int × PUnit)) = bl (ba [10]) := rfl
theorem Show_ok : MtG tabsW 7 cShow := Show_meets lCheck_ok.any liCheck_ok.any WriteString_ok.any values_ok.any ItoaW_ok asked_ok hex_ok.any WriteByte_ok.any BStr_ok fun c l hp => by
  have hc : pLen c.2.1 < 4611686018427387904 := hp (pLen c.2.1 < 4611686018427387904) (by simp)
  have hl : pLen l < 4611686018427387904 := hp (pLen l < 4611686018427387904) (by simp)
  have hq : ∀ q ∈ l, pLen q.2.2.2.2.2.1 < 4611686018427387904 := hp (∀ q ∈ l, pLen q.2.2.2.2.2.1 < 4611686018427387904) (by simp)
  clear hp
  delta Show_VC
  refine ⟨hc, bif_ok (fun h0 => show_cfg l h0) fun h0 => ?_⟩
  have h : pEq (cfgF c) 0 = true := by simpa [pNe, pEq] using h0
  refine bif_ok (fun hb => show_big h hb) fun hb => ?_
  have hb3 : ¬ ((l.length : Int) > 3000) := of_decide_eq_false hb
  refine ⟨⟨0, Nat.zero_le _, rfl, fun j hj => absurd hj (Nat.not_lt_zero j)⟩, fun y hy => ?_⟩
  obtain ⟨k, hk, rfl, ha⟩ := hy
  have v1 : Show_v1 l ((k : Int), ((), bl (ba (linesL (l.take k))), ()), ()) = pGet tyAct l k := by delta Show_v1; dsimp only; rw [pNat_coe]
  delta Show_v10 Show_v9 Show_v8 Show_v7 Show_v5 Show_v4 Show_v6 Show_v3 Show_v2
  dsimp only
  rw [v1]
  generalize hz : pGet tyAct l k = z
  by_cases hlt : k < l.length
  · rw [bif_true (by show decide ((k : Int) < (l.length : Int)) = true; exact decide_eq_true (by omega))]
    have hzl : z ∈ l := hz ▸ mem_pGet hlt
    have hfz : faultAt c l k = actF c z := by unfold faultAt; rw [hz]
    refine ⟨pIn_coe.2 hlt, hc, hq _ hzl, bif_ok (fun hf => ?_) fun hf => ?_⟩
    · rw [← hfz] at hf ⊢
      exact show_fault h hb hlt ha hf
    have hf0 : pEq (faultAt c l k) 0 = true := by rw [hfz]; simpa [pNe, pEq] using hf
    have hok : pOk z := ⟨c, by simpa [pNe, pEq] using hf⟩
    have ho := ok_facts hok
    have hn := vals_nums ho
    have hn1 := lines_len _ (take_okP hk ha)
    rw [List.length_take] at hn1
    have hw := word_len z.1
    have hkind := ho.kind
    have hvl := nums_len hn
    have next : ∀ t : List UInt8, tailL z = t → t.length ≤ 169 → shsInv c l (pAdd IntKind.i64 (k : Int) (1 : Int), ((), pApp (bl (ba (linesL (l.take k) ++ (wordL z.1 ++ blanksL (valsF z)) ++ t))) (((), (10 : Int), ()) :: vnil (PUnit × Int × PUnit)), ()), ()) ∧
        Nat.le (Nat.succ (shsMu c l (pAdd IntKind.i64 (k : Int) (1 : Int), ((), pApp (bl (ba (linesL (l.take k) ++ (wordL z.1 ++ blanksL (valsF z)) ++ t))) (((), (10 : Int), ()) :: vnil (PUnit × Int × PUnit)), ()), ()))) (shsMu c l ((k : Int), ((), bl (ba (linesL (l.take k))), ()), ())) := fun t ht _ => by
      have e : pApp (bl (ba (linesL (l.take k) ++ (wordL z.1 ++ blanksL (valsF z)) ++ t))) (((), (10 : Int), ()) :: vnil (PUnit × Int × PUnit)) = bl (ba (linesL (l.take (k + 1)))) := by
        rw [nl_bl, bl_ba, lines_take hlt, hz]
        unfold actLL
        rw [ht]
        simp only [List.append_assoc]
      rw [e, pAdd1 (by omega)]
      refine ⟨⟨k + 1, hlt, rfl, fun j hj => ?_⟩, ?_⟩
      · by_cases h1 : j = k
        · rw [h1]; exact hf0
        · exact ha j (by omega)
      · show l.length - ((k + 1 : Nat) : Int).toNat + 1 ≤ l.length - ((k : Nat) : Int).toNat
        simp only [Int.toNat_natCast]; omega
    have ew : pApp (bl (ba (linesL (l.take k)))) (bl (pGet tyS wordsT (pNat z.1)).1) = bl (ba (linesL (l.take k) ++ wordL z.1)) := by rw [word_ba]; exact bl_ba _ _
    have hl0 : (linesL (l.take k)).length ≤ 1011000 := by omega
    generalize linesL (l.take k) = L0 at *
    have hlw : pLen (bl (ba L0)) = L0.length := blba_len _
    refine ⟨⟨Int.le_trans (by decide) hkind.1, Int.lt_of_le_of_lt hkind.2 (by decide)⟩, ?_, decide_eq_true (by show (z.2.2.2.2.2.1.length : Int) ≤ 6; have := ho.keep; omega), ?_, ?_⟩
    · rw [hlw, word_ba, ba_len]
      show (L0.length + (wordL z.1).length) * 1 ≤ 140737488351232
      omega
    · rw [ew]
      refine StepInv.start ?_
      show (((), bl (ba (L0 ++ wordL z.1)), ()), ()) = (((), pApp (bl (ba (L0 ++ wordL z.1))) (bl (ba [])), ()), ())
      rw [bl_ba, List.append_nil]
    · rw [ew]
      intro y1 hy1
      rcases StepInv.round (by have := hn.1; omega) hy1 with ⟨k1, rfl, hk1, hb1, hz1⟩ | rfl
      · rw [bif_true (by show decide ((k1 : Int) < ((valsF z).length : Int)) = true; exact decide_eq_true (by omega))]
        dsimp only
        rw [pNat_coe, word_num]
        obtain ⟨q0, q1⟩ := num_at hn hk1
        have hi := itoa_len q0 q1
        have h3 := blanks_len ((valsF z).take k1) fun q h => hn.2 q (List.mem_of_mem_take h)
        have hlk : ((valsF z).take k1).length ≤ 8 := by rw [List.length_take]; have := hn.1; omega
        refine ⟨pIn_coe.2 hk1, decide_eq_true (Int.le_trans (by decide) q0), decide_eq_true q1, fits_ba (a := [32]) (b := itoa _) (by show 1 + _ ≤ _; omega), ?_, hz1 _ ?_⟩
        · rw [bl_ba, blba_len, ba_len]
          show ((L0 ++ wordL z.1 ++ blanksL ((valsF z).take k1)).length + (32 :: itoa (pGet tyN (valsF z) k1).1).length) * 1 ≤ 140737488351232
          simp only [List.length_append, List.length_cons]
          omega
        · rw [bl_ba, bl_ba, bl_ba, blanks_take hk1, List.append_assoc]
      · rw [bif_false (by show decide (((valsF z).length : Int) < ((valsF z).length : Int)) = false; exact decide_eq_false (by omega))]
        dsimp only
        rw [List.take_length, bl_ba, List.append_assoc]
        have hroom : ∀ t : List UInt8, t.length ≤ 169 → pRoom (pPlus (pLen (bl (ba (L0 ++ (wordL z.1 ++ blanksL (valsF z)) ++ t)))) 1) 1 := fun t ht => by
          rw [blba_len]
          show ((L0 ++ (wordL z.1 ++ blanksL (valsF z)) ++ t).length + 1) * 1 ≤ 140737488351232
          simp only [List.length_append]
          omega
        have hroom2 : ∀ t : List UInt8, t.length ≤ 169 → pRoom (pPlus (pLen (bl (ba (L0 ++ (wordL z.1 ++ blanksL (valsF z)))))) (pStrLen (ba t))) 1 := fun t ht => by
          rw [blba_len, ba_len]
          show ((L0 ++ (wordL z.1 ++ blanksL (valsF z))).length + t.length) * 1 ≤ 140737488351232
          simp only [List.length_append]
          omega
        refine bif_ok (fun k1 => ?_) fun k1 => bif_ok (fun k8 => ?_) fun k8 => ?_
        · have ec : (z.2.2.2.2.2.2.1, z.2.2.2.2.2.2.2.1, z.2.2.2.2.2.2.2.2.1, z.2.2.2.2.2.2.2.2.2.1, z.2.2.2.2.2.2.2.2.2.2.1, ()) = callOf z := rfl
          rw [ec]
          have hcall := ho.call k1
          have hal := asked_len (call_facts hcall)
          have ht : tailL z = askedL (callOf z) := by unfold tailL; rw [k1]; rfl
          have ea : askedF (callOf z) = ba (askedL (callOf z)) := rfl
          rw [ea, bl_ba]
          exact ⟨hcall, hroom2 _ hal, hroom _ hal, next _ ht hal⟩
        · have h60 := ho.line
          have hhl := hexL_len (lineOf z).data.toList
          rw [← size_eq] at hhl
          have ht : tailL z = 32 :: 46 :: hexL (lineOf z).data.toList := by unfold tailL; rw [k1, k8]; rfl
          have htl : (32 :: 46 :: hexL (lineOf z).data.toList).length ≤ 169 := by simp only [List.length_cons]; omega
          have eh : pStrApp (bs [32]) (hexF z.2.2.2.2.2.2.2.2.2.2.2.1) = ba (32 :: 46 :: hexL (lineOf z).data.toList) := ba_app [32] (46 :: hexL (lineOf z).data.toList)
          rw [eh, bl_ba]
          exact ⟨decide_eq_true (by show ((lineOf z).size : Int) ≤ 60; omega), fits_ba (a := [32]) (b := 46 :: hexL (lineOf z).data.toList) (by simp only [List.length_cons, List.length_nil]; omega), hroom2 _ htl, hroom _ htl, next _ ht htl⟩
        · have ht : tailL z = [] := by unfold tailL; rw [k1, k8]; rfl
          have hn0 := next [] ht (Nat.zero_le _)
          have hr0 := hroom [] (Nat.zero_le _)
          rw [List.append_nil] at hn0 hr0
          exact ⟨hr0, hn0⟩
  · obtain rfl : k = l.length := by omega
    rw [bif_false (by show decide ((l.length : Int) < (l.length : Int)) = false; exact decide_eq_false (by omega)), List.take_length]
    refine ⟨isBl_bl _, ?_⟩
    rw [unBl_bl]
    exact show_all h hb ha


end Go.Proofs.YtedjlbcclhgfmaaDoor

/- Closed facts of the whole program, each a theorem of its own (together in one declaration they pass the memory's lid). -/
namespace Go.Proofs.YtedjlbcclhgfmaaDoor
open Go.RowKit Go.ChangeShapes Go.WideShapes Go.ChangeAt

theorem and_b {a b : Bool} (h : a = true) (h' : b = true) : (a && b) = true := by rw [h, h']; rfl
theorem pg_mapsRowed : mapsRowed Tryd.prog = true := by kernel_rfl
theorem pg_stops : (Tryd.prog.stops == []) = true := by kernel_rfl
theorem pg_stopKnobs : (Tryd.prog.stopKnobs == []) = true := by kernel_rfl
theorem pg_plainKeys : (Rows.linesShowsRow.plainKeys == Tryd.prog.plainKeys) = true := by kernel_rfl
theorem pg_stopsHeard : Tryd.prog.stopsHeard = true := by kernel_rfl
theorem pg_mayEnter : Tryd.prog.mayEnter = true := by kernel_rfl
theorem pg_lifted : (Rows.linesShowsRow.lifted == Tryd.prog.liftsFinal) = true := by kernel_rfl
theorem pg_make : (Tryd.prog.make == some Rows.linesShowsRow.make) = true := by kernel_rfl
theorem pg_main : Tryd.pinned.checked.prog.mainIs = some ((true, "5ad421cb08b26c948f2e77e7cdb4a2f0b17b646645aac497d2f1ceeb78a4a55f").1, (true, "5ad421cb08b26c948f2e77e7cdb4a2f0b17b646645aac497d2f1ceeb78a4a55f").2.toList) := by kernel_rfl
theorem pg_looks : true = Tryd.pinned.checked.prog.looks [] := by kernel_rfl


end Go.Proofs.YtedjlbcclhgfmaaDoor

/- The law LinesShows: for every input it returns true and turns nothing. No condition. -/
namespace Go.Proofs.YtedjlbcclhgfmaaDoor
open Go.RowKit Go.ChangeShapes Go.WideShapes Go.ChangeAt Go.Deep

theorem var_row {W : World} {n : String} {g : Nat} {vals : Array Value} (hg : Tryd.prog.globalNamed n = some g) (h : W.var? Tryd.prog n = some vals) : ∃ T fz, W.heap[g]? = some (.cells vals T fz) := by
  unfold World.var? at h
  rw [hg, Option.bind_some] at h
  split at h
  · rename_i cs T fz e
    cases h
    exact ⟨T, fz, e⟩
  · cases h
theorem glob_cells {W : World} {g : Nat} {vals : Array Value} {T : TypeId} {fz : Nat × Nat} {cs : List C} (h : W.heap[g]? = some (.cells vals T fz)) (ha : All2 (CR W (fun b => b < W.heap.size) (fun _ => pl0 none 0) (fun _ => none)) cs vals.toList) (hi : idsCs cs = []) :
    GlobR W (fun b => b < W.heap.size) g (.cells cs) :=
  ⟨(Array.getElem?_eq_some_iff.1 h).1, vals, T, fz, h, ha, hi⟩
theorem ints_all {W : World} {N : Blk} {ρ : Nat → Pl} {m : Mem} {k : IntKind} : ∀ zs : List Int, All2 (CR W N ρ m) (zs.map (C.int k)) (zs.map (Value.int k))
  | [] => .nil
  | _ :: zs => .cons rfl (ints_all zs)
/-- a table of words, as the row's condition lays it -/
theorem words_glob {W : World} {n : String} {g t e m : Nat} {T : List SD} (h : Go.Lib.VarReads Tryd.prog W n (.agg (T.map fun x => .lit (.string x.1.data.toList)))) (hg : Tryd.prog.globalNamed n = some g)
    (hty : (Tryd.prog.globals[g]?).map (·.type) = some t) (ht : Tryd.prog.underlying t = some (.array m e)) (he : Tryd.prog.underlying e = some .string) (hce : Tryd.prog.cellsOf e = 1) (hm : T.length = m) (h0 : 0 < m) :
    GlobR W (fun b => b < W.heap.size) g (.rows tyS T) := by
  obtain ⟨g0, t0, cs, fuel, p, hg0, ht0, hv, hd⟩ := h
  obtain rfl := Option.some.inj (hg.symm.trans hg0)
  obtain rfl := Option.some.inj (hty.symm.trans ht0)
  have hcell : ∀ i, (hi : i < T.length) → W.cell? ⟨g, i, none⟩ = some (.string T[i].1) := fun i hi => by
    obtain ⟨fu, d, q, h1, h2⟩ := Go.Lib.array_elem ht hd i (by omega)
    obtain ⟨s, h3, h4, _⟩ := DataW.trod_string he h2
    rw [hce] at h3
    have h5 : cs.toList[i]? = some (.string s) := by
      have := congrArg (·[0]?) h3
      simpa [List.getElem?_take, List.getElem?_drop] using this
    have h6 : d = .lit (.string s.data.toList) := congrArg Prod.fst h4
    subst h6
    rw [List.getElem?_map, List.getElem?_eq_getElem hi] at h1
    simp only [Option.map_some, Option.some.injEq, DataW.lit.injEq, Lit.string.injEq] at h1
    rw [World.var?_cell hg hv i, ← Array.getElem?_toList, h5]
    exact congrArg (fun x => some (Value.string x)) (ba_eq h1).symm
  refine glob_rows (cell_lt (hcell 0 (by omega))) (T.map fun x => [.string x.1]) (fun i hi => ⟨[.string T[i].1], by rw [List.getElem?_map, List.getElem?_eq_getElem hi]; rfl, ⟨[_], [], rfl, rfl, rfl⟩⟩) fun i us j u hi hj => ?_
  rw [List.getElem?_map] at hi
  cases hr : T[i]? with
  | none => rw [hr] at hi; cases hi
  | some r =>
    rw [hr] at hi
    simp only [Option.map_some, Option.some.injEq] at hi
    subst hi
    obtain ⟨hlt, rfl⟩ := List.getElem?_eq_some_iff.1 hr
    match j, hj with
    | 0, hj =>
      have hj : some (Value.string T[i].1) = some u := hj
      rw [← hj]
      have := hcell i hlt
      rwa [show i * tyS.size + 0 = i from Nat.mul_one i]
set_option maxRecDepth 100000 in
theorem laidTabs {W : World} (h : laidMetH Tryd.prog Rows.linesShowsRow.laid W) : TabsW W := by
  rw [MakeChecks.laidMetH_plain _ _ _ (by kernel_rfl)] at h
  have h2 : laidMet Tryd.prog (("internal/strconv.uint64pow10", Go.Lib.tabData .u64 Go.Lib.pow10Tab) :: _) W := laidMet.tail (laidMet.tail h)
  have hv := Go.Lib.tabIs_of_head (g := 3) (t := 173) (e := 154) (n := 20) (by kernel_rfl) (by kernel_rfl) Tryd.underlying173 Tryd.underlying154 (by kernel_rfl) (by kernel_rfl) h2
  obtain ⟨T, fz, e⟩ := var_row (g := 3) (by kernel_rfl) hv
  have G0 : GlobR W (fun b => b < W.heap.size) 3 (.cells (Go.Lib.pow10Tab.map (C.int .u64))) := glob_cells e (ints_all _) rfl
  have r1 : Go.Lib.VarReads Tryd.prog W "reredos/lines.words" (.agg (wordsT.map fun x => .lit (.string x.1.data.toList))) := Go.Lib.laidMet.reads h (List.mem_cons_of_mem _ (List.mem_cons_of_mem _ (List.mem_cons_of_mem _ (List.mem_cons.2 (.inl rfl)))))
  have r2 : Go.Lib.VarReads Tryd.prog W "reredos/lines.calls" (.agg (callsT.map fun x => .lit (.string x.1.data.toList))) := Go.Lib.laidMet.reads h (List.mem_cons_of_mem _ (List.mem_cons_of_mem _ (List.mem_cons_of_mem _ (List.mem_cons_of_mem _ (List.mem_cons.2 (.inl rfl))))))
  have G1 := words_glob r1 (g := 0) (t := 61) (e := 9) (m := 9) (by kernel_rfl) (by kernel_rfl) Tryd.underlying61 Tryd.underlying9 (by kernel_rfl) rfl (by decide)
  have G2 := words_glob r2 (g := 1) (t := 110) (e := 9) (m := 6) (by kernel_rfl) (by kernel_rfl) Tryd.underlying110 Tryd.underlying9 (by kernel_rfl) rfl (by decide)
  intro g gl hgl
  unfold tabsW at hgl
  rw [look_cons] at hgl
  split at hgl
  · rename_i h; subst h; cases hgl; exact G0
  rw [look_cons] at hgl
  split at hgl
  · rename_i h; subst h; cases hgl; exact G1
  rw [look_cons] at hgl
  split at hgl
  · rename_i h; subst h; cases hgl; exact G2
  cases hgl

noncomputable def laidWorld_ (os : Os) : World := World.laidAll Tryd.prog os Rows.linesShowsRow.laid
def wit : Array Value := #[.agg #[.int .i64 0, .slice none 0 0, .int .i64 0], .slice none 0 0]
theorem laid_met_ (os : Os) : laidMet Tryd.prog Rows.linesShowsRow.laid ((laidWorld_ os).forCall (fun _ _ => 0) ⟨#[], wit, []⟩).memory :=
  laidMet_laidAll _ (by kernel_rfl) (by kernel_rfl)
theorem reads_ (os : Os) {H : Type} (enc : TypeId × Value → H) : ∃ places, DataW.whole enc Tryd.prog ((laidWorld_ os).forCall (fun _ _ => 0) ⟨#[], wit, []⟩).memory Tryd.f3.params.toList Rows.linesShowsSpec.vars false wit.toList 8 = some ([.agg [.lit (.int .i64 0), .nil, .lit (.int .i64 0)], .nil], [], places) :=
  ⟨[], by kernel_rfl⟩

theorem lines_walked (c : CfgD) (l : List ActD) (h1 : c.2.1.length * 16 ≤ 140737488351232) (h2 : l.length * 120 ≤ 140737488351232) (h3 : ∀ q ∈ l, q.2.2.2.2.2.1.length * 8 ≤ 140737488351232) : LinesShows_VC c l := by
  have k1 : c.2.1.length < 4611686018427387904 := by omega
  have k2 : l.length < 4611686018427387904 := by omega
  have k3 : ∀ q ∈ l, q.2.2.2.2.2.1.length < 4611686018427387904 := fun q hq => by have := h3 q hq; omega
  refine ⟨?_, k1, k2, k3, k1, k2, k3, ?_⟩
  · show (0 + l.length) * 120 ≤ 140737488351232
    omega
  · show bif pStrEq (showS c l) (showS c l) then (bif pEq (showI c l) (showI c l) then (pEq (showE c l) (showE c l), ()) = (true, ()) else _) else _
    rw [bif_true (strEq_iff.2 rfl), bif_true (by simp [pEq])]
    exact congrArg (·, ()) (by simp [pEq])

set_option maxRecDepth 100000 in
theorem linesShows_lifted (os : Os) (started : os.Started) (H : Type) (enc : TypeId × Value → H) (F : Stop.Interp) :
    ReturnsInHanded {} Tryd.checked os 3 .any ((OpenSpec.ofChange Rows.linesShowsSpec).preRow enc Tryd.prog Tryd.f3 Rows.linesShowsRow.domain false Rows.linesShowsRow.laid) (((OpenSpec.ofChange Rows.linesShowsSpec).at F).post enc Tryd.prog Tryd.f3 false true false false) := by
  obtain ⟨places, hx⟩ := reads_ os enc
  refine lift_card started _ _ Rows.linesShowsSpec Rows.linesShowsRow.laid Tryd.func3 (by kernel_rfl) rfl rfl (by kernel_rfl) ?_
    (witness_row_at (enc := enc) (C := Tryd.checked) false (laidWorld_ os) wit (World.laidAll_os _ _ _) (by kernel_rfl) (by kernel_rfl) (by kernel_rfl)
      (OpenSpec.preRow_of_cond 8 hx (by kernel_rfl) (fun k hk => by cases hk) (by kernel_rfl) (laid_met_ os))) ?_
  · intro ds hds
    match ds, hds with
    | [_, _], _ => rfl
  · intro W base args ds p hA hval hlt hsz hL hsh
    refine LinesShows_walk Show_ok ActsShown_ok.any (fun x h => ?_) W base args ds p hA hval hlt hsz (laidTabs hL)
    have c1 : x.1.2.1.length * 16 ≤ 140737488351232 := h.1.2.1.1
    have c2 : x.2.1.1.length * 120 ≤ 140737488351232 := h.2.1.1
    exact lines_walked _ _ c1 c2 fun q hq => (h.2.1.2 q hq).2.2.2.2.2.1.1

set_option maxRecDepth 100000 in
set_option maxHeartbeats 4000000 in
theorem linesShows_closed : joinedFacts Tryd.prog 3 Tryd.f3 (OpenSpec.ofChange Rows.linesShowsSpec).bare Rows.linesShowsRow = true := by
  unfold joinedFacts
  exact and_b (and_b (and_b (and_b (and_b (and_b (and_b (and_b (and_b (and_b (and_b (and_b (and_b (and_b (and_b (and_b (and_b (and_b (and_b (and_b (and_b (and_b (and_b (and_b (and_b (and_b (and_b (and_b (and_b (and_b (and_b ((by kernel_rfl)) Tryd.laidOut) pg_mapsRowed) (by kernel_rfl)) (by kernel_rfl)) (by kernel_rfl)) pg_stops) (by kernel_rfl)) pg_stopKnobs) (by kernel_rfl)) (by kernel_rfl)) (by kernel_rfl)) (by kernel_rfl)) (by kernel_rfl)) (by kernel_rfl)) (by kernel_rfl)) (by kernel_rfl)) (by kernel_rfl)) (by kernel_rfl)) (by kernel_rfl)) (by kernel_rfl)) (by kernel_rfl)) pg_plainKeys) (by kernel_rfl)) pg_stopsHeard) pg_mayEnter) pg_lifted) pg_make) (by kernel_rfl)) (by kernel_rfl)) (by kernel_rfl)) (by kernel_rfl)

theorem linesShows_said : Rows.LinesShowsSaid :=
  OpenClaim.holds_of_cond 3 Tryd.f3 rfl rfl rfl rfl rfl rfl rfl ⟨rfl, rfl, rfl, rfl, rfl⟩ rfl rfl rfl rfl rfl (by kernel_rfl) Tryd.func3 linesShows_closed
    (of_decide_eq_true (by kernel_rfl)) (by unfold Func.isWrapper; rw [if_neg (of_decide_eq_false (by kernel_rfl))]; exact ⟨rfl, rfl⟩)
    (fun os started H enc _ F => by rw [OpenClaim.pre_eq_preRow]; exact linesShows_lifted os started H enc F)

theorem linesShows_stand : Tryd.f3.params.all (fun t => !Tryd.pinned.checked.prog.wantsStandIn t) = true := by kernel_rfl
theorem linesShows_plain (f : FuncId) (fn : Func) (hf : Tryd.pinned.checked.prog.funcNamed "reredos/reredoslaw.LinesShows" = some f) (hfn : Tryd.pinned.checked.prog.funcs[f]? = some fn) :
    true = Tryd.pinned.checked.prog.looks [] ∧ ∀ (j : Nat) t, fn.params[j]? = some t → Tryd.pinned.checked.prog.wantsStandIn t = false := by
  obtain rfl : f = 3 := Option.some.inj ((show Tryd.prog.funcNamed "reredos/reredoslaw.LinesShows" = some 3 by kernel_rfl).symm.trans hf) |>.symm
  obtain rfl : fn = Tryd.f3 := (Option.some.inj (Tryd.func3.symm.trans hfn)).symm
  refine ⟨pg_looks, fun j t ht => ?_⟩
  have h := Array.all_eq_true_iff_forall_mem.1 linesShows_stand t (Array.mem_of_getElem? ht)
  simpa using h
theorem linesShows_wf : Rows.linesShowsRow.wfByText (OpenSpec.ofChange Rows.linesShowsSpec) = true := by kernel_rfl
theorem linesShows_goes : false = Rows.linesShowsRow.goesBy Tryd.pinned.checked.prog := by kernel_rfl

/-- LinesShows: the statement. -/
theorem linesShows_holds : Rows.LinesShowsCardSaid :=
  Claim7.holds_tied_plain_at .later [] _ _ _ _ linesShows_said (fun _ h => by cases h) linesShows_wf (fun _ h => by cases h) linesShows_row_tie rfl ⟨rfl, rfl⟩ pg_main rfl linesShows_plain linesShows_goes


end Go.Proofs.YtedjlbcclhgfmaaDoor
