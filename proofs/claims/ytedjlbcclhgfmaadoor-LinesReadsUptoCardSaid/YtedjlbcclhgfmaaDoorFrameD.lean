/- The frame of a law whose row lists package-level tables: from one walk to the row's statement. -/
import Derived.Test.YtedjlbcclhgfmaaDoorDec
import Derived.Test.YtedjlbcclhgfmaaDoorTie
import Derived.Test.YtedjlbcclhgfmaaDoorCards
import Derived.Carry
import Derived.SizedLaws
import Derived.ChangeSame
import Derived.Deep.DeepHandedRow
import Derived.Lib.LaidTab
import Derived.OpenShut
namespace Go.Proofs.YtedjlbcclhgfmaaDoor
open Go.ChangeShapes Go.WideShapes Go.ChangeAt Go.RowKit

theorem Tryd.own : ownKnob Tryd.prog.godebug = none := by kernel_rfl
theorem Tryd.laidOut : laidOutB Tryd.prog = true := by kernel_rfl

section
variable {H : Type} {enc : TypeId × Value → H} {P : Program}
theorem post_of_below {f : Func} {s : ChangeSpec} {apart fresh handsOn again : Bool} {W W' : World} {args : Array Value} {v : Value} {ds gs : List (DataW H)} {before pa pv : List MemPlace}
    (hW : DataW.Whole enc P f.params.toList s.vars apart W args.toList ds gs before)
    (hres : ∀ (b : Nat) (sp : Nat → Bool) (hd : Bool), DataW.TrodAll enc P W' b sp hd f.resultTypes.toList (v.resultList f.resultTypes.size) (s.fn H (ds ++ gs)).results [])
    (hargs : ∀ sp : Nat → Bool, (∀ p ∈ before, sp p.block = true) → DataW.TrodAll enc P W' 0 sp true f.params.toList args.toList (s.fn H (ds ++ gs)).args pa)
    (hvars : ∀ sp : Nat → Bool, (∀ p ∈ before, sp p.block = true) → DataW.TrodVars enc P W' sp s.vars (s.fn H (ds ++ gs)).vars pv)
    (hps : before = pa ++ pv) (hb : Below W.heap.size W W')
    (hok : ∀ (j : Nat) (t : TypeId) (r : Value), f.resultTypes[j]? = some t → (v.resultList f.resultTypes.size)[j]? = some r → Value.okWide P W' .any 0 t r) :
    s.post enc P f apart fresh handsOn again W args v W' := by
  have hlt : ∀ p ∈ before, p.block < W.heap.size := fun p hp => hW.lt p hp
  have hold : ∀ p ∈ before, (fun b => decide (b < W.heap.size)) p.block = true := fun p hp => by simpa using hlt p hp
  refine ⟨ds, gs, before, [], pa, pv, hW, hres _ _ _, hargs _ hold, hvars _ hold, World.keptBut_mono (fun p hp => ⟨hp, ?_⟩) (hb.frame (· ∈ before)), fun _ => ?_⟩
  · rw [hps, List.mem_append] at hp
    exact Or.inr hp
  · obtain ⟨_, _, _, _, _, hz, hn⟩ := hW
    refine ⟨hok, _, _, ([] ++ pa) ++ pv, ⟨[] ++ pa, pv, trodAll_append (hargs _ (fun _ _ => rfl)) (hres _ _ _), hvars _ (fun _ _ => rfl), rfl, ?_, ?_⟩, ?_⟩
    · intro b off hp
      have hin : MemPlace.cell b off ∈ before := by rw [hps]; simpa using hp
      rw [hb.frozen (hlt _ hin)]
      exact hz b off hin
    · intro ha
      have := hn ha
      rw [hps] at this
      simpa using this
    · intro p hp _
      rw [hps]
      simpa using hp

theorem trodAll_stays (hl : laidOutB P = true) {W W' : World} (hb : Below W.heap.size W W') {sp : Nat → Bool} :
    ∀ {ts : List TypeId} {vs : List Value} {ds : List (DataW H)} {p : List MemPlace}, (∀ t ∈ ts, P.readableRec t = true ∧ t < P.types.size) → DataW.TrodAll enc P W 0 (fun _ => true) true ts vs ds p →
      (∀ x ∈ p, x.block < W.heap.size) → (∀ x ∈ p, sp x.block = true) → DataW.TrodAll enc P W' 0 sp true ts vs ds p
  | [], _, _, _, _, h, _, _ => by
    cases ‹List Value› <;> cases ‹List (DataW H)› <;> first | exact h | exact h.elim
  | t :: ts, vs, ds, p, hr, h, hlt, hsp => by
    obtain ⟨v, vs1, d, ds1, a, b, rfl, rfl, rfl, h1, h2⟩ := trodAll_cons h
    obtain ⟨hr1, hr2⟩ := hr t (by simp)
    exact ⟨a, b, WideElems.Trod_stays hl hr1 hr2 h1 (fun x hx => hb.same (hlt x (by simp [hx]))) (fun x hx => hsp x (by simp [hx])),
      trodAll_stays hl hb (fun t' ht' => hr t' (by simp [ht'])) h2 (fun x hx => hlt x (by simp [hx])) (fun x hx => hsp x (by simp [hx])), rfl⟩

/-- a table of rows of bools, read: its cells -/
theorem cells_of_rows {w : World} {base : Nat} {sp : Nat → Bool} {held : Bool} {fuel : Nat} {t e eb : TypeId} {n m : Nat} {fs : Array Field} {cs : List Value} {rows : List (List Bool)} {p : List MemPlace}
    (ht : P.underlying t = some (.array n e)) (he : P.underlying e = some (.struct fs)) (hce : P.cellsOf e = m) (heb : P.underlying eb = some .bool) (hceb : P.cellsOf eb = 1)
    (hfs : ∀ j, j < m → ∃ f, fs[j]? = some f ∧ f.type = eb ∧ f.offset = j)
    (h : DataW.trod enc P w base sp held fuel t cs = some (.agg (rows.map fun r => .agg (r.map fun b => .lit (.bool b))), p)) :
    ∀ i j r b, i < n → j < m → rows[i]? = some r → r[j]? = some b → cs[i * m + j]? = some (.bool b) := by
  intro i j r b hi hj hr hb
  obtain ⟨xs, k, _, hx, _, hxl, hg⟩ := DataW.trod_array ht h
  simp only [Prod.mk.injEq, DataW.agg.injEq] at hx
  have h1 := hg i hi
  rw [hce, List.getElem?_eq_getElem (by omega)] at h1
  have h2 : (xs[i]'(by omega)).1 = DataW.agg (r.map fun b => .lit (.bool b)) := by
    have := congrArg (·[i]?) hx.1
    simp only [List.getElem?_map, hr, Option.map_some, List.getElem?_eq_getElem (show i < xs.length by omega), Option.some.injEq] at this
    exact this.symm
  obtain ⟨ys, k2, _, hy, _, hyl, hf⟩ := DataW.trod_struct he h1
  have hy1 : DataW.agg (ys.map (·.1)) = DataW.agg (r.map fun b => (.lit (.bool b) : DataW H)) := by rw [← h2, hy]
  simp only [DataW.agg.injEq] at hy1
  obtain ⟨f, hfj, hft, hfo⟩ := hfs j hj
  have h3 := hf j f hfj
  rw [hft, hfo, hceb] at h3
  have hjy : j < ys.length := by
    have := (Array.getElem?_eq_some_iff.1 hfj).1
    omega
  rw [List.getElem?_eq_getElem hjy] at h3
  obtain ⟨b', hc, hd⟩ := DataW.trod_bool heb h3
  have h4 : (ys[j]).1 = (.lit (.bool b) : DataW H) := by
    have := congrArg (·[j]?) hy1
    simp only [List.getElem?_map, hb, Option.map_some, List.getElem?_eq_getElem hjy, Option.some.injEq] at this
    exact this
  rw [hd] at h4
  simp only [DataW.lit.injEq, Lit.bool.injEq] at h4
  subst h4
  have := congrArg (·[0]?) hc
  simp only [List.getElem?_take, List.getElem?_drop, List.getElem?_cons_zero, Nat.add_zero] at this
  simpa [hj] using this
end

/-- what a law's frame hands to its walk -/
def WalkD (H : Type) (enc : TypeId × Value → H) (K : FuncId) (f : Func) (laid : List (String × DataW Unit)) : Prop :=
  ∀ (W : World) (base : Nat) (args : Array Value) (ds : List (DataW H)) (p : List MemPlace), DataW.TrodAll enc Tryd.prog W 0 (fun _ => true) true f.params.toList args.toList ds p →
      (∀ (j : Nat) (t : TypeId) (v : Value), f.params[j]? = some t → args[j]? = some v → Value.okWide Tryd.prog W .any base t v) →
      (∀ x ∈ p, x.block < W.heap.size) →
      (DataW.weightsEach Tryd.prog f.params.toList ds).all (· ≤ reachBytes) = true → laidMetH Tryd.prog laid W → W.ShapedOpen Tryd.prog →
      Calls Tryd.prog K args W fun e W' => e = .returned (.bool true) ∧ Below W.heap.size W W'

set_option maxRecDepth 100000 in
/-- THE FRAME. -/
theorem lift_card {H : Type} {enc : TypeId × Value → H} {os : Os} {F : Stop.Interp} (started : os.Started) (K : FuncId) (f : Func) (s : ChangeSpec) (laid : List (String × DataW Unit)) (hfn : Tryd.prog.funcs[K]? = some f) (noInit : Tryd.prog.inits.idxOf? K = none)
    (hvars : s.vars = []) (hrt : f.resultTypes = #[4]) (hread : f.params.toList.all (fun t => Tryd.prog.readableRec t && decide (t < Tryd.prog.types.size)) = true)
    (hspec : ∀ ds : List (DataW H), ds.length = f.params.toList.length → s.fn H ds = { results := [.lit (.bool true)], args := ds })
    (witness : ∃ (w : World) (tape : Tape) (i : Input), w.os = os ∧ (w.forCall tape i).Shaped Tryd.checked.prog ∧ i.vars = [] ∧ Input.okWide Tryd.checked.prog (w.forCall tape i) .any w.heap.size K i ∧
      (OpenSpec.ofChange s).preRow enc Tryd.checked.prog f [] false laid (w.forCall tape i).memory i.args ∧ ({} : Assume).holds Tryd.checked.prog (lone (Frame.enter Tryd.checked.prog K i.args .normal) [] (w.forCall tape i)))
    (walk : WalkD H enc K f laid) :
    ReturnsInHanded {} Tryd.checked os K .any ((OpenSpec.ofChange s).preRow enc Tryd.prog f [] false laid) (((OpenSpec.ofChange s).at F).post enc Tryd.prog f false true false false) := by
  refine returnsInHanded_of_row (C := Tryd.checked) (s := OpenSpec.ofChange s) Tryd.own started noInit hfn witness ?_
  intro W base args ds gs before hval0 hW _ _ hsz hL hSh _
  have hW' := hW
  obtain ⟨p, q, hA0, hV, rfl, hfz, hnd⟩ := hW
  have hV' : DataW.TrodVars enc Tryd.prog W (fun _ => true) [] gs q := by rw [← hvars]; exact hV
  obtain ⟨rfl, rfl⟩ := trodVars_none hV'
  have hA : DataW.TrodAll enc Tryd.prog W 0 (fun _ => true) true f.params.toList args.toList ds p := hA0
  have hlt : ∀ x ∈ p, x.block < W.heap.size := fun x hx => hW'.lt x (by simpa using hx)
  have hlen : ∀ {ts : List TypeId} {vs : List Value} {ds : List (DataW H)} {p : List MemPlace}, DataW.TrodAll enc Tryd.prog W 0 (fun _ => true) true ts vs ds p → ds.length = ts.length := by
    intro ts
    induction ts with
    | nil => intro vs ds p h; cases vs <;> cases ds <;> first | rfl | exact h.elim
    | cons t ts ih =>
      intro vs ds p h
      obtain ⟨v, vs1, d, ds1, a, b, rfl, rfl, rfl, h1, h2⟩ := trodAll_cons h
      simp [ih h2]
  have hs := hspec ds (hlen hA)
  have hvt : (OpenSpec.ofChange s).bare.plain.varTypes Tryd.checked.prog = [] := by
    show DataSpec.varTypes _ s.plain = []
    simp [DataSpec.varTypes, ChangeSpec.plain, hvars]
  rw [hvt, List.append_nil, List.append_nil] at hsz
  refine (walk W base args ds p hA hval0 hlt hsz hL hSh).mono fun e W' ⟨he, hb⟩ => ?_
  subst he
  refine ⟨_, rfl, ?_⟩
  show s.post enc Tryd.prog f false true false false W args _ W'
  refine post_of_below (pa := p) (pv := []) hW' ?_ ?_ ?_ (by simp) hb ?_
  · intro b sp hd
    rw [List.append_nil, hs, hrt]
    exact trodAll_mk1 (shut_bool Tryd.underlying4 true)
  · intro sp hsp
    rw [List.append_nil, hs]
    refine trodAll_stays Tryd.laidOut hb (fun t ht => ?_) hA hlt (fun x hx => hsp x (by simpa using hx))
    have := List.all_eq_true.1 hread t ht
    simpa using this
  · intro sp hsp
    rw [hvars, List.append_nil, hs]
    rfl
  · exact ok_one hrt rfl (okWide_bool_mk Tryd.underlying4 true)

end Go.Proofs.YtedjlbcclhgfmaaDoor
