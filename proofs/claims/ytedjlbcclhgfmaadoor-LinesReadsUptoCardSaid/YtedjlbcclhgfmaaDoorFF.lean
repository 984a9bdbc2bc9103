/- THE MACHINE OF READINGS, texts FC to FG as one. -/
import Derived.Test.YtedjlbcclhgfmaaDoorM4
import Derived.Test.YtedjlbcclhgfmaaDoorDec
import Derived.IntWalk
/- THE MACHINE OF READINGS, arguments: whatever reads as a datum of a type, within the reach, is a plain value of that type's readings. -/
namespace Go.Proofs.YtedjlbcclhgfmaaDoor
open Go.RowKit Go.ChangeShapes Go.WideShapes Go.Deep

def catFst : {a b : Ty} → (Ty.cat a b).den → a.den
  | .unit, _, _ => ()
  | .pair _ _, _, x => (x.1, catFst x.2)
  | .int _, _, x => x.1
  | .bool, _, x => x.1
  | .str, _, x => x.1
  | .sl _, _, x => x.1
  | .mark _ _, _, x => x.1
def catSnd : {a b : Ty} → (Ty.cat a b).den → b.den
  | .unit, _, x => x
  | .pair _ _, _, x => catSnd x.2
  | .int _, _, x => x.2
  | .bool, _, x => x.2
  | .str, _, x => x.2
  | .sl _, _, x => x.2
  | .mark _ _, _, x => x.2
def catMk : {a b : Ty} → a.den → b.den → (Ty.cat a b).den
  | .unit, _, _, y => y
  | .pair _ _, _, x, y => (x.1, catMk x.2 y)
  | .int _, _, x, y => (x, y)
  | .bool, _, x, y => (x, y)
  | .str, _, x, y => (x, y)
  | .sl _, _, x, y => (x, y)
  | .mark _ _, _, x, y => (x, y)

/-- a type, and what holds of data of it -/
structure TyW where
  ty : Ty
  ok : ty.den → Prop
def TyW.cat (a b : TyW) : TyW := ⟨Ty.cat a.ty b.ty, fun x => a.ok (catFst x) ∧ b.ok (catSnd x)⟩

/-- the type of data that a type's values read as, and its bounds -/
def tyW (P : Program) : Nat → TypeId → TyW
  | 0, _ => ⟨.unit, fun _ => True⟩
  | n + 1, t => match P.underlying t with
    | some .bool => ⟨.pair .bool .unit, fun _ => True⟩
    | some (.int k) => ⟨.pair (.int k) .unit, fun x => k.min ≤ x.1 ∧ x.1 ≤ k.max⟩
    | some .string => ⟨.pair .str .unit, fun x => x.1.size ≤ 140737488351232⟩
    | some (.slice e) => ⟨.pair (.sl (tyW P n e).ty) .unit, fun x => x.1.length * P.bytesOf e ≤ 140737488351232 ∧ ∀ y ∈ x.1, (tyW P n e).ok y⟩
    | some (.struct fs) => fs.toList.foldr (fun f r => (tyW P n f.type).cat r) ⟨.unit, fun _ => True⟩
    | _ => ⟨.unit, fun _ => True⟩

/-- a check: the type reads so -/
def fieldsOk (P : Program) (g : TypeId → Bool) (sz : TypeId → Nat) : List Field → Nat → Nat → Bool
  | [], off, total => Nat.beq off total
  | f :: fs, off, total => Nat.beq f.offset off && g f.type && fieldsOk P g sz fs (off + sz f.type) total
def readOk (P : Program) : Nat → TypeId → Bool
  | 0, _ => false
  | n + 1, t => match P.underlying t with
    | some .bool => Nat.beq (P.cellsOf t) 1
    | some (.int _) => Nat.beq (P.cellsOf t) 1
    | some .string => Nat.beq (P.cellsOf t) 1
    | some (.slice e) => Nat.beq (P.cellsOf t) 1 && readOk P n e && Nat.blt 0 (tyW P n e).ty.size
    | some (.struct fs) => fieldsOk P (readOk P n) (fun t => (tyW P n t).ty.size) fs.toList 0 (P.cellsOf t) && Nat.beq (P.cellsOf t) (tyW P (n + 1) t).ty.size
    | _ => false

def RdR (t : TyW) : ER t.ty.den := fun w B cs x => Rd t.ty w (fun b => b < B) cs x ∧ t.ok x

theorem rd_cat {w : World} {N : Blk} : ∀ {a b : Ty} {u v : List Value} {x : a.den} {y : b.den}, Rd a w N u x → Rd b w N v y → Rd (Ty.cat a b) w N (u ++ v) (catMk x y)
  | .unit, _, _, _, _, _, h, h2 => by have h : _ = _ := h; subst h; exact h2
  | .pair _ _, _, _, _, x, y, h, h2 => by
    obtain ⟨v1, v2, rfl, h3, h4⟩ := h
    exact ⟨v1, _, by rw [List.append_assoc], h3, rd_cat h4 h2⟩
  | .int _, _, _, _, x, y, h, h2 => ⟨_, _, rfl, h, h2⟩
  | .bool, _, _, _, x, y, h, h2 => ⟨_, _, rfl, h, h2⟩
  | .str, _, _, _, x, y, h, h2 => ⟨_, _, rfl, h, h2⟩
  | .sl _, _, _, _, x, y, h, h2 => ⟨_, _, rfl, h, h2⟩
  | .mark _ _, _, _, _, x, y, h, h2 => ⟨_, _, rfl, h, h2⟩
theorem catFst_mk : ∀ {a b : Ty} {x : a.den} {y : b.den}, catFst (a := a) (b := b) (catMk x y) = x
  | .unit, _, _, _ => rfl
  | .pair _ _, _, x, y => by simp only [catMk, catFst]; rw [catFst_mk]
  | .int _, _, _, _ => rfl
  | .bool, _, _, _ => rfl
  | .str, _, _, _ => rfl
  | .sl _, _, _, _ => rfl
  | .mark _ _, _, _, _ => rfl
theorem catSnd_mk : ∀ {a b : Ty} {x : a.den} {y : b.den}, catSnd (a := a) (b := b) (catMk x y) = y
  | .unit, _, _, _ => rfl
  | .pair _ _, _, x, y => by simp only [catMk, catSnd]; exact catSnd_mk
  | .int _, _, _, _ => rfl
  | .bool, _, _, _ => rfl
  | .str, _, _, _ => rfl
  | .sl _, _, _, _ => rfl
  | .mark _ _, _, _, _ => rfl

theorem rd_nilPair {t : Ty} {w : World} {N : Blk} {us : List Value} {x : t.den} (h : Rd t w N us x) : Rd (.pair t .unit) w N us (x, ()) := ⟨us, [], by simp, h, rfl⟩

theorem fields_dec {P : Program} {n : Nat} (hD : ∀ t, readOk P n t = true → Dec P t (tyW P n t).ty.size (RdR (tyW P n t))) :
    ∀ {fs : List Field} {off total : Nat}, fieldsOk P (readOk P n) (fun t => (tyW P n t).ty.size) fs off total = true → FDec P fs off total (RdR (fs.foldr (fun f r => (tyW P n f.type).cat r) ⟨.unit, fun _ => True⟩))
  | [], off, total, h => by
    simp only [fieldsOk, Nat.beq_eq] at h
    intro H enc w held fuel cs hl _
    exact ⟨(), List.drop_eq_nil_of_le (by omega), trivial⟩
  | f :: fs, off, total, h => by
    simp only [fieldsOk, Bool.and_eq_true, Nat.beq_eq] at h
    obtain ⟨⟨h1, h2⟩, h3⟩ := h
    have := FDec.cons h1 (hD _ h2) (fields_dec hD h3)
    intro H enc w held fuel cs hl hf
    obtain ⟨⟨x, y⟩, a, b, e, ⟨ha, hx⟩, hb, hy⟩ := this H enc w held fuel cs hl hf
    refine ⟨catMk x y, ?_, ?_, ?_⟩
    · rw [e]; exact rd_cat ha hb
    · rw [catFst_mk]; exact hx
    · rw [catSnd_mk]; exact hy

theorem dec_any {P : Program} {t : TypeId} {sz : Nat} {α : Type} {R S : ER α} (h : Dec P t sz R) (hi : ∀ w B cs x, R w B cs x → S w B cs x) : Dec P t sz S := h.imp fun w B cs x hx => ⟨x, hi w B cs x hx⟩

/-- WHAT PASSES THE CHECK READS SO. -/
theorem dec_ty {P : Program} : ∀ {n : Nat} {t : TypeId}, readOk P n t = true → Dec P t (tyW P n t).ty.size (RdR (tyW P n t))
  | 0, _, h => by simp [readOk] at h
  | n + 1, t, h => by
    have h0 := h
    unfold readOk at h
    split at h
    · rename_i hu
      simp only [Nat.beq_eq] at h
      have e : tyW P (n + 1) t = ⟨.pair .bool .unit, fun _ => True⟩ := by unfold tyW; rw [hu]
      rw [e]
      exact (dec_bool hu h).imp fun w B cs x hx => ⟨(x, ()), rd_nilPair (t := .bool) hx, trivial⟩
    · rename_i k hu
      simp only [Nat.beq_eq] at h
      have e : tyW P (n + 1) t = ⟨.pair (.int k) .unit, fun x => k.min ≤ x.1 ∧ x.1 ≤ k.max⟩ := by unfold tyW; rw [hu]
      rw [e]
      refine ⟨h, fun H enc w held fuel cs y hy _ => ?_⟩
      obtain ⟨m, rfl, _, hw⟩ := DataW.trod_int hu hy
      refine ⟨rfl, (m, ()), rd_nilPair (t := .int k) rfl, ?_⟩
      simpa [Lit.wf] using hw
    · rename_i hu
      simp only [Nat.beq_eq] at h
      have e : tyW P (n + 1) t = ⟨.pair .str .unit, fun x => x.1.size ≤ 140737488351232⟩ := by unfold tyW; rw [hu]
      rw [e]
      exact (dec_str hu h).imp fun w B cs x hx => ⟨(x, ()), rd_nilPair (t := .str) hx.1, hx.2⟩
    · rename_i el hu
      simp only [Bool.and_eq_true, Nat.beq_eq, Nat.blt_eq] at h
      obtain ⟨⟨h1, h2⟩, h3⟩ := h
      have e : tyW P (n + 1) t = ⟨.pair (.sl (tyW P n el).ty) .unit, fun x => x.1.length * P.bytesOf el ≤ 140737488351232 ∧ ∀ y ∈ x.1, (tyW P n el).ok y⟩ := by
        conv => lhs; unfold tyW
        rw [hu]
      rw [e]
      letI : Inhabited (tyW P n el).ty.den := ⟨Ty.dflt _⟩
      refine (dec_slice hu h1 rfl h3 (dec_ty h2)).imp fun w B cs x hx => ?_
      obtain ⟨A, m, c, rfl, hl, hc, hmax, hby, hat⟩ := hx
      refine ⟨(x, ()), rd_nilPair (t := .sl _) ⟨A, m, c, rfl, hl, hc, fun hm => ?_⟩, by rw [hl]; exact hby, fun y hy => ?_⟩
      · obtain ⟨b, off, hA, hb, he⟩ := hat hm
        refine ⟨b, off, hA, hb, fun k hk => ?_⟩
        obtain ⟨us, hul, hr, hcells⟩ := he k x[k] (List.getElem?_eq_getElem hk)
        exact ⟨us, hr.1, hul, hcells⟩
      · obtain ⟨k, hk, rfl⟩ := List.getElem_of_mem hy
        have hk' : k < m := by rw [← hl]; exact hk
        obtain ⟨b, off, hA, hb, he⟩ := hat (Nat.lt_of_le_of_lt (Nat.zero_le k) hk')
        obtain ⟨us, hul, hr, hcells⟩ := he k x[k] (List.getElem?_eq_getElem hk)
        exact hr.2
    · rename_i fs hu
      simp only [Bool.and_eq_true, Nat.beq_eq] at h
      have e : tyW P (n + 1) t = fs.toList.foldr (fun f r => (tyW P n f.type).cat r) ⟨.unit, fun _ => True⟩ := by
        conv => lhs; unfold tyW
        rw [hu]
      rw [← h.2, e]
      exact dec_struct hu rfl (fields_dec (fun t ht => dec_ty ht) h.1)
    · cases h

end Go.Proofs.YtedjlbcclhgfmaaDoor

/- THE MACHINE OF READINGS, laws: what the evaluator says of a law's function, of all arguments, is its walk. -/
namespace Go.Proofs.YtedjlbcclhgfmaaDoor
open Go.RowKit Go.ChangeShapes Go.WideShapes Go.Deep

@[reducible] def denTs (P : Program) : List TypeId → Type
  | [] => Unit
  | t :: ts => (tyW P 8 t).ty.den × denTs P ts
def okTs (P : Program) : (ts : List TypeId) → denTs P ts → Prop
  | [], _ => True
  | t :: ts, x => (tyW P 8 t).ok x.1 ∧ okTs P ts x.2
def svsOf (P : Program) : (ts : List TypeId) → denTs P ts → List SV
  | [], _ => []
  | t :: ts, x => .v (isAggT P t) (cellsOf (tyW P 8 t).ty x.1) :: svsOf P ts x.2

section
variable {H : Type} {enc : TypeId × Value → H} {P : Program} {W : World} {N : Blk} {ρ : Nat → Pl} {m : Mem}

theorem arg_one {base : Nat} {t : TypeId} {v : Value} {d : DataW H} {p : List MemPlace} (hr : readOk P 8 t = true) (hok : Value.okWide P W .any base t v)
    (ht : DataW.Trod enc P W 0 (fun _ => true) true t v d p) (hw : okW P t d) : ∃ x : (tyW P 8 t).ty.den, (tyW P 8 t).ok x ∧ SVR W (fun b => b < W.heap.size) ρ m (.v (isAggT P t) (cellsOf (tyW P 8 t).ty x)) v := by
  obtain ⟨hl, x, hx, hxo⟩ := (dec_ty hr).arg ht hw
  refine ⟨x, hxo, ?_⟩
  have hc : All2 (CR W (fun b => b < W.heap.size) ρ m) (cellsOf (tyW P 8 t).ty x) v.cells.toList := hx.cells
  cases ha : isAggT P t with
  | true =>
    unfold isAggT at ha
    split at ha
    · rename_i dsc hu
      unfold Value.okWide at hok
      rw [hu] at hok
      cases dsc <;> simp only [isAggD, Bool.false_eq_true] at ha
      all_goals
        obtain ⟨cs, rfl, _⟩ := hok
        exact ⟨cs.toList, by simp, by simpa [Value.cells] using hc⟩
    · cases ha
  | false =>
    have hone : v.cells = #[v] := by
      have hr0 := hr
      unfold readOk at hr0
      split at hr0
      · rename_i hu; obtain ⟨b, rfl⟩ := okWide_bool hu hok; rfl
      · rename_i hu; obtain ⟨b, rfl⟩ := okWide_int hu hok; rfl
      · rename_i hu; obtain ⟨b, rfl⟩ := okWide_string hu hok; rfl
      · rename_i hu; obtain ⟨a, b, c, rfl⟩ := okWide_slice hu hok; rfl
      · rename_i hu; unfold isAggT at ha; rw [hu] at ha; cases ha
      · cases hr0
    rw [hone] at hc
    generalize cellsOf (tyW P 8 t).ty x = cs at hc
    cases hc with
    | cons h1 h2 => cases h2; exact ⟨_, rfl, h1⟩

theorem args_all {base : Nat} : ∀ {ts : List TypeId} {vs : List Value} {ds : List (DataW H)} {p : List MemPlace}, (∀ t ∈ ts, readOk P 8 t = true) →
    (∀ (j : Nat) (t : TypeId) (v : Value), ts[j]? = some t → vs[j]? = some v → Value.okWide P W .any base t v) → DataW.TrodAll enc P W 0 (fun _ => true) true ts vs ds p → (DataW.weightsEach P ts ds).all (· ≤ reachBytes) = true →
    ∃ x : denTs P ts, okTs P ts x ∧ All2 (SVR W (fun b => b < W.heap.size) ρ m) (svsOf P ts x) vs
  | [], vs, ds, p, _, _, h, _ => by
    cases vs with
    | nil => exact ⟨(), trivial, .nil⟩
    | cons v vs => cases ds <;> exact h.elim
  | t :: ts, vs, ds, p, hr, hok, h, hw => by
    obtain ⟨v, vs1, d, ds1, a, b, rfl, rfl, rfl, h1, h2⟩ := trodAll_cons h
    have hw1 : okW P t d := weightsEach_get hw (i := 0) rfl rfl
    have hw2 : (DataW.weightsEach P ts ds1).all (· ≤ reachBytes) = true := by
      rw [DataW.weightsEach, List.all_append, Bool.and_eq_true] at hw; exact hw.2
    obtain ⟨x, hx, hsv⟩ := arg_one (ρ := ρ) (m := m) (hr t (by simp)) (hok 0 t v rfl rfl) h1 hw1
    obtain ⟨y, hy, hsvs⟩ := args_all (fun t ht => hr t (by simp [ht])) (fun j t v hj hv => hok (j + 1) t v (by simpa using hj) (by simpa using hv)) h2 hw2
    exact ⟨(x, y), ⟨hx, hy⟩, .cons hsv hsvs⟩

end

theorem svs_ids {P : Program} : ∀ {ts : List TypeId} {x : denTs P ts}, ∀ s ∈ svsOf P ts x, idsS s = []
  | [], _, s, h => by cases h
  | t :: ts, x, s, h => by
    rcases List.mem_cons.1 h with rfl | h
    · exact cellsOf_ids _ _
    · exact svs_ids s h

/-- THE WALK OF A LAW. -/
theorem law_walkG {H : Type} {enc : TypeId × Value → H} {E : Env} (hE : E.Ok) (G : World → Prop) (hg : ∀ W, G W → ∀ g gl, E.glob g = some gl → GlobR W (fun b => b < W.heap.size) g gl) {K : FuncId} {f : Func} (A : denTs E.P f.params.toList → Nat → St → Option Ann) (hf : E.P.funcs[K]? = some f) (hr : f.params.toList.all (readOk E.P 8) = true)
    (h : ∀ x : denTs E.P f.params.toList, okTs E.P f.params.toList x → afn E (A x) f (svsOf E.P f.params.toList x) [] [] [.slot 0 false .bool] fun y => y = (true, ())) :
    ∀ (W : World) (base : Nat) (args : Array Value) (ds : List (DataW H)) (p : List MemPlace), DataW.TrodAll enc E.P W 0 (fun _ => true) true f.params.toList args.toList ds p →
      (∀ (j : Nat) (t : TypeId) (v : Value), f.params[j]? = some t → args[j]? = some v → Value.okWide E.P W .any base t v) →
      (∀ x ∈ p, x.block < W.heap.size) →
      (DataW.weightsEach E.P f.params.toList ds).all (· ≤ reachBytes) = true → G W →
      Calls E.P K args W fun e W' => e = .returned (.bool true) ∧ Below W.heap.size W W' := by
  intro W base args ds p hA hval _ hsz hG
  obtain ⟨x, hx, hsv⟩ := args_all (ρ := fun _ => pl0 none 0) (m := memOf []) (fun t ht => by simpa using List.all_eq_true.1 hr t ht) (fun j t v hj hv => hval j t v (by simpa using hj) (by simpa using hv)) hA hsz
  have hno : ∀ b, ¬ Own (fun _ => pl0 none 0) (memOf []) b := fun b ⟨id, o, ho, _⟩ => by cases ho
  have := spec_of hE (A x) hf (h x hx) (fun y hy => hy) W (fun b => b < W.heap.size) (fun _ => pl0 none 0) args.toList (hg W hG)
    ⟨(fun id o ho => by cases ho), (fun id id' o o' b ho => by cases ho), fun b _ => hno b, fun b hb => hb⟩ hsv (fun s hs id hid => by rw [svs_ids s hs] at hid; cases hid) (fun n o ho => by cases ho)
  rw [show args.toList.toArray = args by simp] at this
  refine this.mono fun e W' he => ?_
  obtain ⟨v, ρ', N', rfl, _, _, _, hv, hs, _, _⟩ := he
  obtain ⟨c, hc, hv⟩ := hv
  have hc : [C.bool true] = [c] := hc
  simp only [List.cons.injEq, and_true] at hc
  subst hc
  have hv : v = .bool true := hv
  subst hv
  exact ⟨rfl, hs.os, hs.tape, hs.output, hs.size, fun k hk => hs.keep k hk (hno k)⟩

/-- A FUNCTION MEETS A CONTRACT when the evaluator comes to what is plainly so. -/
theorem meets_vc {E : Env} (hE : E.Ok) (S : Shape) (A : S.den → Nat → St → Option Ann) {K : FuncId} {fn : Func} (hf : E.P.funcs[K]? = some fn) (hb : fn.body.isSome = true) (hn : (fn.name == "runtime.NumGoroutine") = false)
    (pre : S.den → List Prop) (dead : List Nat) (vs : List Var) (f : S.den → denVars vs) (VC : S.den → Prop) (he : ∀ x, afn E (A x) fn (S.args x) (S.mem x) dead vs (fun y => y = f x) = VC x)
    (h : ∀ x, (∀ p ∈ pre x, p) → VC x) : Meets E.P E.glob K (shCtr S pre dead vs f) :=
  meets_of hE S A hf hb hn pre dead vs f fun x hp => by rw [he x]; exact h x hp

/-- an environment of contracts and tables, by the functions' numbers -/
def envOfG (P : Program) (g : Nat → Option Gl) (l : List (FuncId × (Bool × Ctr))) (eqs : List TypeId) : Env := { P := P, ctr := look l, glob := g, eqs := eqs }
theorem envOfG_ok {P : Program} {g : Nat → Option Gl} {l : List (FuncId × (Bool × Ctr))} {eqs : List TypeId} (hl : ∀ p ∈ l, Meets P g p.1 p.2.2) (he : eqs.all (eqOk P) = true) : (envOfG P g l eqs).Ok :=
  ⟨fun K keep c h => hl _ (look_mem (show look l K = some (keep, c) from h)), fun T hT => eqT_of (List.all_eq_true.1 he T hT), fun _ _ _ h => by cases h⟩
/-- … where some slices' elements have own rows (ns), and loops name some slots anew (rs) -/
def envN (P : Program) (g : Nat → Option Gl) (l : List (FuncId × (Bool × Ctr))) (eqs : List TypeId) (ns : List (TypeId × List Nat)) (rs : List Nat) : Env := { P := P, ctr := look l, glob := g, eqs := eqs, nst := fun t => (look ns t).getD [], ren := rs }
theorem envN_ok {P : Program} {g : Nat → Option Gl} {l : List (FuncId × (Bool × Ctr))} {eqs : List TypeId} {ns : List (TypeId × List Nat)} {rs : List Nat} (hl : ∀ p ∈ l, Meets P g p.1 p.2.2) (he : eqs.all (eqOk P) = true) : (envN P g l eqs ns rs).Ok := by
  have h := envOfG_ok (P := P) (g := g) hl he
  exact ⟨h.ctr, h.eqs, fun _ _ _ h => by cases h⟩
/-- … and some functions' code is taken in; det: for code of one ending alone -/
def envI (P : Program) (g : Nat → Option Gl) (l : List (FuncId × (Bool × Ctr))) (il : List (FuncId × (Bool × CtrK))) (eqs : List TypeId) (ns : List (TypeId × List Nat)) (rs : List Nat) (det : Bool) : Env := { P := P, ctr := look l, glob := g, eqs := eqs, nst := fun t => (look ns t).getD [], ren := rs, inl := look il, det := det }
theorem envI_ok {P : Program} {g : Nat → Option Gl} {l : List (FuncId × (Bool × Ctr))} {il : List (FuncId × (Bool × CtrK))} {eqs : List TypeId} {ns : List (TypeId × List Nat)} {rs : List Nat} {det : Bool} (hl : ∀ p ∈ l, Meets P g p.1 p.2.2) (hi : ∀ p ∈ il, MeetsK P g p.1 p.2.1 p.2.2) (he : eqs.all (eqOk P) = true) : (envI P g l il eqs ns rs det).Ok := by
  have h := envOfG_ok (P := P) (g := g) hl he
  exact ⟨h.ctr, h.eqs, fun K d k hk => hi _ (look_mem (show look il K = some (d, k) from hk))⟩
/-- an environment of contracts, by the functions' numbers -/
def envOf (P : Program) (l : List (FuncId × (Bool × Ctr))) (eqs : List TypeId) : Env := { P := P, ctr := look l, glob := fun _ => none, eqs := eqs }
theorem envOf_ok {P : Program} {l : List (FuncId × (Bool × Ctr))} {eqs : List TypeId} (hl : ∀ p ∈ l, Meets P (fun _ => none) p.1 p.2.2) (he : eqs.all (eqOk P) = true) : (envOf P l eqs).Ok :=
  ⟨fun K keep c h => hl _ (look_mem (show look l K = some (keep, c) from h)), fun T hT => eqT_of (List.all_eq_true.1 he T hT), fun _ _ _ h => by cases h⟩

end Go.Proofs.YtedjlbcclhgfmaaDoor

/- THE MACHINE OF READINGS, laws of the plain words: counting, places. -/
namespace Go.Proofs.YtedjlbcclhgfmaaDoor
open Go.RowKit Go.IntWalk

theorem pNat_coe (k : Nat) : pNat (k : Int) = k := by simp [pNat]
theorem pAdd1 {k : Nat} (h : k < 4611686018427387904) : pAdd .i64 (k : Int) 1 = ((k + 1 : Nat) : Int) := by
  unfold pAdd; rw [i64_in _ (by omega)]; omega
theorem pSub1 {k : Nat} (h : k < 4611686018427387904) (h0 : 0 < k) : pSubI .i64 (k : Int) 1 = ((k - 1 : Nat) : Int) := by
  unfold pSubI; rw [i64_in _ (by omega)]; omega
theorem pAdd_in {a b : Int} (h : -9223372036854775808 ≤ a + b ∧ a + b ≤ 9223372036854775807) : pAdd .i64 a b = a + b := i64_in _ h
theorem pSubI_in {a b : Int} (h : -9223372036854775808 ≤ a - b ∧ a - b ≤ 9223372036854775807) : pSubI .i64 a b = a - b := i64_in _ h
theorem pIn_coe {k n : Nat} : pIn (k : Int) n ↔ k < n := by unfold pIn; omega
theorem pTo_coe {k n : Nat} : pTo (k : Int) n ↔ k ≤ n := by unfold pTo; omega
theorem pLt_coe {k n : Nat} : pLt (k : Int) (pInt n) = decide (k < n) := by unfold pLt pInt; rw [Bool.eq_iff_iff]; simp
theorem pLe_coe {k n : Nat} : pLe (k : Int) (pInt n) = decide (k ≤ n) := by unfold pLe pInt; rw [Bool.eq_iff_iff]; simp
theorem bif_true {α : Sort _} {b : Bool} {x y : α} (h : b = true) : (bif b then x else y) = x := by subst h; rfl
theorem bif_false {α : Sort _} {b : Bool} {x y : α} (h : b = false) : (bif b then x else y) = y := by subst h; rfl

/-- places from 0 to n: all of them -/
def allUpto (p : Nat → Bool) (n : Nat) : Bool := (List.range n).all p
theorem allUpto_true {p : Nat → Bool} {n : Nat} (h : ∀ j, j < n → p j = true) : allUpto p n = true := by
  simpa [allUpto] using h
theorem allUpto_false {p : Nat → Bool} {n j : Nat} (hj : j < n) (h : p j = false) : allUpto p n = false := by
  cases hq : allUpto p n with
  | false => rfl
  | true =>
    have : ∀ j, j < n → p j = true := by simpa [allUpto] using hq
    rw [this j hj] at h; cases h
theorem allUpto_iff {p : Nat → Bool} {n : Nat} : allUpto p n = true ↔ ∀ j, j < n → p j = true := by simp [allUpto]

theorem bif_ok {b : Bool} {X Y : Prop} (h1 : b = true → X) (h2 : b = false → Y) : bif b then X else Y := by cases b <;> simp_all
theorem leafF {b : Bool} (h : b = true → False) : (false, ()) = (b, ()) := by cases b <;> simp_all
theorem leafT {b : Bool} (h : b = false → False) : (true, ()) = (b, ()) := by cases b <;> simp_all
theorem leafE {α : Type} {a b : α} (h : a = b) : (a, ()) = (b, ()) := by rw [h]
theorem allUpto_at {p : Nat → Bool} {n k : Nat} (h : allUpto p n = true) (hk : k < n) : p k = true := allUpto_iff.1 h k hk

/-- a loop over places: all held so far -/
def UpInv (p : Nat → Bool) (n : Nat) (y : Int × Unit) : Prop := ∃ k : Nat, y.1 = (k : Int) ∧ k ≤ n ∧ ∀ j, j < k → p j = true
def UpMu (n : Nat) (y : Int × Unit) : Nat := n - y.1.toNat

theorem UpInv.start {p : Nat → Bool} {n : Nat} : UpInv p n (0, ()) := ⟨0, rfl, Nat.zero_le _, fun j hj => absurd hj (by omega)⟩
theorem UpInv.next {p : Nat → Bool} {n k : Nat} (hk : k < n) (hb : k < 4611686018427387904) (ha : ∀ j, j < k → p j = true) (h : p k = true) : UpInv p n (pAdd .i64 (k : Int) 1, ()) ∧ Nat.le (Nat.succ (UpMu n (pAdd .i64 (k : Int) 1, ()))) (UpMu n ((k : Int), ())) := by
  rw [pAdd1 hb]
  refine ⟨⟨k + 1, rfl, hk, fun j hj => ?_⟩, ?_⟩
  · by_cases h1 : j = k
    · subst h1; exact h
    · exact ha j (by omega)
  · unfold UpMu; simp only [Int.toNat_natCast]; exact Nat.le_of_eq (by omega)
/-- a round of such a loop: at a place, or behind the last one -/
theorem UpInv.round {p : Nat → Bool} {n : Nat} {y : Int × Unit} (hn : n < 4611686018427387904) (h : UpInv p n y) :
    (∃ k : Nat, y = ((k : Int), ()) ∧ k < n ∧ k < 4611686018427387904 ∧ (∀ j, j < k → p j = true) ∧ (p k = false → allUpto p n = false) ∧
      (p k = true → UpInv p n (pAdd .i64 (k : Int) 1, ()) ∧ Nat.le (Nat.succ (UpMu n (pAdd .i64 (k : Int) 1, ()))) (UpMu n ((k : Int), ())))) ∨
    (y = ((n : Int), ()) ∧ allUpto p n = true) := by
  obtain ⟨k, hk, hle, ha⟩ := h
  obtain ⟨y1, u⟩ := y
  cases u
  simp only at hk
  subst hk
  by_cases hkn : k < n
  · exact .inl ⟨k, rfl, hkn, by omega, ha, fun h => allUpto_false hkn h, fun h => UpInv.next hkn (by omega) ha h⟩
  · have : k = n := by omega
    subst this
    exact .inr ⟨rfl, allUpto_true ha⟩

/-- the first place, or -1 -/
def idxOf (p : Nat → Bool) (n : Nat) : Int := match (List.range n).find? p with
  | some j => (j : Int)
  | none => -1
def anyUpto (p : Nat → Bool) (n : Nat) : Bool := (List.range n).any p
theorem find_range {p : Nat → Bool} {n k : Nat} (hk : k < n) (ha : ∀ j, j < k → p j = false) (h : p k = true) : (List.range n).find? p = some k := by
  rw [List.find?_eq_some_iff_append]
  refine ⟨h, (List.range n).take k, (List.range n).drop (k + 1), ?_, fun a hin => ?_⟩
  · conv => lhs; rw [← List.take_append_drop k (List.range n)]
    congr 1
    rw [List.drop_eq_getElem_cons (by simpa using hk)]
    simp
  · obtain ⟨j, hj, rfl⟩ := List.getElem_of_mem hin
    simp only [List.length_take, List.length_range] at hj
    simp only [List.getElem_take, List.getElem_range]
    rw [ha j (by omega)]; rfl
theorem idxOf_hit {p : Nat → Bool} {n k : Nat} (hk : k < n) (ha : ∀ j, j < k → p j = false) (h : p k = true) : idxOf p n = (k : Int) := by
  unfold idxOf; rw [find_range hk ha h]
theorem idxOf_none {p : Nat → Bool} {n : Nat} (ha : ∀ j, j < n → p j = false) : idxOf p n = -1 := by
  have : (List.range n).find? p = none := by
    rw [List.find?_eq_none]
    intro j hj
    rw [ha j (by simpa using hj)]; simp
  unfold idxOf; rw [this]
theorem anyUpto_iff {p : Nat → Bool} {n : Nat} : anyUpto p n = true ↔ ∃ j, j < n ∧ p j = true := by simp [anyUpto]
theorem idxOf_ge {p : Nat → Bool} {n : Nat} : pGe (idxOf p n) 0 = anyUpto p n := by
  rw [Bool.eq_iff_iff, anyUpto_iff]
  unfold idxOf pGe
  cases hq : (List.range n).find? p with
  | some j =>
    have h1 := List.find?_some hq
    have h2 : j < n := by simpa using List.mem_of_find?_eq_some hq
    simp only [decide_eq_true_eq]
    exact ⟨fun _ => ⟨j, h2, h1⟩, fun _ => by omega⟩
  | none =>
    rw [List.find?_eq_none] at hq
    simp only [decide_eq_true_eq]
    refine ⟨fun h => absurd h (by omega), fun ⟨j, hj, h⟩ => absurd h (hq j (by simpa using hj))⟩

/-- a loop that looks for a place -/
abbrev FindInv (p : Nat → Bool) (n : Nat) : Int × Unit → Prop := UpInv (fun j => !p j) n
theorem FindInv.round {p : Nat → Bool} {n : Nat} {y : Int × Unit} (hn : n < 4611686018427387904) (h : FindInv p n y) :
    (∃ k : Nat, y = ((k : Int), ()) ∧ k < n ∧ k < 4611686018427387904 ∧ (p k = true → idxOf p n = (k : Int)) ∧
      (p k = false → FindInv p n (pAdd .i64 (k : Int) 1, ()) ∧ Nat.le (Nat.succ (UpMu n (pAdd .i64 (k : Int) 1, ()))) (UpMu n ((k : Int), ())))) ∨
    (y = ((n : Int), ()) ∧ idxOf p n = -1) := by
  rcases UpInv.round hn h with ⟨k, hy, hk, hb, ha, _, hT⟩ | ⟨hy, ha⟩
  · exact .inl ⟨k, hy, hk, hb, fun h => idxOf_hit hk (fun j hj => by simpa using ha j hj) h, fun h => hT (by simp [h])⟩
  · exact .inr ⟨hy, idxOf_none fun j hj => by simpa using allUpto_iff.1 ha j hj⟩

/-- the first place's word that is no 0, or 0 -/
def firstE (e : Nat → Int) (n : Nat) : Int := match (List.range n).find? (fun j => pNe (e j) 0) with
  | some j => e j
  | none => 0
theorem firstE_hit {e : Nat → Int} {n k : Nat} (hk : k < n) (ha : ∀ j, j < k → pEq (e j) 0 = true) (h : pEq (e k) 0 = false) : firstE e n = e k := by
  have hf : (List.range n).find? (fun j => pNe (e j) 0) = some k := find_range hk (fun j hj => by
    have := ha j hj; simp only [pEq, pNe, beq_iff_eq] at this ⊢; simp [this]) (by simp only [pEq, pNe, beq_eq_false_iff_ne, bne_iff_ne, ne_eq] at h ⊢; exact h)
  unfold firstE; rw [hf]
theorem firstE_none {e : Nat → Int} {n : Nat} (ha : ∀ j, j < n → pEq (e j) 0 = true) : firstE e n = 0 := by
  have : (List.range n).find? (fun j => pNe (e j) 0) = none := by
    rw [List.find?_eq_none]
    intro j hj
    have := ha j (by simpa using hj)
    simp only [pEq, pNe, beq_iff_eq] at this ⊢; simp [this]
  unfold firstE; rw [this]
abbrev FirstInv (e : Nat → Int) (n : Nat) : Int × Unit → Prop := UpInv (fun j => pEq (e j) 0) n
theorem FirstInv.round {e : Nat → Int} {n : Nat} {y : Int × Unit} (hn : n < 4611686018427387904) (h : FirstInv e n y) :
    (∃ k : Nat, y = ((k : Int), ()) ∧ k < n ∧ k < 4611686018427387904 ∧ (pEq (e k) 0 = false → firstE e n = e k) ∧
      (pEq (e k) 0 = true → FirstInv e n (pAdd .i64 (k : Int) 1, ()) ∧ Nat.le (Nat.succ (UpMu n (pAdd .i64 (k : Int) 1, ()))) (UpMu n ((k : Int), ())))) ∨
    (y = ((n : Int), ()) ∧ firstE e n = 0) := by
  rcases UpInv.round hn h with ⟨k, hy, hk, hb, ha, _, hT⟩ | ⟨hy, ha⟩
  · exact .inl ⟨k, hy, hk, hb, fun h => firstE_hit hk ha h, hT⟩
  · exact .inr ⟨hy, firstE_none fun j hj => allUpto_iff.1 ha j hj⟩

theorem pGet_sub0 {t : Ty} {l : List t.den} {i k : Nat} (h : k < i) : pGet t (pSub l 0 i) k = pGet t l k := by
  unfold pGet pSub
  simp only [List.drop_zero]
  rw [List.getD_eq_getElem?_getD, List.getD_eq_getElem?_getD, List.getElem?_take_of_lt h]
theorem pSub0_len {α : Type} {l : List α} {i : Nat} (h : i ≤ l.length) : (pSub l 0 i).length = i := by
  unfold pSub
  simp only [List.drop_zero, List.length_take]
  omega

theorem pGet_lt {t : Ty} {l : List t.den} {k : Nat} (h : k < l.length) : pGet t l k = l[k] := by
  unfold pGet; rw [List.getD_eq_getElem?_getD, List.getElem?_eq_getElem h]; rfl
theorem take_app {t : Ty} {l : List t.den} {k : Nat} (h : k < l.length) : pApp (l.take k) [pGet t l k] = l.take (k + 1) := by
  unfold pApp; rw [pGet_lt h, List.take_succ_eq_append_getElem h]

end Go.Proofs.YtedjlbcclhgfmaaDoor

/- THE MACHINE OF READINGS, laws by the readings of their arguments. -/
namespace Go.Proofs.YtedjlbcclhgfmaaDoor
open Go.RowKit Go.ChangeShapes Go.WideShapes Go.Deep

@[reducible] def denL : List (Bool × TyW) → Type
  | [] => Unit
  | p :: l => p.2.ty.den × denL l
def okL : (l : List (Bool × TyW)) → denL l → Prop
  | [], _ => True
  | p :: l, x => p.2.ok x.1 ∧ okL l x.2
def svsL : (l : List (Bool × TyW)) → denL l → List SV
  | [], _ => []
  | p :: l, x => .v p.1 (cellsOf p.2.ty x.1) :: svsL l x.2

/- readings of types, with their bounds -/
def wUnit : TyW := ⟨.unit, fun _ => True⟩
def wInt : TyW := ⟨.pair (.int .i64) .unit, fun x => IntKind.i64.min ≤ x.1 ∧ x.1 ≤ IntKind.i64.max⟩
def wByte : TyW := ⟨.pair (.int .u8) .unit, fun x => IntKind.u8.min ≤ x.1 ∧ x.1 ≤ IntKind.u8.max⟩
def wBool : TyW := ⟨.pair .bool .unit, fun _ => True⟩
def wStr : TyW := ⟨.pair .str .unit, fun x => x.1.size ≤ 140737488351232⟩
def wSl (e : TyW) (bytes : Nat) : TyW := ⟨.pair (.sl e.ty) .unit, fun x => x.1.length * bytes ≤ 140737488351232 ∧ ∀ y ∈ x.1, e.ok y⟩
def wStruct (l : List TyW) : TyW := l.foldr TyW.cat wUnit

def readsL (P : Program) (ts : List TypeId) : List (Bool × TyW) := ts.map fun t => (isAggT P t, tyW P 8 t)

theorem svs_L {P : Program} : ∀ {ts : List TypeId} (x : denTs P ts), ∃ y : denL (readsL P ts), svsL (readsL P ts) y = svsOf P ts x ∧ (okTs P ts x → okL (readsL P ts) y)
  | [], _ => ⟨(), rfl, fun _ => trivial⟩
  | t :: ts, x => by
    obtain ⟨y, h1, h2⟩ := svs_L x.2
    refine ⟨(x.1, y), ?_, fun h => ⟨h.1, h2 h.2⟩⟩
    show _ :: svsL (readsL P ts) y = _
    rw [h1]
    rfl

/-- THE WALK OF A LAW over tables, by the readings of its arguments. -/
theorem law_walkLG {H : Type} {enc : TypeId × Value → H} {E : Env} (hE : E.Ok) (G : World → Prop) (hg : ∀ W, G W → ∀ g gl, E.glob g = some gl → GlobR W (fun b => b < W.heap.size) g gl) {K : FuncId} {f : Func} (hf : E.P.funcs[K]? = some f) (hr : f.params.toList.all (readOk E.P 8) = true)
    (L : List (Bool × TyW)) (hL : readsL E.P f.params.toList = L) (A : denL L → Nat → St → Option Ann) (VC : denL L → Prop)
    (he : ∀ x : denL L, afn E (A x) f (svsL L x) [] [] [.slot 0 false .bool] (fun y => y = (true, ())) = VC x) (h : ∀ x : denL L, okL L x → VC x) :
    ∀ (W : World) (base : Nat) (args : Array Value) (ds : List (DataW H)) (p : List MemPlace), DataW.TrodAll enc E.P W 0 (fun _ => true) true f.params.toList args.toList ds p →
      (∀ (j : Nat) (t : TypeId) (v : Value), f.params[j]? = some t → args[j]? = some v → Value.okWide E.P W .any base t v) →
      (∀ x ∈ p, x.block < W.heap.size) →
      (DataW.weightsEach E.P f.params.toList ds).all (· ≤ reachBytes) = true → G W →
      Calls E.P K args W fun e W' => e = .returned (.bool true) ∧ Below W.heap.size W W' := by
  subst hL
  refine law_walkG hE G hg (fun x => A (Classical.choose (svs_L x))) hf hr fun x hx => ?_
  have hs := Classical.choose_spec (svs_L x)
  have := he (Classical.choose (svs_L x))
  rw [hs.1] at this
  rw [this]
  exact h _ (hs.2 hx)

/-- THE WALK OF A LAW, by the readings of its arguments. -/
theorem law_walkL {H : Type} {enc : TypeId × Value → H} {E : Env} (hE : E.Ok) (hg : E.glob = fun _ => none) {K : FuncId} {f : Func} (hf : E.P.funcs[K]? = some f) (hr : f.params.toList.all (readOk E.P 8) = true)
    (L : List (Bool × TyW)) (hL : readsL E.P f.params.toList = L) (A : denL L → Nat → St → Option Ann) (VC : denL L → Prop)
    (he : ∀ x : denL L, afn E (A x) f (svsL L x) [] [] [.slot 0 false .bool] (fun y => y = (true, ())) = VC x) (h : ∀ x : denL L, okL L x → VC x) :
    ∀ (W : World) (base : Nat) (args : Array Value) (ds : List (DataW H)) (p : List MemPlace), DataW.TrodAll enc E.P W 0 (fun _ => true) true f.params.toList args.toList ds p →
      (∀ (j : Nat) (t : TypeId) (v : Value), f.params[j]? = some t → args[j]? = some v → Value.okWide E.P W .any base t v) →
      (∀ x ∈ p, x.block < W.heap.size) →
      (DataW.weightsEach E.P f.params.toList ds).all (· ≤ reachBytes) = true →
      Calls E.P K args W fun e W' => e = .returned (.bool true) ∧ Below W.heap.size W W' := by
  intro W base args ds p h1 h2 h3 h4
  exact law_walkLG hE (fun _ => True) (fun W _ g gl hgl => by rw [hg] at hgl; cases hgl) hf hr L hL A VC he h W base args ds p h1 h2 h3 h4 trivial
theorem Meets.more {P : Program} {g g' : Nat → Option Gl} {K : FuncId} {c : Ctr} (h : Meets P g K c) (hg : ∀ n gl, g n = some gl → g' n = some gl) : Meets P g' K c :=
  ⟨h.1, fun args m0 obs r m1 hc ho w N ρ vs hgl => h.2 args m0 obs r m1 hc ho w N ρ vs fun n cs hn => hgl n cs (hg n cs hn)⟩
theorem Meets.any {P : Program} {g' : Nat → Option Gl} {K : FuncId} {c : Ctr} (h : Meets P (fun _ => none) K c) : Meets P g' K c := h.more fun _ _ h => by cases h

/-- a table of rows, told cell by cell -/
theorem glob_rows {W : World} {g : Nat} {t : Ty} {xs : List t.den} (hg : g < W.heap.size) (rows : List (List Value)) (hr : ∀ (i : Nat) (h : i < xs.length), ∃ us, rows[i]? = some us ∧ Rd t W (fun b => b < W.heap.size) us xs[i])
    (hc : ∀ i us j u, rows[i]? = some us → us[j]? = some u → W.cell? ⟨g, i * t.size + j, none⟩ = some u) : GlobR W (fun b => b < W.heap.size) g (.rows t xs) :=
  ⟨hg, fun i hi => by obtain ⟨us, h1, h2⟩ := hr i hi; exact ⟨us, h2, fun j u hj => hc i us j u h1 hj⟩⟩
theorem cell_lt {W : World} {g off : Nat} {u : Value} (h : W.cell? ⟨g, off, none⟩ = some u) : g < W.heap.size := by
  unfold World.cell? at h
  cases hq : W.heap[g]? with
  | none => simp [hq] at h
  | some o => exact (Array.getElem?_eq_some_iff.1 hq).1

theorem lt62 {n b : Nat} (h : n * b ≤ 140737488351232) (hb : 1 ≤ b) : n < 4611686018427387904 := by
  have := Nat.mul_le_mul_left n hb
  omega

end Go.Proofs.YtedjlbcclhgfmaaDoor

/- THE MACHINE OF READINGS, contracts whose own result is taken as read only. -/
namespace Go.Proofs.YtedjlbcclhgfmaaDoor
open Go.RowKit

section
variable {w : World} {ρ : Nat → Pl} {N : Blk} {m m' : Mem}

theorem MR.freeze (h : MR w N ρ m) {D : List Nat} (hm : ∀ id, m' id = if id ∈ D then none else m id) : MR w (fun b => N b ∨ Gone ρ m D b) ρ m' ∧ (∀ b, Own ρ m' b → Own ρ m b) ∧ Turn ρ m ρ m' (fun _ => False) := by
  have some_ : ∀ {id o}, m' id = some o → id ∉ D ∧ m id = some o := by
    intro id o ho
    rw [hm] at ho
    split at ho
    · cases ho
    · rename_i hd; exact ⟨hd, ho⟩
  have ht : Turn ρ m ρ m' (fun _ => False) := ⟨fun _ _ => rfl, fun id o' z _ hx hz => ⟨o', (some_ hx).2, hz⟩⟩
  have hN : ∀ b, N b → (fun b => N b ∨ Gone ρ m D b) b := fun b hb => .inl hb
  have hs : SameOn N w w := fun _ _ => rfl
  have hown : ∀ b, Own ρ m' b → Own ρ m b := fun b ⟨id, o, ho, hA⟩ => ⟨id, o, (some_ ho).2, hA⟩
  refine ⟨⟨fun id o ho => ?_, fun id id' o o' b ho ho' hA hA' => ?_, fun b hb ho => ?_, fun b hb => ?_⟩, hown, ht⟩
  · exact (h.obj id o (some_ ho).2).turn ht hN hs (fun hf => hf) (fun _ _ hf => hf) fun _ _ => rfl
  · exact h.inj id id' o o' b (some_ ho).2 (some_ ho').2 hA hA'
  · rcases hb with hb | ⟨id2, hd2, o2, z2, hm2, hz2, hA2⟩
    · exact h.nown b hb (hown b ho)
    · obtain ⟨id, o, ho, hA⟩ := ho
      have := h.inj id id2 o o2 b (some_ ho).2 hm2 hA hA2
      subst this
      exact (some_ ho).1 hd2
  · rcases hb with hb | hb
    · exact h.nlt b hb
    · exact gone_lt h hb
end

/-- the result of a call, an own row, taken as read only -/
theorem SpecR.freeze {P : Program} {g : Nat → Option Gl} {K : FuncId} {args : List SV} {m0 rest : List (Nat × Option Obj)} {n : Nat} {t : Ty} {xs : List t.den} (hn : n = m0.length) (hr : ∀ id, look rest id = none ∨ look rest id = some none)
    (h : SpecR P g K args m0 (.v false [.hs n]) ((n, some (.row t xs)) :: rest)) : SpecR P g K args m0 (.v false [.sl t xs]) rest := by
  intro w N ρ vs hg hmr ha h1 h2
  refine (h w N ρ vs hg hmr ha h1 h2).mono fun e w' hq => ?_
  obtain ⟨v, ρ', N', he, hρ, hN, hmr', hv, hsince, hown, hnn⟩ := hq
  have hm0n : look m0 n = none ∨ look m0 n = some none := by
    cases hl : look m0 n with
    | none => exact .inl rfl
    | some x =>
      cases x with
      | none => exact .inr rfl
      | some o =>
        have := (h2 n o (by unfold memOf; rw [hl]; rfl)).1
        omega
  have hmem : ∀ id, memOf (rest ++ m0) id = if id ∈ [n] then none else memOf ((n, some (.row t xs)) :: rest ++ m0) id := by
    intro id
    by_cases hid : id = n
    · subst hid
      simp only [List.mem_singleton, if_true]
      unfold memOf
      rw [look_append]
      rcases hr id with hq | hq
      · rw [hq]
        rcases hm0n with hq2 | hq2 <;> rw [hq2] <;> rfl
      · rw [hq]; rfl
    · rw [if_neg (by simpa using hid)]
      unfold memOf
      rw [List.cons_append, look_cons, if_neg (fun e => hid e.symm)]
  obtain ⟨hmr2, hown2, ht⟩ := hmr'.freeze hmem
  have hrow : memOf ((n, some (Obj.row t xs)) :: rest ++ m0) n = some (.row t xs) := by
    unfold memOf
    rw [List.cons_append, look_cons, if_pos rfl]
    rfl
  refine ⟨v, ρ', _, he, hρ, fun b hb => .inl (hN b hb), hmr2, ⟨.sl t xs, rfl, ?_⟩, hsince, fun b hb => hown b (hown2 b hb), fun b hb => ?_⟩
  · obtain ⟨c, hc, hcv⟩ := hv
    simp only [List.cons.injEq, and_true] at hc
    subst hc
    rw [hcv.hs_row hrow]
    exact row_rd hmr' hrow (fun b hb => .inl hb) fun b hcap hA => .inr ⟨n, by simp, _, _, hrow, rfl, hcap, hA⟩
  · rcases hb with hb | hb
    · exact hnn b hb
    · rcases hown b (gone_own hb) with h3 | h3
      · exact .inr (.inr h3)
      · exact .inr (.inl h3)

/-- A contract whose only result is an own row: it may be taken as read only. -/
theorem meets_freeze {P : Program} {g : Nat → Option Gl} {K : FuncId} {S : Shape} {pre : S.den → List Prop} {dead : List Nat} {t : Ty} {f : S.den → List t.den × Unit} (h : Meets P g K (shCtr S pre dead [.slot 0 true t] f)) (hk : ∀ x : List t.den, kObj t x = .row t x := by intro x; rfl) :
    Meets P g K (shCtr S pre dead [.slot 0 false (.sl t)] f) := by
  refine ⟨h.1, fun args m0 obs r m1 hc hp => ?_⟩
  unfold shCtr at hc
  split at hc
  · rename_i x hx
    simp only [Option.some.injEq, Prod.mk.injEq] at hc
    obtain ⟨rfl, rfl, rfl⟩ := hc
    have h2 := h.2 args m0 (pre x) _ _ (by unfold shCtr; rw [hx]) hp
    have eo : outOf [Var.slot 0 true t] dead (f x) (S.mem x) = (SV.v false [C.hs (S.mem x).length], ((S.mem x).length, some (Obj.row t (f x).1)) :: dead.map fun id => (id, none)) := by
      rw [← hk]; rfl
    rw [eo] at h2
    have hl : (S.mem x).length = m0.length := by
      have h3 : S.mem x = m0 := parseMSs_eq (parse_some hx).2
      rw [h3]
    exact SpecR.freeze (rest := dead.map fun id => (id, none)) hl (fun id => by rw [look_dead]; split <;> simp) h2
  · cases hc

/-- A contract by cases: each case has a contract of its own. -/
theorem meets_split {P : Program} {g : Nat → Option Gl} {K : FuncId} {S : Shape} {pre : S.den → List Prop} {dead : List Nat} {vs : List Var} {f : S.den → denVars vs} {I : Type} (pr : I → S.den → List Prop) (i0 : I)
    (h : ∀ i, Meets P g K (shCtr S (pr i) dead vs f)) (hc : ∀ x, (∀ p ∈ pre x, p) → ∃ i, ∀ p ∈ pr i x, p) : Meets P g K (shCtr S pre dead vs f) := by
  refine ⟨(h i0).1, fun args m0 obs r m1 hq hp => ?_⟩
  unfold shCtr at hq
  split at hq
  · rename_i x hx
    simp only [Option.some.injEq, Prod.mk.injEq] at hq
    obtain ⟨rfl, rfl, rfl⟩ := hq
    obtain ⟨i, hi⟩ := hc x hp
    exact (h i).2 args m0 (pr i x) _ _ (by unfold shCtr; rw [hx]; rfl) hi
  · cases hq

/-- A contract that asks more, and says the same. -/
theorem meets_mono {P : Program} {g : Nat → Option Gl} {K : FuncId} {S : Shape} {pre pre' : S.den → List Prop} {dead : List Nat} {vs : List Var} {f f' : S.den → denVars vs}
    (h : Meets P g K (shCtr S pre dead vs f)) (hc : ∀ x, (∀ p ∈ pre' x, p) → (∀ p ∈ pre x, p) ∧ f x = f' x) : Meets P g K (shCtr S pre' dead vs f') := by
  refine ⟨h.1, fun args m0 obs r m1 hq hp => ?_⟩
  unfold shCtr at hq
  split at hq
  · rename_i x hx
    simp only [Option.some.injEq, Prod.mk.injEq] at hq
    obtain ⟨rfl, rfl, rfl⟩ := hq
    obtain ⟨h1, h2⟩ := hc x hp
    rw [← h2]
    exact h.2 args m0 (pre x) _ _ (by unfold shCtr; rw [hx]; rfl) h1
  · cases hq

end Go.Proofs.YtedjlbcclhgfmaaDoor

