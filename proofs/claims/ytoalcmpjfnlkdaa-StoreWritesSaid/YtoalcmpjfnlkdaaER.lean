/- THE MACHINE OF READINGS, part R: regions, in the order of the text. -/
import Derived.Test.YtoalcmpjfnlkdaaEQ
import Derived.Laws.Cover3
namespace Go.Proofs.Ytoalcmpjfnlkdaa
open Go.RowKit

/-- what a state says, whatever its lists -/
structure Sm where
  sl : Nat → Option SV
  ob : Mem
def St.sem (s : St) : Sm := ⟨look s.slots, s.obj⟩
def Sm.slot (z : Sm) (t : Nat) : SV := (z.sl t).getD .un
def Sm.get (z : Sm) : Operand → SV
  | .tmp t => z.slot t
  | .const v => svOfValue v
  | .global g => one (.gp g 0)
  | .func f => one (.fn f [])
def Sm.put (z : Sm) (dst : Option Tmp) (e : Eff) : Sm :=
  ⟨fun t => match dst with
    | some d => if d = t then some e.res else z.sl t
    | none => z.sl t, fun id => match look e.upd id with
    | some o => o
    | none => z.ob id⟩

theorem sem_slot (s : St) (t : Nat) : s.sem.slot t = s.slot t := rfl
theorem sem_get (s : St) : s.sem.get = s.get := funext fun x => by cases x <;> rfl
theorem sem_put (s : St) (dst : Option Tmp) (e : Eff) : (s.put dst e).sem = s.sem.put dst e := by
  unfold St.sem Sm.put
  congr 1
  · funext t
    cases dst with
    | none => rfl
    | some d => exact look_cons d e.res s.slots t
  · funext id; exact St.obj_put s dst e id

/-- an operation of a region, as it was carried out -/
structure En where
  i : Nat
  o : Oper
  ids : List Nat
  e : Eff

section
variable {E : Env} {w0 : World} {X Z : Blk} {a : Act} {w w' : World} {s s' : St} {ρ ρ' : Nat → Pl} {N N' : Blk} {m m' : Mem}

theorem Rel.sem (h : Rel E w0 X Z a w s ρ N) (he : s.sem = s'.sem) : Rel E w0 X Z a w s' ρ N := by
  have h1 : look s.slots = look s'.slots := congrArg Sm.sl he
  have h2 : s.obj = s'.obj := congrArg Sm.ob he
  refine ⟨?_, ?_, h.defers, h.since, ?_, h.glob, h.nn⟩
  · rw [← h1, ← h2]; exact h.slots
  · rw [← h2]; exact h.mr
  · rw [← h2]; exact h.own

/-- An entry fits a state. -/
def EnOk (E : Env) (ops : Array Oper) (base : Nat) (draw : Bool) (z : Sm) (n : En) : Prop :=
  (∃ g want c, n.o.guard = some (g, want) ∧ (ops[g]?).bind (·.dst) = some c ∧ (z.slot c = .tup [] ∨ z.slot c = .v false [.bool (!want)]) ∧ n.e = undefE) ∨
  ((n.o.guard = none ∨ ∃ g want c, n.o.guard = some (g, want) ∧ (ops[g]?).bind (·.dst) = some c ∧ z.slot c = .v false [.bool want]) ∧
    ((∃ c x y t, n.o.op = .pick (.tmp c) x y ∧ z.slot c = .v false [.bool t] ∧ n.e = ⟨z.get (if t = true then x else y), []⟩) ∨
      ∃ obs, (∀ p ∈ obs, p) ∧ aop E (if draw then only n.ids z.ob else z.ob) (base + n.i * maxIds) z.get n.o.op = some (obs, n.e)))

theorem tmps_bool {t : Nat} {b : Bool} (h : a.tmps.getD t undef = .bool b) : a.tmps[t]? = some (.bool b) := by
  rw [Array.getD_eq_getD_getElem?] at h
  cases ht : a.tmps[t]? with
  | none => rw [ht] at h; simp [undef] at h
  | some v => rw [ht] at h; simp at h; rw [h]
theorem tmps_undef {t : Nat} (h : a.tmps.getD t undef = undef) : a.tmps[t]? = none ∨ a.tmps[t]? = some undef := by
  rw [Array.getD_eq_getD_getElem?] at h
  cases ht : a.tmps[t]? with
  | none => exact .inl rfl
  | some v => rw [ht] at h; simp at h; rw [h]; exact .inr rfl

/-- ONE OPERATION OF A REGION -/
theorem entry_ok (h : Rel E w0 X Z a w s ρ N) (hE : E.Ok) {ops : Array Oper} {base : Nat} {draw : Bool} {n : En} (hi : ops[n.i]? = some n.o) (hn : EnOk E ops base draw s.sem n) (hd : ∀ d, n.o.dst = some d → d < a.tmps.size)
    (hf : ∀ k, k < 8 → Fresh s (base + n.i * maxIds + k)) {K : Act → World → Prop} {Q : Exit → Act → World → Prop}
    (hK : ∀ v w' ρ' N', (∀ id, ¬ (base + n.i * maxIds ≤ id ∧ id < base + n.i * maxIds + 8) → ρ' id = ρ id) → (∀ b, N b → N' b) → Rel E w0 X Z (a.put n.o.dst v) w' (s.put n.o.dst n.e) ρ' N' → K (a.put n.o.dst v) w') :
    wpOp E.P ops Q n.i K a w := by
  unfold wpOp
  simp only [hi]
  rcases hn with ⟨g, want, c, hg, hc, hs, he⟩ | ⟨hg, hop⟩
  · -- not wanted
    have hw : Region.wanted n.o (yielded ops a.tmps) = false := by
      unfold Region.wanted yielded
      rw [hg]
      simp only [hc, Option.bind_some]
      have hsl := h.get (.tmp c)
      rcases hs with hs | hs
      · have hs' : s.get (.tmp c) = .tup [] := hs
        rw [hs'] at hsl
        obtain ⟨us, hv, hu⟩ := hsl
        cases hu
        have hv' : a.tmps.getD c undef = undef := hv
        rcases tmps_undef hv' with h1 | h1 <;> rw [h1] <;> rfl
      · have hs' : s.get (.tmp c) = .v false [.bool (!want)] := hs
        rw [hs'] at hsl
        have hv : a.tmps.getD c undef = .bool (!want) := vr1 hsl
        rw [tmps_bool hv]
        cases want <;> rfl
    rw [if_neg (by rw [hw]; simp)]
    refine hK undef w ρ N (fun _ _ => rfl) (fun _ h => h) ?_
    rw [he]
    exact h.pure hd rfl ⟨[], rfl, .nil⟩
  · have hw : Region.wanted n.o (yielded ops a.tmps) = true := by
      rcases hg with hg | ⟨g, want, c, hg, hc, hs⟩
      · unfold Region.wanted; rw [hg]
      · unfold Region.wanted yielded
        rw [hg]
        simp only [hc, Option.bind_some]
        have hsl := h.get (.tmp c)
        have hs' : s.get (.tmp c) = .v false [.bool want] := hs
        rw [hs'] at hsl
        have hv : a.tmps.getD c undef = .bool want := vr1 hsl
        rw [tmps_bool hv]
        cases want <;> rfl
    rw [if_pos hw]
    left
    rcases hop with ⟨c, x, y, t, ho, hs, he⟩ | ⟨obs, hob, he⟩
    · have hsl := h.get (.tmp c)
      have hs' : s.get (.tmp c) = .v false [.bool t] := hs
      rw [hs'] at hsl
      have hv : a.eval (.tmp c) = .bool t := vr1 hsl
      have hp : PureR E a n.o w N ρ s.obj n.e := by
        rw [he, sem_get]
        refine ⟨a.eval (if t = true then x else y), ?_, h.get _, rfl⟩
        cases t <;> simp [execOp, ho, hv, asBool]
      exact (hp.good h hd (fun _ => False)).op (F' := fun _ => False) (fun _ h => h) K Q fun v w' ρ' N' h1 h2 _ h4 => hK v w' ρ' N' (fun id _ => h1 id (fun h => h)) h2 h4
    · rw [sem_get] at he
      have hm : ∀ id ob, (if draw then only n.ids s.sem.ob else s.sem.ob) id = some ob → s.obj id = some ob := by
        intro id ob hid
        cases draw with
        | true =>
          simp only [if_true, only] at hid
          split at hid
          · exact hid
          · cases hid
        | false => exact hid
      exact aop_ok h hE hm hd hf he hob K Q fun v w' ρ' N' h1 h2 _ h4 => hK v w' ρ' N' h1 h2 h4

/-- what a guard must say -/
def GuardOk (ops : Array Oper) (z : Sm) (o : Oper) : Prop := o.guard = none ∨ ∃ g want c, o.guard = some (g, want) ∧ (ops[g]?).bind (·.dst) = some c ∧ z.slot c = .v false [.bool want]

/-- a wanted operation that looks only -/
theorem entry_pure (h : Rel E w0 X Z a w s ρ N) {ops : Array Oper} {i : Nat} {o : Oper} {e : Eff} (hi : ops[i]? = some o) (hg : GuardOk ops s.sem o) (hp : PureR E a o w N ρ s.obj e) (hd : ∀ d, o.dst = some d → d < a.tmps.size)
    {K : Act → World → Prop} {Q : Exit → Act → World → Prop} (hK : ∀ v w' ρ' N', (∀ id, ρ' id = ρ id) → (∀ b, N b → N' b) → Rel E w0 X Z (a.put o.dst v) w' (s.put o.dst e) ρ' N' → K (a.put o.dst v) w') :
    wpOp E.P ops Q i K a w := by
  unfold wpOp
  simp only [hi]
  have hw : Region.wanted o (yielded ops a.tmps) = true := by
    rcases hg with hg | ⟨g, want, c, hg, hc, hs⟩
    · unfold Region.wanted; rw [hg]
    · unfold Region.wanted yielded
      rw [hg]
      simp only [hc, Option.bind_some]
      have hsl := h.get (.tmp c)
      have hs' : s.get (.tmp c) = .v false [.bool want] := hs
      rw [hs'] at hsl
      have hv : a.tmps.getD c undef = .bool want := vr1 hsl
      rw [tmps_bool hv]
      cases want <;> rfl
  rw [if_pos hw]
  left
  exact (hp.good h hd (fun _ => False)).op (F' := fun _ => False) (fun _ h => h) K Q fun v w' ρ' N' h1 h2 _ h4 => hK v w' ρ' N' (fun id => h1 id (fun h => h)) h2 h4

theorem isNilO_eq {y : Operand} (h : isNilO y = true) : y = .const (.slice none 0 0) := by
  unfold isNilO at h
  split at h
  · rfl
  · cases h

theorem run_eqlNil {P : Program} (w : World) (t e : TypeId) (a : Option Addr) (l c : Nat) (h : P.underlying t = some (.slice e)) : (binOp .eql t (.slice a l c) (.slice none 0 0)).run P w = .ok (.bool a.isNone) w := by
  simp only [binOp]
  simp [run_equal_slice_nil w t e a l c h]

/-- A SLICE AGAINST NIL -/
theorem nil_ok (h : Rel E w0 X Z a w s ρ N) {o : Oper} {b : Bool} {n : Nat} (ht : nilTest E.P s o.op = some (b, n)) :
    (n = 0 ∧ PureR E a o w N ρ s.obj ⟨one (.bool b), []⟩) ∨ PureR E a o w N ρ s.obj ⟨one (.bool (!b)), []⟩ := by
  have key : ∀ {T : TypeId} {x : Operand}, (elemT E.P T).isSome = true → slLen s.obj (s.get x) = some n → ∃ A l c e, a.eval x = .slice A l c ∧ E.P.underlying T = some (.slice e) ∧ (A = none → n = 0) := by
    intro T x hT hl
    have hu : ∃ e, E.P.underlying T = some (.slice e) := by
      unfold elemT at hT
      split at hT
      · rename_i e hu; exact ⟨e, hu⟩
      · cases hT
    obtain ⟨e, hu⟩ := hu
    have hx := h.get x
    unfold slLen at hl
    split at hl
    · rename_i hg
      rw [hg] at hx
      obtain ⟨A, hv⟩ := vr1 hx
      simp only [Option.some.injEq] at hl
      exact ⟨A, 0, 0, e, hv, hu, fun _ => hl.symm⟩
    · rename_i t xs hg
      rw [hg] at hx
      obtain ⟨A, m, c, hv, hlen, _, hat⟩ := vr1 hx
      simp only [List.cons.injEq, and_true] at hv
      simp only [Option.some.injEq] at hl
      refine ⟨A, m, c, e, hv, hu, fun hA => ?_⟩
      rcases Nat.eq_zero_or_pos m with h0 | h0
      · rw [← hl]; show xs.length = 0; omega
      · obtain ⟨b, off, hA', _⟩ := hat h0
        rw [hA] at hA'; cases hA'
    · rename_i id hg
      rw [hg] at hx
      split at hl
      · rename_i t xs hm
        simp only [Option.some.injEq] at hl
        have hv := (vr1 hx).2 t xs hm
        refine ⟨_, _, _, e, hv, hu, fun hA => ?_⟩
        obtain ⟨h1, h2⟩ := h.mr.obj id _ hm
        rcases Nat.eq_zero_or_pos (ρ id).cap with h0 | h0
        · rw [← hl]; show xs.length = 0; omega
        · obtain ⟨b, _, _, hA', _⟩ := h2 h0
          rw [hA] at hA'; cases hA'
      · cases hl
    · cases hl
  have hgd : ∀ (op : BinOp) (T : TypeId) (x y : Operand) (A : Option Addr) (l c : Nat), (eqGuard op T x y (.slice A l c) (.slice none 0 0)).run E.P w = .ok () w := by
    intro op T x y A l c
    unfold eqGuard
    split <;> rfl
  unfold nilTest at ht
  split at ht
  · rename_i T x y T' ho
    cases hc : (isNilO y && (elemT E.P T).isSome) with
    | false => rw [hc] at ht; cases ht
    | true =>
      rw [hc] at ht
      simp only [Bool.and_eq_true] at hc
      cases hl : slLen s.obj (s.get x) with
      | none => rw [hl] at ht; cases ht
      | some n' =>
        rw [hl] at ht
        simp only [cond_true, Option.map_some, Option.some.injEq, Prod.mk.injEq] at ht
        obtain ⟨rfl, rfl⟩ := ht
        have hy := isNilO_eq hc.1
        subst hy
        obtain ⟨A, l, c, e, hv, hu, hA⟩ := key hc.2 hl
        have hcy : a.eval (.const (.slice none 0 0)) = .slice none 0 0 := rfl
        have hr : (execOp a.eval o).run E.P w = .ok (.value (.bool A.isNone)) w := by
          simp only [execOp, ho, hv, hcy, Sem.run_bind, hgd, Result.andThen_ok, run_eqlNil w T e A l c hu, Sem.run_pure]
        cases A with
        | none => exact .inl ⟨hA rfl, .bool true, hr, ⟨_, rfl, rfl⟩, rfl⟩
        | some A => exact .inr ⟨.bool false, hr, ⟨_, rfl, rfl⟩, rfl⟩
  · rename_i T x y T' ho
    cases hc : (isNilO y && (elemT E.P T).isSome) with
    | false => rw [hc] at ht; cases ht
    | true =>
      rw [hc] at ht
      simp only [Bool.and_eq_true] at hc
      cases hl : slLen s.obj (s.get x) with
      | none => rw [hl] at ht; cases ht
      | some n' =>
        rw [hl] at ht
        simp only [cond_true, Option.map_some, Option.some.injEq, Prod.mk.injEq] at ht
        obtain ⟨rfl, rfl⟩ := ht
        have hy := isNilO_eq hc.1
        subst hy
        obtain ⟨A, l, c, e, hv, hu, hA⟩ := key hc.2 hl
        have hcy : a.eval (.const (.slice none 0 0)) = .slice none 0 0 := rfl
        have hr : (execOp a.eval o).run E.P w = .ok (.value (.bool (!A.isNone))) w := by
          simp only [execOp, ho, hv, hcy, Sem.run_bind, hgd, Result.andThen_ok, run_neq_slice_nil w T e A l c hu, Sem.run_pure]
        cases A with
        | none => exact .inl ⟨hA rfl, .bool false, hr, ⟨_, rfl, rfl⟩, rfl⟩
        | some A => exact .inr ⟨.bool true, hr, ⟨_, rfl, rfl⟩, rfl⟩
  · cases ht

/-- a run of entries -/
inductive Chain (E : Env) (ops : Array Oper) (base : Nat) (draw : Bool) : Sm → List En → Sm → Prop where
  | nil (z : Sm) : Chain E ops base draw z [] z
  | cons {z z' : Sm} {n : En} {es : List En} : EnOk E ops base draw z n → Chain E ops base draw (z.put n.o.dst n.e) es z' → Chain E ops base draw z (n :: es) z'

/-- bounds of an entry's numbers -/
structure EnB (base : Nat) (draw : Bool) (n : En) : Prop where
  low : belowE (base + (n.i + 1) * maxIds) n.e = true
  inn : draw = true → effIn n.ids n.e = true

def stepOf (base : Nat) (n : En) : Step := ⟨n.i, base + n.i * maxIds, n.ids, n.e.upd.map (·.1)⟩

theorem allP_elim : ∀ {ps : List Prop} {K : Prop}, allP ps K → (∀ p ∈ ps, p) ∧ K
  | [], _, h => ⟨(fun _ h => by cases h), h⟩
  | p :: ps, K, h => by
    obtain ⟨h1, h2⟩ := h
    obtain ⟨h3, h4⟩ := allP_elim h2
    exact ⟨fun q hq => (List.mem_cons.1 hq).elim (fun e => e ▸ h1) (h3 q), h4⟩

theorem lit_sem {c : Nat} {b : Bool} (h : s.slot c = .v false [.bool b]) : (s.lit c b).sem = s.sem := by
  unfold St.sem
  congr 1
  funext t
  show look ((c, one (.bool b)) :: s.slots) t = look s.slots t
  rw [look_cons]
  split
  · rename_i e
    subst e
    unfold St.slot at h
    cases hl : look s.slots c with
    | none => rw [hl] at h; cases h
    | some v => rw [hl] at h; simp at h; rw [h]; rfl
  · rfl

theorem allBlt {n : Nat} {l : List Nat} : (l.all (Nat.blt · n)) = true ↔ ∀ x ∈ l, x < n := by
  simp [List.all_eq_true, Nat.blt_eq]

/-- what the states of a run share -/
structure Same (s s' : St) : Prop where
  next : s'.next = s.next

def RC (E : Env) (ops : Array Oper) (draw : Bool) (K : St → List Step → Prop) (r : List (Oper × Nat)) (s : St) (tr : List Step) : Prop :=
  ∃ es s', es.map (fun n => (n.o, n.i)) = r ∧ Chain E ops s.next draw s.sem es s'.sem ∧ (∀ n ∈ es, EnB s.next draw n) ∧ s'.next = s.next ∧ s'.tch = (es.reverse.flatMap fun n => n.e.upd.map (·.1)) ++ s.tch ∧
      (∀ t, (∀ n ∈ es, n.o.dst ≠ some t ∧ ∀ g want, n.o.guard = some (g, want) → (ops[g]?).bind (·.dst) ≠ some t) → look s'.slots t = look s.slots t) ∧ K s' (es.reverse.map (stepOf s.next) ++ tr)

/-- the head of a region: an entry; or a slice against nil -/
def Hd (E : Env) (ops : Array Oper) (draw : Bool) (K : St → List Step → Prop) (o : Oper) (i : Nat) (r : List (Oper × Nat)) (s : St) (tr : List Step) : Prop :=
  (∃ (s1 : St) (ids : List Nat) (e : Eff), s1.sem = s.sem ∧ s1.next = s.next ∧ s1.tch = s.tch ∧ (∀ t, (∀ g want, o.guard = some (g, want) → (ops[g]?).bind (·.dst) ≠ some t) → look s1.slots t = look s.slots t) ∧ EnOk E ops s.next draw s.sem ⟨i, o, ids, e⟩ ∧ EnB s.next draw ⟨i, o, ids, e⟩ ∧
    aRegion E ops draw K r (s1.put o.dst e) (⟨i, s.next + i * maxIds, ids, e.upd.map (·.1)⟩ :: tr)) ∨
  (draw = false ∧ ∃ (s1 : St) (b : Bool) (n : Nat), s1.sem = s.sem ∧ s1.next = s.next ∧ s1.tch = s.tch ∧ (∀ t, (∀ g want, o.guard = some (g, want) → (ops[g]?).bind (·.dst) ≠ some t) → look s1.slots t = look s.slots t) ∧ GuardOk ops s.sem o ∧ nilTest E.P s o.op = some (b, n) ∧
    (n = 0 → aRegion E ops draw K r (s1.put o.dst ⟨one (.bool b), []⟩) (⟨i, s.next + i * maxIds, [], []⟩ :: tr)) ∧ aRegion E ops draw K r (s1.put o.dst ⟨one (.bool (!b)), []⟩) (⟨i, s.next + i * maxIds, [], []⟩ :: tr))

theorem region_step {ops : Array Oper} {draw : Bool} {K : St → List Step → Prop} {o : Oper} {i : Nat} {r : List (Oper × Nat)} {s : St} {tr : List Step} (h : aRegion E ops draw K ((o, i) :: r) s tr) : Hd E ops draw K o i r s tr := by
  have put : ∀ (s1 : St) (ids : List Nat) (e : Eff), s1.sem = s.sem → s1.next = s.next → s1.tch = s.tch → (∀ t, (∀ g want, o.guard = some (g, want) → (ops[g]?).bind (·.dst) ≠ some t) → look s1.slots t = look s.slots t) → EnOk E ops s.next draw s.sem ⟨i, o, ids, e⟩ → EnB s.next draw ⟨i, o, ids, e⟩ →
      aRegion E ops draw K r (s1.put o.dst e) (⟨i, s.next + i * maxIds, ids, e.upd.map (·.1)⟩ :: tr) → Hd E ops draw K o i r s tr :=
    fun s1 ids e h1 h2 h3 h4 h5 h6 h7 => .inl ⟨s1, ids, e, h1, h2, h3, h4, h5, h6, h7⟩
  have step : ∀ (s1 : St), s1.sem = s.sem → s1.next = s.next → s1.tch = s.tch → (∀ t, (∀ g want, o.guard = some (g, want) → (ops[g]?).bind (·.dst) ≠ some t) → look s1.slots t = look s.slots t) → (o.guard = none ∨ ∃ g want c, o.guard = some (g, want) ∧ (ops[g]?).bind (·.dst) = some c ∧ s.sem.slot c = .v false [.bool want]) →
      aStep E draw i o s1 tr (aRegion E ops draw K r) →
      Hd E ops draw K o i r s tr := by
    intro s1 hsem hnext htch hlook hg hst
    have hget : s1.get = s.get := by rw [← sem_get, ← sem_get, hsem]
    have hslot : s1.slot = s.slot := by funext t; rw [← sem_slot, ← sem_slot, hsem]
    have hobj : s1.obj = s.obj := congrArg Sm.ob hsem
    unfold aStep at hst
    have hnt : nilTest E.P s1 o.op = nilTest E.P s o.op := by unfold nilTest; rw [hget, hobj]
    simp only [hnext, hget, hslot, hobj, hnt] at hst
    split at hst
    · rename_i b n hq
      cases draw with
      | true => exact hst.elim
      | false => exact .inr ⟨rfl, s1, b, n, hsem, hnext, htch, hlook, hg, hq, hst.1, hst.2⟩
    split at hst
    · rename_i c x y hop
      split at hst
      · rename_i t hsl
        have hpick : ∀ (z : Operand), z = (if t = true then x else y) → cond (belowE (s.next + (i + 1) * maxIds) ⟨s.get z, []⟩ && (!draw || effIn (idsS' (s.get z)) ⟨s.get z, []⟩)) (aRegion E ops draw K r (s1.put o.dst ⟨s.get z, []⟩) (⟨i, s.next + i * maxIds, idsS' (s.get z), []⟩ :: tr)) False → Hd E ops draw K o i r s tr := by
          intro z hz hst
          cases hq : (belowE (s.next + (i + 1) * maxIds) ⟨s.get z, []⟩ && (!draw || effIn (idsS' (s.get z)) ⟨s.get z, []⟩)) with
          | false => rw [hq] at hst; exact hst.elim
          | true =>
            rw [hq] at hst
            simp only [Bool.and_eq_true] at hq
            refine put s1 (idsS' (s.get z)) ⟨s.get z, []⟩ hsem hnext htch hlook (.inr ⟨hg, .inl ⟨c, x, y, t, hop, hsl, by rw [sem_get, hz]⟩⟩) ⟨hq.1, fun hd => ?_⟩ hst
            have := hq.2
            subst hd
            simpa using this
        cases t with
        | true => exact hpick x rfl hst
        | false => exact hpick y rfl hst
      · exact hst.elim
    · split at hst
      · rename_i obs e he
        cases hb : (belowE (s.next + (i + 1) * maxIds) e && (!draw || effIn (if draw then opIds s.obj s.get o.op else []) e)) with
        | false => rw [hb] at hst; exact hst.elim
        | true =>
          rw [hb] at hst
          simp only [Bool.and_eq_true] at hb
          obtain ⟨hob, hrest⟩ := allP_elim hst
          refine put s1 (if draw then opIds s.obj s.get o.op else []) e hsem hnext htch hlook (.inr ⟨hg, .inr ⟨obs, hob, ?_⟩⟩) ⟨hb.1, fun hd => ?_⟩ hrest
          · rw [sem_get]
            cases draw <;> exact he
          · have := hb.2
            subst hd
            simpa using this
      · exact hst.elim
  have skip : ∀ (s1 : St) (g : Nat) (want : Bool) (c : Nat), s1.sem = s.sem → s1.next = s.next → s1.tch = s.tch → (∀ t, (∀ g want, o.guard = some (g, want) → (ops[g]?).bind (·.dst) ≠ some t) → look s1.slots t = look s.slots t) → o.guard = some (g, want) → (ops[g]?).bind (·.dst) = some c → (s.sem.slot c = .tup [] ∨ s.sem.slot c = .v false [.bool (!want)]) →
      aRegion E ops draw K r (s1.put o.dst undefE) (⟨i, s.next + i * maxIds, [], []⟩ :: tr) → Hd E ops draw K o i r s tr := by
    intro s1 g want c hsem hnext htch hlook hg hc hs hr
    exact put s1 [] undefE hsem hnext htch hlook (.inl ⟨g, want, c, hg, hc, hs, rfl⟩) ⟨rfl, fun _ => rfl⟩ hr
  unfold aRegion at h
  split at h
  · rename_i hg
    exact step s rfl rfl rfl (fun _ _ => rfl) (.inl hg) h
  · rename_i g want hg
    split at h
    · exact h.elim
    · rename_i c hc
      have hlk : ∀ (b : Bool) (t : Nat), (∀ g want, o.guard = some (g, want) → (ops[g]?).bind (·.dst) ≠ some t) → look (s.lit c b).slots t = look s.slots t := by
        intro b t ht
        show look ((c, _) :: s.slots) t = _
        rw [look_cons, if_neg]
        intro e
        subst e
        exact ht g want hg hc
      split at h
      · rename_i t hsl
        cases t with
        | true =>
          simp only [cond_true] at h
          cases want with
          | true => exact step (s.lit c true) (lit_sem hsl) rfl rfl (hlk true) (.inr ⟨g, true, c, hg, hc, hsl⟩) h
          | false => exact skip (s.lit c true) g false c (lit_sem hsl) rfl rfl (hlk true) hg hc (.inr hsl) h
        | false =>
          simp only [cond_false] at h
          cases want with
          | true => exact skip (s.lit c false) g true c (lit_sem hsl) rfl rfl (hlk false) hg hc (.inr hsl) h
          | false => exact step (s.lit c false) (lit_sem hsl) rfl rfl (hlk false) (.inr ⟨g, false, c, hg, hc, hsl⟩) h
      · rename_i hsl
        exact skip s g want c rfl rfl rfl (fun _ _ => rfl) hg hc (.inl hsl) h
      · exact h.elim

/-- OUT OF THE EVALUATOR: the entries of a region that draws, in the order of the text, and the state that they lead to. -/
theorem region_chain {ops : Array Oper} {draw : Bool} (hdraw : draw = true) {K : St → List Step → Prop} : ∀ (r : List (Oper × Nat)) (s : St) (tr : List Step), aRegion E ops draw K r s tr →
    RC E ops draw K r s tr
  | [], s, tr, h => ⟨[], s, rfl, .nil _, (fun _ h => by cases h), rfl, rfl, fun _ _ => rfl, h⟩
  | (o, i) :: r, s, tr, h => by
    rcases region_step h with ⟨s1, ids, e, hsem, hnext, htch, hlook, hok, hb, hr⟩ | ⟨hf, _⟩
    · obtain ⟨es, s', h1, h2, h3, h4, h5, h6, h7⟩ := region_chain hdraw r _ _ hr
      have hn1 : (s1.put o.dst e).next = s.next := hnext
      rw [hn1] at h2 h3 h4 h7
      rw [sem_put, hsem] at h2
      refine ⟨⟨i, o, ids, e⟩ :: es, s', by simp [h1], .cons hok h2, ?_, h4, ?_, ?_, ?_⟩
      · intro n hn
        rcases List.mem_cons.1 hn with rfl | hn
        · exact hb
        · exact h3 n hn
      · rw [h5]
        show _ ++ (e.upd.map (·.1) ++ s1.tch) = _
        rw [htch]
        simp [List.flatMap_append]
      · intro t ht
        rw [h6 t fun n hn => ht n (by simp [hn])]
        have h8 := ht ⟨i, o, ids, e⟩ (by simp)
        show look (match o.dst with | some d => (d, e.res) :: s1.slots | none => s1.slots) t = _
        cases hdst : o.dst with
        | none => exact hlook t h8.2
        | some d =>
          simp only
          rw [look_cons, if_neg (fun e => h8.1 (by simp only [hdst, e]))]
          exact hlook t h8.2
      · simpa [stepOf] using h7
    · rw [hdraw] at hf; cases hf

end
end Go.Proofs.Ytoalcmpjfnlkdaa
