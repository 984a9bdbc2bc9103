/- THE MACHINE OF READINGS, contracts by shapes: a contract that is told as a function of plain data. -/
import Derived.Test.YtoalcmpjfnlkdaaEZ
namespace Go.Proofs.Ytoalcmpjfnlkdaa
open Go.RowKit

/-- a cell of an argument: data; an own row, by its number; just this cell -/
inductive CS where
  | rd (t : Ty)
  | own (id : Nat)
  | lit (c : C)
inductive Par where
  | one (c : CS)
  | agg (cs : List CS)
inductive MS where
  | box (cs : List CS)
  | row (t : Ty)
@[reducible] def denCS : CS → Type
  | .rd t => t.den
  | _ => Unit
@[reducible] def denCSs : List CS → Type
  | [] => Unit
  | c :: r => denCS c × denCSs r
@[reducible] def denPar : Par → Type
  | .one c => denCS c
  | .agg cs => denCSs cs
@[reducible] def denPars : List Par → Type
  | [] => Unit
  | p :: r => denPar p × denPars r
@[reducible] def denMS : MS → Type
  | .box cs => denCSs cs
  | .row t => List t.den
@[reducible] def denMSs : List MS → Type
  | [] => Unit
  | m :: r => denMS m × denMSs r

def sameC : C → C → Bool
  | .pt a b, .pt c d => Nat.beq a c && Nat.beq b d
  | .fn f l, .fn g r => Nat.beq f g && (l == r)
  | .nil, .nil => true
  | _, _ => false
def parseCS : (c : CS) → C → Option (denCS c)
  | .rd t, c => uncell1 t c
  | .own id, .hs id' => bif Nat.beq id id' then some () else none
  | .own _, _ => none
  | .lit l, c => bif sameC l c then some () else none
def parseCSs : (l : List CS) → List C → Option (denCSs l)
  | [], [] => some ()
  | c :: r, x :: xs => match parseCS c x, parseCSs r xs with
    | some a, some b => some (a, b)
    | _, _ => none
  | _, _ => none
def parsePar : (p : Par) → SV → Option (denPar p)
  | .one c, .v false [x] => parseCS c x
  | .agg cs, .v true l => parseCSs cs l
  | _, _ => none
def parsePars : (l : List Par) → List SV → Option (denPars l)
  | [], [] => some ()
  | p :: r, x :: xs => match parsePar p x, parsePars r xs with
    | some a, some b => some (a, b)
    | _, _ => none
  | _, _ => none
/-- a box's cells are told of as they stand -/
def strict1 : (t : Ty) → C → Option t.den
  | .int k, .int k' n => if k = k' then some n else none
  | .bool, .bool b => some b
  | .str, .str s => some s
  | .sl t, .sl t' xs => if h : t' = t then some (h ▸ xs) else none
  | _, _ => none
def strictCS : (c : CS) → C → Option (denCS c)
  | .rd t, c => strict1 t c
  | .own id, .hs id' => bif Nat.beq id id' then some () else none
  | .own _, _ => none
  | .lit l, c => bif sameC l c then some () else none
def strictCSs : (l : List CS) → List C → Option (denCSs l)
  | [], [] => some ()
  | c :: r, x :: xs => match strictCS c x, strictCSs r xs with
    | some a, some b => some (a, b)
    | _, _ => none
  | _, _ => none
def castRow {t t' : Ty} (h : t' = t) (ys : List t'.den) : List t.den := h ▸ ys
def parseMS : (m : MS) → Option Obj → Option (denMS m)
  | .box cs, some (.box l) => strictCSs cs l
  | .row t, some (.row t' ys) => if h : t' = t then some (castRow h ys) else none
  | _, _ => none
def parseMSs : (l : List MS) → Nat → List (Nat × Option Obj) → Option (denMSs l)
  | [], _, [] => some ()
  | m :: r, k, x :: xs => bif Nat.beq k x.1 then
      match parseMS m x.2, parseMSs r (k + 1) xs with
      | some a, some b => some (a, b)
      | _, _ => none
    else none
  | _, _, _ => none
def putCS : (c : CS) → denCS c → C
  | .rd t, x => cell1 t x
  | .own id, _ => .hs id
  | .lit c, _ => c
def putCSs : (l : List CS) → denCSs l → List C
  | [], _ => []
  | c :: r, x => putCS c x.1 :: putCSs r x.2
def putPar : (p : Par) → denPar p → SV
  | .one c, x => .v false [putCS c x]
  | .agg cs, x => .v true (putCSs cs x)
def putPars : (l : List Par) → denPars l → List SV
  | [], _ => []
  | p :: r, x => putPar p x.1 :: putPars r x.2
def putMS : (m : MS) → denMS m → Obj
  | .box cs, x => .box (putCSs cs x)
  | .row t, x => .row t x
def putMSs : (l : List MS) → Nat → denMSs l → List (Nat × Option Obj)
  | [], _, _ => []
  | m :: r, k, x => (k, some (putMS m x.1)) :: putMSs r (k + 1) x.2

/-- what a contract is told of -/
structure Shape where
  ps : List Par
  ms : List MS
abbrev Shape.den (S : Shape) : Type := denPars S.ps × denMSs S.ms
def Shape.args (S : Shape) (x : S.den) : List SV := putPars S.ps x.1
def Shape.mem (S : Shape) (x : S.den) : List (Nat × Option Obj) := putMSs S.ms 0 x.2
def Shape.parse (S : Shape) (args : List SV) (m0 : List (Nat × Option Obj)) : Option S.den :=
  match parsePars S.ps args, parseMSs S.ms 0 m0 with
  | some a, some b => some (a, b)
  | _, _ => none

/-- a contract: for arguments of this shape, where pre holds: results vs, as f says -/
def shCtr (S : Shape) (pre : S.den → List Prop) (dead : List Nat) (vs : List Var) (f : S.den → denVars vs) : Ctr := fun args m0 =>
  match S.parse args m0 with
  | some x => some (pre x, outOf vs dead (f x) (S.mem x))
  | none => none

/-- one contract or the other -/
def orCtr (c d : Ctr) : Ctr := fun args m0 =>
  match c args m0 with
  | some r => some r
  | none => d args m0

theorem sameC_eq {l c : C} (h : sameC l c = true) : l = c := by
  unfold sameC at h
  split at h
  · simp only [Bool.and_eq_true, Nat.beq_eq] at h; rw [h.1, h.2]
  · simp only [Bool.and_eq_true, Nat.beq_eq, beq_iff_eq] at h; rw [h.1, h.2]
  · rfl
  · cases h

section
variable {w : World} {N : Blk} {ρ : Nat → Pl} {m m' : Mem}

theorem parseCS_ok (ht : Turn ρ m ρ m' fun _ => False) {c : CS} {x : C} {d : denCS c} {v : Value} (he : parseCS c x = some d) (h : CR w N ρ m x v) : CR w N ρ m' (putCS c d) v := by
  have hs : SameOn N w w := fun _ _ => rfl
  cases c with
  | rd t => exact uncell1_ok he h
  | own id =>
    cases x <;> simp only [parseCS, reduceCtorEq] at he
    rename_i id'
    cases hb : Nat.beq id id' with
    | false => rw [hb] at he; cases he
    | true =>
      have := Nat.eq_of_beq_eq_true hb
      subst this
      exact CR.turn ht (fun _ h => h) hs (fun _ _ h => h) h
  | lit l =>
    simp only [parseCS] at he
    cases hb : sameC l x with
    | false => rw [hb] at he; cases he
    | true =>
      have := sameC_eq hb
      subst this
      exact CR.turn ht (fun _ h => h) hs (fun _ _ h => h) h

theorem parseCSs_ok (ht : Turn ρ m ρ m' fun _ => False) : ∀ {l : List CS} {xs : List C} {d : denCSs l} {vs : List Value}, parseCSs l xs = some d → All2 (CR w N ρ m) xs vs → All2 (CR w N ρ m') (putCSs l d) vs
  | [], [], _, _, _, h => by cases h; exact .nil
  | [], _ :: _, _, _, he, _ => by simp [parseCSs] at he
  | _ :: _, [], _, _, he, _ => by simp [parseCSs] at he
  | c :: r, x :: xs, d, _, he, h => by
    cases h with
    | cons h1 h2 =>
      simp only [parseCSs] at he
      split at he
      · rename_i a b e1 e2
        simp only [Option.some.injEq] at he
        subst he
        exact .cons (parseCS_ok ht e1 h1) (parseCSs_ok ht e2 h2)
      · cases he

theorem parsePar_ok (ht : Turn ρ m ρ m' fun _ => False) {p : Par} {x : SV} {d : denPar p} {v : Value} (he : parsePar p x = some d) (h : SVR w N ρ m x v) : SVR w N ρ m' (putPar p d) v := by
  cases p with
  | one c =>
    cases x with
    | un => cases he
    | tup l => cases he
    | v ag cs =>
      cases ag with
      | true => cases he
      | false =>
        obtain ⟨c', rfl, h1⟩ := h
        exact ⟨_, rfl, parseCS_ok ht he h1⟩
  | agg cs =>
    cases x with
    | un => cases he
    | tup l => cases he
    | v ag l =>
      cases ag with
      | false => cases he
      | true =>
        obtain ⟨us, e, h1⟩ := h
        exact ⟨us, e, parseCSs_ok ht he h1⟩

theorem parsePars_ok (ht : Turn ρ m ρ m' fun _ => False) : ∀ {l : List Par} {xs : List SV} {d : denPars l} {vs : List Value}, parsePars l xs = some d → All2 (SVR w N ρ m) xs vs → All2 (SVR w N ρ m') (putPars l d) vs
  | [], [], _, _, _, h => by cases h; exact .nil
  | [], _ :: _, _, _, he, _ => by simp [parsePars] at he
  | _ :: _, [], _, _, he, _ => by simp [parsePars] at he
  | p :: r, x :: xs, d, _, he, h => by
    cases h with
    | cons h1 h2 =>
      simp only [parsePars] at he
      split at he
      · rename_i a b e1 e2
        simp only [Option.some.injEq] at he
        subst he
        exact .cons (parsePar_ok ht e1 h1) (parsePars_ok ht e2 h2)
      · cases he

theorem parseCS_ids {c : CS} {x : C} {d : denCS c} (he : parseCS c x = some d) : ∀ id ∈ idsC (putCS c d), id ∈ idsC x := by
  cases c with
  | rd t => intro id h; simp only [putCS, cell1_ids] at h; cases h
  | own i =>
    cases x <;> simp only [parseCS, reduceCtorEq] at he
    rename_i id'
    cases hb : Nat.beq i id' with
    | false => rw [hb] at he; cases he
    | true => have := Nat.eq_of_beq_eq_true hb; subst this; exact fun _ h => h
  | lit l =>
    simp only [parseCS] at he
    cases hb : sameC l x with
    | false => rw [hb] at he; cases he
    | true => have := sameC_eq hb; subst this; exact fun _ h => h

theorem parseCSs_ids : ∀ {l : List CS} {xs : List C} {d : denCSs l}, parseCSs l xs = some d → ∀ id ∈ idsCs (putCSs l d), id ∈ idsCs xs
  | [], [], _, _, _, h => h
  | [], _ :: _, _, he, _, _ => by simp [parseCSs] at he
  | _ :: _, [], _, he, _, _ => by simp [parseCSs] at he
  | c :: r, x :: xs, d, he, id, h => by
    simp only [parseCSs] at he
    split at he
    · rename_i a b e1 e2
      simp only [Option.some.injEq] at he
      subst he
      simp only [idsCs, putCSs, List.flatMap_cons, List.mem_append] at h ⊢
      rcases h with h | h
      · exact .inl (parseCS_ids e1 id h)
      · exact .inr (parseCSs_ids e2 id h)
    · cases he

theorem parsePar_ids {p : Par} {x : SV} {d : denPar p} (he : parsePar p x = some d) : ∀ id ∈ idsS (putPar p d), id ∈ idsS x := by
  cases p with
  | one c =>
    cases x with
    | un => cases he
    | tup l => cases he
    | v ag cs =>
      cases ag with
      | true => cases he
      | false =>
        match cs, he with
        | [c'], he =>
          intro id hid
          simp only [putPar, idsS, idsCs, List.flatMap_cons, List.flatMap_nil, List.append_nil] at hid ⊢
          exact parseCS_ids he id hid
        | [], he => cases he
        | _ :: _ :: _, he => cases he
  | agg cs =>
    cases x with
    | un => cases he
    | tup l => cases he
    | v ag l =>
      cases ag with
      | false => cases he
      | true => exact parseCSs_ids (l := cs) he

theorem parsePars_ids : ∀ {l : List Par} {xs : List SV} {d : denPars l}, parsePars l xs = some d → ∀ s ∈ putPars l d, ∀ id ∈ idsS s, ∃ s' ∈ xs, id ∈ idsS s'
  | [], _, _, _, s, h => by cases h
  | _ :: _, [], _, he, _, _ => by simp [parsePars] at he
  | p :: r, x :: xs, d, he, s, h => by
    simp only [parsePars] at he
    split at he
    · rename_i a b e1 e2
      simp only [Option.some.injEq] at he
      subst he
      intro id hid
      rcases List.mem_cons.1 h with rfl | h
      · exact ⟨_, List.mem_cons_self, parsePar_ids e1 id hid⟩
      · obtain ⟨s', h1, h2⟩ := parsePars_ids e2 s h id hid
        exact ⟨s', List.mem_cons_of_mem _ h1, h2⟩
    · cases he

theorem strict1_eq {t : Ty} {c : C} {x : t.den} (h : strict1 t c = some x) : cell1 t x = c := by
  cases t with
  | unit => cases c <;> simp [strict1] at h
  | pair a b => cases c <;> simp [strict1] at h
  | int k =>
    cases c <;> simp only [strict1, reduceCtorEq] at h
    split at h
    · rename_i hk; subst hk; simp only [Option.some.injEq] at h; subst h; rfl
    · cases h
  | bool => cases c <;> simp only [strict1, reduceCtorEq, Option.some.injEq] at h; subst h; rfl
  | str => cases c <;> simp only [strict1, reduceCtorEq, Option.some.injEq] at h; subst h; rfl
  | sl t =>
    cases c <;> simp only [strict1, reduceCtorEq] at h
    split at h
    · rename_i ht; subst ht; simp only [Option.some.injEq] at h; subst h; rfl
    · cases h
theorem strictCS_eq {c : CS} {x : C} {d : denCS c} (he : strictCS c x = some d) : putCS c d = x := by
  cases c with
  | rd t => exact strict1_eq he
  | own i =>
    cases x <;> simp only [strictCS, reduceCtorEq] at he
    rename_i id'
    cases hb : Nat.beq i id' with
    | false => rw [hb] at he; cases he
    | true => have := Nat.eq_of_beq_eq_true hb; subst this; rfl
  | lit l =>
    simp only [strictCS] at he
    cases hb : sameC l x with
    | false => rw [hb] at he; cases he
    | true => exact sameC_eq hb
theorem strictCSs_eq : ∀ {l : List CS} {xs : List C} {d : denCSs l}, strictCSs l xs = some d → putCSs l d = xs
  | [], [], _, _ => rfl
  | [], _ :: _, _, he => by simp [strictCSs] at he
  | _ :: _, [], _, he => by simp [strictCSs] at he
  | c :: r, x :: xs, d, he => by
    simp only [strictCSs] at he
    split at he
    · rename_i a b e1 e2
      simp only [Option.some.injEq] at he
      subst he
      simp only [putCSs, strictCS_eq e1, strictCSs_eq e2]
    · cases he
theorem parseMS_eq {p : MS} {o : Option Obj} {d : denMS p} (he : parseMS p o = some d) : some (putMS p d) = o := by
  cases p with
  | box cs =>
    cases o with
    | none => cases he
    | some o => cases o with
      | row t xs => cases he
      | box l => simp only [putMS]; rw [strictCSs_eq he]
  | row t =>
    cases o with
    | none => cases he
    | some o => cases o with
      | box l => cases he
      | row t' ys =>
        simp only [parseMS] at he
        split at he
        · rename_i ht
          subst ht
          simp only [Option.some.injEq] at he
          subst he
          rfl
        · cases he
theorem parseMSs_eq : ∀ {l : List MS} {k : Nat} {m0 : List (Nat × Option Obj)} {d : denMSs l}, parseMSs l k m0 = some d → putMSs l k d = m0
  | [], _, [], _, _ => rfl
  | [], _, _ :: _, _, he => by simp [parseMSs] at he
  | _ :: _, _, [], _, he => by simp [parseMSs] at he
  | p :: r, k, (k', o) :: m0, d, he => by
    simp only [parseMSs] at he
    cases hb : Nat.beq k k' with
    | false => rw [hb] at he; cases he
    | true =>
      rw [hb] at he
      simp only [cond_true] at he
      have := Nat.eq_of_beq_eq_true hb
      subst this
      split at he
      · rename_i a b e1 e2
        simp only [Option.some.injEq] at he
        subst he
        simp only [putMSs, parseMS_eq e1, parseMSs_eq e2]
      · cases he

theorem parse_some {S : Shape} {args : List SV} {m0 : List (Nat × Option Obj)} {x : S.den} (h : S.parse args m0 = some x) : parsePars S.ps args = some x.1 ∧ parseMSs S.ms 0 m0 = some x.2 := by
  unfold Shape.parse at h
  split at h
  · rename_i a b e1 e2
    simp only [Option.some.injEq] at h
    subst h
    exact ⟨e1, e2⟩
  · cases h

/-- Arguments of a shape are, for all that is said of them, what was read. -/
theorem shape_spec {P : Program} {glob : Nat → Option (List C)} {K : FuncId} {S : Shape} {args : List SV} {m0 : List (Nat × Option Obj)} {x : S.den} (hp : S.parse args m0 = some x) {r : SV} {m1 : List (Nat × Option Obj)}
    (h : SpecR P glob K (S.args x) (S.mem x) r m1) : SpecR P glob K args m0 r m1 := by
  obtain ⟨e1, e2⟩ := parse_some hp
  have hm : S.mem x = m0 := parseMSs_eq e2
  rw [hm] at h
  intro w N ρ vs hgl hmr hargs hai hmi
  exact h w N ρ vs hgl hmr (parsePars_ok (.same rfl rfl) e1 hargs) (fun s hs id hid => by
    obtain ⟨s', hs', hid'⟩ := parsePars_ids e1 s hs id hid
    exact hai s' hs' id hid') hmi

theorem spec_or {P : Program} {glob : Nat → Option (List C)} {K : FuncId} {c d : Ctr} (hc : Meets P glob K c) (hd : Meets P glob K d) : Meets P glob K (orCtr c d) := by
  refine ⟨hc.1, fun args m0 obs r m1 h hp => ?_⟩
  unfold orCtr at h
  split at h
  · rename_i q hq
    simp only [Option.some.injEq] at h
    subst h
    exact hc.2 _ _ _ _ _ hq hp
  · exact hd.2 _ _ _ _ _ h hp

/-- A FUNCTION MEETS A CONTRACT when the evaluator says so. -/
theorem meets_of {E : Env} (hE : E.Ok) (S : Shape) (A : S.den → Nat → St → Option Ann) {K : FuncId} {fn : Func} (hf : E.P.funcs[K]? = some fn) (hb : fn.body.isSome = true) (hn : (fn.name == "runtime.NumGoroutine") = false)
    (pre : S.den → List Prop) (dead : List Nat) (vs : List Var) (f : S.den → denVars vs)
    (h : ∀ x, (∀ p ∈ pre x, p) → afn E (A x) fn (S.args x) (S.mem x) dead vs fun y => y = f x) : Meets E.P E.glob K (shCtr S pre dead vs f) := by
  refine ⟨⟨fn, hf, hb, hn⟩, fun args m0 obs r m1 hc hp => ?_⟩
  unfold shCtr at hc
  split at hc
  · rename_i x hx
    simp only [Option.some.injEq, Prod.mk.injEq] at hc
    obtain ⟨rfl, rfl, rfl⟩ := hc
    exact shape_spec hx (spec_of hE (A x) hf (h x hp) fun y hy => hy)
  · cases hc

end
end Go.Proofs.Ytoalcmpjfnlkdaa
