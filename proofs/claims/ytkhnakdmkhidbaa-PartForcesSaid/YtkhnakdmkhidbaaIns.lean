/- slices.Insert on an own row, where its walk is known: its contract. It names no program. No condition. -/
import Derived.Test.YtkhnakdmkhidbaaFF
namespace Go.Proofs.Ytkhnakdmkhidbaa
open Go.RowKit

/-- the cells of a row where an element was put in -/
def InsCells (vals vvals : Array Value) (n i z : Nat) (vals' : Array Value) : Prop :=
  ∀ j, j < (n + 1) * z → vals'[j]? = if j < i * z then vals[j]? else if j < i * z + z then vvals[j - i * z]? else vals[j - z]?
/-- WHAT A WALK OF slices.Insert IS TO SHOW, for elements of z cells: in place, or in a new block. -/
def InsWalk (P : Program) (K : FuncId) (z bytes : Nat) : Prop :=
  ∀ (w : World) (b vb cap vcap n i : Nat) (vals vvals : Array Value) (T T' : TypeId), i < n → n ≤ cap → cap ≤ 9223372036854775807 → 0 < vcap → b ≠ vb → (n + 1) * bytes ≤ 140737488351232 →
    w.heap[b]? = some (.cells vals T (0, 0)) → vals.size = cap * z → w.heap[vb]? = some (.cells vvals T' (0, 0)) → vvals.size = vcap * z →
    (∀ (j : Nat) v, j < n * z → vals[j]? = some v → v.oneCell' = true) → (∀ (j : Nat) v, j < z → vvals[j]? = some v → v.oneCell' = true) →
    Calls P K #[.slice (some ⟨b, 0, none⟩) n cap, .int .i64 (i : Int), .slice (some ⟨vb, 0, none⟩) 1 vcap] w fun e w' =>
      w'.os = w.os ∧ w'.tape = w.tape ∧ w'.output = w.output ∧
      ((n + 1 ≤ cap ∧ e = .returned (.slice (some ⟨b, 0, none⟩) (n + 1) cap) ∧ w'.heap.size = w.heap.size ∧ (∀ k, k ≠ b → w'.heap[k]? = w.heap[k]?) ∧ ∃ vals', w'.heap[b]? = some (.cells vals' T (0, 0)) ∧ vals'.size = cap * z ∧ InsCells vals vvals n i z vals') ∨
       (∃ cap' vals' T2, n + 1 ≤ cap' ∧ cap' ≤ 9223372036854775807 ∧ e = .returned (.slice (some ⟨w.heap.size, 0, none⟩) (n + 1) cap') ∧ w'.heap = w.heap.push (.cells vals' T2 (0, 0)) ∧ vals'.size = cap' * z ∧ InsCells vals vvals n i z vals'))

def pIns {α : Type} (xs : List α) (i : Nat) (y : α) : List α := xs.take i ++ y :: xs.drop i
theorem pIns_len {α : Type} {xs : List α} {i : Nat} {y : α} (h : i ≤ xs.length) : (pIns xs i y).length = xs.length + 1 := by
  unfold pIns; rw [List.length_append, List.length_cons, List.length_take, List.length_drop]; omega
theorem pIns_get {α : Type} {xs : List α} {i : Nat} {y : α} (h : i ≤ xs.length) {k : Nat} (hk : k < (pIns xs i y).length) :
    (k < i ∧ ∃ hk' : k < xs.length, (pIns xs i y)[k] = xs[k]) ∨ (k = i ∧ (pIns xs i y)[k] = y) ∨ (i < k ∧ ∃ hk' : k - 1 < xs.length, (pIns xs i y)[k] = xs[k - 1]) := by
  have hl := pIns_len (y := y) h
  have ht : (xs.take i).length = i := by rw [List.length_take]; omega
  rcases Nat.lt_trichotomy k i with h1 | h1 | h1
  · refine .inl ⟨h1, by omega, ?_⟩
    have e : (pIns xs i y)[k]? = xs[k]? := by
      unfold pIns
      rw [List.getElem?_append_left (by omega), List.getElem?_take, if_pos h1]
    rw [List.getElem?_eq_getElem hk, List.getElem?_eq_getElem (by omega)] at e
    exact Option.some.inj e
  · refine .inr (.inl ⟨h1, ?_⟩)
    subst h1
    have e : (pIns xs k y)[k]? = some y := by
      unfold pIns
      rw [List.getElem?_append_right (by omega), ht, Nat.sub_self]; rfl
    rw [List.getElem?_eq_getElem hk] at e
    exact Option.some.inj e
  · refine .inr (.inr ⟨h1, by omega, ?_⟩)
    have e : (pIns xs i y)[k]? = xs[k - 1]? := by
      unfold pIns
      rw [List.getElem?_append_right (by omega), ht]
      obtain ⟨d, hd⟩ : ∃ d, k - i = d + 1 := ⟨k - i - 1, by omega⟩
      rw [hd, List.getElem?_cons_succ, List.getElem?_drop]
      congr 1; omega
    rw [List.getElem?_eq_getElem hk, List.getElem?_eq_getElem (by omega)] at e
    exact Option.some.inj e

theorem ins_elems {w w' : World} {N N' : Blk} {t : Ty} {xs : List t.den} {y : t.den} {vals vvals vals' : Array Value} {i : Nat} (hi : i ≤ xs.length) (hN : ∀ b, N b → N' b) (hs : SameOn N w w')
    (h1 : ∀ (k : Nat) (h : k < xs.length), ∃ us : List Value, Rd t w N us xs[k] ∧ ∀ (j : Nat) (u : Value), us[j]? = some u → vals[k * t.size + j]? = some u)
    (h2 : ∃ us : List Value, Rd t w N us y ∧ ∀ (j : Nat) (u : Value), us[j]? = some u → vvals[j]? = some u) (hc : InsCells vals vvals xs.length i t.size vals') :
    ∀ (k : Nat) (h : k < (pIns xs i y).length), ∃ us : List Value, Rd t w' N' us (pIns xs i y)[k] ∧ ∀ (j : Nat) (u : Value), us[j]? = some u → vals'[k * t.size + j]? = some u := by
  intro k hk
  have hl := pIns_len (y := y) hi
  have kz : (k + 1) * t.size ≤ (xs.length + 1) * t.size := Nat.mul_le_mul_right _ (by omega)
  rw [Nat.add_mul, Nat.one_mul] at kz
  rcases pIns_get hi hk with ⟨hki, hk', e⟩ | ⟨hki, e⟩ | ⟨hki, hk', e⟩
  · obtain ⟨us, hr, hg⟩ := h1 k hk'
    refine ⟨us, by rw [e]; exact hr.mono hN hs, fun j u hj => ?_⟩
    have hjz : j < t.size := by rw [← hr.len]; exact (List.getElem?_eq_some_iff.1 hj).1
    have : (k + 1) * t.size ≤ i * t.size := Nat.mul_le_mul_right _ hki
    rw [Nat.add_mul, Nat.one_mul] at this
    rw [hc _ (by omega), if_pos (by omega)]
    exact hg j u hj
  · obtain ⟨us, hr, hg⟩ := h2
    subst hki
    refine ⟨us, by rw [e]; exact hr.mono hN hs, fun j u hj => ?_⟩
    have hjz : j < t.size := by rw [← hr.len]; exact (List.getElem?_eq_some_iff.1 hj).1
    rw [hc _ (by omega), if_neg (by omega), if_pos (by omega), Nat.add_sub_cancel_left]
    exact hg j u hj
  · obtain ⟨us, hr, hg⟩ := h1 (k - 1) hk'
    refine ⟨us, by rw [e]; exact hr.mono hN hs, fun j u hj => ?_⟩
    have hjz : j < t.size := by rw [← hr.len]; exact (List.getElem?_eq_some_iff.1 hj).1
    have h3 : (i + 1) * t.size ≤ k * t.size := Nat.mul_le_mul_right _ hki
    rw [Nat.add_mul, Nat.one_mul] at h3
    have h4 : k * t.size = (k - 1) * t.size + t.size := by
      have : k = k - 1 + 1 := by omega
      conv => lhs; rw [this, Nat.add_mul, Nat.one_mul]
    rw [hc _ (by omega), if_neg (by omega), if_neg (by omega)]
    have : k * t.size + j - t.size = (k - 1) * t.size + j := by omega
    rw [this]
    exact hg j u hj

abbrev insShape (t : Ty) : Shape := ⟨[.one (.own 0), .one (.rd (.int .i64)), .one (.own 1)], [.row t, .row t]⟩
abbrev insPre (t : Ty) (bytes : Nat) (x : (insShape t).den) : List Prop := [pIn x.1.2.1 (pLen x.2.1), pLen x.2.2.1 = 1, pRoom (pPlus (pLen x.2.1) 1) bytes]
abbrev insVal (t : Ty) (x : (insShape t).den) : denVars [.slot 0 true t] := (pIns x.2.1 (pNat x.1.2.1) (pGet t x.2.2.1 0), ())

theorem meets_ins {P : Program} {g : Nat → Option Gl} {K : FuncId} {fn : Func} (hf : P.funcs[K]? = some fn) (hb : fn.body.isSome = true) (hn : (fn.name == "runtime.NumGoroutine") = false) {t : Ty} {bytes : Nat} (hz : 0 < t.size)
    (hw : InsWalk P K t.size bytes) : Meets P g K (shCtr (insShape t) (insPre t bytes) [0] [.slot 0 true t] (insVal t)) := by
  refine ⟨⟨fn, hf, hb, hn⟩, fun args m0 obs r m1 hc hp => ?_⟩
  unfold shCtr at hc
  split at hc
  · rename_i x hx
    simp only [Option.some.injEq, Prod.mk.injEq] at hc
    obtain ⟨rfl, hrm⟩ := hc
    refine shape_spec hx ?_
    obtain ⟨⟨_, i, _, _⟩, xs, ys, u⟩ := x
    have hi : 0 ≤ i ∧ i < (xs.length : Int) := hp _ List.mem_cons_self
    have hy : ys.length = 1 := hp _ (List.mem_cons_of_mem _ List.mem_cons_self)
    have hroom : (xs.length + 1) * bytes ≤ 140737488351232 := hp _ (List.mem_cons_of_mem _ (List.mem_cons_of_mem _ List.mem_cons_self))
    clear hp
    have key : ∀ i : Int, 0 ≤ i ∧ i < (xs.length : Int) → ∃ j : Nat, i = (j : Int) ∧ j < xs.length := fun i h => ⟨i.toNat, by omega, by omega⟩
    obtain ⟨j, rfl, hj⟩ := key i hi
    match ys, hy with
    | [y], _ =>
    have er : r = .v false [.hs 2] := (congrArg Prod.fst hrm).symm
    have em : m1 = [(2, some (.row t (pIns xs j y))), (0, none)] := (congrArg Prod.snd hrm).symm
    subst er em
    clear hrm hx
    intro w N ρ vs hgl hmr hargs hai hmi
    have hm0 : memOf (Shape.mem (insShape t) ⟨⟨(), (j : Int), (), ()⟩, xs, [y], u⟩) = fun id => if id = 0 then some (.row t xs) else if id = 1 then some (.row t [y]) else none := by
      funext id
      match id with
      | 0 => rfl
      | 1 => rfl
      | n + 2 => rfl
    have hm1 : memOf ([(2, some (.row t (pIns xs j y))), (0, none)] ++ Shape.mem (insShape t) ⟨⟨(), (j : Int), (), ()⟩, xs, [y], u⟩) = fun id => if id = 2 then some (.row t (pIns xs j y)) else if id = 1 then some (.row t [y]) else none := by
      funext id
      match id with
      | 0 => rfl
      | 1 => rfl
      | 2 => rfl
      | n + 3 => rfl
    rw [hm0] at hmr hargs
    rw [hm0, hm1]
    have ho0 := hmr.obj 0 _ rfl
    have ho1 := hmr.obj 1 _ rfl
    cases hargs with
    | cons a0 r0 => cases r0 with
      | cons a1 r1 => cases r1 with
        | cons a2 r2 => cases r2 with
          | nil =>
    rename_i v0 v1 v2
    obtain ⟨c0, e0, a0⟩ := a0
    obtain rfl : C.hs 0 = c0 := (List.cons.inj e0).1
    obtain ⟨c1, e1, a1⟩ := a1
    obtain rfl : C.int .i64 (j : Int) = c1 := (List.cons.inj e1).1
    obtain ⟨c2, e2, a2⟩ := a2
    obtain rfl : C.hs 1 = c2 := (List.cons.inj e2).1
    have a0 := a0.2 t xs rfl
    have a1 : v1 = .int .i64 (j : Int) := a1
    have a2 := a2.2 t [y] rfl
    obtain ⟨hl0, hr0⟩ := ho0
    obtain ⟨b, vals, T, hA, hh, hvs, hel⟩ := hr0 (by omega)
    obtain ⟨hl1, hr1⟩ := ho1
    simp only [List.length_singleton] at hl1 a2
    obtain ⟨vb, vvals, T', hA', hh', hvs', hel'⟩ := hr1 (by omega)
    rw [hA] at a0
    rw [hA'] at a2
    subst a0 a1 a2
    have hne : b ≠ vb := fun e => by
      have := hmr.inj 0 1 _ _ rfl rfl (show 0 < (ρ 0).cap by omega) (show 0 < (ρ 1).cap by omega) (by rw [hA, hA', e])
      cases this
    have one0 : ∀ (q : Nat) v, q < xs.length * t.size → vals[q]? = some v → v.oneCell' = true := fun q v hq hv => by
      have hk : q / t.size < xs.length := (Nat.div_lt_iff_lt_mul hz).2 hq
      obtain ⟨us, hr, hg⟩ := hel _ hk
      have hjz : q % t.size < us.length := by rw [hr.len]; exact Nat.mod_lt _ hz
      have := hg (q % t.size) _ (List.getElem?_eq_getElem hjz)
      rw [Nat.mul_comm, Nat.div_add_mod, hv] at this
      rw [Option.some.inj this]
      exact hr.one _ (List.getElem_mem hjz)
    obtain ⟨us1, hru, hgu⟩ := hel' 0 (by simp)
    simp only [Nat.zero_mul, Nat.zero_add] at hgu
    have one1 : ∀ (q : Nat) v, q < t.size → vvals[q]? = some v → v.oneCell' = true := fun q v hq hv => by
      have hjz : q < us1.length := by rw [hru.len]; exact hq
      have := hgu q _ (List.getElem?_eq_getElem hjz)
      rw [hv] at this
      rw [Option.some.inj this]
      exact hru.one _ (List.getElem_mem hjz)
    refine (hw w b vb (ρ 0).cap (ρ 1).cap xs.length j vals vvals T T' hj hl0.1 hl0.2 (by omega) hne hroom hh hvs hh' hvs' one0 one1).mono fun e w' hpost => ?_
    obtain ⟨hos, htape, hout, hpost⟩ := hpost
    have hlen : (pIns xs j y).length = xs.length + 1 := pIns_len (by omega)
    have h2 : ∃ us : List Value, Rd t w N us y ∧ ∀ (j : Nat) (u : Value), us[j]? = some u → vvals[j]? = some u := ⟨us1, hru, hgu⟩
    rcases hpost with ⟨hfit, rfl, hsz, hoth, vals', hh2, hvs2, hcells⟩ | ⟨cap', vals', T2, hge, hc63, rfl, hpush, hvs2, hcells⟩
    · -- in place
      have hgone : Gone ρ (fun id => if id = 0 then some (Obj.row t xs) else if id = 1 then some (Obj.row t [y]) else none) [0] b := ⟨0, by simp, t, xs, rfl, by omega, hA⟩
      obtain ⟨ht, hs, hmr', hown⟩ := hmr.take (w' := w') (ρ' := fun id => if id = 2 then ⟨some ⟨b, 0, none⟩, (ρ 0).cap⟩ else ρ id) (m' := fun id => if id = 2 then some (.row t (pIns xs j y)) else if id = 1 then some (.row t [y]) else none) (nx := 2) (p := ⟨some ⟨b, 0, none⟩, (ρ 0).cap⟩) (zs := pIns xs j y) (D := [0]) rfl
        (fun id o' ho hc => by
          have ho : (if id = 0 then some (Obj.row t xs) else if id = 1 then some (Obj.row t [y]) else none) = some o' := ho
          split at ho
          · cases ho; cases hc
          · split at ho
            · cases ho; cases hc
            · cases ho)
        (fun _ => ⟨0, by simp, t, xs, rfl, by omega, hA⟩) (fun k hk => hoth k fun e => hk (e ▸ hgone)) hsz
        (fun id => by
          match id with
          | 0 => rfl
          | 1 => rfl
          | 2 => rfl
          | n + 3 => rfl) (fun _ => rfl)
        (fun hs ht => by
          refine ⟨by simp only [if_pos]; rw [hlen]; exact ⟨hfit, hl0.2⟩, fun _ => ⟨b, vals', T, by simp only [if_pos], hh2, by simp only [if_pos]; exact hvs2, ?_⟩⟩
          exact ins_elems (by omega) (fun _ h => h) hs hel h2 hcells)
      refine ⟨_, _, N, rfl, fun n hn => ?_, fun _ h => h, hmr', ⟨_, rfl, ⟨_, _, _, rfl⟩, fun t' zs hz => ?_⟩, ⟨hos, htape, hout, by rw [hsz]; exact Nat.le_refl _, fun k hk hx => hoth k fun e => hx (e ▸ gone_own hgone)⟩, fun b hb => .inl (hown b hb), fun b hb => .inl hb⟩
      · have hn : n < 2 := hn
        show (if n = 2 then _ else ρ n) = ρ n
        rw [if_neg (by omega)]
      · have hz : some (Obj.row t (pIns xs j y)) = some (.row t' zs) := hz
        simp only [Option.some.injEq, Obj.row.injEq] at hz
        obtain ⟨rfl, hz⟩ := hz
        have hz := eq_of_heq hz
        subst hz
        show _ = Value.slice (some ⟨b, 0, none⟩) (pIns xs j y).length (ρ 0).cap
        rw [hlen]
    · -- a new block
      have hlt : ∀ k, k < w.heap.size → w'.heap[k]? = w.heap[k]? := fun k hk => push_old hpush hk
      obtain ⟨ht, hN, hs, hmr', hown⟩ := hmr.new (w' := w') (ρ' := fun id => if id = 2 then ⟨some ⟨w.heap.size, 0, none⟩, cap'⟩ else ρ id) (m' := fun id => if id = 2 then some (.row t (pIns xs j y)) else if id = 1 then some (.row t [y]) else none) (N' := fun b => N b ∨ Gone ρ (fun id => if id = 0 then some (Obj.row t xs) else if id = 1 then some (Obj.row t [y]) else none) [0] b) (nx := 2) (cap := cap') (D := [0]) (o := .row t (pIns xs j y)) hpush rfl
        (fun id o' ho hc => by
          have ho : (if id = 0 then some (Obj.row t xs) else if id = 1 then some (Obj.row t [y]) else none) = some o' := ho
          split at ho
          · cases ho; cases hc
          · split at ho
            · cases ho; cases hc
            · cases ho)
        (fun id => by
          match id with
          | 0 => rfl
          | 1 => rfl
          | 2 => rfl
          | n + 3 => rfl) (fun _ => rfl) (fun _ => Iff.rfl)
        (by
          refine ⟨by simp only [if_pos]; rw [hlen]; exact ⟨hge, hc63⟩, fun _ => ⟨w.heap.size, vals', T2, by simp only [if_pos], push_new hpush, by simp only [if_pos]; exact hvs2, ?_⟩⟩
          exact ins_elems (by omega) (fun _ h => .inl h) (fun b hb => push_old hpush (hmr.nlt b hb)) hel h2 hcells)
      refine ⟨_, _, _, rfl, fun n hn => ?_, hN, hmr', ⟨_, rfl, ⟨_, _, _, rfl⟩, fun t' zs hz => ?_⟩, ⟨hos, htape, hout, by rw [hpush, Array.size_push]; omega, fun k hk hx => hlt k hk⟩, fun b hb => hown b hb, fun b hb => hb.elim .inl fun hg => .inr (.inr (gone_own hg))⟩
      · have hn : n < 2 := hn
        show (if n = 2 then _ else ρ n) = ρ n
        rw [if_neg (by omega)]
      · have hz : some (Obj.row t (pIns xs j y)) = some (.row t' zs) := hz
        simp only [Option.some.injEq, Obj.row.injEq] at hz
        obtain ⟨rfl, hz⟩ := hz
        have hz := eq_of_heq hz
        subst hz
        show _ = Value.slice (some ⟨w.heap.size, 0, none⟩) (pIns xs j y).length cap'
        rw [hlen]
  · cases hc

end Go.Proofs.Ytkhnakdmkhidbaa
