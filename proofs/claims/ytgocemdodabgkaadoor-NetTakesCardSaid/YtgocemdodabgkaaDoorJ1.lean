/- What is on its way: copies, comparisons: the functions meet their contracts. No condition. -/
import Derived.Test.YtgocemdodabgkaaDoorFF
import Derived.Test.YtgocemdodabgkaaDoorLib
import Derived.Lib.SliceRun
import Derived.Deep.RegionLaw
import Derived.Test.YtgocemdodabgkaaDoorFH

/- Plain words of a configuration, of messages, of what is on its way. No condition. -/
namespace Go.Proofs.YtgocemdodabgkaaDoor
open Go.RowKit

abbrev tI : Ty := .int .i64
abbrev tyLab : Ty := .pair tI (.pair tI .unit)
abbrev LabD := Int × Int × Unit
abbrev CfgD := Int × List LabD × Int × Unit
abbrev pLab : Par := .agg [.rd tI, .rd tI]
abbrev pCfg : Par := .agg [.rd tI, .rd (.sl tyLab), .rd tI]
abbrev wLab : TyW := wStruct [wInt, wInt]
abbrev wCfg : TyW := wStruct [wInt, wSl wLab 16, wInt]

abbrev tyMsg : Ty := .pair tI (.pair tI (.pair tI (.pair tI (.pair tI (.pair tI (.pair tI (.pair tI (.pair tI (.pair tI (.pair .bool (.pair tI .unit)))))))))))
abbrev MsgD := Int × Int × Int × Int × Int × Int × Int × Int × Int × Int × Bool × Int × Unit
abbrev tyRow : Ty := .pair (.sl tyMsg) .unit
abbrev RowD := List MsgD × Unit
abbrev pMsg : Par := .agg [.rd tI, .rd tI, .rd tI, .rd tI, .rd tI, .rd tI, .rd tI, .rd tI, .rd tI, .rd tI, .rd .bool, .rd tI]
abbrev pTxn : Par := .agg [.rd tI, .rd tI]
abbrev wTxn : TyW := wStruct [wInt, wInt]
abbrev wMsg : TyW := wStruct [wInt, wInt, wInt, wTxn, wInt, wInt, wInt, wInt, wInt, wBool, wInt]
abbrev tyParts : Ty := .pair .bool (.pair .bool (.pair .bool (.pair .bool (.pair .bool (.pair .bool (.pair .bool (.pair .bool .unit)))))))
abbrev PartsD := Bool × Bool × Bool × Bool × Bool × Bool × Bool × Bool × Unit
/-- label, key, value, version, ask, yes, code, sites: what messages have, by their kinds -/
def messagesT : List PartsD := [(false, false, false, false, false, false, false, false, ()), (true, true, false, false, true, false, false, false, ()), (false, true, true, false, true, false, false, false, ()), (true, true, false, true, false, false, false, false, ()), (false, false, false, false, false, true, false, false, ()), (true, true, true, true, true, false, true, false, ()), (false, true, false, false, true, false, true, false, ()), (true, true, false, true, false, true, false, false, ()), (false, false, false, false, false, false, false, false, ()), (false, false, false, false, false, false, false, false, ())]
def tabsM : Nat → Option Gl := look [(1, Gl.rows tyParts messagesT)]

def inF (x a b : Int) : Bool := pLe a x && pLe x b
def labF (a : LabD) : Bool := inF a.1 0 9 && inF a.2.1 0 15
def eqLabAt (l : List LabD) (k i : Nat) : Bool := pAndB (pEq (pGet tyLab l k).1 (pGet tyLab l i).1) (pEq (pGet tyLab l k).2.1 (pGet tyLab l i).2.1)
/-- what is wrong with a label, behind those ahead of it -/
def labE (l : List LabD) (i : Nat) : Int := cond (labF (pGet tyLab l i)) (cond (allUpto (fun k => !eqLabAt l k i) i) 0 7) 2
def cfgF (c : CfgD) : Int :=
  cond (inF c.1 1 4) (cond (inF (pInt c.2.1.length) 1 6) (cond (pEq (firstE (labE c.2.1) c.2.1.length) 0) (cond (inF c.2.2.1 1 1048576) 0 2) (firstE (labE c.2.1) c.2.1.length)) 1) 2
def placeF (c : CfgD) (l : Int) : Bool := pLe 0 l && pLt l (pInt c.2.1.length)
def lCheckAInv (_ : Int) (cl : List LabD) (_ : Int) : denVars [.slot 28 false tI] → Prop := FirstInv (labE cl) cl.length
def lCheckAMu (_ : Int) (cl : List LabD) (_ : Int) : denVars [.slot 28 false tI] → Nat := UpMu cl.length
def lCheckBInv (_ : Int) (cl : List LabD) (_ : Int) (i : Int) : denVars [.slot 41 false tI] → Prop := UpInv (fun k => !eqLabAt cl k (pNat i)) (pNat i)
def lCheckBMu (_ : Int) (_ : List LabD) (_ : Int) (i : Int) : denVars [.slot 41 false tI] → Nat := UpMu (pNat i)

def txnF (c : CfgD) (s n : Int) : Bool := pLe 0 s && pLt s c.1 && inF n 1 1048576
def codeF (e : Int) : Bool := pEq e 0 || pEq e 11 || pEq e 8
def msgRange (c : CfgD) (m : MsgD) : Bool :=
  pLe 0 m.2.1 && pLt m.2.1 c.1 && pLe 0 m.2.2.1 && pLt m.2.2.1 c.1 && txnF c m.2.2.2.1 m.2.2.2.2.1 && placeF c m.2.2.2.2.2.1 && inF m.2.2.2.2.2.2.1 0 7 && inF m.2.2.2.2.2.2.2.1 0 1073741824 && inF m.2.2.2.2.2.2.2.2.1 0 1048576 &&
    inF m.2.2.2.2.2.2.2.2.2.1 0 1048576 && codeF m.2.2.2.2.2.2.2.2.2.2.2.1
/-- has a message just what its kind has? -/
def msgFormR (r : PartsD) (m : MsgD) : Bool :=
  (r.1 || pEq m.2.2.2.2.2.1 0) && (r.2.1 || pEq m.2.2.2.2.2.2.1 0) && (r.2.2.1 || pEq m.2.2.2.2.2.2.2.1 0) && (r.2.2.2.1 || pEq m.2.2.2.2.2.2.2.2.1 0) && (r.2.2.2.2.1 || pEq m.2.2.2.2.2.2.2.2.2.1 0) &&
    (r.2.2.2.2.2.1 || !m.2.2.2.2.2.2.2.2.2.2.1) && (r.2.2.2.2.2.2.1 || pEq m.2.2.2.2.2.2.2.2.2.2.2.1 0) && (pEq m.2.2.2.2.2.2.2.2.2.2.2.1 0 || (pEq m.2.2.2.2.2.2.2.1 0 && pEq m.2.2.2.2.2.2.2.2.1 0))
def msgForm (m : MsgD) : Bool := msgFormR (pGet tyParts messagesT (pNat m.1)) m
def msgF (c : CfgD) (m : MsgD) : Int := cond (pEq (cfgF c) 0) (cond (inF m.1 1 9) (cond (msgRange c m) (cond (msgForm m) 0 4) 2) 3) (cfgF c)
/-- the k-th message on the i-th way -/
def flyAt (c : CfgD) (fl : List RowD) (i k : Nat) : Bool :=
  pEq (msgF c (pGet tyMsg (pGet tyRow fl i).1 k)) 0 && pEq (pGet tyMsg (pGet tyRow fl i).1 k).2.1 ((i : Int) / c.1) && pEq (pGet tyMsg (pGet tyRow fl i).1 k).2.2.1 ((i : Int) % c.1)
def rowAt (c : CfgD) (fl : List RowD) (i : Nat) : Bool := decide ((pGet tyRow fl i).1.length ≤ 30) && allUpto (flyAt c fl i) (pGet tyRow fl i).1.length
def flyF (c : CfgD) (fl : List RowD) : Int := cond (pEq (cfgF c) 0) (cond (pEq (pInt fl.length) (c.1 * c.1) && allUpto (rowAt c fl) fl.length) 0 9) (cfgF c)
def nflyInv (cn : Int) (cl : List LabD) (cp : Int) (fl : List RowD) : Int × Unit → Prop := UpInv (rowAt (cn, cl, cp, ()) fl) fl.length
def nflyMu (_ : Int) (_ : List LabD) (_ : Int) (fl : List RowD) : Int × Unit → Nat := UpMu fl.length
def nrowInv (cn : Int) (cl : List LabD) (cp : Int) (fl : List RowD) (i : Int) : Int × Unit → Prop := UpInv (flyAt (cn, cl, cp, ()) fl (pNat i)) (pGet tyRow fl (pNat i)).1.length
def nrowMu (_ : Int) (_ : List LabD) (_ : Int) (fl : List RowD) (i : Int) : Int × Unit → Nat := UpMu (pGet tyRow fl (pNat i)).1.length

/-- the tables lie where they are to lie -/
def TabsM (W : World) : Prop := ∀ g gl, tabsM g = some gl → GlobR W (fun b => b < W.heap.size) g gl
theorem tabsM_ok : ∀ W, TabsM W → ∀ g gl, tabsM g = some gl → GlobR W (fun b => b < W.heap.size) g gl := fun _ h => h


end Go.Proofs.YtgocemdodabgkaaDoor

/- slices.Delete of one element of an own row, where its walk is known: its contract. It names no program. No condition. -/
namespace Go.Proofs.YtgocemdodabgkaaDoor
open Go.RowKit Go.Lib

/-- the cells of a row where an element was taken out -/
def DelCells (vals : Array Value) (n i z : Nat) (vals' : Array Value) : Prop :=
  ∀ j, j < (n - 1) * z → vals'[j]? = if j < i * z then vals[j]? else vals[j + z]?
/-- WHAT A WALK OF slices.Delete IS TO SHOW, for elements of z cells. -/
def DelWalk (P : Program) (K : FuncId) (z : Nat) : Prop :=
  ∀ (w : World) (b cap n i : Nat) (vals : Array Value) (T : TypeId), i < n → n ≤ cap → cap ≤ 9223372036854775807 →
    w.heap[b]? = some (.cells vals T (0, 0)) → vals.size = cap * z → (∀ (j : Nat) v, j < n * z → vals[j]? = some v → v.oneCell' = true) →
    Calls P K #[.slice (some ⟨b, 0, none⟩) n cap, .int .i64 (i : Int), .int .i64 ((i + 1 : Nat) : Int)] w fun e w' =>
      w'.os = w.os ∧ w'.tape = w.tape ∧ w'.output = w.output ∧ e = .returned (.slice (some ⟨b, 0, none⟩) (n - 1) cap) ∧ w'.heap.size = w.heap.size ∧ (∀ k, k ≠ b → w'.heap[k]? = w.heap[k]?) ∧
      ∃ vals', w'.heap[b]? = some (.cells vals' T (0, 0)) ∧ vals'.size = cap * z ∧ DelCells vals n i z vals'

def pDel {α : Type} (xs : List α) (i : Nat) : List α := xs.take i ++ xs.drop (i + 1)
theorem pDel_len {α : Type} {xs : List α} {i : Nat} (h : i < xs.length) : (pDel xs i).length = xs.length - 1 := by
  unfold pDel; rw [List.length_append, List.length_take, List.length_drop]; omega
theorem pDel_get {α : Type} {xs : List α} {i : Nat} (h : i < xs.length) {k : Nat} (hk : k < (pDel xs i).length) :
    (k < i ∧ ∃ hk' : k < xs.length, (pDel xs i)[k] = xs[k]) ∨ (i ≤ k ∧ ∃ hk' : k + 1 < xs.length, (pDel xs i)[k] = xs[k + 1]) := by
  have hl := pDel_len h
  have ht : (xs.take i).length = i := by rw [List.length_take]; omega
  by_cases h1 : k < i
  · refine .inl ⟨h1, by omega, ?_⟩
    have e : (pDel xs i)[k]? = xs[k]? := by
      unfold pDel
      rw [List.getElem?_append_left (by omega), List.getElem?_take, if_pos h1]
    rw [List.getElem?_eq_getElem hk, List.getElem?_eq_getElem (by omega)] at e
    exact Option.some.inj e
  · refine .inr ⟨by omega, by omega, ?_⟩
    have e : (pDel xs i)[k]? = xs[k + 1]? := by
      unfold pDel
      rw [List.getElem?_append_right (by omega), ht, List.getElem?_drop]
      congr 1; omega
    rw [List.getElem?_eq_getElem hk, List.getElem?_eq_getElem (by omega)] at e
    exact Option.some.inj e

theorem del_elems {w w' : World} {N N' : Blk} {t : Ty} {xs : List t.den} {vals vals' : Array Value} {i : Nat} (hi : i < xs.length) (hN : ∀ b, N b → N' b) (hs : SameOn N w w')
    (h1 : ∀ (k : Nat) (h : k < xs.length), ∃ us : List Value, Rd t w N us xs[k] ∧ ∀ (j : Nat) (u : Value), us[j]? = some u → vals[k * t.size + j]? = some u)
    (hc : DelCells vals xs.length i t.size vals') :
    ∀ (k : Nat) (h : k < (pDel xs i).length), ∃ us : List Value, Rd t w' N' us (pDel xs i)[k] ∧ ∀ (j : Nat) (u : Value), us[j]? = some u → vals'[k * t.size + j]? = some u := by
  intro k hk
  have hl := pDel_len hi
  have kz : (k + 1) * t.size ≤ (xs.length - 1) * t.size := Nat.mul_le_mul_right _ (by omega)
  rw [Nat.add_mul, Nat.one_mul] at kz
  rcases pDel_get hi hk with ⟨hki, hk', e⟩ | ⟨hki, hk', e⟩
  · obtain ⟨us, hr, hg⟩ := h1 k hk'
    refine ⟨us, by rw [e]; exact hr.mono hN hs, fun j u hj => ?_⟩
    have hjz : j < t.size := by rw [← hr.len]; exact (List.getElem?_eq_some_iff.1 hj).1
    have kz2 : (k + 1) * t.size ≤ i * t.size := Nat.mul_le_mul_right _ (by omega)
    rw [Nat.add_mul, Nat.one_mul] at kz2
    rw [hc _ (by omega), if_pos (by omega)]
    exact hg j u hj
  · obtain ⟨us, hr, hg⟩ := h1 (k + 1) hk'
    refine ⟨us, by rw [e]; exact hr.mono hN hs, fun j u hj => ?_⟩
    have hjz : j < t.size := by rw [← hr.len]; exact (List.getElem?_eq_some_iff.1 hj).1
    have kz2 : i * t.size ≤ k * t.size := Nat.mul_le_mul_right _ hki
    rw [hc _ (by omega), if_neg (by omega)]
    have := hg j u hj
    rwa [Nat.add_mul, Nat.one_mul, show k * t.size + t.size + j = k * t.size + j + t.size by omega] at this

abbrev delShape (t : Ty) : Shape := ⟨[.one (.own 0), .one (.rd (.int .i64)), .one (.rd (.int .i64))], [.row t]⟩
abbrev delPre (t : Ty) : (delShape t).den → List Prop := fun x => [pIn x.1.2.1 (pLen x.2.1), x.1.2.2.1 = pAdd .i64 x.1.2.1 1, pLen x.2.1 < 4611686018427387904]
abbrev delVal (t : Ty) : (delShape t).den → denVars [.slot 0 true t] := fun x => (pDel x.2.1 (pNat x.1.2.1), ())

theorem meets_del {P : Program} {g : Nat → Option Gl} {K : FuncId} {fn : Func} (hf : P.funcs[K]? = some fn) (hb : fn.body.isSome = true) (hn : (fn.name == "runtime.NumGoroutine") = false) {t : Ty} (hz : 0 < t.size)
    (hk : ∀ x : List t.den, kObj t x = .row t x) (hm : rowParse t = fun o => match o with
      | .row t' ys => if h : t' = t then some (castRow h ys) else none
      | _ => none) (hw : DelWalk P K t.size) : Meets P g K (shCtr (delShape t) (delPre t) [0] [.slot 0 true t] (delVal t)) := by
  refine ⟨⟨fn, hf, hb, hn⟩, fun args m0 obs r m1 hc hp => ?_⟩
  unfold shCtr at hc
  split at hc
  · rename_i x hx
    simp only [Option.some.injEq, Prod.mk.injEq] at hc
    obtain ⟨rfl, hrm⟩ := hc
    refine shape_spec hx ?_
    obtain ⟨⟨_, i, i2, _⟩, xs, u⟩ := x
    have hi : 0 ≤ i ∧ i < (xs.length : Int) := hp _ List.mem_cons_self
    have hi2 : i2 = pAdd .i64 i 1 := hp _ (List.mem_cons_of_mem _ List.mem_cons_self)
    have hxl : xs.length < 4611686018427387904 := hp _ (List.mem_cons_of_mem _ (List.mem_cons_of_mem _ List.mem_cons_self))
    clear hp
    have key : ∀ i : Int, 0 ≤ i ∧ i < (xs.length : Int) → ∃ j : Nat, i = (j : Int) ∧ j < xs.length := fun i h => ⟨i.toNat, by omega, by omega⟩
    obtain ⟨j, rfl, hj⟩ := key i hi
    obtain rfl : i2 = ((j + 1 : Nat) : Int) := by rw [hi2]; exact pAdd1 (by omega)
    have er : r = .v false [.hs 1] := (congrArg Prod.fst hrm).symm
    have em : m1 = [(1, some (.row t (pDel xs j))), (0, none)] := by
      rw [← hk]
      exact (congrArg Prod.snd hrm).symm
    subst er em
    clear hrm hx hi2
    intro w N ρ vs hgl hmr hargs hai hmi
    have hm0 : memOf (Shape.mem (delShape t) ⟨⟨(), (j : Int), ((j + 1 : Nat) : Int), ()⟩, xs, u⟩) = fun id => if id = 0 then some (.row t xs) else none := by
      funext id
      match id with
      | 0 => exact congrArg some (hk xs)
      | n + 1 => rfl
    have hm1 : memOf ([(1, some (.row t (pDel xs j))), (0, none)] ++ Shape.mem (delShape t) ⟨⟨(), (j : Int), ((j + 1 : Nat) : Int), ()⟩, xs, u⟩) = fun id => if id = 1 then some (.row t (pDel xs j)) else none := by
      funext id
      match id with
      | 0 => rfl
      | 1 => rfl
      | n + 2 => rfl
    rw [hm0] at hmr hargs
    rw [hm0, hm1]
    have ho0 := hmr.obj 0 _ rfl
    cases hargs with
    | cons a0 r0 => cases r0 with
      | cons a1 r1 => cases r1 with
        | cons a2 r2 => cases r2 with
          | nil =>
    rename_i v0 v1 v2
    obtain ⟨c0, e0, a0⟩ := a0
    obtain rfl : C.hs 0 = c0 := (List.cons.inj e0).1
    obtain ⟨c1, e1, a1⟩ := a1
    obtain rfl : C.int .i64 (j : Int) = c1 := (List.cons.inj e1).1
    obtain ⟨c2, e2, a2⟩ := a2
    obtain rfl : C.int .i64 ((j + 1 : Nat) : Int) = c2 := (List.cons.inj e2).1
    have a0 := a0.hs_row (t := t) (xs := xs) rfl
    have a1 : v1 = .int .i64 (j : Int) := a1
    have a2 : v2 = .int .i64 ((j + 1 : Nat) : Int) := a2
    obtain ⟨hl0, hr0⟩ := ho0
    obtain ⟨b, vals, T, hA, hh, hvs, hel⟩ := hr0 (by omega)
    rw [hA] at a0
    subst a0 a1 a2
    have one0 : ∀ (q : Nat) v, q < xs.length * t.size → vals[q]? = some v → v.oneCell' = true := fun q v hq hv => by
      have hk : q / t.size < xs.length := (Nat.div_lt_iff_lt_mul hz).2 hq
      obtain ⟨us, hr, hg⟩ := hel _ hk
      have hjz : q % t.size < us.length := by rw [hr.len]; exact Nat.mod_lt _ hz
      have := hg (q % t.size) _ (List.getElem?_eq_getElem hjz)
      rw [Nat.mul_comm, Nat.div_add_mod, hv] at this
      rw [Option.some.inj this]
      exact hr.one _ (List.getElem_mem hjz)
    refine (hw w b (ρ 0).cap xs.length j vals T hj hl0.1 hl0.2 hh hvs one0).mono fun e w' hpost => ?_
    obtain ⟨hos, htape, hout, rfl, hsz, hoth, vals', hh2, hvs2, hcells⟩ := hpost
    have hlen : (pDel xs j).length = xs.length - 1 := pDel_len hj
    have hgone : Gone ρ (fun id => if id = 0 then some (Obj.row t xs) else none) [0] b := ⟨0, by simp, .row t xs, _, rfl, rfl, by show 0 < (ρ 0).cap; omega, hA⟩
    obtain ⟨ht, hN, hs, hmr', hown⟩ := hmr.make (w' := w') (ρ' := fun id => if id = 1 then pl0 (some ⟨b, 0, none⟩) (ρ 0).cap else ρ id) (m' := fun id => if id = 1 then some (.row t (pDel xs j)) else none) (N' := N) (nx := 1) (p := pl0 (some ⟨b, 0, none⟩) (ρ 0).cap) (o := .row t (pDel xs j)) (L := [0]) (D := []) (M := [0])
      (fun id => by simp) (fun id hd => by cases hd) rfl
      (fun id o' ho hc => by
        have ho : (if id = 0 then some (Obj.row t xs) else none) = some o' := ho
        split at ho
        · cases ho; cases hc
        · cases ho)
      (fun k hk => .inr ⟨0, by simp, .row t xs, rfl, by show 0 < (ρ 0).cap; omega, by rw [hA]; exact hk.2⟩) (fun k _ hk => hoth k fun e => hk 0 (by simp) (.row t xs) rfl ⟨by show 0 < (ρ 0).cap; omega, by rw [hA, e]⟩) (by rw [hsz]; exact Nat.le_refl _)
      (fun id => by
        match id with
        | 0 => rfl
        | 1 => rfl
        | n + 2 => rfl) (fun _ => rfl) (fun b => ⟨.inl, fun h => h.elim id fun ⟨_, hd, _⟩ => by cases hd⟩)
      (fun _ hs ht => by
        refine ⟨by simp only [if_pos]; rw [hlen]; exact ⟨by show xs.length - 1 ≤ (ρ 0).cap; omega, hl0.2⟩, fun _ => ⟨b, vals', T, by simp only [if_pos], hh2, by simp only [if_pos]; exact hvs2, ?_⟩⟩
        exact del_elems hj (fun _ h => h) hs hel hcells)
    refine ⟨_, _, N, rfl, fun n hn => ?_, fun _ h => h, hmr', ⟨_, rfl, ⟨_, _, _, rfl⟩, fun o' z hmo hz => ?_⟩, ⟨hos, htape, hout, by rw [hsz]; exact Nat.le_refl _, fun k hk hx => hoth k fun e => hx (e ▸ gone_own hgone)⟩, fun b hb => hown b hb, fun b hb => .inl hb⟩
    · have hn : n < 1 := hn
      show (if n = 1 then _ else ρ n) = ρ n
      rw [if_neg (by omega)]
    · have hmo : some (Obj.row t (pDel xs j)) = some o' := hmo
      cases hmo
      cases hz
      show _ = Value.slice (some ⟨b, 0, none⟩) (pDel xs j).length (ρ 0).cap
      rw [hlen]
  · cases hc

/- what the walks share -/
theorem run_clear_K {P : Program} (w : World) (t e ty : TypeId) (z : Value) (ht : P.underlying t = some (.slice e)) (hv : ∀ w, (zeroValue e).run P w = .ok z w) (h1 : ∀ v ∈ z.cells.toList, v.oneCell' = true) (b o n c : Nat) (hn : n = 1)
    (hc : ∀ j, j < z.cells.toList.length → (w.cell? ⟨b, o + j, none⟩).isSome = true) (hf : ∀ j, j < z.cells.toList.length → w.frozen? ⟨b, o + j, none⟩ = false) :
    (Builtin.clear_ #[t] ty #[.slice (some ⟨b, o, none⟩) n c]).run P w = .ok (.tuple #[]) (w.setCells b o z.cells.toList) := by
  subst hn
  have hzc : (Builtin.zeroCells z.cells 1).toList = z.cells.toList := by
    unfold Builtin.zeroCells
    have := range_rep z.cells 1
    simpa [repV] using this
  have hst := run_storeCells_cells (P := P) b o z.cells.toList 0 w (by simpa using hc) (by simpa using hf) h1
  simp only [Nat.add_zero] at hst
  simp [Builtin.clear_, run_underlying ht, hv, hzc, hst]
theorem setCells_heap (b : Nat) : ∀ (vs : List Value) (o : Nat) (w : World) {vals : Array Value} {T : TypeId} {fz : Nat × Nat}, w.heap[b]? = some (.cells vals T fz) → ∃ vals', (w.setCells b o vs).heap[b]? = some (.cells vals' T fz) ∧ vals'.size = vals.size
  | [], _, _, vals, _, _, h => ⟨vals, h, rfl⟩
  | v :: r, o, w, vals, T, fz, h => by
    obtain ⟨vals', h1, h2⟩ := setCells_heap b r (o + 1) (w.setCell ⟨b, o, none⟩ v) (vals := vals.setIfInBounds o v) (T := T) (fz := fz) (by
      simp only [World.setCell, Array.getElem?_modify, if_pos, h, Option.map_some]
      rfl)
    exact ⟨vals', h1, by rw [h2]; simp⟩
theorem setCells_keep (b : Nat) : ∀ (vs : List Value) (o : Nat) (w : World), (w.setCells b o vs).heap.size = w.heap.size ∧ (w.setCells b o vs).os = w.os ∧ (w.setCells b o vs).tape = w.tape ∧ (w.setCells b o vs).output = w.output ∧ ∀ k, k ≠ b → (w.setCells b o vs).heap[k]? = w.heap[k]?
  | [], _, _ => ⟨rfl, rfl, rfl, rfl, fun _ _ => rfl⟩
  | v :: r, o, w => by
    obtain ⟨h1, h2, h3, h4, h5⟩ := setCells_keep b r (o + 1) (w.setCell ⟨b, o, none⟩ v)
    refine ⟨h1.trans (by simp [World.setCell]), h2, h3, h4, fun k hk => (h5 k hk).trans ?_⟩
    simp only [World.setCell, Array.getElem?_modify]
    rw [if_neg (fun e => hk e.symm)]
theorem cell_heap {w : World} {b j : Nat} {vals : Array Value} {T : TypeId} {fz : Nat × Nat} (h : w.heap[b]? = some (.cells vals T fz)) : w.cell? ⟨b, j, none⟩ = vals[j]? := by
  simp [World.cell?, h]
theorem frozen_heap {w : World} {b j : Nat} {vals : Array Value} {T : TypeId} (h : w.heap[b]? = some (.cells vals T (0, 0))) : w.frozen? ⟨b, j, none⟩ = false := by
  simp [World.frozen?, h]
theorem first_len {vals : Array Value} {k : Nat} (h : k ≤ vals.size) : (vals.toList.take k).length = k := by rw [List.length_take, Array.length_toList]; omega
theorem first_get {vals : Array Value} {k j : Nat} {v : Value} (h : (vals.toList.take k)[j]? = some v) : j < k ∧ vals[j]? = some v := by
  rw [List.getElem?_take] at h
  split at h
  · rename_i hj; exact ⟨hj, by simpa using h⟩
  · cases h
theorem first_at {vals : Array Value} {k j : Nat} (hj : j < k) : (vals.toList.take k)[j]? = vals[j]? := by
  rw [List.getElem?_take, if_pos hj]; simp

theorem delWalk_of {P : Program} {K : FuncId} {z : Nat} {zs : List Value} (hzl : zs.length = z)
    (hshift : ∀ (b n c i j : Nat) (cs : List Value) (w : World), j = i + 1 → j ≤ n → n ≤ c → c ≤ 9223372036854775807 → cs.length = n * z →
      (∀ (q : Nat) v, cs[q]? = some v → w.cell? ⟨b, q, none⟩ = some v) → (∀ q, q < n * z → w.frozen? ⟨b, q, none⟩ = false) → (∀ v ∈ cs, v.oneCell' = true) →
      Calls P K #[.slice (some ⟨b, 0, none⟩) n c, .int .i64 (i : Int), .int .i64 (j : Int)] w fun e w' =>
        e = .returned (.slice (some ⟨b, 0, none⟩) (n - 1) c) ∧ w' = (w.drew.setCells b (i * z) (cs.drop (j * z))).setCells b ((n - 1) * z) zs) :
    DelWalk P K z := by
  intro w b cap n i vals T hi hnc hc63 hh hvs one0
  have hnz : n * z ≤ vals.size := by rw [hvs]; exact Nat.mul_le_mul_right _ hnc
  have hcl := first_len hnz
  have hcs : ∀ (j : Nat) v, (vals.toList.take (n * z))[j]? = some v → w.cell? ⟨b, j, none⟩ = some v := fun j v h => by rw [cell_heap hh]; exact (first_get h).2
  have h1c : ∀ v ∈ vals.toList.take (n * z), v.oneCell' = true := fun v hv => by
    obtain ⟨j, hj⟩ := List.getElem?_of_mem hv
    exact one0 j v (first_get hj).1 (first_get hj).2
  have e1 : (i + 1) * z = i * z + z := by rw [Nat.add_mul, Nat.one_mul]
  have e3 : n * z = (i + 1) * z + (n - (i + 1)) * z := by rw [← Nat.add_mul]; congr 1; omega
  have e2 : n * z = (n - 1) * z + z := by
    conv => lhs; rw [show n = (n - 1) + 1 by omega]
    rw [Nat.add_mul, Nat.one_mul]
  have hdl : ((vals.toList.take (n * z)).drop ((i + 1) * z)).length = (n - (i + 1)) * z := by rw [List.length_drop, hcl]; omega
  refine (hshift b n cap i (i + 1) _ w rfl (by omega) hnc hc63 hcl hcs (fun j _ => frozen_heap hh) h1c).mono fun e w' hp => ?_
  obtain ⟨rfl, rfl⟩ := hp
  obtain ⟨v1, hv1, hs1⟩ := setCells_heap b ((vals.toList.take (n * z)).drop ((i + 1) * z)) (i * z) w.drew hh
  obtain ⟨v2, hv2, hs2⟩ := setCells_heap b zs ((n - 1) * z) _ hv1
  obtain ⟨k1, k2, k3, k4, k5⟩ := setCells_keep b ((vals.toList.take (n * z)).drop ((i + 1) * z)) (i * z) w.drew
  obtain ⟨m1, m2, m3, m4, m5⟩ := setCells_keep b zs ((n - 1) * z) (w.drew.setCells b (i * z) ((vals.toList.take (n * z)).drop ((i + 1) * z)))
  refine ⟨m2.trans k2, m3.trans k3, m4.trans k4, rfl, m1.trans k1, fun k hk => (m5 k hk).trans (k5 k hk), v2, hv2, by rw [hs2, hs1, hvs], fun j hj => ?_⟩
  rw [← cell_heap (j := j) hv2, World.cell?_setCells_out b _ _ _ _ (fun _ _ => .inl (by show j < (n - 1) * z; exact hj))]
  split
  · rename_i hji
    rw [World.cell?_setCells_out b _ _ _ _ (fun _ _ => .inl (by show j < i * z; exact hji))]
    exact cell_heap (w := w.drew) hh
  · rename_i hji
    have := World.cell?_setCells_in b ((vals.toList.take (n * z)).drop ((i + 1) * z)) (i * z) w.drew (fun q hq => by rw [cell_heap (w := w.drew) hh, Array.getElem?_eq_getElem (by omega)]; rfl) (j - i * z) (by omega)
    rw [show i * z + (j - i * z) = j by omega] at this
    rw [this, ← List.getElem?_eq_getElem, List.getElem?_drop, first_at (by omega)]
    congr 1; omega


end Go.Proofs.YtgocemdodabgkaaDoor

/- Plain words of messages sent and taken. No condition. -/
namespace Go.Proofs.YtgocemdodabgkaaDoor
open Go.RowKit

abbrev vMsg : List (Bool × Ty) := [(false, tI), (false, tI), (false, tI), (false, tI), (false, tI), (false, tI), (false, tI), (false, tI), (false, tI), (false, tI), (false, .bool), (false, tI)]
abbrev kFly : Ty := .mark [0] tyRow
def RowsOk (fl : List RowD) : Prop := pRoom (pLen fl) 24 ∧ ∀ q ∈ fl, pRoom (pLen q.1) 96
def nownInv (fl : List RowD) : Int × List RowD × Unit → Prop := fun y => ∃ k : Nat, y = ((k : Int), fl.take k, ()) ∧ k ≤ fl.length
def nownMu (fl : List RowD) : Int × List RowD × Unit → Nat := fun y => fl.length - y.1.toNat
def ncopyInv (fl : List RowD) : Int × List RowD × Unit → Prop := fun y => ∃ k : Nat, y = ((k : Int), fl.take k, ()) ∧ k ≤ fl.length
def ncopyMu (fl : List RowD) : Int × List RowD × Unit → Nat := fun y => fl.length - y.1.toNat
def ncrowInv (fl : List RowD) (i : Int) : Int × List MsgD × Unit → Prop := fun y => ∃ k : Nat, y = ((k : Int), (pGet tyRow fl (pNat i)).1.take k, ()) ∧ k ≤ (pGet tyRow fl (pNat i)).1.length
def ncrowMu (fl : List RowD) (i : Int) : Int × List MsgD × Unit → Nat := fun y => (pGet tyRow fl (pNat i)).1.length - y.1.toNat
def eqMsg (a b : MsgD) : Bool := pAndB (pEq a.1 b.1) (pAndB (pEq a.2.1 b.2.1) (pAndB (pEq a.2.2.1 b.2.2.1) (pAndB (pEq a.2.2.2.1 b.2.2.2.1) (pAndB (pEq a.2.2.2.2.1 b.2.2.2.2.1) (pAndB (pEq a.2.2.2.2.2.1 b.2.2.2.2.2.1)
  (pAndB (pEq a.2.2.2.2.2.2.1 b.2.2.2.2.2.2.1) (pAndB (pEq a.2.2.2.2.2.2.2.1 b.2.2.2.2.2.2.2.1) (pAndB (pEq a.2.2.2.2.2.2.2.2.1 b.2.2.2.2.2.2.2.2.1) (pAndB (pEq a.2.2.2.2.2.2.2.2.2.1 b.2.2.2.2.2.2.2.2.2.1)
  (pAndB (pBeq a.2.2.2.2.2.2.2.2.2.2.1 b.2.2.2.2.2.2.2.2.2.2.1) (pEq a.2.2.2.2.2.2.2.2.2.2.2.1 b.2.2.2.2.2.2.2.2.2.2.2.1)))))))))))
def eqMsgAt (l m : List MsgD) (j : Nat) : Bool := eqMsg (pGet tyMsg l j) (pGet tyMsg m j)
def sameMsgsF (l m : List MsgD) : Bool := decide (l.length = m.length) && allUpto (eqMsgAt l m) l.length
def sameMsgsInv (l m : List MsgD) : Int × Unit → Prop := fun y => l.length = m.length ∧ UpInv (eqMsgAt l m) l.length y
def sameMsgsMu (l _m : List MsgD) : Int × Unit → Nat := UpMu l.length
def eqRowAt (l m : List RowD) (j : Nat) : Bool := sameMsgsF (pGet tyRow l j).1 (pGet tyRow m j).1
def sameFlyF (l m : List RowD) : Bool := decide (l.length = m.length) && allUpto (eqRowAt l m) l.length
def sameFlyInv (l m : List RowD) : Int × Unit → Prop := fun y => l.length = m.length ∧ UpInv (eqRowAt l m) l.length y
def sameFlyMu (l _m : List RowD) : Int × Unit → Nat := UpMu l.length

/-- the place of a way from a site to a site -/
def wayI (c : CfgD) (f t : Int) : Int := pAdd .i64 (pMul .i64 f c.1) t
def wayR (c : CfgD) (fl : List RowD) (f t : Int) : List MsgD := (pGet tyRow fl (pNat (wayI c f t))).1
def mayGo (c : CfgD) (f t p : Int) : Bool := pLe 0 f && pLt f c.1 && (pLe 0 t && pLt t c.1) && pLe 0 p
def takeE (c : CfgD) (fl : List RowD) (f t p k : Int) : Int :=
  cond (pEq (flyF c fl) 0) (cond (inF k 2 4) (cond (mayGo c f t p) (cond (pEq (pInt (pLen (wayR c fl f t))) 0) 6 (cond (pEq k 4 && pEq (pInt (pLen (wayR c fl f t))) 30) 8 0)) 2) 3) (flyF c fl)
def takeI (c : CfgD) (fl : List RowD) (f t p : Int) : Int := pRem p (pInt (pLen (wayR c fl f t)))
def takeG (c : CfgD) (fl : List RowD) (f t p : Int) : MsgD := pGet tyMsg (wayR c fl f t) (pNat (takeI c fl f t p))
abbrev noMsg : MsgD := (0, 0, 0, 0, 0, 0, 0, 0, 0, 0, false, 0, ())
def takeM (c : CfgD) (fl : List RowD) (f t p k : Int) : MsgD := cond (pEq (takeE c fl f t p k) 0) (takeG c fl f t p) noMsg
def takeF (c : CfgD) (fl : List RowD) (f t p k : Int) : List RowD :=
  cond (pEq (takeE c fl f t p k) 0) (pSet fl (pNat (wayI c f t)) (cond (pEq k 4) (pApp (wayR c fl f t) [takeG c fl f t p]) (pDel (wayR c fl f t) (pNat (takeI c fl f t p))), ())) []
/-- a row without one of its elements, so far -/
def delK (l : List MsgD) (i k : Nat) : List MsgD := cond (decide (i < k)) (l.take i ++ (l.take k).drop (i + 1)) (l.take k)
def ntakenInv (cn : Int) (cl : List LabD) (cp : Int) (fl : List RowD) (f t p _ : Int) : Int × List MsgD × Unit → Prop :=
  fun y => ∃ j : Nat, y = ((j : Int), delK (wayR (cn, cl, cp, ()) fl f t) (pNat (takeI (cn, cl, cp, ()) fl f t p)) j, ()) ∧ j ≤ (wayR (cn, cl, cp, ()) fl f t).length
def ntakenMu (cn : Int) (cl : List LabD) (cp : Int) (fl : List RowD) (f t _ _ : Int) : Int × List MsgD × Unit → Nat := fun y => (wayR (cn, cl, cp, ()) fl f t).length - y.1.toNat


end Go.Proofs.YtgocemdodabgkaaDoor

/- Functions of the program that meet contracts: a short word for it. -/
namespace Go.Proofs.YtgocemdodabgkaaDoor

abbrev Mt (f : FuncId) (c : Ctr) : Prop := Meets Tryd.prog (fun _ => none) f c
abbrev MtG (g : Nat → Option Gl) (f : FuncId) (c : Ctr) : Prop := Meets Tryd.prog g f c


end Go.Proofs.YtgocemdodabgkaaDoor

/- Contracts, and what the evaluator says, as plain propositions: NsV. Printed by vc.py. -/
namespace Go.Proofs.YtgocemdodabgkaaDoor
open Go.RowKit Go.ChangeShapes Go.WideShapes Go.Deep

abbrev cloneM_S : Shape := ⟨[.one (.rd (.sl tyMsg))], []⟩
abbrev cloneM_f : Shape.den cloneM_S → denVars [.slot 0 true tyMsg] := fun x => (x.1.1, ())
abbrev cloneM_p : Shape.den cloneM_S → List Prop := fun x => [pRoom (pLen x.1.1) 96]
def ccloneM : Ctr := shCtr cloneM_S cloneM_p [] [.slot 0 true tyMsg] cloneM_f
abbrev nown_S : Shape := ⟨[.one (.rd (.sl tyRow))], []⟩
abbrev nown_f : Shape.den nown_S → denVars [.slot 0 true kFly] := fun x => (x.1.1, ())
abbrev nown_p : Shape.den nown_S → List Prop := fun x => [RowsOk x.1.1]
def cnown : Ctr := shCtr nown_S nown_p [] [.slot 0 true kFly] nown_f
def cFlyingCopy : Ctr := shCtr nown_S nown_p [] [.slot 0 true kFly] nown_f
abbrev sameMsgs_S : Shape := ⟨[.one (.rd (.sl tyMsg)), .one (.rd (.sl tyMsg))], []⟩
abbrev sameMsgs_f : Shape.den sameMsgs_S → denVars [.slot 0 false .bool] := fun x => (sameMsgsF x.1.1 x.1.2.1, ())
abbrev sameMsgs_p : Shape.den sameMsgs_S → List Prop := fun x => [pLen x.1.1 < 4611686018427387904]
def csameMsgs : Ctr := shCtr sameMsgs_S sameMsgs_p [] [.slot 0 false .bool] sameMsgs_f
abbrev sameFly_S : Shape := ⟨[.one (.rd (.sl tyRow)), .one (.rd (.sl tyRow))], []⟩
abbrev sameFly_f : Shape.den sameFly_S → denVars [.slot 0 false .bool] := fun x => (sameFlyF x.1.1 x.1.2.1, ())
abbrev sameFly_p : Shape.den sameFly_S → List Prop := fun x => [pLen x.1.1 < 4611686018427387904, (∀ q ∈ x.1.1, pLen q.1 < 4611686018427387904)]
def csameFly : Ctr := shCtr sameFly_S sameFly_p [] [.slot 0 false .bool] sameFly_f
abbrev eqsNsV : List TypeId := [115, 53]

def cloneM_VC (l : (List MsgD)) : Prop :=
  (pLen l = 0 → ([], ()) = (l, ())) ∧ pRoom (pPlus (pLen ([] : List Unit)) (pLen l)) 96 ∧ (pApp [] l, ()) = (l, ())
set_option maxRecDepth 100000 in
theorem cloneM_meets  (h : ∀ (l : (List MsgD)), (∀ p ∈ cloneM_p ⟨(l, ()), ()⟩, p) → cloneM_VC l) : Mt 76 ccloneM :=
  meets_vc (E := envN Tryd.prog (fun _ => none) [] eqsNsV [(43, [0])] []) (envN_ok (fun p hp => by cases hp) (by kernel_rfl)) cloneM_S (fun x => fun ky9 st9 => look [] ky9) Tryd.func76 (by kernel_rfl) (by kernel_rfl) cloneM_p [] [.slot 0 true tyMsg] cloneM_f (fun x => cloneM_VC x.1.1) (fun x => by kernel_rfl) (fun x hp => h x.1.1 hp)

def nown_VC (fl : (List RowD)) : Prop :=
  nownInv fl ((0 : Int), [], ()) ∧ ∀ (y : kden Bool.false tI × kden Bool.true kFly × PUnit), nownInv fl y → bif pLt y.1 (pInt (pLen fl)) then pIn y.1 (pLen fl) ∧ pRoom (pLen (pGet tyRow fl (pNat y.1)).1) 96 ∧ pRoom (pPlus (pLen y.2.1) (pLen
 [(pGet tyRow fl (pNat y.1))])) 24 ∧ nownInv fl (pAdd IntKind.i64 y.1 (1 : Int), pApp y.2.1 [(pGet tyRow fl (pNat y.1))], ()) ∧ Nat.le (Nat.succ (nownMu fl (pAdd IntKind.i64 y.1 (1 : Int), pApp y.2.1 [(pGet tyRow fl (pNat y.1))], ())))
 (nownMu fl y) else (y.2.1, ()) = (fl, ())
set_option maxRecDepth 100000 in
theorem nown_meets (hcloneM : Mt 76 ccloneM) (h : ∀ (fl : (List RowD)), (∀ p ∈ nown_p ⟨(fl, ()), ()⟩, p) → nown_VC fl) : Mt 38 cnown :=
  meets_vc (E := envN Tryd.prog (fun _ => none) [(76, (false, ccloneM))] eqsNsV [(43, [0])] []) (envN_ok (fun p hp => (by simp only [List.mem_cons, List.not_mem_nil, or_false] at hp; rcases hp with rfl; exact hcloneM)) (by kernel_rfl)) nown_S (fun x => fun ky9 st9 => look [(3, (⟨[.slot 8 false tI, .slot 3 true kFly], nownInv x.1.1, nownMu x.1.1⟩ : Ann))] ky9) Tryd.func38 (by kernel_rfl) (by kernel_rfl) nown_p [] [.slot 0 true kFly] nown_f (fun x => nown_VC x.1.1) (fun x => by kernel_rfl) (fun x hp => h x.1.1 hp)

def FlyingCopy_VC (fl : (List RowD)) : Prop :=
  ncopyInv fl ((0 : Int), [], ()) ∧ ∀ (y : kden Bool.false tI × kden Bool.true kFly × PUnit), ncopyInv fl y → bif pLt y.1 (pInt (pLen fl)) then ncrowInv fl y.1 ((0 : Int), [], ()) ∧ ∀ (y_1 : kden Bool.false tI × kden Bool.true tyMsg × PUnit),
 ncrowInv fl y.1 y_1 → pIn y.1 (pLen fl) ∧ bif pLt y_1.1 (pInt (pLen (pGet tyRow fl (pNat y.1)).1)) then pIn y.1 (pLen fl) ∧ pIn y_1.1 (pLen (pGet tyRow fl (pNat y.1)).1) ∧ pRoom (pPlus (pLen y_1.2.1) (pLen [(pGet tyMsg (pGet tyRow fl (pNat
 y.1)).1 (pNat y_1.1))])) 96 ∧ ncrowInv fl y.1 (pAdd IntKind.i64 y_1.1 (1 : Int), pApp y_1.2.1 [(pGet tyMsg (pGet tyRow fl (pNat y.1)).1 (pNat y_1.1))], ()) ∧ Nat.le (Nat.succ (ncrowMu fl y.1 (pAdd IntKind.i64 y_1.1 (1 : Int), pApp y_1.2.1
 [(pGet tyMsg (pGet tyRow fl (pNat y.1)).1 (pNat y_1.1))], ()))) (ncrowMu fl y.1 y_1) else pRoom (pPlus (pLen y.2.1) (pLen [(y_1.2.1, ())])) 24 ∧ ncopyInv fl (pAdd IntKind.i64 y.1 (1 : Int), pApp y.2.1 [(y_1.2.1, ())], ()) ∧ Nat.le (Nat.succ
 (ncopyMu fl (pAdd IntKind.i64 y.1 (1 : Int), pApp y.2.1 [(y_1.2.1, ())], ()))) (ncopyMu fl y) else (y.2.1, ()) = (fl, ())
set_option maxRecDepth 100000 in
theorem FlyingCopy_meets  (h : ∀ (fl : (List RowD)), (∀ p ∈ nown_p ⟨(fl, ()), ()⟩, p) → FlyingCopy_VC fl) : Mt 12 cFlyingCopy :=
  meets_vc (E := envN Tryd.prog (fun _ => none) [] eqsNsV [(43, [0])] []) (envN_ok (fun p hp => by cases hp) (by kernel_rfl)) nown_S (fun x => fun ky9 st9 => look [(3, (⟨[.slot 4 false tI, .slot 3 true kFly], ncopyInv x.1.1, ncopyMu x.1.1⟩ : Ann)), (7, (⟨[.slot 6 false tI, .slot 5 true tyMsg], ncrowInv x.1.1 (slotI st9 4), ncrowMu x.1.1 (slotI st9 4)⟩ : Ann))] ky9) Tryd.func12 (by kernel_rfl) (by kernel_rfl) nown_p [] [.slot 0 true kFly] nown_f (fun x => FlyingCopy_VC x.1.1) (fun x => by kernel_rfl) (fun x hp => h x.1.1 hp)

def sameMsgs_VC (l : (List MsgD)) (m : (List MsgD)) : Prop :=
  bif pNe (pInt (pLen l)) (pInt (pLen m)) then (Bool.false, ()) = (sameMsgsF l m, ()) else sameMsgsInv l m ((0 : Int), ()) ∧ ∀ (y : kden Bool.false tI × PUnit), sameMsgsInv l m y → bif pLt y.1 (pInt (pLen l)) then pIn y.1 (pLen l) ∧ pIn y.1
 (pLen m) ∧ bif pNot (pAndB (pEq (pGet tyMsg l (pNat y.1)).1 (pGet tyMsg m (pNat y.1)).1) (pAndB (pEq (pGet tyMsg l (pNat y.1)).2.1 (pGet tyMsg m (pNat y.1)).2.1) (pAndB (pEq (pGet tyMsg l (pNat y.1)).2.2.1 (pGet tyMsg m (pNat y.1)).2.2.1)
 (pAndB (pEq (pGet tyMsg l (pNat y.1)).2.2.2.1 (pGet tyMsg m (pNat y.1)).2.2.2.1) (pAndB (pEq (pGet tyMsg l (pNat y.1)).2.2.2.2.1 (pGet tyMsg m (pNat y.1)).2.2.2.2.1) (pAndB (pEq (pGet tyMsg l (pNat y.1)).2.2.2.2.2.1 (pGet tyMsg m (pNat
 y.1)).2.2.2.2.2.1) (pAndB (pEq (pGet tyMsg l (pNat y.1)).2.2.2.2.2.2.1 (pGet tyMsg m (pNat y.1)).2.2.2.2.2.2.1) (pAndB (pEq (pGet tyMsg l (pNat y.1)).2.2.2.2.2.2.2.1 (pGet tyMsg m (pNat y.1)).2.2.2.2.2.2.2.1) (pAndB (pEq (pGet tyMsg l (pNat
 y.1)).2.2.2.2.2.2.2.2.1 (pGet tyMsg m (pNat y.1)).2.2.2.2.2.2.2.2.1) (pAndB (pEq (pGet tyMsg l (pNat y.1)).2.2.2.2.2.2.2.2.2.1 (pGet tyMsg m (pNat y.1)).2.2.2.2.2.2.2.2.2.1) (pAndB (pBeq (pGet tyMsg l (pNat y.1)).2.2.2.2.2.2.2.2.2.2.1 (pGet
 tyMsg m (pNat y.1)).2.2.2.2.2.2.2.2.2.2.1) (pEq (pGet tyMsg l (pNat y.1)).2.2.2.2.2.2.2.2.2.2.2.1 (pGet tyMsg m (pNat y.1)).2.2.2.2.2.2.2.2.2.2.2.1)))))))))))) then (Bool.false, ()) = (sameMsgsF l m, ()) else sameMsgsInv l m (pAdd
 IntKind.i64 y.1 (1 : Int), ()) ∧ Nat.le (Nat.succ (sameMsgsMu l m (pAdd IntKind.i64 y.1 (1 : Int), ()))) (sameMsgsMu l m y) else (Bool.true, ()) = (sameMsgsF l m, ())
set_option maxRecDepth 100000 in
theorem sameMsgs_meets  (h : ∀ (l : (List MsgD)) (m : (List MsgD)), (∀ p ∈ sameMsgs_p ⟨(l, m, ()), ()⟩, p) → sameMsgs_VC l m) : Mt 41 csameMsgs :=
  meets_vc (E := envN Tryd.prog (fun _ => none) [] eqsNsV [(43, [0])] []) (envN_ok (fun p hp => by cases hp) (by kernel_rfl)) sameMsgs_S (fun x => fun ky9 st9 => look [(4, (⟨[.slot 5 false tI], sameMsgsInv x.1.1 x.1.2.1, sameMsgsMu x.1.1 x.1.2.1⟩ : Ann))] ky9) Tryd.func41 (by kernel_rfl) (by kernel_rfl) sameMsgs_p [] [.slot 0 false .bool] sameMsgs_f (fun x => sameMsgs_VC x.1.1 x.1.2.1) (fun x => by kernel_rfl) (fun x hp => h x.1.1 x.1.2.1 hp)

def sameFly_VC (fl : (List RowD)) (gl : (List RowD)) : Prop :=
  bif pNe (pInt (pLen fl)) (pInt (pLen gl)) then (Bool.false, ()) = (sameFlyF fl gl, ()) else sameFlyInv fl gl ((0 : Int), ()) ∧ ∀ (y : kden Bool.false tI × PUnit), sameFlyInv fl gl y → bif pLt y.1 (pInt (pLen fl)) then pIn y.1 (pLen fl) ∧
 pIn y.1 (pLen gl) ∧ Nat.le (Nat.succ (pLen (pGet tyRow fl (pNat y.1)).1)) 4611686018427387904 ∧ bif pNot (sameMsgsF (pGet tyRow fl (pNat y.1)).1 (pGet tyRow gl (pNat y.1)).1) then (Bool.false, ()) = (sameFlyF fl gl, ()) else sameFlyInv fl
 gl (pAdd IntKind.i64 y.1 (1 : Int), ()) ∧ Nat.le (Nat.succ (sameFlyMu fl gl (pAdd IntKind.i64 y.1 (1 : Int), ()))) (sameFlyMu fl gl y) else (Bool.true, ()) = (sameFlyF fl gl, ())
set_option maxRecDepth 100000 in
theorem sameFly_meets (hsameMsgs : Mt 41 csameMsgs) (h : ∀ (fl : (List RowD)) (gl : (List RowD)), (∀ p ∈ sameFly_p ⟨(fl, gl, ()), ()⟩, p) → sameFly_VC fl gl) : Mt 15 csameFly :=
  meets_vc (E := envN Tryd.prog (fun _ => none) [(41, (false, csameMsgs))] eqsNsV [(43, [0])] []) (envN_ok (fun p hp => (by simp only [List.mem_cons, List.not_mem_nil, or_false] at hp; rcases hp with rfl; exact hsameMsgs)) (by kernel_rfl)) sameFly_S (fun x => fun ky9 st9 => look [(4, (⟨[.slot 5 false tI], sameFlyInv x.1.1 x.1.2.1, sameFlyMu x.1.1 x.1.2.1⟩ : Ann))] ky9) Tryd.func15 (by kernel_rfl) (by kernel_rfl) sameFly_p [] [.slot 0 false .bool] sameFly_f (fun x => sameFly_VC x.1.1 x.1.2.1) (fun x => by kernel_rfl) (fun x hp => h x.1.1 x.1.2.1 hp)


end Go.Proofs.YtgocemdodabgkaaDoor

/- What is on its way: copies, comparisons: the functions meet their contracts. No condition. -/
namespace Go.Proofs.YtgocemdodabgkaaDoor
open Go.RowKit

theorem sameMsgs_ok : Meets Tryd.prog (fun _ => none) 41 csameMsgs := sameMsgs_meets fun l m hp => by
  have hl : l.length < 4611686018427387904 := hp _ List.mem_cons_self
  unfold sameMsgs_VC
  refine bif_ok (fun h => leafF fun q => ?_) fun h => ?_
  · unfold sameMsgsF at q; simp only [Bool.and_eq_true, decide_eq_true_eq] at q
    have : pNe (pInt l.length) (pInt m.length) = true := h
    rw [q.1] at this; simp [pNe] at this
  have hn : l.length = m.length := by
    have : pNe (pInt l.length) (pInt m.length) = false := h
    simp only [pNe, pInt, bne_eq_false_iff_eq] at this; omega
  refine ⟨⟨hn, UpInv.start⟩, fun y ⟨_, hy⟩ => ?_⟩
  rcases UpInv.round hl hy with ⟨k, rfl, hk, hb, -, hF, hT⟩ | ⟨rfl, hT⟩
  · have hk2 : k < m.length := by omega
    rw [bif_true (by simp [pLt_coe, pLen, hk]), pNat_coe]
    refine ⟨pIn_coe.2 hk, pIn_coe.2 hk2, bif_ok (fun h => leafF fun q => ?_) fun h => ?_⟩
    · have h' : eqMsgAt l m k = false := by have h2 : (!eqMsgAt l m k) = true := h; simpa using h2
      unfold sameMsgsF at q
      rw [hF h'] at q; simp at q
    · have h' : eqMsgAt l m k = true := by have h2 : (!eqMsgAt l m k) = false := h; simpa using h2
      exact ⟨⟨hn, (hT h').1⟩, (hT h').2⟩
  · rw [bif_false (by simp [pLt_coe, pLen])]
    refine leafT fun q => ?_
    unfold sameMsgsF at q
    rw [hT] at q; simp [hn] at q
theorem sameFly_ok : Meets Tryd.prog (fun _ => none) 15 csameFly := sameFly_meets sameMsgs_ok fun l m hp => by
  have hl : l.length < 4611686018427387904 := hp (pLen l < 4611686018427387904) (by simp)
  have hq : ∀ q ∈ l, pLen q.1 < 4611686018427387904 := hp (∀ q ∈ l, pLen q.1 < 4611686018427387904) (by simp)
  clear hp
  unfold sameFly_VC
  refine bif_ok (fun h => leafF fun q => ?_) fun h => ?_
  · unfold sameFlyF at q; simp only [Bool.and_eq_true, decide_eq_true_eq] at q
    have : pNe (pInt l.length) (pInt m.length) = true := h
    rw [q.1] at this; simp [pNe] at this
  have hn : l.length = m.length := by
    have : pNe (pInt l.length) (pInt m.length) = false := h
    simp only [pNe, pInt, bne_eq_false_iff_eq] at this; omega
  refine ⟨⟨hn, UpInv.start⟩, fun y ⟨_, hy⟩ => ?_⟩
  rcases UpInv.round hl hy with ⟨k, rfl, hk, hb, -, hF, hT⟩ | ⟨rfl, hT⟩
  · have hk2 : k < m.length := by omega
    rw [bif_true (by simp [pLt_coe, pLen, hk]), pNat_coe]
    have hin := hq (pGet tyRow l k) (by rw [pGet_lt (t := tyRow) hk]; exact List.getElem_mem hk)
    refine ⟨pIn_coe.2 hk, pIn_coe.2 hk2, hin, bif_ok (fun h => leafF fun q => ?_) fun h => ?_⟩
    · have h' : eqRowAt l m k = false := by have h2 : (!eqRowAt l m k) = true := h; simpa using h2
      unfold sameFlyF at q
      rw [hF h'] at q; simp at q
    · have h' : eqRowAt l m k = true := by have h2 : (!eqRowAt l m k) = false := h; simpa using h2
      exact ⟨⟨hn, (hT h').1⟩, (hT h').2⟩
  · rw [bif_false (by simp [pLt_coe, pLen])]
    refine leafT fun q => ?_
    unfold sameFlyF at q
    rw [hT] at q; simp [hn] at q
theorem sameMsgs_refl (l : List MsgD) : sameMsgsF l l = true := by
  unfold sameMsgsF
  rw [allUpto_true fun j _ => by simp [eqMsgAt, eqMsg, pAndB, pEq, pBeq]]
  simp
theorem sameFly_refl (l : List RowD) : sameFlyF l l = true := by
  unfold sameFlyF
  rw [allUpto_true fun j _ => by simp [eqRowAt, sameMsgs_refl]]
  simp
theorem mu_step {n k : Nat} (h : k < n) (hb : k < 4611686018427387904) : Nat.le (Nat.succ (n - (pAdd .i64 (k : Int) 1).toNat)) (n - ((k : Nat) : Int).toNat) := by
  rw [pAdd1 hb, Int.toNat_natCast, Int.toNat_natCast]; exact Nat.le_of_eq (by omega)
theorem cloneM_ok : Meets Tryd.prog (fun _ => none) 76 ccloneM := cloneM_meets fun l hp => by
  have h : pRoom (pLen l) 96 := hp _ List.mem_cons_self
  clear hp
  unfold cloneM_VC
  refine ⟨fun h0 => ?_, ?_, rfl⟩
  · rw [List.length_eq_zero_iff.1 h0]
  · show (0 + l.length) * 96 ≤ 140737488351232
    rw [Nat.zero_add]; exact h
theorem room_row {fl : List RowD} (h : RowsOk fl) {k : Nat} (hk : k < fl.length) : pRoom (pLen (pGet tyRow fl k).1) 96 := h.2 _ (by rw [pGet_lt (t := tyRow) hk]; exact List.getElem_mem hk)
theorem take_one {t : Ty} {l : List t.den} {k : Nat} (hk : k < l.length) : pApp (l.take k) [pGet t l k] = l.take (k + 1) := by
  unfold pApp
  rw [List.take_succ_eq_append_getElem hk, pGet_lt hk]
theorem room_take {α : Type} {l : List α} {k b : Nat} (hk : k < l.length) (h : pRoom (pLen l) b) : pRoom (pPlus (pLen (l.take k)) 1) b := by
  have h : l.length * b ≤ 140737488351232 := h
  show ((l.take k).length + 1) * b ≤ 140737488351232
  rw [List.length_take]
  exact Nat.le_trans (Nat.mul_le_mul_right _ (by omega)) h
theorem room62 {n b : Nat} (hb : 1 ≤ b) (h : pRoom n b) : n < 4611686018427387904 := by
  have h : n * b ≤ 140737488351232 := h
  have := Nat.mul_le_mul_left n hb
  omega
theorem nown_ok : Meets Tryd.prog (fun _ => none) 38 cnown := nown_meets cloneM_ok fun fl hp => by
  have h : RowsOk fl := hp _ List.mem_cons_self
  clear hp
  have hl : fl.length < 4611686018427387904 := room62 (by decide) h.1
  unfold nown_VC
  refine ⟨⟨0, rfl, Nat.zero_le _⟩, fun y hy => ?_⟩
  obtain ⟨k, rfl, hk⟩ := hy
  dsimp only
  by_cases hkn : k < fl.length
  · rw [bif_true (by simp [pLt_coe, pLen, hkn]), pNat_coe]
    have hb : k < 4611686018427387904 := by omega
    refine ⟨pIn_coe.2 hkn, room_row h hkn, room_take hkn h.1, ⟨k + 1, by rw [pAdd1 hb, take_one (t := tyRow) hkn], hkn⟩, mu_step hkn hb⟩
  · obtain rfl : k = fl.length := by omega
    rw [bif_false (by simp [pLt_coe, pLen]), List.take_length]
theorem FlyingCopy_ok : Meets Tryd.prog (fun _ => none) 12 cFlyingCopy := FlyingCopy_meets fun fl hp => by
  have h : RowsOk fl := hp _ List.mem_cons_self
  clear hp
  have hl : fl.length < 4611686018427387904 := room62 (by decide) h.1
  unfold FlyingCopy_VC
  refine ⟨⟨0, rfl, Nat.zero_le _⟩, fun y hy => ?_⟩
  obtain ⟨k, rfl, hk⟩ := hy
  dsimp only
  by_cases hkn : k < fl.length
  · rw [bif_true (by simp [pLt_coe, pLen, hkn]), pNat_coe]
    have hb : k < 4611686018427387904 := by omega
    have hr := room_row h hkn
    have hrl := room62 (by decide) hr
    have hin : ∀ z, ncrowInv fl (k : Int) z ↔ ∃ j : Nat, z = ((j : Int), (pGet tyRow fl k).1.take j, ()) ∧ j ≤ (pGet tyRow fl k).1.length := fun z => by unfold ncrowInv; rw [pNat_coe]
    have hmu : ∀ z, ncrowMu fl (k : Int) z = (pGet tyRow fl k).1.length - z.1.toNat := fun z => by unfold ncrowMu; rw [pNat_coe]
    refine ⟨(hin _).2 ⟨0, rfl, Nat.zero_le _⟩, fun z hz => ?_⟩
    obtain ⟨j, rfl, hj⟩ := (hin _).1 hz
    have hjb : j < 4611686018427387904 := Nat.lt_of_le_of_lt hj hrl
    dsimp only
    refine ⟨pIn_coe.2 hkn, ?_⟩
    by_cases hjn : j < (pGet tyRow fl k).1.length
    · rw [bif_true (by rw [pLt_coe]; exact decide_eq_true hjn), pNat_coe]
      exact ⟨pIn_coe.2 hkn, pIn_coe.2 hjn, room_take hjn hr, (hin _).2 ⟨j + 1, by rw [pAdd1 hjb, take_one (t := tyMsg) hjn], hjn⟩, by rw [hmu, hmu]; exact mu_step hjn hjb⟩
    · obtain rfl : j = (pGet tyRow fl k).1.length := by omega
      rw [bif_false (by rw [pLt_coe]; exact decide_eq_false (Nat.lt_irrefl _)), List.take_length]
      exact ⟨room_take hkn h.1, ⟨k + 1, by rw [pAdd1 hb]; exact congrArg (fun q => (((k + 1 : Nat) : Int), q, ())) (take_one (t := tyRow) hkn), hkn⟩, mu_step hkn hb⟩
  · obtain rfl : k = fl.length := by omega
    rw [bif_false (by simp [pLt_coe, pLen]), List.take_length]


end Go.Proofs.YtgocemdodabgkaaDoor
