/- Plain words of what operators see: lists, audits, what may not be. No condition. -/
import Derived.Shelf.Strconv.ErrVarAll
import Derived.Shelf.Strconv.Itoa3
import Derived.Shelf.Strings.Split
import Derived.Shelf.Strings.Shaped
import Derived.Test.YtedjlbcclhgfmaaDoorProg
import Derived.Test.YtedjlbcclhgfmaaDoorFH
import Derived.Test.YtedjlbcclhgfmaaDoorJ1
import Derived.Test.YtedjlbcclhgfmaaDoorDec
import Derived.Lib.Builder
import Derived.Lib.UnsafeStr
import Derived.Shelf.RegionOpenPlain
import Derived.Laws.Externs
import Derived.WalkKit
import Derived.Lib.AtoiAllCases
import Derived.Lib.Strings
import Derived.Test.YtedjlbcclhgfmaaDoorJ2

/- Functions of Go's library in this program: their bodies are those that the library's laws speak of. No condition. -/
namespace Go.Proofs.YtedjlbcclhgfmaaDoor
open Go.Shelf

def lItoa_ren : Go.Shelf.Ren := ⟨fun | 171 => 20 | 243 => 54 | 246 => 83 | 283 => 100 | 284 => 101 | 285 => 102 | 286 => 103 | 129 => 121 | 317 => 120 | 318 => 122 | 319 => 123 | 320 => 124 | 337 => 132 | 338 => 133 | n => n, fun | 3 => 3 | 9 => 9 | 2 => 2 | 4 => 4 | 171 => 153 | 0 => 0 | 53 => 154 | 37 => 48 | 5 => 5 | 173 => 157 | 212 => 173 | 51 => 174 | 20 => 20 | 213 => 175 | 46 => 111 | 232 => 194 | 233 => 195 | n => n, fun | 17 => 3 | 18 => 8 | 19 => 9 | n => n⟩
theorem lItoa : Go.Proofs.LaysM.n171 Tryd.prog lItoa_ren := {
  mixed := by kernel_rfl
  f129 := Tryd.func121.trans (congrArg some (by kernel_rfl))
  f171 := Tryd.func20.trans (congrArg some (by kernel_rfl))
  f243 := Tryd.func54.trans (congrArg some (by kernel_rfl))
  f246 := Tryd.func83.trans (congrArg some (by kernel_rfl))
  f283 := Tryd.func100.trans (congrArg some (by kernel_rfl))
  f284 := Tryd.func101.trans (congrArg some (by kernel_rfl))
  f285 := Tryd.func102.trans (congrArg some (by kernel_rfl))
  f286 := Tryd.func103.trans (congrArg some (by kernel_rfl))
  f317 := Tryd.func120.trans (congrArg some (by kernel_rfl))
  f318 := Tryd.func122.trans (congrArg some (by kernel_rfl))
  f319 := Tryd.func123.trans (congrArg some (by kernel_rfl))
  f320 := Tryd.func124.trans (congrArg some (by kernel_rfl))
  f337 := Tryd.func132.trans (congrArg some (by kernel_rfl))
  f338 := Tryd.func133.trans (congrArg some (by kernel_rfl))
  t0 := Tryd.underlying0
  a0 := Tryd.isAgg0
  z0 := Tryd.sizeOf0
  v0 := Tryd.zeroValue0
  t2 := Tryd.underlying2
  a2 := Tryd.isAgg2
  z2 := Tryd.sizeOf2
  v2 := Tryd.zeroValue2
  t3 := Tryd.underlying3
  a3 := Tryd.isAgg3
  z3 := Tryd.sizeOf3
  v3 := Tryd.zeroValue3
  t4 := Tryd.underlying4
  a4 := Tryd.isAgg4
  z4 := Tryd.sizeOf4
  v4 := Tryd.zeroValue4
  t5 := Tryd.underlying5
  a5 := Tryd.isAgg5
  z5 := Tryd.sizeOf5
  v5 := Tryd.zeroValue5
  t9 := Tryd.underlying9
  a9 := Tryd.isAgg9
  z9 := Tryd.sizeOf9
  v9 := Tryd.zeroValue9
  t20 := Tryd.underlying20
  a20 := Tryd.isAgg20
  z20 := Tryd.sizeOf20
  v20 := Tryd.zeroValue20
  t37 := Tryd.underlying48
  a37 := Tryd.isAgg48
  z37 := Tryd.sizeOf48
  v37 := Tryd.zeroValue48
  t46 := Tryd.underlying111
  a46 := Tryd.isAgg111
  z46 := Tryd.sizeOf111
  v46 := Tryd.zeroValue111
  t51 := Tryd.underlying174
  a51 := Tryd.isAgg174
  z51 := Tryd.sizeOf174
  v51 := Tryd.zeroValue174
  t53 := Tryd.underlying154
  a53 := Tryd.isAgg154
  z53 := Tryd.sizeOf154
  v53 := Tryd.zeroValue154
  t171 := Tryd.underlying153
  a171 := Tryd.isAgg153
  z171 := Tryd.sizeOf153
  v171 := Tryd.zeroValue153
  t173 := Tryd.underlying157
  a173 := Tryd.isAgg157
  z173 := Tryd.sizeOf157
  v173 := Tryd.zeroValue157
  t212 := Tryd.underlying173
  a212 := Tryd.isAgg173
  z212 := Tryd.sizeOf173
  v212 := Tryd.zeroValue173
  t213 := Tryd.underlying175
  a213 := Tryd.isAgg175
  z213 := Tryd.sizeOf175
  t232 := Tryd.underlying194
  a232 := Tryd.isAgg194
  z232 := Tryd.sizeOf194
  v232 := Tryd.zeroValue194
  t233 := Tryd.underlying195
  a233 := Tryd.isAgg195
  z233 := Tryd.sizeOf195
  v233 := Tryd.zeroValue195
  g17 := by kernel_rfl
  g18 := by kernel_rfl
  g19 := by kernel_rfl
  i0 := by kernel_rfl
  i2 := by kernel_rfl
  i3 := by kernel_rfl
  i4 := by kernel_rfl
  i5 := by kernel_rfl
  i9 := by kernel_rfl
  i20 := by kernel_rfl
  i37 := by kernel_rfl
  i46 := by kernel_rfl
  i51 := by kernel_rfl
  i53 := by kernel_rfl
  i171 := by kernel_rfl
  i173 := by kernel_rfl
  i212 := by kernel_rfl
  i232 := by kernel_rfl
  i233 := by kernel_rfl
  m17 := by kernel_rfl
  m18 := by kernel_rfl
  m19 := by kernel_rfl }

end Go.Proofs.YtedjlbcclhgfmaaDoor

/- Functions of Go's library on strings: what they say in plain words, and that they meet their contracts. The table of powers, the errors and the longest length lie where they are to lie. -/
namespace Go.Proofs.YtedjlbcclhgfmaaDoor
open Go.RowKit Go.Shelf

def pItoa (n : Int) : ByteArray := ⟨(Go.Lib.itoa n).toArray⟩
/-- A call that looks at no object of the caller's and lays new blocks alone. -/
theorem spec_below {P : Program} {g : Nat → Option Gl} {K : FuncId} {args : List SV} {r : SV}
    (h : ∀ (w : World) (N : Blk) (ρ : Nat → Pl) (vs : List Value), (∀ k cs, g k = some cs → GlobR w N k cs) → (∀ b, N b → b < w.heap.size) → All2 (SVR w N ρ (fun _ => none)) args vs →
      Calls P K vs.toArray w fun e w' => ∃ v, e = .returned v ∧ Below w.heap.size w w' ∧ SVR w' (fun b => N b ∨ (w.heap.size ≤ b ∧ b < w'.heap.size)) ρ (fun _ => none) r v) : SpecR P g K args [] r [] := by
  intro w N ρ vs hg hm ha _ _
  refine (h w N ρ vs hg hm.nlt ha).mono fun e w' ⟨v, he, hb, hv⟩ => ?_
  refine ⟨v, ρ, fun b => N b ∨ (w.heap.size ≤ b ∧ b < w'.heap.size), he, fun _ _ => rfl, fun b hb => .inl hb, ⟨fun _ _ h => (by cases h), fun _ _ _ _ _ h => (by cases h), fun b _ ho => ?_, fun b hb' => ?_⟩, hv, ⟨hb.os, hb.tape, hb.output, hb.size, fun b hlt _ => hb.block b hlt⟩, fun b ho => ?_, fun b hb' => ?_⟩
  · obtain ⟨_, _, h, _⟩ := ho; cases h
  · rcases hb' with h | h
    · exact Nat.lt_of_lt_of_le (hm.nlt b h) hb.size
    · exact h.2
  · obtain ⟨_, _, h, _⟩ := ho; cases h
  · rcases hb' with h | h
    · exact .inl h
    · exact .inr (.inl h.1)

theorem all2_1 {w : World} {N : Blk} {ρ : Nat → Pl} {m : Mem} {c : C} {vs : List Value} (h : All2 (SVR w N ρ m) [.v false [c]] vs) : ∃ v, vs = [v] ∧ CR w N ρ m c v := by
  cases h with
  | cons a r => cases r; exact ⟨_, rfl, vr1 a⟩
theorem glob_var {P : Program} {w : World} {N : Blk} {n : String} {k : Nat} {cs : List C} (hn : P.globalNamed n = some k) (h : GlobR w N k (.cells cs)) : ∃ vals, w.var? P n = some vals ∧ All2 (CR w N (fun _ => pl0 none 0) (fun _ => none)) cs vals.toList := by
  obtain ⟨_, vals, T, fz, hh, ha, _⟩ := h
  exact ⟨vals, by simp [World.var?, hn, hh], ha⟩
theorem all2_ints {w : World} {N : Blk} {ρ : Nat → Pl} {m : Mem} {k : IntKind} : ∀ {zs : List Int} {vs : List Value}, All2 (CR w N ρ m) (zs.map (C.int k)) vs → vs = zs.map (Value.int k)
  | [], _, h => by cases h; rfl
  | z :: zs, _, h => by
    cases h with
    | cons a r =>
      have a : _ = _ := a
      rw [List.map_cons, a, all2_ints r]

theorem grow_below {w : World} {k : Nat} {os : Array Go.Obj} : Below w.heap.size w (Go.Sort.grow (w.drewN k) os) := by
  refine ⟨rfl, rfl, rfl, ?_, fun b hb => ?_⟩
  · show w.heap.size ≤ (w.heap ++ os).size
    rw [Array.size_append]; omega
  · show (w.heap ++ os)[b]? = w.heap[b]?
    rw [Array.getElem?_append_left hb]
end Go.Proofs.YtedjlbcclhgfmaaDoor

/- strings.Builder: what copyCheck and String do to the world. No condition. -/
namespace Go.Proofs.YtedjlbcclhgfmaaDoor
open Go.RowKit Go.Shelf

set_option maxRecDepth 100000 in
theorem cc_used (b : Nat) (w : World) (h0 : w.cell? ⟨b, 0, none⟩ = some (.pointer (some ⟨b, 0, none⟩))) :
    Calls Tryd.prog 53 #[.pointer (some ⟨b, 0, none⟩)] w fun e w' => e = .returned (.tuple #[]) ∧ w' = w := by
  obtain ⟨j, hj, _⟩ := Option.map_eq_some_iff.1 (show (Tryd.prog.info? 50).map (·.size) = some 2 by kernel_rfl)
  go_enter Tryd.func53, Tryd.ntmps53
  go_wp2
  rw [Lib.run_neq_ptr_same w _ Tryd.underlying47 hj]
  go_wp2
  go_end0
  exact ⟨rfl, rfl⟩
set_option maxRecDepth 100000 in
theorem cc_fresh (b : Nat) (w : World) (h0 : w.cell? ⟨b, 0, none⟩ = some (.pointer none)) (hsh : w.shape? b = some (50, 2)) (hfz : w.frozen? ⟨b, 0, none⟩ = false) :
    Calls Tryd.prog 53 #[.pointer (some ⟨b, 0, none⟩)] w fun e w' => e = .returned (.tuple #[]) ∧ w' = w.setCell ⟨b, 0, none⟩ (.pointer (some ⟨b, 0, none⟩)) := by
  obtain ⟨j, hj, hjs⟩ := Option.map_eq_some_iff.1 (show (Tryd.prog.info? 50).map (·.size) = some 2 by kernel_rfl)
  go_enter Tryd.func53, Tryd.ntmps53
  go_wp2
  rw [Lib.run_to_unsafe w ⟨b, 0, none⟩ Tryd.underlying47 Tryd.underlying140 hj (by rw [hjs]; decide) hsh (Nat.zero_lt_succ 1)]
  simp only [Result.andThen]
  rw [Oper.upon_value]
  go_wp2
  rw [run_callFunc_extern Tryd.func82 (by kernel_rfl) (by kernel_rfl) (by kernel_rfl) (e := Extern.AbiNoEscape.same) (by kernel_rfl)]
  rw [Lib.run_noEscape]
  simp only [Result.andThen]
  rw [Oper.upon_value]
  go_wp2
  rw [Lib.run_from_unsafe w ⟨b, 0, none⟩ Tryd.underlying140 Tryd.underlying47 hj hsh (by kernel_rfl)]
  simp only [Result.andThen]
  rw [Oper.upon_value]
  go_wp2
  go_end0
  exact ⟨rfl, rfl⟩
set_option maxHeartbeats 2000000 in
set_option maxRecDepth 100000 in
theorem bstr_some (b g cap : Nat) (l : List UInt8) (p : Value) (w : World) (cur : Array Value) (fz : Nat × Nat) (h0 : l ≠ []) (hc : cap ≠ 0) (hbk : w.heap[b]? = some (.cells #[p, .slice (some ⟨g, 0, none⟩) l.length cap] 50 (0, 0)))
    (hg : w.heap[g]? = some (.cells cur 5 fz)) (hn : l.length ≤ cur.size) (h63 : l.length ≤ 9223372036854775807) (hcell : ∀ (j : Nat) (x : UInt8), l[j]? = some x → cur[j]? = some (Value.int .u8 x.toNat)) :
    Calls Tryd.prog 24 #[.pointer (some ⟨b, 0, none⟩)] w fun e w' => e = .returned (.string ⟨l.toArray⟩) ∧ w' = w.drew.freeze ⟨g, 0, none⟩ l.length := by
  have c1 : w.drew.cell? ⟨b, 1, none⟩ = some (.slice (some ⟨g, 0, none⟩) l.length cap) := by
    have : w.drew.heap[b]? = some (.cells #[p, .slice (some ⟨g, 0, none⟩) l.length cap] 50 (0, 0)) := hbk
    rw [Lib.cell_of_heap this]; rfl
  have hg' : w.drew.heap[g]? = some (.cells cur 5 fz) := hg
  have hSD : (Builtin.unsafeSliceData_ #[48] 112 #[.slice (some ⟨g, 0, none⟩) l.length cap]).run Tryd.prog w.drew = .ok (.pointer (some ⟨g, 0, none⟩)) w.drew :=
    Lib.run_unsafeSliceData_row _ _ _ _ _ _ hc
  have hUS : (Builtin.unsafeString_ #[112, 3] 9 #[.pointer (some ⟨g, 0, none⟩), .int .i64 l.length]).run Tryd.prog w.drew = .ok (.string ⟨l.toArray⟩) (w.drew.freeze ⟨g, 0, none⟩ l.length) :=
    Lib.run_unsafeString_row w.drew 112 3 9 5 Tryd.underlying112 (by kernel_rfl) g cur.size (by simp [World.shape?, hg']) l h0 hn h63 fun j x hx => by
      have := hcell j x hx
      rw [addr_add]; simp [World.cell?, hg', this]
  clear hcell hn h63 hbk hg hg' hc
  have mixed : Tryd.prog.follows .mixedOrders = true := by kernel_rfl
  go_enter Tryd.func24, Tryd.ntmps24
  go_wp2
  go_region_o
  all_goals (go_wp2; go_ret; exact ⟨rfl, rfl⟩)
set_option maxHeartbeats 2000000 in
set_option maxRecDepth 100000 in
theorem bstr_room (b g cap : Nat) (p : Value) (w : World) (hc : cap ≠ 0) (hbk : w.heap[b]? = some (.cells #[p, .slice (some ⟨g, 0, none⟩) 0 cap] 50 (0, 0))) :
    Calls Tryd.prog 24 #[.pointer (some ⟨b, 0, none⟩)] w fun e w' => e = .returned (.string ⟨#[]⟩) ∧ w' = w.drew := by
  have hUS : ∀ (W : World) (q : Option Addr), (Builtin.unsafeString_ #[112, 3] 9 #[.pointer q, .int .i64 0]).run Tryd.prog W = .ok (.string .empty) W := fun W q => Lib.run_unsafeString_none W _ _ _ q
  have c1 : w.drew.cell? ⟨b, 1, none⟩ = some (.slice (some ⟨g, 0, none⟩) 0 cap) := by
    have : w.drew.heap[b]? = some (.cells #[p, .slice (some ⟨g, 0, none⟩) 0 cap] 50 (0, 0)) := hbk
    rw [Lib.cell_of_heap this]; rfl
  have hSD : (Builtin.unsafeSliceData_ #[48] 112 #[.slice (some ⟨g, 0, none⟩) 0 cap]).run Tryd.prog w.drew = .ok (.pointer (some ⟨g, 0, none⟩)) w.drew :=
    Lib.run_unsafeSliceData_row _ _ _ _ _ _ hc
  clear hc hbk
  have mixed : Tryd.prog.follows .mixedOrders = true := by kernel_rfl
  go_enter Tryd.func24, Tryd.ntmps24
  go_wp2
  go_region_o
  all_goals (go_wp2; go_ret; exact ⟨rfl, rfl⟩)
set_option maxHeartbeats 2000000 in
set_option maxRecDepth 100000 in
theorem bstr_nil (b : Nat) (p : Value) (w : World) (hbk : w.heap[b]? = some (.cells #[p, .slice none 0 0] 50 (0, 0))) :
    Calls Tryd.prog 24 #[.pointer (some ⟨b, 0, none⟩)] w fun e w' => e = .returned (.string ⟨#[]⟩) ∧ w' = w.drew := by
  have hUS : ∀ (W : World) (q : Option Addr), (Builtin.unsafeString_ #[112, 3] 9 #[.pointer q, .int .i64 0]).run Tryd.prog W = .ok (.string .empty) W := fun W q => Lib.run_unsafeString_none W _ _ _ q
  have c1 : w.drew.cell? ⟨b, 1, none⟩ = some (.slice none 0 0) := by
    have : w.drew.heap[b]? = some (.cells #[p, .slice none 0 0] 50 (0, 0)) := hbk
    rw [Lib.cell_of_heap this]; rfl
  have hSD : (Builtin.unsafeSliceData_ #[48] 112 #[.slice none 0 0]).run Tryd.prog w.drew = .ok (.pointer none) w.drew := rfl
  clear hbk
  have mixed : Tryd.prog.follows .mixedOrders = true := by kernel_rfl
  go_enter Tryd.func24, Tryd.ntmps24
  go_wp2
  go_region_o
  all_goals (go_wp2; go_ret; exact ⟨rfl, rfl⟩)


end Go.Proofs.YtedjlbcclhgfmaaDoor

/- strings.Builder: copyCheck and String meet contracts. No condition. -/
namespace Go.Proofs.YtedjlbcclhgfmaaDoor
open Go.RowKit Go.Shelf

abbrev TBl : Nat := 50
abbrev tyBl : Ty := bT 5 (.pair (.int .u8) .unit)
abbrev BD := Unit × Int × Unit
/-- a text's bytes, as a builder has them -/
def bl (s : ByteArray) : List BD := pTie (pStrCells s)
def unBl (xs : List BD) : ByteArray := ⟨(xs.map fun x => UInt8.ofNat x.2.1.toNat).toArray⟩
def pIsBl (xs : List BD) : Prop := xs = bl (unBl xs)
theorem unBl_bl (s : ByteArray) : unBl (bl s) = s := by
  obtain ⟨⟨l⟩⟩ := s
  unfold unBl bl pTie pStrCells
  simp only [List.map_map]
  congr 2
  have : ((fun x : BD => UInt8.ofNat x.2.1.toNat) ∘ (fun x => ((), x)) ∘ fun b : UInt8 => ((b.toNat : Int), ())) = id := by
    funext b
    simp
  rw [this]
  simp
theorem isBl_bl (s : ByteArray) : pIsBl (bl s) := by unfold pIsBl; rw [unBl_bl]
theorem bl_len (s : ByteArray) : (bl s).length = s.size := by
  unfold bl pTie pStrCells; rw [List.length_map, List.length_map]; rfl
theorem bl_get {s : ByteArray} {k : Nat} (h : k < (bl s).length) (h' : k < s.data.toList.length) : (bl s)[k] = ((), (s.data.toList[k].toNat : Int), ()) := by
  simp [bl, pTie, pStrCells]
theorem bl_app (a b : ByteArray) : pApp (bl a) (bl b) = bl (a ++ b) := by
  unfold bl pTie pStrCells pApp
  rw [ByteArray.data_append]; simp

def cCopy : Ctr := fun args m0 => match args, m0 with
  | [.v false [.pt 0 0]], (0, some (.box [.sp 0 T, _])) :: _ => if T = TBl then some ([], .tup [], []) else none
  | _, _ => none
def cBStr : Ctr := fun args m0 => match args, m0 with
  | [.v false [.pt 0 0]], [(0, some (.box [.sp 0 T, .sz]))] => if T = TBl then some ([], .v false [.str (bs [])], [(0, none)]) else none
  | [.v false [.pt 0 0]], [(0, some (.box [.sp 0 T, .hs 1])), (1, some o)] => if T = TBl then (match rowParse tyBl o with
    | some xs => some ([pIsBl xs], .v false [.str (unBl xs)], [(0, none), (1, none)])
    | none => none) else none
  | _, _ => none

theorem MR.poke {w w' : World} {N : Blk} {ρ : Nat → Pl} {m : Mem} (h : MR w N ρ m) {id b : Nat} {cs : List C} (hid : m id = some (.box cs)) (hA : (ρ id).A = some ⟨b, 0, none⟩) (hk : ∀ k, k ≠ b → w'.heap[k]? = w.heap[k]?) (hsz : w'.heap.size = w.heap.size)
    (hnew : ObjR w' N ρ m id (.box cs)) : MR w' N ρ m := by
  have hN : SameOn N w w' := fun k hn => hk k fun e => h.nown k hn ⟨id, _, hid, by rw [e]; exact hA⟩
  refine ⟨fun i o ho => ?_, h.inj, h.nown, fun k hn => by rw [hsz]; exact h.nlt k hn⟩
  by_cases hi : i = id
  · subst hi
    rw [hid] at ho
    cases ho
    exact hnew
  · exact (h.obj i o ho).turn (F := fun _ => False) (.same rfl rfl) (fun _ h => h) hN (fun h => h) (fun _ _ h => h) fun k hb => hk k fun e => hi (h.inj i id o _ k ho hid hb (by rw [e]; exact hA))

theorem two_cells {w : World} {N : Blk} {ρ : Nat → Pl} {m : Mem} {c d : C} {vals : Array Value} (h : All2 (CR w N ρ m) [c, d] vals.toList) : ∃ v u, vals = #[v, u] ∧ CR w N ρ m c v ∧ CR w N ρ m d u := by
  obtain ⟨l⟩ := vals
  have h : All2 (CR w N ρ m) [c, d] l := h
  cases h with
  | cons a r => cases r with
    | cons b r => cases r; exact ⟨_, _, rfl, a, b⟩
theorem setCell_0 {w : World} {b : Nat} {v u x : Value} {T : TypeId} (h : w.heap[b]? = some (.cells #[v, u] T (0, 0))) : (w.setCell ⟨b, 0, none⟩ x).heap[b]? = some (.cells #[x, u] T (0, 0)) := by
  unfold World.setCell
  simp [Array.getElem?_modify, h]
theorem setCell_k {w : World} {b k : Nat} {x : Value} (h : k ≠ b) : (w.setCell ⟨b, 0, none⟩ x).heap[k]? = w.heap[k]? := by
  unfold World.setCell
  simp [Array.getElem?_modify, Ne.symm h]

theorem CopyCheck_ok {g : Nat → Option Gl} : Meets Tryd.prog g 53 cCopy := by
  refine ⟨⟨_, Tryd.func53, by kernel_rfl, by kernel_rfl⟩, fun args m0 obs r m1 hc hp => ?_⟩
  unfold cCopy at hc
  split at hc
  · rename_i T c rest
    split at hc
    · rename_i hT
      subst hT
      simp only [Option.some.injEq, Prod.mk.injEq] at hc
      obtain ⟨rfl, rfl, rfl⟩ := hc
      intro w N ρ vs hg hm ha _ _
      have hid : memOf ((0, some (.box [.sp 0 TBl, c])) :: rest) 0 = some (.box [.sp 0 TBl, c]) := by unfold memOf; rw [look_cons, if_pos rfl]; rfl
      obtain ⟨v, rfl, hv⟩ := all2_1 ha
      obtain ⟨b, hA, rfl⟩ := hv
      obtain ⟨b', vals, T', hA', hh, hcs, hcT⟩ := hm.obj 0 _ hid
      rw [hA] at hA'
      simp only [Option.some.injEq, Addr.mk.injEq, and_true] at hA'
      subst hA'
      obtain ⟨v0, v1, rfl, h0, h1⟩ := two_cells hcs
      obtain ⟨hT, h0⟩ := h0
      have hT' : T' = TBl := hcT.symm.trans hT
      subst hT'
      have same : ∀ (e : Ending) (w' : World), e = .returned (.tuple #[]) ∧ w' = w → ∃ v ρ' N', e = .returned v ∧ (∀ n, n < ((0, some (Obj.box [.sp 0 TBl, c])) :: rest).length → ρ' n = ρ n) ∧ (∀ b, N b → N' b) ∧ MR w' N' ρ' (memOf ([] ++ (0, some (.box [.sp 0 TBl, c])) :: rest)) ∧ SVR w' N' ρ' (memOf ([] ++ (0, some (.box [.sp 0 TBl, c])) :: rest)) (.tup []) v ∧
          Since w (Own ρ (memOf ((0, some (.box [.sp 0 TBl, c])) :: rest))) w' ∧ (∀ b, Own ρ' (memOf ([] ++ (0, some (.box [.sp 0 TBl, c])) :: rest)) b → Own ρ (memOf ((0, some (.box [.sp 0 TBl, c])) :: rest)) b ∨ w.heap.size ≤ b) ∧ ∀ b, N' b → N b ∨ w.heap.size ≤ b ∨ Own ρ (memOf ((0, some (.box [.sp 0 TBl, c])) :: rest)) b := by
        rintro e w' ⟨rfl, rfl⟩
        exact ⟨_, ρ, N, rfl, fun _ _ => rfl, fun _ h => h, hm, ⟨[], rfl, .nil⟩, Since.refl _ _, fun _ h => .inl h, fun _ h => .inl h⟩
      rcases h0 with rfl | ⟨b2, hb2, rfl⟩
      · refine (cc_fresh b w (by simp [World.cell?, hh]) (by simp [World.shape?, hh]) (by simp [World.frozen?, hh])).mono ?_
        rintro e w' ⟨rfl, rfl⟩
        have hnew := setCell_0 (x := .pointer (some ⟨b, 0, none⟩)) hh
        have hsz : (w.setCell ⟨b, 0, none⟩ (.pointer (some ⟨b, 0, none⟩))).heap.size = w.heap.size := by unfold World.setCell; simp
        have hN : SameOn N w (w.setCell ⟨b, 0, none⟩ (.pointer (some ⟨b, 0, none⟩))) := fun k hn => setCell_k fun e => hm.nown k hn ⟨0, _, hid, by rw [e]; exact hA⟩
        refine ⟨_, ρ, N, rfl, fun _ _ => rfl, fun _ h => h, hm.poke hid hA (fun k h => setCell_k h) hsz ⟨b, _, _, hA, hnew, ?_, hcT⟩, ⟨[], rfl, .nil⟩, ⟨rfl, rfl, rfl, Nat.le_of_eq hsz.symm, fun k _ hx => setCell_k fun e => hx ⟨0, _, hid, by rw [e]; exact hA⟩⟩, fun _ h => .inl h, fun _ h => .inl h⟩
        exact .cons ⟨hT, .inr ⟨b, hA, rfl⟩⟩ (.cons (CR.turn (F := fun _ => False) (.same rfl rfl) (fun _ h => h) hN (fun _ _ h => h) h1) .nil)
      · rw [hA] at hb2
        simp only [Option.some.injEq, Addr.mk.injEq, and_true] at hb2
        subst hb2
        exact (cc_used b w (by simp [World.cell?, hh])).mono same
    · cases hc
  · cases hc

theorem freeze_facts (w : World) (g n : Nat) : (w.freeze ⟨g, 0, none⟩ n).heap.size = w.heap.size ∧ (w.freeze ⟨g, 0, none⟩ n).os = w.os ∧ (w.freeze ⟨g, 0, none⟩ n).tape = w.tape ∧ (w.freeze ⟨g, 0, none⟩ n).output = w.output ∧ ∀ k, k ≠ g → (w.freeze ⟨g, 0, none⟩ n).heap[k]? = w.heap[k]? := by
  unfold World.freeze
  split
  · exact ⟨rfl, rfl, rfl, rfl, fun _ _ => rfl⟩
  · exact ⟨by simp, rfl, rfl, rfl, fun k hk => by simp [Array.getElem?_modify, Ne.symm hk]⟩
theorem gone_mr {w' : World} {N : Blk} {ρ : Nat → Pl} {m : Mem} (hm : ∀ id, m id = none) (hN : ∀ b, N b → b < w'.heap.size) : MR w' N ρ m :=
  ⟨fun id o h => (by rw [hm] at h; cases h), fun _ _ _ _ _ h => (by rw [hm] at h; cases h), fun _ _ ⟨id, o, h, _⟩ => (by rw [hm] at h; cases h), hN⟩
theorem BStr_ok {g : Nat → Option Gl} : Meets Tryd.prog g 24 cBStr := by
  refine ⟨⟨_, Tryd.func24, by kernel_rfl, by kernel_rfl⟩, fun args m0 obs r m1 hc hp => ?_⟩
  unfold cBStr at hc
  have fin : ∀ {w w' : World} {N : Blk} {ρ : Nat → Pl} {m0 : List (Nat × Option Obj)} {ms : Mem} {s t : ByteArray}, MR w N ρ (memOf m0) → (∀ id, ms id = none) → s = t → w'.heap.size = w.heap.size → w'.os = w.os → w'.tape = w.tape → w'.output = w.output → (∀ k, ¬ Own ρ (memOf m0) k → w'.heap[k]? = w.heap[k]?) →
      ∃ v ρ' N', Ending.returned (.string s) = .returned v ∧ (∀ n, n < m0.length → ρ' n = ρ n) ∧ (∀ b, N b → N' b) ∧ MR w' N' ρ' ms ∧ SVR w' N' ρ' ms (.v false [.str t]) v ∧ Since w (Own ρ (memOf m0)) w' ∧ (∀ b, Own ρ' ms b → Own ρ (memOf m0) b ∨ w.heap.size ≤ b) ∧ ∀ b, N' b → N b ∨ w.heap.size ≤ b ∨ Own ρ (memOf m0) b := by
    intro w w' N ρ m0 ms s t hm hn hs hz h1 h2 h3 hk
    subst hs
    refine ⟨_, ρ, N, rfl, fun _ _ => rfl, fun _ h => h, gone_mr hn (fun b hb => by rw [hz]; exact hm.nlt b hb), ⟨_, rfl, rfl⟩, ⟨h1, h2, h3, Nat.le_of_eq hz.symm, fun k _ hx => hk k hx⟩, fun b ⟨id, o, h, _⟩ => ?_, fun _ h => .inl h⟩
    rw [hn] at h; cases h
  split at hc
  · rename_i T
    split at hc
    · rename_i hT
      subst hT
      simp only [Option.some.injEq, Prod.mk.injEq] at hc
      obtain ⟨rfl, rfl, rfl⟩ := hc
      intro w N ρ vs hg hm ha _ _
      obtain ⟨v, rfl, hv⟩ := all2_1 ha
      obtain ⟨b, hA, rfl⟩ := hv
      obtain ⟨b', vals, T', hA', hh, hcs, hcT⟩ := hm.obj 0 _ (rfl : memOf [(0, some (Obj.box [.sp 0 TBl, .sz]))] 0 = _)
      rw [hA] at hA'
      simp only [Option.some.injEq, Addr.mk.injEq, and_true] at hA'
      subst hA'
      obtain ⟨v0, v1, rfl, ⟨hT, _⟩, h1⟩ := two_cells hcs
      have hT' : T' = TBl := hcT.symm.trans hT
      subst hT'
      have h1 : v1 = .slice none 0 0 := h1
      subst h1
      refine (bstr_nil b v0 w hh).mono ?_
      rintro e w' ⟨rfl, rfl⟩
      refine fin hm (fun id => ?_) rfl rfl rfl rfl rfl fun _ _ => rfl
      show (look [(0, (none : Option Obj)), (0, some (.box [.sp 0 TBl, .sz]))] id).getD none = none
      rw [look_cons]
      split
      · rfl
      · rename_i h; rw [look_cons, if_neg h]; rfl
    · cases hc
  · rename_i T o
    split at hc
    · rename_i hT
      subst hT
      split at hc
      · rename_i xs hxs
        simp only [Option.some.injEq, Prod.mk.injEq] at hc
        obtain ⟨rfl, rfl, rfl⟩ := hc
        have ho : o = .row tyBl xs := (rowParse_eq hxs).symm
        subst ho
        have hbl : xs = bl (unBl xs) := hp (pIsBl xs) List.mem_cons_self
        intro w N ρ vs hg hm ha _ _
        obtain ⟨v, rfl, hv⟩ := all2_1 ha
        obtain ⟨b, hA, rfl⟩ := hv
        have m0 : memOf [(0, some (Obj.box [.sp 0 TBl, .hs 1])), (1, some (Obj.row tyBl xs))] 0 = some (.box [.sp 0 TBl, .hs 1]) := rfl
        have m1 : memOf [(0, some (Obj.box [.sp 0 TBl, .hs 1])), (1, some (Obj.row tyBl xs))] 1 = some (.row tyBl xs) := rfl
        obtain ⟨b', vals, T', hA', hh, hcs, hcT⟩ := hm.obj 0 _ m0
        rw [hA] at hA'
        simp only [Option.some.injEq, Addr.mk.injEq, and_true] at hA'
        subst hA'
        obtain ⟨v0, v1, rfl, ⟨hT, _⟩, h1⟩ := two_cells hcs
        have hT' : T' = TBl := hcT.symm.trans hT
        subst hT'
        have h1 := h1.hs_row m1
        subst h1
        have gone : ∀ id, memOf ([(0, none), (1, none)] ++ [(0, some (Obj.box [.sp 0 TBl, .hs 1])), (1, some (Obj.row tyBl xs))]) id = none := fun id => by
          show (look ((0, (none : Option Obj)) :: (1, none) :: [(0, some (.box [.sp 0 TBl, .hs 1])), (1, some (.row tyBl xs))]) id).getD none = none
          rw [look_cons]
          split
          · rfl
          · rename_i h0
            rw [look_cons]
            split
            · rfl
            · rename_i h1; rw [look_cons, if_neg h0, look_cons, if_neg h1]; rfl
        obtain ⟨⟨⟨hl, hmx⟩, hr⟩, hti⟩ := hm.obj 1 _ m1
        obtain ⟨t1, t2⟩ := hti 5 rfl
        have hlen : xs.length = (unBl xs).data.toList.length := by
          have := congrArg List.length hbl
          rw [bl_len] at this
          exact this
        rcases Nat.eq_zero_or_pos (ρ 1).cap with hc0 | hc0
        · have hx0 : xs = [] := List.eq_nil_of_length_eq_zero (by omega)
          rw [t1 hc0, hc0, hx0] at hh
          refine (bstr_nil b v0 w hh).mono ?_
          rintro e w' ⟨rfl, rfl⟩
          exact fin hm gone (by rw [hx0]; rfl) rfl rfl rfl rfl fun _ _ => rfl
        · obtain ⟨g0, vals, T2, hA2, hh2, hvs, hel⟩ := hr hc0
          obtain rfl := t2 g0 vals T2 (0, 0) hc0 hA2 hh2
          rw [hA2] at hh
          have own : Own ρ (memOf [(0, some (Obj.box [.sp 0 TBl, .hs 1])), (1, some (Obj.row tyBl xs))]) g0 := ⟨1, _, m1, hc0, hA2⟩
          by_cases hx0 : xs = []
          · rw [hx0] at hh
            refine (bstr_room b g0 (ρ 1).cap v0 w (by omega) hh).mono ?_
            rintro e w' ⟨rfl, rfl⟩
            exact fin hm gone (by rw [hx0]; rfl) rfl rfl rfl rfl fun _ _ => rfl
          · rw [hlen] at hh
            refine (bstr_some b g0 (ρ 1).cap (unBl xs).data.toList v0 w vals (0, 0) ?_ (by omega) hh hh2 ?_ ?_ fun j x hj => ?_).mono ?_
            · intro e
              rw [e] at hlen
              exact hx0 (List.eq_nil_of_length_eq_zero hlen)
            · rw [hvs, ← hlen]; exact Nat.le_trans hl (Nat.le_of_eq (Nat.mul_one _).symm)
            · rw [← hlen]; omega
            · have hj1 : j < (unBl xs).data.toList.length := (List.getElem?_eq_some_iff.1 hj).1
              have hj2 : j < xs.length := by omega
              obtain ⟨us, hrd, hcell⟩ := hel j hj2
              have hx : xs[j] = ((), (x.toNat : Int), ()) := by
                have e1 : xs[j]? = (bl (unBl xs))[j]? := congrArg (·[j]?) hbl
                rw [List.getElem?_eq_getElem hj2, List.getElem?_eq_getElem (by rw [bl_len]; exact hj1), bl_get _ hj1] at e1
                rw [List.getElem?_eq_getElem hj1] at hj
                rw [Option.some.inj e1, Option.some.inj hj]
              rw [hx] at hrd
              obtain ⟨u1, u2, rfl, h1, u3, u4, rfl, h2, h3⟩ := hrd
              have h1 : u1 = [] := h1
              have h2 : u3 = [.int .u8 (x.toNat : Int)] := h2
              have h3 : u4 = [] := h3
              subst h1 h2 h3
              have := hcell 0 (.int .u8 (x.toNat : Int)) rfl
              rw [show tyBl.size = 1 from rfl, Nat.mul_one, Nat.add_zero] at this
              exact this
            · rintro e w' ⟨rfl, rfl⟩
              obtain ⟨f1, f2, f3, f4, f5⟩ := freeze_facts w.drew g0 (unBl xs).data.toList.length
              exact fin hm gone (by obtain ⟨⟨l⟩⟩ := unBl xs; rfl) f1 f2 f3 f4 fun k hk => f5 k fun e => hk (e ▸ own)
      · cases hc
    · cases hc
  · cases hc


end Go.Proofs.YtedjlbcclhgfmaaDoor

/- Numerals: digits, their value; what Atoi and Itoa say of them. No condition. -/
namespace Go.Proofs.YtedjlbcclhgfmaaDoor
open Go.Lib

theorem ba_eq {a b : ByteArray} (h : a.data.toList = b.data.toList) : a = b := by
  obtain ⟨⟨a⟩⟩ := a; obtain ⟨⟨b⟩⟩ := b
  have h : a = b := h
  rw [h]
theorem strEq_iff {a b : ByteArray} : pStrEq a b = true ↔ a = b := by
  unfold pStrEq
  rw [beq_iff_eq, toList_data, toList_data]
  exact ⟨ba_eq, fun h => by rw [h]⟩
theorem itoa_coe (n : Nat) : pItoa (n : Int) = ⟨(decDigits n).toArray⟩ := by
  unfold pItoa itoa
  rw [if_neg (by omega)]; simp

end Go.Proofs.YtedjlbcclhgfmaaDoor

/- Texts and numerals: builders that are written to, numbers as texts. No condition. -/
namespace Go.Proofs.YtedjlbcclhgfmaaDoor
open Go.RowKit Go.Lib Go.ChangeShapes Go.WideShapes Go.Deep Go.IntWalk

abbrev vBld (id : Nat) : List (Bool × Ty) := [(false, .mark [id, TBl, 0] .unit), (true, tyBl)]
def StepInv {T : Type} (v : Nat → T) (n : Nat) (y : Int × T) : Prop := ∃ k : Nat, k ≤ n ∧ y = ((k : Int), v k)
def StepMu {T : Type} (n : Nat) (y : Int × T) : Nat := n - y.1.toNat
theorem StepInv.start {T : Type} {v : Nat → T} {n : Nat} {z : T} (h : z = v 0) : StepInv v n (0, z) := ⟨0, Nat.zero_le _, by rw [h]; rfl⟩
theorem StepInv.round {T : Type} {v : Nat → T} {n : Nat} {y : Int × T} (hn : n < 4611686018427387904) (h : StepInv v n y) :
    (∃ k : Nat, y = ((k : Int), v k) ∧ k < n ∧ k < 4611686018427387904 ∧ ∀ z, z = v (k + 1) → StepInv v n (pAdd .i64 (k : Int) 1, z) ∧ Nat.le (Nat.succ (StepMu n (pAdd .i64 (k : Int) 1, z))) (StepMu n ((k : Int), v k))) ∨ y = ((n : Int), v n) := by
  obtain ⟨k, hk, rfl⟩ := h
  by_cases hkn : k < n
  · refine .inl ⟨k, rfl, hkn, by omega, fun z hz => ?_⟩
    rw [pAdd1 (by omega), hz]
    exact ⟨⟨k + 1, hkn, rfl⟩, Nat.le_of_eq (by unfold StepMu; simp only [Int.toNat_natCast]; omega)⟩
  · obtain rfl : k = n := by omega
    exact .inr rfl
def ba (l : List UInt8) : ByteArray := ⟨l.toArray⟩
theorem ba_app (a b : List UInt8) : pStrApp (ba a) (ba b) = ba (a ++ b) := by
  apply ba_eq
  show ((⟨a.toArray⟩ : ByteArray) ++ ⟨b.toArray⟩).data.toList = a ++ b
  rw [ByteArray.data_append]; simp
theorem ba_size (a : List UInt8) : (ba a).size = a.length := by show a.toArray.size = a.length; simp
theorem ba_len (a : List UInt8) : pStrLen (ba a) = a.length := ba_size a
def pDec (n : Int) (k : Nat) : Prop := 0 ≤ n ∧ n < (10 ^ k : Nat) ∧ 0 < k ∧ k ≤ 100 ∧ n ≤ 9223372036854775807
theorem dec_len {n k : Nat} (h : n < 10 ^ k) (h0 : 0 < k) : (decDigits n).length ≤ k := by
  induction k generalizing n with
  | zero => omega
  | succ k ih =>
    rw [decDigits]
    split
    · exact Nat.succ_le_succ (Nat.zero_le _)
    · rename_i h10
      have h1 : n / 10 < 10 ^ k := by rw [Nat.pow_succ] at h; omega
      have hk : 0 < k := by
        rcases Nat.eq_zero_or_pos k with h0 | h0
        · subst h0; omega
        · exact h0
      rw [List.length_append]
      exact Nat.succ_le_succ (ih h1 hk)
theorem itoa_nat (n : Nat) : itoa (n : Int) = decDigits n := by
  unfold itoa
  rw [if_neg (by omega)]; simp
theorem itoa_len {n : Int} (h0 : 0 ≤ n) (h1 : n ≤ 9223372036854775807) : (itoa n).length ≤ 19 := by
  obtain ⟨u, rfl⟩ : ∃ u : Nat, n = (u : Int) := ⟨n.toNat, by omega⟩
  rw [itoa_nat]
  have e : (10 : Nat) ^ 19 = 10000000000000000000 := by decide
  exact dec_len (k := 19) (by omega) (by decide)
variable {kk : Nat}
abbrev DecP_S : Shape := ⟨[.one (.rd tI)], []⟩
abbrev DecP_f : Shape.den DecP_S → denVars [.slot 0 false .str] := fun x => (pItoa x.1.1, ())
abbrev DecP_p (kk : Nat) : Shape.den DecP_S → List Prop := fun x => [pDec x.1.1 kk]
def cDecP (kk : Nat) : Ctr := shCtr DecP_S (DecP_p kk) [] [.slot 0 false .str] DecP_f
abbrev DecS_p (kk : Nat) : Shape.den DecP_S → List Prop := fun x => [pDec x.1.1 (kk + 1)]
def cDecS (kk : Nat) : Ctr := shCtr DecP_S (DecS_p kk) [] [.slot 0 false .str] DecP_f
abbrev Dec_p : Shape.den DecP_S → List Prop := fun x => [pLe 0 x.1.1 = true, pLe x.1.1 9223372036854775807 = true]
def cDec : Ctr := shCtr DecP_S Dec_p [] [.slot 0 false .str] DecP_f
abbrev WriteString_S : Shape := ⟨[.one (.lit (.pt 0 0)), .one (.rd .str)], [.box [.lit (.sp 0 TBl), .own 1], .row tyBl]⟩
abbrev WriteString_f : Shape.den WriteString_S → denVars [.slot 0 false tI, .slot 1 false .unit, .box 0 (vBld 0)] := fun x => (pInt (pStrLen x.1.2.1), (), ((), pApp x.2.2.1 (bl x.1.2.1), ()), ())
abbrev WriteString_p : Shape.den WriteString_S → List Prop := fun x => [pRoom (pPlus (pLen x.2.2.1) (pStrLen x.1.2.1)) 1]
def cWriteString : Ctr := shCtr WriteString_S WriteString_p [1] [.slot 0 false tI, .slot 1 false .unit, .box 0 (vBld 0)] WriteString_f
abbrev WriteByte_S : Shape := ⟨[.one (.lit (.pt 0 0)), .one (.rd (.int .u8))], [.box [.lit (.sp 0 TBl), .own 1], .row tyBl]⟩
abbrev WriteByte_f : Shape.den WriteByte_S → denVars [.slot 0 false .unit, .box 0 (vBld 0)] := fun x => ((), ((), pApp x.2.2.1 [((), x.1.2.1, ())], ()), ())
abbrev WriteByte_p : Shape.den WriteByte_S → List Prop := fun x => [pRoom (pPlus (pLen x.2.2.1) 1) 1]
def cWriteByte : Ctr := shCtr WriteByte_S WriteByte_p [1] [.slot 0 false .unit, .box 0 (vBld 0)] WriteByte_f
abbrev eqsLsV : List TypeId := [83, 53]
def DecS_VC (kk : Nat) (n : Int) : Prop :=
  bif pLt n (0 : Int) then pDec (pSubI IntKind.i64 (0 : Int) n) kk ∧ pStrFits (bs [45]) (pItoa (pSubI IntKind.i64 (0 : Int) n)) ∧ (pStrApp (bs [45]) (pItoa (pSubI IntKind.i64 (0 : Int) n)), ()) = (pItoa n, ()) else bif pLt n (10 : Int) then
 (pBytes ((pWrap IntKind.u8 (pAdd IntKind.i64 (48 : Int) n), ()) :: vnil (Int × PUnit)), ()) = (pItoa n, ()) else pNz (10 : Int) ∧ pDec (pQuo IntKind.i64 n (10 : Int)) kk ∧ pNz (10 : Int) ∧ pStrFits (pItoa (pQuo IntKind.i64 n (10 : Int)))
 (pBytes ((pWrap IntKind.u8 (pAdd IntKind.i64 (48 : Int) (pRem n (10 : Int))), ()) :: vnil (Int × PUnit))) ∧ (pStrApp (pItoa (pQuo IntKind.i64 n (10 : Int))) (pBytes ((pWrap IntKind.u8 (pAdd IntKind.i64 (48 : Int) (pRem n (10 : Int))), ())
 :: vnil (Int × PUnit))), ()) = (pItoa n, ())
set_option maxRecDepth 100000 in
theorem DecS_meets (hDecP : Mt 39 (cDecP kk)) (h : ∀ (n : Int), (∀ p ∈ (DecS_p kk) ⟨(n, ()), ()⟩, p) → DecS_VC kk n) : Mt 39 (cDecS kk) :=
  meets_vc (E := envOf Tryd.prog [(39, (false, (cDecP kk)))] eqsLsV) (envOf_ok (fun p hp => (by simp only [List.mem_cons, List.not_mem_nil, or_false] at hp; rcases hp with rfl; exact hDecP)) (by kernel_rfl)) DecP_S (fun x => fun ky9 st9 => look [] ky9) Tryd.func39 (by kernel_rfl) (by kernel_rfl) (DecS_p kk) [] [.slot 0 false .str] DecP_f (fun x => DecS_VC kk x.1.1) (fun x => by kernel_rfl) (fun x hp => h x.1.1 hp)
def WriteString_VC (s : ByteArray) (xs : List BD) : Prop :=
  pRoom (pPlus (pLen xs) (pLen (pStrCells s))) 1 ∧ (pInt (pStrLen s), (), ((), pApp xs (pTie (pStrCells s)), ()), ()) = (pInt (pStrLen s), (), ((), pApp xs (bl s), ()), ())
set_option maxRecDepth 100000 in
theorem WriteString_meets (hCopy : Mt 53 cCopy) (h : ∀ (s : ByteArray) (xs : List BD), (∀ p ∈ WriteString_p ⟨((), s, ()), (((), (), ()), xs, ())⟩, p) → WriteString_VC s xs) : Mt 18 cWriteString :=
  meets_vc (E := envOf Tryd.prog [(53, (false, cCopy))] eqsLsV) (envOf_ok (fun p hp => (by simp only [List.mem_cons, List.not_mem_nil, or_false] at hp; rcases hp with rfl; exact hCopy)) (by kernel_rfl)) WriteString_S (fun x => fun ky9 st9 => look [] ky9) Tryd.func18 (by kernel_rfl) (by kernel_rfl) WriteString_p [1] [.slot 0 false tI, .slot 1 false .unit, .box 0 (vBld 0)] WriteString_f (fun x => WriteString_VC x.1.2.1 x.2.2.1) (fun x => by kernel_rfl) (fun x hp => h x.1.2.1 x.2.2.1 hp)
def WriteByte_VC (b : Int) (xs : List BD) : Prop :=
  pRoom (pPlus (pLen xs) (pLen ((b, ()) :: vnil (Int × PUnit)))) 1 ∧ ((), ((), pApp xs (pTie ((b, ()) :: vnil (Int × PUnit))), ()), ()) = ((), ((), pApp xs (((), b, ()) :: vnil (PUnit × Int × PUnit)), ()), ())
set_option maxRecDepth 100000 in
theorem WriteByte_meets (hCopy : Mt 53 cCopy) (h : ∀ (b : Int) (xs : List BD), (∀ p ∈ WriteByte_p ⟨((), b, ()), (((), (), ()), xs, ())⟩, p) → WriteByte_VC b xs) : Mt 23 cWriteByte :=
  meets_vc (E := envOf Tryd.prog [(53, (false, cCopy))] eqsLsV) (envOf_ok (fun p hp => (by simp only [List.mem_cons, List.not_mem_nil, or_false] at hp; rcases hp with rfl; exact hCopy)) (by kernel_rfl)) WriteByte_S (fun x => fun ky9 st9 => look [] ky9) Tryd.func23 (by kernel_rfl) (by kernel_rfl) WriteByte_p [1] [.slot 0 false .unit, .box 0 (vBld 0)] WriteByte_f (fun x => WriteByte_VC x.1.2.1 x.2.2.1) (fun x => by kernel_rfl) (fun x hp => h x.1.2.1 x.2.2.1 hp)
theorem fits_ba {a b : List UInt8} (h : a.length + b.length ≤ 9223372036854775807) : pStrFits (ba a) (ba b) := by
  show (((ba a).size + (ba b).size : Nat) : Int) ≤ 9223372036854775807
  rw [ba_size, ba_size]; omega
theorem u8_wrap (n : Int) : IntKind.u8.wrap n = n % 256 := by
  unfold IntKind.wrap
  simp [IntKind.bits, IntKind.signed]
theorem wrap_u8 (n : Int) : pWrap .u8 n = n % 256 := u8_wrap n
theorem digit_bytes {d : Nat} (h : d < 10) : pBytes [(pWrap .u8 (pAdd .i64 48 (d : Int)), ())] = ⟨[UInt8.ofNat (48 + d)].toArray⟩ := by
  have e : pWrap .u8 (pAdd .i64 48 (d : Int)) = ((48 + d : Nat) : Int) := by
    rw [pAdd_in (by omega), wrap_u8]; omega
  rw [e]; rfl
theorem decDigits_one {n : Nat} (h : n < 10) : decDigits n = [UInt8.ofNat (48 + n)] := by rw [decDigits, dif_pos h]
theorem DecS_ok {kk : Nat} (hc : Mt 39 (cDecP kk)) : Mt 39 (cDecS kk) := DecS_meets hc fun n hp => by
  obtain ⟨h0, h1, _, h2, h3⟩ : pDec n (kk + 1) := hp _ List.mem_cons_self
  obtain ⟨u, rfl⟩ : ∃ u : Nat, n = (u : Int) := ⟨n.toNat, by omega⟩
  have h1 : u < 10 ^ (kk + 1) := by exact_mod_cast h1
  delta DecS_VC
  refine bif_ok (fun a => ?_) fun _ => bif_ok (fun a => ?_) fun a => ?_
  · have a : (u : Int) < 0 := of_decide_eq_true a
    omega
  · have a : (u : Int) < 10 := of_decide_eq_true a
    have a : u < 10 := by omega
    rw [itoa_coe, decDigits_one a, digit_bytes a]
  · have a : ¬ (u : Int) < 10 := of_decide_eq_false a
    have a : ¬ u < 10 := by omega
    have hq : pQuo .i64 (u : Int) 10 = ((u / 10 : Nat) : Int) := by
      unfold pQuo
      have : Int.tdiv (u : Int) 10 = ((u / 10 : Nat) : Int) := by exact_mod_cast rfl
      rw [this]
      exact i64_in _ (by omega)
    have hr : pRem (u : Int) 10 = ((u % 10 : Nat) : Int) := by unfold pRem; exact_mod_cast rfl
    rw [hq, hr, itoa_coe, itoa_coe, digit_bytes (Nat.mod_lt _ (by decide))]
    have hu : u / 10 < 10 ^ kk := by rw [Nat.pow_succ] at h1; omega
    have hk : 0 < kk := by
      rcases Nat.eq_zero_or_pos kk with h | h
      · subst h; omega
      · exact h
    have hl := dec_len hu hk
    refine ⟨by unfold pNz; decide, ⟨by omega, by exact_mod_cast hu, hk, by omega, by omega⟩, by unfold pNz; decide, ?_, ?_⟩
    · exact fits_ba (a := decDigits (u / 10)) (b := [UInt8.ofNat (48 + u % 10)]) (by show (decDigits (u / 10)).length + 1 ≤ _; omega)
    · refine (congrArg (·, ()) (ba_app (decDigits (u / 10)) [UInt8.ofNat (48 + u % 10)])).trans ?_
      have : decDigits u = decDigits (u / 10) ++ [UInt8.ofNat (48 + u % 10)] := by rw [decDigits, dif_neg a]
      rw [this]; rfl
theorem DecK_ok : ∀ k, Mt 39 (cDecP k)
  | 0 => by
    refine ⟨⟨_, Tryd.func39, by kernel_rfl, by kernel_rfl⟩, fun args m0 obs r m1 hc hp => ?_⟩
    unfold cDecP shCtr at hc
    split at hc
    · simp only [Option.some.injEq, Prod.mk.injEq] at hc
      obtain ⟨rfl, _⟩ := hc
      obtain ⟨_, _, h, _⟩ := hp _ List.mem_cons_self
      exact absurd h (Nat.lt_irrefl 0)
    · cases hc
  | k + 1 => DecS_ok (DecK_ok k)
theorem Dec_ok : Mt 39 cDec := meets_mono (DecK_ok 19) fun x hp => ⟨fun p h => by
    simp only [List.mem_cons, List.not_mem_nil, or_false] at h
    subst h
    have h0 : 0 ≤ x.1.1 := of_decide_eq_true (hp (pLe 0 x.1.1 = true) (by simp))
    have h1 : x.1.1 ≤ 9223372036854775807 := of_decide_eq_true (hp (pLe x.1.1 9223372036854775807 = true) (by simp))
    have e : ((10 ^ 19 : Nat) : Int) = 10000000000000000000 := by decide
    have h2 : x.1.1 < ((10 ^ 19 : Nat) : Int) := by rw [e]; exact Int.lt_of_le_of_lt h1 (by decide)
    exact ⟨h0, h2, by decide, by decide, h1⟩, rfl⟩
theorem cells_len (s : ByteArray) : pLen (pStrCells s) = pStrLen s := by unfold pStrCells pLen pStrLen; rw [List.length_map]; rfl
theorem WriteString_ok : Mt 18 cWriteString := WriteString_meets CopyCheck_ok fun s xs hp => by
  refine ⟨?_, rfl⟩
  rw [cells_len]; exact hp _ List.mem_cons_self
theorem WriteByte_ok : Mt 23 cWriteByte := WriteByte_meets CopyCheck_ok fun b xs hp => ⟨hp _ List.mem_cons_self, rfl⟩
theorem bl_ba (a b : List UInt8) : pApp (bl (ba a)) (bl (ba b)) = bl (ba (a ++ b)) := by rw [bl_app]; exact congrArg bl (ba_app a b)
theorem blba_len (a : List UInt8) : pLen (bl (ba a)) = a.length := by unfold pLen; rw [bl_len, ba_size]
theorem nl_bl : (((), (10 : Int), ()) :: vnil (PUnit × Int × PUnit)) = bl (ba [10]) := rfl


end Go.Proofs.YtedjlbcclhgfmaaDoor

/- Plain words of what operators see: lists, audits, what may not be. No condition. -/
namespace Go.Proofs.YtedjlbcclhgfmaaDoor
open Go.RowKit Go.Lib

abbrev tyNotes : Ty := .pair (.sl tyNote) .unit
abbrev NotesD := List NoteD × Unit
abbrev CmdR := Int × Int × Int × Bool × Unit
abbrev CmdD := Int × CmdR
abbrev wCmd : TyW := wStruct [wInt, wInt, wTxn, wBool]
abbrev pCmd : Par := .agg [.rd tI, .rd tI, .rd tI, .rd tI, .rd .bool]

def prepF (s : StoD) (t : TxnD) : Bool := pEq (askE s t 0) 0 && pGt (cond (pEq (askE s t 0) 0) (cntW s.2.1 t.1 t.2.1) 0) 0
def wordsL (l : Int) (t : TxnD) : List UInt8 := itoa l ++ (32 :: (itoa t.1 ++ (32 :: itoa t.2.1)))
def wordsF (l : Int) (t : TxnD) : ByteArray := ba (wordsL l t)
def dTxn (d : DoubtD) : TxnD := (d.1, d.2.1, ())
def nTxn (n : NoteD) : TxnD := (n.1, n.2.1, ())
def dLine (l : Int) (s : StoD) (d : DoubtD) : List UInt8 := cond (prepF s (dTxn d)) (wordsL l (dTxn d) ++ (32 :: (itoa d.2.2.1 ++ [10]))) []
def listL (l : Int) (s : StoD) : List DoubtD → List UInt8
  | [] => []
  | d :: r => dLine l s d ++ listL l s r
def listF (l : Int) (s : StoD) : ByteArray := ba (listL l s s.2.2.1)
def nTail (n : NoteD) : List UInt8 := cond n.2.2.1 [32, 99, 111, 109, 109, 105, 116] [32, 97, 98, 111, 114, 116] ++ (cond n.2.2.2.1 [32, 100, 97, 109, 97, 103, 101] [] ++ [10])
def nLine (l : Int) (n : NoteD) : List UInt8 := wordsL l (nTxn n) ++ nTail n
def auditL (l : Int) : List NoteD → List UInt8
  | [] => []
  | n :: r => nLine l n ++ auditL l r
def auditF (l : Int) (ns : List NoteD) : ByteArray := ba (auditL l ns)
def noteOk (n : NoteD) : Bool := txnF (nTxn n)
def notesOk (ns : List NoteD) : Prop := ∀ q ∈ ns, noteOk q = true
theorem listL_app (l : Int) (s : StoD) : ∀ a b : List DoubtD, listL l s (a ++ b) = listL l s a ++ listL l s b
  | [], b => rfl
  | x :: a, b => by show dLine l s x ++ listL l s (a ++ b) = (dLine l s x ++ listL l s a) ++ listL l s b; rw [listL_app l s a b, List.append_assoc]
theorem auditL_app (l : Int) : ∀ a b : List NoteD, auditL l (a ++ b) = auditL l a ++ auditL l b
  | [], b => rfl
  | x :: a, b => by show nLine l x ++ auditL l (a ++ b) = (nLine l x ++ auditL l a) ++ auditL l b; rw [auditL_app l a b, List.append_assoc]

/- label by label -/
def partsTo (f : Nat → List UInt8) : Nat → List UInt8
  | 0 => []
  | k + 1 => partsTo f k ++ f k
def part1 (c : CfgD) (l : Int) (ss : List StoD) (i : Nat) : List UInt8 := cond (aboveF (pGet tyLab c.2.1 (pNat l)) (pGet tyLab c.2.1 i)) (listL i (pGet tySto ss i) (pGet tySto ss i).2.2.1) []
def part4 (c : CfgD) (l : Int) (ns : List NotesD) (i : Nat) : List UInt8 := cond (aboveF (pGet tyLab c.2.1 (pNat l)) (pGet tyLab c.2.1 i)) (auditL i (pGet tyNotes ns i).1) []
def partX (c : CfgD) (l : Int) (ss : List StoD) (ns : List NotesD) (k : Int) (i : Nat) : List UInt8 := cond (pEq k 1) (part1 c l ss i) (part4 c l ns i)

/- what may not be -/
def stosF (ss : List StoD) : Bool := allUpto (fun i => stoF (pGet tySto ss i)) ss.length
def notsAt (ns : List NotesD) (i : Nat) : Bool := allUpto (fun j => noteOk (pGet tyNote (pGet tyNotes ns i).1 j)) (pGet tyNotes ns i).1.length
def notsF (ns : List NotesD) : Bool := allUpto (notsAt ns) ns.length
def lensF (c : CfgD) (ss : List StoD) (ns : List NotesD) : Bool := decide (ss.length = c.2.1.length) && decide (ns.length = c.2.1.length)
def kindF (k : Int) : Bool := pEq k 1 || pEq k 2 || pEq k 4
def shwE (c : CfgD) (l : Int) (ss : List StoD) (ns : List NotesD) (x : CmdD) : Int :=
  cond (pEq (cfgF c) 0) (cond (placeF c l) (cond (lensF c ss ns) (cond (stosF ss) (cond (notsF ns) (cond (kindF x.1) 0 3) 9) 9) 9) 6) (cfgF c)
def stat (c : CfgD) (l : Int) (ss : List StoD) (x : CmdR) : Bool :=
  placeF c x.1 && (aboveF (pGet tyLab c.2.1 (pNat l)) (pGet tyLab c.2.1 (pNat x.1)) && prepF (pGet tySto ss (pNat x.1)) (x.2.1, x.2.2.1, ()))
def shwS (c : CfgD) (l : Int) (ss : List StoD) (ns : List NotesD) (x : CmdD) : ByteArray :=
  cond (pEq (shwE c l ss ns x) 0) (cond (pEq x.1 2) (cond (stat c l ss x.2) (bs [112, 114, 101, 112, 97, 114, 101, 100, 10]) (bs [117, 110, 107, 110, 111, 119, 110, 10])) (ba (partsTo (partX c l ss ns x.1) c.2.1.length))) (bs [])
def totS (ss : List StoD) : Nat := (ss.map fun s => s.2.2.1.length).sum
def totN (ns : List NotesD) : Nat := (ns.map fun n => n.1.length).sum
def pBulk (ss : List StoD) (ns : List NotesD) : Prop := totS ss + totN ns ≤ 1048576
/-- the tables lie where they are to lie -/
def tabsP : Nat → Option Gl := look [(3, Gl.cells (Go.Lib.pow10Tab.map (C.int .u64)))]
def TabsP (W : World) : Prop := ∀ g gl, tabsP g = some gl → GlobR W (fun b => b < W.heap.size) g gl
theorem tabsP_ok : ∀ W, TabsP W → ∀ g gl, tabsP g = some gl → GlobR W (fun b => b < W.heap.size) g gl := fun _ h => h

/- loops -/
def zoAInv (ss : List StoD) : Int × Unit × Unit → Prop := StepInv (fun _ => ((), ())) ss.length
def zoAMu (ss : List StoD) : Int × Unit × Unit → Nat := StepMu ss.length
def zoBInv (ns : List NotesD) : Int × Unit × Unit → Prop := StepInv (fun _ => ((), ())) ns.length
def zoBMu (ns : List NotesD) : Int × Unit × Unit → Nat := StepMu ns.length
def zoCInv (ns : List NotesD) (o : Int) : Int × Unit × Unit → Prop := StepInv (fun _ => ((), ())) (pGet tyNotes ns (pNat o)).1.length
def zoCMu (ns : List NotesD) (o : Int) : Int × Unit × Unit → Nat := StepMu (pGet tyNotes ns (pNat o)).1.length
/-- so far all may be, or one may not -/
def BadInv (p : Nat → Bool) (n : Nat) (y : Int × Int × Unit) : Prop := ∃ (k : Nat) (e : Int), k ≤ n ∧ y = ((k : Int), e, ()) ∧ ((e = 0 ∧ ∀ j, j < k → p j = true) ∨ (e = 9 ∧ ∃ j, j < k ∧ p j = false))
def soAInv (ss : List StoD) : Int × Int × Unit → Prop := BadInv (fun i => stoF (pGet tySto ss i)) ss.length
def soAMu (ss : List StoD) : Int × Int × Unit → Nat := StepMu ss.length
def soBInv (ns : List NotesD) : Int × Int × Unit → Prop := BadInv (notsAt ns) ns.length
def soBMu (ns : List NotesD) : Int × Int × Unit → Nat := StepMu ns.length
def soCInv (ns : List NotesD) (_ : Int) (o : Int) : Int × Int × Unit → Prop := BadInv (fun j => noteOk (pGet tyNote (pGet tyNotes ns (pNat o)).1 j)) (pGet tyNotes ns (pNat o)).1.length
def soCMu (ns : List NotesD) (_ : Int) (o : Int) : Int × Int × Unit → Nat := StepMu (pGet tyNotes ns (pNat o)).1.length
def nineBInv (ns : List NotesD) : Int × Int × Unit → Prop := StepInv (fun _ => (9, ())) ns.length
def nineBMu (ns : List NotesD) : Int × Int × Unit → Nat := StepMu ns.length
def so1DInv (c : CfgD) (l : Int) (ss : List StoD) : Int × ByteArray × Unit → Prop := StepInv (fun k => (ba (partsTo (part1 c l ss) k), ())) c.2.1.length
def so1DMu (c : CfgD) (_ : Int) (_ : List StoD) : Int × ByteArray × Unit → Nat := StepMu c.2.1.length
def so1EInv (ss : List StoD) (b : ByteArray) (o : Int) : Int × ByteArray × Unit → Prop := StepInv (fun k => (pStrApp b (ba (listL o (pGet tySto ss (pNat o)) ((pGet tySto ss (pNat o)).2.2.1.take k))), ())) (pGet tySto ss (pNat o)).2.2.1.length
def so1EMu (ss : List StoD) (_ : ByteArray) (o : Int) : Int × ByteArray × Unit → Nat := StepMu (pGet tySto ss (pNat o)).2.2.1.length
def so1FInv (_ : List NotesD) (b : ByteArray) (_ : Int) : Int × ByteArray × Unit → Prop := StepInv (fun _ => (b, ())) 0
def so1FMu (_ : List NotesD) (_ : ByteArray) (_ : Int) : Int × ByteArray × Unit → Nat := StepMu 0
def so4DInv (c : CfgD) (l : Int) (ns : List NotesD) : Int × ByteArray × Unit → Prop := StepInv (fun k => (ba (partsTo (part4 c l ns) k), ())) c.2.1.length
def so4DMu (c : CfgD) (_ : Int) (_ : List NotesD) : Int × ByteArray × Unit → Nat := StepMu c.2.1.length
def so4EInv (_ : List StoD) (b : ByteArray) (_ : Int) : Int × ByteArray × Unit → Prop := StepInv (fun _ => (b, ())) 0
def so4EMu (_ : List StoD) (_ : ByteArray) (_ : Int) : Int × ByteArray × Unit → Nat := StepMu 0
def so4FInv (ns : List NotesD) (b : ByteArray) (o : Int) : Int × ByteArray × Unit → Prop := StepInv (fun k => (pStrApp b (ba (auditL o ((pGet tyNotes ns (pNat o)).1.take k))), ())) (pGet tyNotes ns (pNat o)).1.length
def so4FMu (ns : List NotesD) (_ : ByteArray) (o : Int) : Int × ByteArray × Unit → Nat := StepMu (pGet tyNotes ns (pNat o)).1.length
def lstInv (l : Int) (s : StoD) (xs : List BD) : Int × (Unit × List BD × Unit) × Unit → Prop := StepInv (fun k => (((), pApp xs (bl (ba (listL l s (s.2.2.1.take k)))), ()), ())) s.2.2.1.length
def lstMu (_ : Int) (s : StoD) (_ : List BD) : Int × (Unit × List BD × Unit) × Unit → Nat := StepMu s.2.2.1.length
def audInv (l : Int) (n : List NoteD) (xs : List BD) : Int × (Unit × List BD × Unit) × Unit → Prop := StepInv (fun k => (((), pApp xs (bl (ba (auditL l (n.take k)))), ()), ())) n.length
def audMu (_ : Int) (n : List NoteD) (_ : List BD) : Int × (Unit × List BD × Unit) × Unit → Nat := StepMu n.length
def shAInv (ss : List StoD) : Int × Unit → Prop := UpInv (fun i => stoF (pGet tySto ss i)) ss.length
def shAMu (ss : List StoD) : Int × Unit → Nat := UpMu ss.length
def shBInv (ns : List NotesD) : Int × Unit → Prop := UpInv (notsAt ns) ns.length
def shBMu (ns : List NotesD) : Int × Unit → Nat := UpMu ns.length
def shCInv (ns : List NotesD) (o : Int) : Int × Unit → Prop := UpInv (fun j => noteOk (pGet tyNote (pGet tyNotes ns (pNat o)).1 j)) (pGet tyNotes ns (pNat o)).1.length
def shCMu (ns : List NotesD) (o : Int) : Int × Unit → Nat := UpMu (pGet tyNotes ns (pNat o)).1.length
def shDInv (c : CfgD) (l : Int) (ss : List StoD) (ns : List NotesD) (x : CmdD) : Int × (Unit × List BD × Unit) × Unit → Prop := StepInv (fun k => (((), bl (ba (partsTo (partX c l ss ns x.1) k)), ()), ())) c.2.1.length
def shDMu (c : CfgD) (_ : Int) (_ : List StoD) (_ : List NotesD) (_ : CmdD) : Int × (Unit × List BD × Unit) × Unit → Nat := StepMu c.2.1.length


end Go.Proofs.YtedjlbcclhgfmaaDoor
