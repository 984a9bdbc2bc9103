/- Read meets its contract; the law's body. No condition. -/
import Derived.Test.YtedjlbcclhgfmaaDoorFF
import Derived.Test.YtedjlbcclhgfmaaDoorFH
import Derived.Test.YtedjlbcclhgfmaaDoorLib
import Derived.Shelf.Strconv.ErrVarAll
import Derived.Shelf.Strconv.Itoa3
import Derived.Shelf.Strings.Split
import Derived.Shelf.Strings.Shaped
import Derived.Test.YtedjlbcclhgfmaaDoorProg
import Derived.Lib.AtoiAllCases
import Derived.Lib.Strings

/- Functions of the program that meet contracts: a short word for it. -/
namespace Go.Proofs.YtedjlbcclhgfmaaDoor

abbrev vnil (α : Type) : List α := []
/-- a text, by its bytes -/
def bs (l : List Nat) : ByteArray := ⟨(l.map UInt8.ofNat).toArray⟩
abbrev MtG (g : Nat → Option Gl) (f : FuncId) (c : Ctr) : Prop := Meets Tryd.prog g f c


end Go.Proofs.YtedjlbcclhgfmaaDoor

/- Functions of Go's library in this program: their bodies are those that the library's laws speak of. No condition. -/
namespace Go.Proofs.YtedjlbcclhgfmaaDoor
open Go.Shelf

def lItoa_ren : Go.Shelf.Ren := ⟨fun | 171 => 20 | 243 => 54 | 246 => 83 | 283 => 100 | 284 => 101 | 285 => 102 | 286 => 103 | 129 => 121 | 317 => 120 | 318 => 122 | 319 => 123 | 320 => 124 | 337 => 132 | 338 => 133 | n => n, fun | 3 => 3 | 9 => 9 | 2 => 2 | 4 => 4 | 171 => 153 | 0 => 0 | 53 => 154 | 37 => 48 | 5 => 5 | 173 => 157 | 212 => 173 | 51 => 174 | 20 => 20 | 213 => 175 | 46 => 111 | 232 => 194 | 233 => 195 | n => n, fun | 17 => 3 | 18 => 8 | 19 => 9 | n => n⟩
theorem lItoa : Go.Proofs.LaysM.n171 Tryd.prog lItoa_ren := {
  mixed := by kernel_rfl
  f129 := Tryd.func121.trans (congrArg some (by kernel_rfl))
  f171 := Tryd.func20.trans (congrArg some (by kernel_rfl))
  f243 := Tryd.func54.trans (congrArg some (by kernel_rfl))
  f246 := Tryd.func83.trans (congrArg some (by kernel_rfl))
  f283 := Tryd.func100.trans (congrArg some (by kernel_rfl))
  f284 := Tryd.func101.trans (congrArg some (by kernel_rfl))
  f285 := Tryd.func102.trans (congrArg some (by kernel_rfl))
  f286 := Tryd.func103.trans (congrArg some (by kernel_rfl))
  f317 := Tryd.func120.trans (congrArg some (by kernel_rfl))
  f318 := Tryd.func122.trans (congrArg some (by kernel_rfl))
  f319 := Tryd.func123.trans (congrArg some (by kernel_rfl))
  f320 := Tryd.func124.trans (congrArg some (by kernel_rfl))
  f337 := Tryd.func132.trans (congrArg some (by kernel_rfl))
  f338 := Tryd.func133.trans (congrArg some (by kernel_rfl))
  t0 := Tryd.underlying0
  a0 := Tryd.isAgg0
  z0 := Tryd.sizeOf0
  v0 := Tryd.zeroValue0
  t2 := Tryd.underlying2
  a2 := Tryd.isAgg2
  z2 := Tryd.sizeOf2
  v2 := Tryd.zeroValue2
  t3 := Tryd.underlying3
  a3 := Tryd.isAgg3
  z3 := Tryd.sizeOf3
  v3 := Tryd.zeroValue3
  t4 := Tryd.underlying4
  a4 := Tryd.isAgg4
  z4 := Tryd.sizeOf4
  v4 := Tryd.zeroValue4
  t5 := Tryd.underlying5
  a5 := Tryd.isAgg5
  z5 := Tryd.sizeOf5
  v5 := Tryd.zeroValue5
  t9 := Tryd.underlying9
  a9 := Tryd.isAgg9
  z9 := Tryd.sizeOf9
  v9 := Tryd.zeroValue9
  t20 := Tryd.underlying20
  a20 := Tryd.isAgg20
  z20 := Tryd.sizeOf20
  v20 := Tryd.zeroValue20
  t37 := Tryd.underlying48
  a37 := Tryd.isAgg48
  z37 := Tryd.sizeOf48
  v37 := Tryd.zeroValue48
  t46 := Tryd.underlying111
  a46 := Tryd.isAgg111
  z46 := Tryd.sizeOf111
  v46 := Tryd.zeroValue111
  t51 := Tryd.underlying174
  a51 := Tryd.isAgg174
  z51 := Tryd.sizeOf174
  v51 := Tryd.zeroValue174
  t53 := Tryd.underlying154
  a53 := Tryd.isAgg154
  z53 := Tryd.sizeOf154
  v53 := Tryd.zeroValue154
  t171 := Tryd.underlying153
  a171 := Tryd.isAgg153
  z171 := Tryd.sizeOf153
  v171 := Tryd.zeroValue153
  t173 := Tryd.underlying157
  a173 := Tryd.isAgg157
  z173 := Tryd.sizeOf157
  v173 := Tryd.zeroValue157
  t212 := Tryd.underlying173
  a212 := Tryd.isAgg173
  z212 := Tryd.sizeOf173
  v212 := Tryd.zeroValue173
  t213 := Tryd.underlying175
  a213 := Tryd.isAgg175
  z213 := Tryd.sizeOf175
  t232 := Tryd.underlying194
  a232 := Tryd.isAgg194
  z232 := Tryd.sizeOf194
  v232 := Tryd.zeroValue194
  t233 := Tryd.underlying195
  a233 := Tryd.isAgg195
  z233 := Tryd.sizeOf195
  v233 := Tryd.zeroValue195
  g17 := by kernel_rfl
  g18 := by kernel_rfl
  g19 := by kernel_rfl
  i0 := by kernel_rfl
  i2 := by kernel_rfl
  i3 := by kernel_rfl
  i4 := by kernel_rfl
  i5 := by kernel_rfl
  i9 := by kernel_rfl
  i20 := by kernel_rfl
  i37 := by kernel_rfl
  i46 := by kernel_rfl
  i51 := by kernel_rfl
  i53 := by kernel_rfl
  i171 := by kernel_rfl
  i173 := by kernel_rfl
  i212 := by kernel_rfl
  i232 := by kernel_rfl
  i233 := by kernel_rfl
  m17 := by kernel_rfl
  m18 := by kernel_rfl
  m19 := by kernel_rfl }

def lAtoi_ren : Go.Shelf.Ren := ⟨fun | 172 => 70 | 244 => 93 | 245 => 94 | 247 => 111 | 279 => 112 | 280 => 113 | 281 => 114 | 282 => 115 | 287 => 127 | 316 => 128 | 171 => 20 | 205 => 129 | 321 => 134 | 322 => 135 | 243 => 54 | 246 => 83 | 283 => 100 | 284 => 101 | 285 => 102 | 286 => 103 | 129 => 121 | 317 => 120 | 318 => 122 | 319 => 123 | 320 => 124 | 337 => 132 | 338 => 133 | n => n, fun | 9 => 9 | 3 => 3 | 75 => 58 | 76 => 59 | 4 => 4 | 5 => 5 | 167 => 166 | 37 => 48 | 0 => 0 | 85 => 167 | 2 => 2 | 168 => 169 | 53 => 154 | 175 => 178 | 46 => 111 | 210 => 181 | 127 => 112 | 145 => 193 | 143 => 191 | 21 => 21 | 171 => 153 | 173 => 157 | 212 => 173 | 51 => 174 | 20 => 20 | 213 => 175 | 232 => 194 | 233 => 195 | 80 => 67 | n => n, fun | 15 => 4 | 16 => 5 | 17 => 3 | 18 => 8 | 19 => 9 | n => n⟩
theorem lAtoi : Go.Proofs.LaysC.n172 Tryd.prog lAtoi_ren := {
  mixed := by kernel_rfl
  f129 := Tryd.func121.trans (congrArg some (by kernel_rfl))
  f171 := Tryd.func20.trans (congrArg some (by kernel_rfl))
  f172 := Tryd.func70.trans (congrArg some (by kernel_rfl))
  f205 := Tryd.func129.trans (congrArg some (by kernel_rfl))
  f243 := Tryd.func54.trans (congrArg some (by kernel_rfl))
  f244 := Tryd.func93.trans (congrArg some (by kernel_rfl))
  f245 := Tryd.func94.trans (congrArg some (by kernel_rfl))
  f246 := Tryd.func83.trans (congrArg some (by kernel_rfl))
  f247 := Tryd.func111.trans (congrArg some (by kernel_rfl))
  f279 := Tryd.func112.trans (congrArg some (by kernel_rfl))
  f280 := Tryd.func113.trans (congrArg some (by kernel_rfl))
  f281 := Tryd.func114.trans (congrArg some (by kernel_rfl))
  f282 := Tryd.func115.trans (congrArg some (by kernel_rfl))
  f283 := Tryd.func100.trans (congrArg some (by kernel_rfl))
  f284 := Tryd.func101.trans (congrArg some (by kernel_rfl))
  f285 := Tryd.func102.trans (congrArg some (by kernel_rfl))
  f286 := Tryd.func103.trans (congrArg some (by kernel_rfl))
  f287 := Tryd.func127.trans (congrArg some (by kernel_rfl))
  f316 := Tryd.func128.trans (congrArg some (by kernel_rfl))
  f317 := Tryd.func120.trans (congrArg some (by kernel_rfl))
  f318 := Tryd.func122.trans (congrArg some (by kernel_rfl))
  f319 := Tryd.func123.trans (congrArg some (by kernel_rfl))
  f320 := Tryd.func124.trans (congrArg some (by kernel_rfl))
  f321 := Tryd.func134.trans (congrArg some (by kernel_rfl))
  f322 := Tryd.func135.trans (congrArg some (by kernel_rfl))
  f337 := Tryd.func132.trans (congrArg some (by kernel_rfl))
  f338 := Tryd.func133.trans (congrArg some (by kernel_rfl))
  t0 := Tryd.underlying0
  a0 := Tryd.isAgg0
  z0 := Tryd.sizeOf0
  v0 := Tryd.zeroValue0
  t2 := Tryd.underlying2
  a2 := Tryd.isAgg2
  z2 := Tryd.sizeOf2
  v2 := Tryd.zeroValue2
  t3 := Tryd.underlying3
  a3 := Tryd.isAgg3
  z3 := Tryd.sizeOf3
  v3 := Tryd.zeroValue3
  t4 := Tryd.underlying4
  a4 := Tryd.isAgg4
  z4 := Tryd.sizeOf4
  v4 := Tryd.zeroValue4
  t5 := Tryd.underlying5
  a5 := Tryd.isAgg5
  z5 := Tryd.sizeOf5
  v5 := Tryd.zeroValue5
  t9 := Tryd.underlying9
  a9 := Tryd.isAgg9
  z9 := Tryd.sizeOf9
  v9 := Tryd.zeroValue9
  t20 := Tryd.underlying20
  a20 := Tryd.isAgg20
  z20 := Tryd.sizeOf20
  v20 := Tryd.zeroValue20
  t21 := Tryd.underlying21
  a21 := Tryd.isAgg21
  z21 := Tryd.sizeOf21
  v21 := Tryd.zeroValue21
  t37 := Tryd.underlying48
  a37 := Tryd.isAgg48
  z37 := Tryd.sizeOf48
  v37 := Tryd.zeroValue48
  t46 := Tryd.underlying111
  a46 := Tryd.isAgg111
  z46 := Tryd.sizeOf111
  v46 := Tryd.zeroValue111
  t51 := Tryd.underlying174
  a51 := Tryd.isAgg174
  z51 := Tryd.sizeOf174
  v51 := Tryd.zeroValue174
  t53 := Tryd.underlying154
  a53 := Tryd.isAgg154
  z53 := Tryd.sizeOf154
  v53 := Tryd.zeroValue154
  t75 := Tryd.underlying58
  a75 := Tryd.isAgg58
  z75 := Tryd.sizeOf58
  v75 := Tryd.zeroValue58
  t76 := Tryd.underlying59
  a76 := Tryd.isAgg59
  z76 := Tryd.sizeOf59
  v76 := Tryd.zeroValue59
  t85 := Tryd.underlying167
  a85 := Tryd.isAgg167
  z85 := Tryd.sizeOf167
  v85 := Tryd.zeroValue167
  t127 := Tryd.underlying112
  a127 := Tryd.isAgg112
  z127 := Tryd.sizeOf112
  v127 := Tryd.zeroValue112
  t143 := Tryd.underlying191
  a143 := Tryd.isAgg191
  z143 := Tryd.sizeOf191
  v143 := Tryd.zeroValue191
  t145 := Tryd.underlying193
  a145 := Tryd.isAgg193
  z145 := Tryd.sizeOf193
  v145 := Tryd.zeroValue193
  t167 := Tryd.underlying166
  a167 := Tryd.isAgg166
  z167 := Tryd.sizeOf166
  v167 := Tryd.zeroValue166
  t168 := Tryd.underlying169
  a168 := Tryd.isAgg169
  z168 := Tryd.sizeOf169
  v168 := Tryd.zeroValue169
  t171 := Tryd.underlying153
  a171 := Tryd.isAgg153
  z171 := Tryd.sizeOf153
  v171 := Tryd.zeroValue153
  t173 := Tryd.underlying157
  a173 := Tryd.isAgg157
  z173 := Tryd.sizeOf157
  v173 := Tryd.zeroValue157
  t175 := Tryd.underlying178
  a175 := Tryd.isAgg178
  z175 := Tryd.sizeOf178
  v175 := Tryd.zeroValue178
  t210 := Tryd.underlying181
  a210 := Tryd.isAgg181
  z210 := Tryd.sizeOf181
  v210 := Tryd.zeroValue181
  t212 := Tryd.underlying173
  a212 := Tryd.isAgg173
  z212 := Tryd.sizeOf173
  v212 := Tryd.zeroValue173
  t213 := Tryd.underlying175
  a213 := Tryd.isAgg175
  z213 := Tryd.sizeOf175
  t232 := Tryd.underlying194
  a232 := Tryd.isAgg194
  z232 := Tryd.sizeOf194
  v232 := Tryd.zeroValue194
  t233 := Tryd.underlying195
  a233 := Tryd.isAgg195
  z233 := Tryd.sizeOf195
  v233 := Tryd.zeroValue195
  g15 := by kernel_rfl
  g16 := by kernel_rfl
  g17 := by kernel_rfl
  g18 := by kernel_rfl
  g19 := by kernel_rfl
  t80 := Tryd.underlying67
  a80 := Tryd.isAgg67
  z80 := Tryd.sizeOf67
  v80 := Tryd.zeroValue67
  i0 := by kernel_rfl
  i2 := by kernel_rfl
  i3 := by kernel_rfl
  i4 := by kernel_rfl
  i5 := by kernel_rfl
  i9 := by kernel_rfl
  i20 := by kernel_rfl
  i21 := by kernel_rfl
  i37 := by kernel_rfl
  i46 := by kernel_rfl
  i51 := by kernel_rfl
  i53 := by kernel_rfl
  i75 := by kernel_rfl
  i76 := by kernel_rfl
  i80 := by kernel_rfl
  i85 := by kernel_rfl
  i127 := by kernel_rfl
  i143 := by kernel_rfl
  i145 := by kernel_rfl
  i167 := by kernel_rfl
  i168 := by kernel_rfl
  i171 := by kernel_rfl
  i173 := by kernel_rfl
  i175 := by kernel_rfl
  i210 := by kernel_rfl
  i212 := by kernel_rfl
  i232 := by kernel_rfl
  i233 := by kernel_rfl
  m15 := by kernel_rfl
  m16 := by kernel_rfl
  m17 := by kernel_rfl
  m18 := by kernel_rfl
  m19 := by kernel_rfl
  c0 := by kernel_rfl
  c2 := by kernel_rfl
  c3 := by kernel_rfl
  c4 := by kernel_rfl
  c5 := by kernel_rfl
  c9 := by kernel_rfl
  c20 := by kernel_rfl
  c21 := by kernel_rfl
  c37 := by kernel_rfl
  c46 := by kernel_rfl
  c51 := by kernel_rfl
  c53 := by kernel_rfl
  c75 := by kernel_rfl
  c76 := by kernel_rfl
  c80 := by kernel_rfl
  c85 := by kernel_rfl
  c127 := by kernel_rfl
  c143 := by kernel_rfl
  c145 := by kernel_rfl
  c167 := by kernel_rfl
  c168 := by kernel_rfl
  c171 := by kernel_rfl
  c173 := by kernel_rfl
  c175 := by kernel_rfl
  c210 := by kernel_rfl
  c212 := by kernel_rfl
  c213 := by kernel_rfl
  c232 := by kernel_rfl
  c233 := by kernel_rfl }

def lSplit_ren : Go.Shelf.Ren := ⟨fun | 146 => 40 | 221 => 69 | 268 => 90 | 138 => 91 | 143 => 92 | 195 => 108 | 197 => 109 | 218 => 110 | 219 => 95 | 260 => 126 | 217 => 116 | 225 => 117 | 224 => 118 | 267 => 119 | 266 => 130 | 314 => 131 | n => n, fun | 9 => 9 | 31 => 93 | 3 => 3 | 4 => 4 | 0 => 0 | 105 => 164 | 21 => 21 | 5 => 5 | 46 => 111 | 119 => 186 | 139 => 189 | 138 => 188 | 146 => 183 | 51 => 174 | n => n, fun | 1 => 2 | 3 => 6 | 4 => 7 | n => n⟩
theorem lSplit : Go.Proofs.Lays.n146 Tryd.prog lSplit_ren := {
  mixed := by kernel_rfl
  f138 := Tryd.func91.trans (congrArg some (by kernel_rfl))
  f143 := Tryd.func92.trans (congrArg some (by kernel_rfl))
  f146 := Tryd.func40.trans (congrArg some (by kernel_rfl))
  f195 := Tryd.func108.trans (congrArg some (by kernel_rfl))
  f197 := Tryd.func109.trans (congrArg some (by kernel_rfl))
  f217 := Tryd.func116.trans (congrArg some (by kernel_rfl))
  f218 := Tryd.func110.trans (congrArg some (by kernel_rfl))
  f219 := Tryd.func95.trans (congrArg some (by kernel_rfl))
  f221 := Tryd.func69.trans (congrArg some (by kernel_rfl))
  f224 := Tryd.func118.trans (congrArg some (by kernel_rfl))
  f225 := Tryd.func117.trans (congrArg some (by kernel_rfl))
  f260 := Tryd.func126.trans (congrArg some (by kernel_rfl))
  f266 := Tryd.func130.trans (congrArg some (by kernel_rfl))
  f267 := Tryd.func119.trans (congrArg some (by kernel_rfl))
  f268 := Tryd.func90.trans (congrArg some (by kernel_rfl))
  f314 := Tryd.func131.trans (congrArg some (by kernel_rfl))
  t0 := Tryd.underlying0
  a0 := Tryd.isAgg0
  z0 := Tryd.sizeOf0
  v0 := Tryd.zeroValue0
  t3 := Tryd.underlying3
  a3 := Tryd.isAgg3
  z3 := Tryd.sizeOf3
  v3 := Tryd.zeroValue3
  t4 := Tryd.underlying4
  a4 := Tryd.isAgg4
  z4 := Tryd.sizeOf4
  v4 := Tryd.zeroValue4
  t5 := Tryd.underlying5
  a5 := Tryd.isAgg5
  z5 := Tryd.sizeOf5
  v5 := Tryd.zeroValue5
  t9 := Tryd.underlying9
  a9 := Tryd.isAgg9
  z9 := Tryd.sizeOf9
  v9 := Tryd.zeroValue9
  t21 := Tryd.underlying21
  a21 := Tryd.isAgg21
  z21 := Tryd.sizeOf21
  v21 := Tryd.zeroValue21
  t31 := Tryd.underlying93
  a31 := Tryd.isAgg93
  z31 := Tryd.sizeOf93
  v31 := Tryd.zeroValue93
  t46 := Tryd.underlying111
  a46 := Tryd.isAgg111
  z46 := Tryd.sizeOf111
  v46 := Tryd.zeroValue111
  t51 := Tryd.underlying174
  a51 := Tryd.isAgg174
  z51 := Tryd.sizeOf174
  v51 := Tryd.zeroValue174
  t105 := Tryd.underlying164
  a105 := Tryd.isAgg164
  z105 := Tryd.sizeOf164
  v105 := Tryd.zeroValue164
  t119 := Tryd.underlying186
  a119 := Tryd.isAgg186
  z119 := Tryd.sizeOf186
  t138 := Tryd.underlying188
  a138 := Tryd.isAgg188
  z138 := Tryd.sizeOf188
  v138 := Tryd.zeroValue188
  t139 := Tryd.underlying189
  a139 := Tryd.isAgg189
  z139 := Tryd.sizeOf189
  v139 := Tryd.zeroValue189
  t146 := Tryd.underlying183
  a146 := Tryd.isAgg183
  z146 := Tryd.sizeOf183
  v146 := Tryd.zeroValue183
  g1 := by kernel_rfl
  g3 := by kernel_rfl
  g4 := by kernel_rfl }



end Go.Proofs.YtedjlbcclhgfmaaDoor

/- Functions of Go's library on strings: what they say in plain words, and that they meet their contracts. The table of powers, the errors and the longest length lie where they are to lie. -/
namespace Go.Proofs.YtedjlbcclhgfmaaDoor
open Go.RowKit Go.Shelf

abbrev tyS : Ty := .pair .str .unit
abbrev SD := ByteArray × Unit
def pSplit (s sep : ByteArray) : List SD := (Go.Lib.splitB sep 0 (Go.Lib.countB s sep) s).map fun x => (x, ())
def pItoa (n : Int) : ByteArray := ⟨(Go.Lib.itoa n).toArray⟩
def pAtoiN (s : ByteArray) : Int := match Go.Lib.atoiAll s.data.toList with
  | .ok v => v
  | .«syntax» => 0
  | .range => Go.Lib.atoiSat s.data.toList
def pAtoiB (s : ByteArray) : Bool := match Go.Lib.atoiAll s.data.toList with
  | .ok _ => false
  | _ => true
def pShort (s : ByteArray) : Prop := s.size < 4294967281
def pOne (s : ByteArray) : Prop := 1 ≤ s.size
def tabsS (m : Int) : Nat → Option Gl := look [(3, Gl.cells (Go.Lib.pow10Tab.map (C.int .u64))), (2, Gl.cells [C.int .i64 m]), (4, Gl.cells [C.ifc true]), (5, Gl.cells [C.ifc true])]
def cAtoi : Ctr := fun args m0 => match args, m0 with
  | [.v false [.str s]], [] => some ([pShort s], .tup [(false, [.int .i64 (pAtoiN s)]), (false, [.ifc (pAtoiB s)])], [])
  | _, _ => none

/-- A call that looks at no object of the caller's and lays new blocks alone. -/
theorem spec_below {P : Program} {g : Nat → Option Gl} {K : FuncId} {args : List SV} {r : SV}
    (h : ∀ (w : World) (N : Blk) (ρ : Nat → Pl) (vs : List Value), (∀ k cs, g k = some cs → GlobR w N k cs) → (∀ b, N b → b < w.heap.size) → All2 (SVR w N ρ (fun _ => none)) args vs →
      Calls P K vs.toArray w fun e w' => ∃ v, e = .returned v ∧ Below w.heap.size w w' ∧ SVR w' (fun b => N b ∨ (w.heap.size ≤ b ∧ b < w'.heap.size)) ρ (fun _ => none) r v) : SpecR P g K args [] r [] := by
  intro w N ρ vs hg hm ha _ _
  refine (h w N ρ vs hg hm.nlt ha).mono fun e w' ⟨v, he, hb, hv⟩ => ?_
  refine ⟨v, ρ, fun b => N b ∨ (w.heap.size ≤ b ∧ b < w'.heap.size), he, fun _ _ => rfl, fun b hb => .inl hb, ⟨fun _ _ h => (by cases h), fun _ _ _ _ _ h => (by cases h), fun b _ ho => ?_, fun b hb' => ?_⟩, hv, ⟨hb.os, hb.tape, hb.output, hb.size, fun b hlt _ => hb.block b hlt⟩, fun b ho => ?_, fun b hb' => ?_⟩
  · obtain ⟨_, _, h, _⟩ := ho; cases h
  · rcases hb' with h | h
    · exact Nat.lt_of_lt_of_le (hm.nlt b h) hb.size
    · exact h.2
  · obtain ⟨_, _, h, _⟩ := ho; cases h
  · rcases hb' with h | h
    · exact .inl h
    · exact .inr (.inl h.1)

theorem all2_1 {w : World} {N : Blk} {ρ : Nat → Pl} {m : Mem} {c : C} {vs : List Value} (h : All2 (SVR w N ρ m) [.v false [c]] vs) : ∃ v, vs = [v] ∧ CR w N ρ m c v := by
  cases h with
  | cons a r => cases r; exact ⟨_, rfl, vr1 a⟩
theorem all2_2 {w : World} {N : Blk} {ρ : Nat → Pl} {m : Mem} {c d : C} {vs : List Value} (h : All2 (SVR w N ρ m) [.v false [c], .v false [d]] vs) : ∃ v u, vs = [v, u] ∧ CR w N ρ m c v ∧ CR w N ρ m d u := by
  cases h with
  | cons a r => cases r with
    | cons b r => cases r; exact ⟨_, _, rfl, vr1 a, vr1 b⟩
theorem glob_var {P : Program} {w : World} {N : Blk} {n : String} {k : Nat} {cs : List C} (hn : P.globalNamed n = some k) (h : GlobR w N k (.cells cs)) : ∃ vals, w.var? P n = some vals ∧ All2 (CR w N (fun _ => pl0 none 0) (fun _ => none)) cs vals.toList := by
  obtain ⟨_, vals, T, fz, hh, ha, _⟩ := h
  exact ⟨vals, by simp [World.var?, hn, hh], ha⟩
theorem all2_ints {w : World} {N : Blk} {ρ : Nat → Pl} {m : Mem} {k : IntKind} : ∀ {zs : List Int} {vs : List Value}, All2 (CR w N ρ m) (zs.map (C.int k)) vs → vs = zs.map (Value.int k)
  | [], _, h => by cases h; rfl
  | z :: zs, _, h => by
    cases h with
    | cons a r =>
      have a : _ = _ := a
      rw [List.map_cons, a, all2_ints r]

theorem grow_below {w : World} {k : Nat} {os : Array Go.Obj} : Below w.heap.size w (Go.Sort.grow (w.drewN k) os) := by
  refine ⟨rfl, rfl, rfl, ?_, fun b hb => ?_⟩
  · show w.heap.size ≤ (w.heap ++ os).size
    rw [Array.size_append]; omega
  · show (w.heap ++ os)[b]? = w.heap[b]?
    rw [Array.getElem?_append_left hb]
theorem Itoa_ok {m : Int} : Meets Tryd.prog (tabsS m) 20 (shCtr ⟨[.one (.rd (.int .i64))], []⟩ (fun x => [pLe (-9223372036854775808) x.1.1 = true, pLe x.1.1 9223372036854775807 = true]) [] [.slot 0 false .str] fun x => (pItoa x.1.1, ())) := by
  refine ⟨⟨_, Tryd.func20, by kernel_rfl, by kernel_rfl⟩, fun args m0 obs r m1 hc hp => ?_⟩
  unfold shCtr at hc
  split at hc
  · rename_i x hx
    simp only [Option.some.injEq, Prod.mk.injEq] at hc
    obtain ⟨rfl, hrm⟩ := hc
    refine shape_spec hx ?_
    obtain ⟨⟨n, _⟩, _⟩ := x
    have h0 : -9223372036854775808 ≤ n := of_decide_eq_true (hp _ List.mem_cons_self)
    have h1 : n ≤ 9223372036854775807 := of_decide_eq_true (hp _ (List.mem_cons_of_mem _ List.mem_cons_self))
    have er : r = .v false [.str (pItoa n)] := (congrArg Prod.fst hrm).symm
    have em : m1 = [] := (congrArg Prod.snd hrm).symm
    subst er em
    refine spec_below fun w N ρ vs hg hlt ha => ?_
    obtain ⟨v, rfl, hv⟩ := all2_1 ha
    have hv : v = .int .i64 n := hv
    subst hv
    obtain ⟨vals, hvar, hva⟩ := glob_var (show Tryd.prog.globalNamed "internal/strconv.uint64pow10" = some 3 by kernel_rfl) (hg 3 _ rfl)
    have htab : Go.Lib.TabIs Tryd.prog w "internal/strconv.uint64pow10" .u64 Go.Lib.pow10Tab := by
      unfold Go.Lib.TabIs
      rw [hvar, ← all2_ints hva]
    have c : Calls Tryd.prog 20 #[.int .i64 n] w fun e w' => e = .returned (.string ⟨(Go.Lib.itoa n).toArray⟩) ∧ ∃ k os, w' = Go.Sort.grow (w.drewN k) os := Any.strconv_Itoa lItoa n h0 h1 w htab
    refine c.mono fun e w' ⟨he, k, os, hw⟩ => ⟨_, he, ?_, ⟨_, rfl, rfl⟩⟩
    subst hw
    exact grow_below
  · cases hc
theorem Split_ok {m : Int} : Meets Tryd.prog (tabsS m) 40 (shCtr ⟨[.one (.rd .str), .one (.rd .str)], []⟩ (fun x => [pShort x.1.1, pOne x.1.2.1]) [] [.slot 0 false (.sl tyS)] fun x => (pSplit x.1.1 x.1.2.1, ())) := by
  refine ⟨⟨_, Tryd.func40, by kernel_rfl, by kernel_rfl⟩, fun args m0 obs r m1 hc hp => ?_⟩
  unfold shCtr at hc
  split at hc
  · rename_i x hx
    simp only [Option.some.injEq, Prod.mk.injEq] at hc
    obtain ⟨rfl, hrm⟩ := hc
    refine shape_spec hx ?_
    obtain ⟨⟨s, sep, _⟩, _⟩ := x
    have h0 : pShort s := hp _ List.mem_cons_self
    have h1 : pOne sep := hp _ (List.mem_cons_of_mem _ List.mem_cons_self)
    have er : r = .v false [.sl tyS (pSplit s sep)] := (congrArg Prod.fst hrm).symm
    have em : m1 = [] := (congrArg Prod.snd hrm).symm
    subst er em
    refine spec_below fun w N ρ vs hg hlt ha => ?_
    obtain ⟨v, u, rfl, hv, hu⟩ := all2_2 ha
    have hv : v = .string s := hv
    have hu : u = .string sep := hu
    subst hv hu
    have hmc : w.cell? ⟨2, 0, none⟩ = some (.int .i64 m) := by
      obtain ⟨_, vals, T, fz, hh, ha, _⟩ := hg 2 _ rfl
      obtain ⟨l⟩ := vals
      cases ha with
      | cons a r =>
        cases r
        have a : _ = _ := a
        subst a
        simp [World.cell?, hh]
    have c : Calls Tryd.prog 40 #[.string s, .string sep] w fun e w' => e = .returned (.slice (some ⟨w.heap.size, 0, none⟩) (Go.Lib.countB s sep + 1) (Go.Lib.countB s sep + 1)) ∧
        w' = w.alloc (.cells ((Go.Lib.splitB sep 0 (Go.Lib.countB s sep) s).map Value.string).toArray 9) := Any.strings_Split lSplit (by kernel_rfl) s sep m w h0 hmc h1
    have hlen := Go.Lib.splitB_all sep h1 0 _ s rfl
    refine c.mono fun e w' ⟨he, hw⟩ => ⟨_, he, ?_, ⟨_, rfl, ?_⟩⟩
    · subst hw
      exact (Below.refl _ _).alloc (Nat.le_refl _) _
    · have hh : w'.heap[w.heap.size]? = some (.cells ((Go.Lib.splitB sep 0 (Go.Lib.countB s sep) s).map Value.string).toArray 9) := by
        subst hw
        show (w.heap.push _)[w.heap.size]? = _
        simp
      have hsz : w'.heap.size = w.heap.size + 1 := by
        subst hw
        show (w.heap.push _).size = _
        simp
      have hl : (pSplit s sep).length = Go.Lib.countB s sep + 1 := by unfold pSplit; rw [List.length_map, hlen]
      refine ⟨_, _, _, rfl, hl, Nat.le_refl _, fun _ => ⟨w.heap.size, 0, rfl, .inr ⟨Nat.le_refl _, by omega⟩, fun k hk => ?_⟩⟩
      have hk : k < (Go.Lib.splitB sep 0 (Go.Lib.countB s sep) s).length := by unfold pSplit at hk; rwa [List.length_map] at hk
      have hx : (pSplit s sep)[k] = ((Go.Lib.splitB sep 0 (Go.Lib.countB s sep) s)[k], ()) := by unfold pSplit; exact List.getElem_map ..
      refine ⟨[.string ((Go.Lib.splitB sep 0 (Go.Lib.countB s sep) s)[k])], by rw [hx]; exact ⟨[_], [], rfl, rfl, rfl⟩, rfl, fun j u hj => ?_⟩
      match j, hj with
      | 0, hj =>
        simp only [List.getElem?_cons_zero, Option.some.injEq] at hj
        subst hj
        show w'.cell? ⟨w.heap.size, 0 + k * 1 + 0, none⟩ = _
        simp [World.cell?, hh, List.getElem?_eq_getElem hk]
  · cases hc
theorem Atoi_ok {m : Int} : Meets Tryd.prog (tabsS m) 70 cAtoi := by
  refine ⟨⟨_, Tryd.func70, by kernel_rfl, by kernel_rfl⟩, fun args m0 obs r m1 hc hp => ?_⟩
  unfold cAtoi at hc
  split at hc
  · rename_i s
    simp only [Option.some.injEq, Prod.mk.injEq] at hc
    obtain ⟨rfl, rfl, rfl⟩ := hc
    have h0 : pShort s := hp _ List.mem_cons_self
    unfold pShort at h0
    refine spec_below fun w N ρ vs hg hlt ha => ?_
    obtain ⟨v, rfl, hv⟩ := all2_1 ha
    have hv : v = .string s := hv
    subst hv
    have errv : ∀ (n : String) (k : Nat), Tryd.prog.globalNamed n = some k → GlobR w N k (.cells [C.ifc true]) → ∃ t p, w.var? Tryd.prog n = some #[.iface t p] := fun n k hn h => by
      obtain ⟨vals, hv, ha⟩ := glob_var hn h
      obtain ⟨l⟩ := vals
      cases ha with
      | cons a r =>
        cases r
        rcases a with ⟨_, t, p, rfl⟩ | ⟨h, _⟩
        · exact ⟨t, p, hv⟩
        · cases h
    have fin : ∀ (n : Int) (b : Bool) (v : Value) (w' : World), pAtoiN s = n → pAtoiB s = b → ((b = true ∧ ∃ t p, v = .iface t p) ∨ (b = false ∧ v = .nilIface)) →
        SVR w' (fun b => N b ∨ (w.heap.size ≤ b ∧ b < w'.heap.size)) ρ (fun _ => none) (.tup [(false, [.int .i64 (pAtoiN s)]), (false, [.ifc (pAtoiB s)])]) (.tuple #[.int .i64 n, v]) := fun n b v w' h1 h2 h3 => by
      rw [h1, h2]
      exact ⟨[.int .i64 n, v], rfl, .cons ⟨_, rfl, rfl⟩ (.cons ⟨_, rfl, h3⟩ .nil)⟩
    cases h : Go.Lib.atoiAll s.data.toList with
    | ok n =>
      have c : Calls Tryd.prog 70 #[.string s] w _ := Any.strconv_Atoi_ok lAtoi s (by omega) n h w
      refine c.mono fun e w' ⟨he, hw⟩ => ⟨_, he, ?_, fin n false _ _ (by unfold pAtoiN; rw [h]) (by unfold pAtoiB; rw [h]) (.inr ⟨rfl, rfl⟩)⟩
      rcases hw with rfl | ⟨t, rfl⟩
      · exact Below.refl _ _
      · exact Go.Lib.bytesWorld_below _ _ _
    | «syntax» =>
      obtain ⟨tp, p, hvar⟩ := errv "strconv.ErrSyntax" 4 (by kernel_rfl) (hg 4 _ rfl)
      have c : Calls Tryd.prog 70 #[.string s] w _ := Any.strconv_Atoi_syntax_var lAtoi s (by omega) h tp p w hvar
      exact c.mono fun e w' ⟨N', he, _, _, hb⟩ => ⟨_, he, hb, fin 0 true _ _ (by unfold pAtoiN; rw [h]) (by unfold pAtoiB; rw [h]) (.inl ⟨rfl, _, _, rfl⟩)⟩
    | range =>
      obtain ⟨tp, p, hvar⟩ := errv "strconv.ErrRange" 5 (by kernel_rfl) (hg 5 _ rfl)
      have c : Calls Tryd.prog 70 #[.string s] w _ := Any.strconv_Atoi_range_var lAtoi s (by omega) h tp p w hvar
      exact c.mono fun e w' ⟨N', he, _, _, hb⟩ => ⟨_, he, hb, fin _ true _ _ (by unfold pAtoiN; rw [h]) (by unfold pAtoiB; rw [h]) (.inl ⟨rfl, _, _, rfl⟩)⟩
  · cases hc


end Go.Proofs.YtedjlbcclhgfmaaDoor

/- Numerals: digits, their value; what Atoi and Itoa say of them. No condition. -/
namespace Go.Proofs.YtedjlbcclhgfmaaDoor
open Go.Lib

def Dig (c : UInt8) : Prop := 48 ≤ c.toNat ∧ c.toNat ≤ 57
def val (acc : Nat) : List UInt8 → Nat
  | [] => acc
  | c :: r => val (10 * acc + (c.toNat - 48)) r
theorem val_app : ∀ (a b : List UInt8) (acc : Nat), val acc (a ++ b) = val (val acc a) b
  | [], _, _ => rfl
  | c :: r, b, acc => val_app r b _
theorem val_le : ∀ (l : List UInt8) (acc : Nat), acc ≤ val acc l
  | [], acc => Nat.le_refl _
  | c :: r, acc => Nat.le_trans (by omega) (val_le r _)
theorem u8_nat {n : Nat} (h : n < 256) : (UInt8.ofNat n).toNat = n := by rw [UInt8.toNat_ofNat']; exact Nat.mod_eq_of_lt h
theorem dec_dig : ∀ (n : Nat), ∀ c ∈ decDigits n, Dig c := by
  intro n
  induction n using Nat.strongRecOn with
  | _ n ih =>
    intro c hc
    rw [decDigits] at hc
    split at hc
    · rw [List.mem_singleton.1 hc]; unfold Dig; rw [u8_nat (by omega)]; omega
    · rcases List.mem_append.1 hc with h | h
      · exact ih (n / 10) (by omega) c h
      · rw [List.mem_singleton.1 h]; unfold Dig; rw [u8_nat (by omega)]; omega
theorem dec_val : ∀ (n : Nat), val 0 (decDigits n) = n := by
  intro n
  induction n using Nat.strongRecOn with
  | _ n ih =>
    rw [decDigits]
    split
    · show 10 * 0 + ((UInt8.ofNat (48 + n)).toNat - 48) = n
      rw [u8_nat (by omega)]; omega
    · rw [val_app, ih (n / 10) (by omega)]
      show 10 * (n / 10) + ((UInt8.ofNat (48 + n % 10)).toNat - 48) = n
      rw [u8_nat (by omega)]; omega
theorem dec_ne (n : Nat) : decDigits n ≠ [] := by
  rw [decDigits]; split <;> simp
theorem parse_dig : ∀ (l : List UInt8) (acc : Nat), (∀ c ∈ l, Dig c) → val acc l < 1844674407370955162 → parseUint10 acc l = .ok (val acc l)
  | [], acc, _, _ => rfl
  | c :: r, acc, hd, hv => by
    have hc := hd c (by simp)
    have h1 := val_le r (10 * acc + (c.toNat - 48))
    have hv : val (10 * acc + (c.toNat - 48)) r < 1844674407370955162 := hv
    unfold Dig at hc
    unfold parseUint10
    rw [if_pos hc, if_neg (by omega), if_neg (by omega)]
    have e : acc * 10 + (c.toNat - 48) = 10 * acc + (c.toNat - 48) := by omega
    rw [e]
    exact parse_dig r _ (fun x hx => hd x (by simp [hx])) hv
theorem atoi_dec {n : Nat} (h : n < 1000000000000000000) : atoiAll (decDigits n) = .ok (n : Int) := by
  have hd := dec_dig n
  have hv := dec_val n
  have hn := dec_ne n
  have hp : parseMag (decDigits n) = .ok n := by
    unfold parseMag
    rw [if_neg hn, parse_dig _ 0 hd (by omega), hv]
  cases hq : decDigits n with
  | nil => exact absurd hq hn
  | cons c r =>
    rw [hq] at hp hd
    have hc := hd c (by simp)
    unfold Dig at hc
    unfold atoiAll
    simp only
    rw [if_neg (by omega), hp]
    simp only
    rw [if_neg (by omega), if_neg (by omega), if_neg (by omega)]
theorem ba_eq {a b : ByteArray} (h : a.data.toList = b.data.toList) : a = b := by
  obtain ⟨⟨a⟩⟩ := a; obtain ⟨⟨b⟩⟩ := b
  have h : a = b := h
  rw [h]
theorem strEq_iff {a b : ByteArray} : pStrEq a b = true ↔ a = b := by
  unfold pStrEq
  rw [beq_iff_eq, toList_data, toList_data]
  exact ⟨ba_eq, fun h => by rw [h]⟩
theorem itoa_coe (n : Nat) : pItoa (n : Int) = ⟨(decDigits n).toArray⟩ := by
  unfold pItoa itoa
  rw [if_neg (by omega)]; simp

/-- is it a number up to m, as it is written? -/
def numB (s : ByteArray) (m : Int) : Bool := !pAtoiB s && (pStrEq (pItoa (pAtoiN s)) s && (pLe 0 (pAtoiN s) && pLe (pAtoiN s) m))
theorem atoi_of {n : Nat} (h : n < 1000000000000000000) : pAtoiN ⟨(decDigits n).toArray⟩ = (n : Int) ∧ pAtoiB ⟨(decDigits n).toArray⟩ = false := by
  unfold pAtoiN pAtoiB
  show (match atoiAll (decDigits n) with | .ok v => v | .«syntax» => 0 | .range => _) = _ ∧ (match atoiAll (decDigits n) with | .ok _ => false | _ => true) = _
  rw [atoi_dec h]
  exact ⟨rfl, rfl⟩
theorem numB_of {n : Nat} {m : Int} (h : n < 1000000000000000000) (hm : (n : Int) ≤ m) : numB ⟨(decDigits n).toArray⟩ m = true := by
  obtain ⟨h1, h2⟩ := atoi_of h
  unfold numB
  rw [h1, h2, itoa_coe, strEq_iff.2 rfl]
  simp only [Bool.not_false, Bool.true_and, Bool.and_eq_true]
  exact ⟨decide_eq_true (by omega), decide_eq_true hm⟩
theorem numB_iff {s : ByteArray} {m : Int} (h : numB s m = true) : ∃ n : Nat, s = ⟨(decDigits n).toArray⟩ ∧ (n : Int) ≤ m ∧ pAtoiN s = (n : Int) := by
  unfold numB at h
  simp only [Bool.and_eq_true] at h
  obtain ⟨_, h2, h3, h4⟩ := h
  have h3 : 0 ≤ pAtoiN s := of_decide_eq_true h3
  have h4 : pAtoiN s ≤ m := of_decide_eq_true h4
  have h2 := strEq_iff.1 h2
  obtain ⟨n, hn⟩ : ∃ n : Nat, pAtoiN s = (n : Int) := ⟨(pAtoiN s).toNat, by omega⟩
  rw [hn, itoa_coe] at h2
  exact ⟨n, h2.symm, by omega, hn⟩


end Go.Proofs.YtedjlbcclhgfmaaDoor

/- Words between blanks. No condition. -/
namespace Go.Proofs.YtedjlbcclhgfmaaDoor
open Go.RowKit Go.Lib

def headTo (x : UInt8) : List (List UInt8) → List (List UInt8)
  | [] => [[x]]
  | w :: t => (x :: w) :: t
def spl : List UInt8 → List (List UInt8)
  | [] => [[]]
  | x :: r => if x = 32 then [] :: spl r else headTo x (spl r)
theorem splitK_ne {x : UInt8} (hx : x ≠ 32) (r : List UInt8) : ∀ k, splitK [32] 0 k (x :: r) = headTo x (splitK [32] 0 k r) := by
  intro k
  have hp : ([32] : List UInt8).isPrefixOf (x :: r) = false := by
    simp only [List.isPrefixOf, Bool.and_true]
    exact beq_eq_false_iff_ne.2 fun h => hx h.symm
  cases k with
  | zero => rfl
  | succ k =>
    have hi : index (x :: r) [32] = if index r [32] == -1 then -1 else index r [32] + 1 := by rw [index, if_neg (by rw [hp]; simp)]
    have hg := index_ge r [32]
    by_cases h : index r [32] = -1
    · have h1 : index (x :: r) [32] = -1 := by rw [hi, h]; rfl
      rw [splitK, if_pos (beq_iff_eq.2 h1), splitK, if_pos (beq_iff_eq.2 h)]; rfl
    · obtain ⟨i, hii⟩ : ∃ i : Nat, index r [32] = (i : Int) := ⟨(index r [32]).toNat, by omega⟩
      have h1 : index (x :: r) [32] = ((i + 1 : Nat) : Int) := by
        rw [hi, if_neg (by simpa using h), hii]; rfl
      have n1 : ¬ (index (x :: r) [32] == -1) = true := by rw [beq_iff_eq, h1]; omega
      have n2 : ¬ (index r [32] == -1) = true := by rw [beq_iff_eq]; exact h
      rw [splitK, if_neg n1, splitK, if_neg n2, h1, hii]
      show (x :: r).take (i + 1) :: splitK [32] 0 k ((x :: r).drop (i + 1 + 1)) = _
      rfl
theorem splitK_spl : ∀ (l : List UInt8) (k : Nat), l.count 32 = k → splitK [32] 0 k l = spl l
  | [], k, h => by
    have : k = 0 := by rw [← h]; rfl
    subst this; rfl
  | x :: r, k, h => by
    unfold spl
    by_cases hx : x = 32
    · subst hx
      rw [if_pos rfl]
      have hk : k = r.count 32 + 1 := by rw [← h, List.count_cons_self]
      subst hk
      have hp : ([32] : List UInt8).isPrefixOf (32 :: r) = true := by simp [List.isPrefixOf]
      have hi : index (32 :: r) [32] = 0 := by rw [index, if_pos hp]
      rw [splitK, if_neg (by rw [hi]; decide), hi]
      show [] :: splitK [32] 0 (r.count 32) r = _
      rw [splitK_spl r _ rfl]
    · rw [if_neg hx, splitK_ne hx, splitK_spl r k (by rw [← h, List.count_cons_of_ne hx])]
theorem spl_none : ∀ (l : List UInt8), (∀ c ∈ l, c ≠ 32) → spl l = [l]
  | [], _ => rfl
  | x :: r, h => by
    unfold spl
    rw [if_neg (h x (by simp)), spl_none r fun c hc => h c (by simp [hc])]; rfl
theorem spl_cut : ∀ (a b : List UInt8), (∀ c ∈ a, c ≠ 32) → spl (a ++ 32 :: b) = a :: spl b
  | [], b, _ => by show spl (32 :: b) = _; rw [spl, if_pos rfl]
  | x :: a, b, h => by
    show spl (x :: (a ++ 32 :: b)) = _
    rw [spl, if_neg (h x (by simp)), spl_cut a b fun c hc => h c (by simp [hc])]; rfl
def toS (l : List UInt8) : SD := (⟨l.toArray⟩, ())
theorem split_spl (s : ByteArray) : pSplit s (bs [32]) = (spl s.data.toList).map toS := by
  have hc : countB s (bs [32]) = s.data.toList.count 32 := count_one 32 s.data.toList
  have h1 := splitB_data (bs [32]) 0 (countB s (bs [32])) s
  have h2 : (bs [32]).data.toList = [32] := rfl
  rw [h2, splitK_spl _ _ hc.symm] at h1
  rw [← h1]
  unfold pSplit
  rw [List.map_map]
  refine List.map_congr_left fun x _ => ?_
  show (x, ()) = toS x.data.toList
  unfold toS
  rw [mk_data]


end Go.Proofs.YtedjlbcclhgfmaaDoor

/- Plain words of what operators type. No condition. -/
namespace Go.Proofs.YtedjlbcclhgfmaaDoor
open Go.RowKit

abbrev tI : Ty := .int .i64
abbrev CmdD := Int × Int × Int × Int × Bool × Unit
abbrev vCmd : List (Bool × Ty) := [(false, tI), (false, tI), (false, tI), (false, tI), (false, .bool)]
abbrev vTak : List (Bool × Ty) := [(false, .sl tyS), (false, .bool)]
/-- the tables lie where they are to lie -/
def TabsS (m : Int) (W : World) : Prop := ∀ g gl, tabsS m g = some gl → GlobR W (fun b => b < W.heap.size) g gl
theorem tabsS_ok {m : Int} : ∀ W, TabsS m W → ∀ g gl, tabsS m g = some gl → GlobR W (fun b => b < W.heap.size) g gl := fun _ h => h
def nextS : List SD → ByteArray
  | [] => ByteArray.empty
  | a :: _ => a.1
def nextL (l : List SD) : List SD := l.tail
def nextB (l : List SD) (b : Bool) : Bool := b || l.isEmpty
def pDec (n : Int) (k : Nat) : Prop := 0 ≤ n ∧ n < (10 ^ k : Nat) ∧ 0 < k ∧ k ≤ 100 ∧ n ≤ 9223372036854775807
def cmdW : List SD → Option CmdD
  | [a] => cond (pStrEq a.1 (bs [108, 105, 115, 116])) (some (1, 0, 0, 0, false, ())) (cond (pStrEq a.1 (bs [97, 117, 100, 105, 116])) (some (4, 0, 0, 0, false, ())) none)
  | [a, x, y, z] => cond (pStrEq a.1 (bs [115, 116, 97, 116, 117, 115]) && (numB x.1 5 && (numB y.1 3 && numB z.1 1048576))) (some (2, pAtoiN x.1, pAtoiN y.1, pAtoiN z.1, false, ())) none
  | [a, x, y, z, e] => cond (pStrEq a.1 (bs [102, 111, 114, 99, 101]) && ((pStrEq e.1 (bs [99, 111, 109, 109, 105, 116]) || pStrEq e.1 (bs [97, 98, 111, 114, 116])) && (numB x.1 5 && (numB y.1 3 && numB z.1 1048576))))
      (some (3, pAtoiN x.1, pAtoiN y.1, pAtoiN z.1, pStrEq e.1 (bs [99, 111, 109, 109, 105, 116]), ())) none
  | _ => none
def cmdE (s : ByteArray) : Int := cond (pGt (pInt s.size) 60) 1 (match cmdW (pSplit s (bs [32])) with | some _ => 0 | none => 4)
def cmdC (s : ByteArray) : CmdD := cond (pGt (pInt s.size) 60) (0, 0, 0, 0, false, ()) ((cmdW (pSplit s (bs [32]))).getD (0, 0, 0, 0, false, ()))

/- loops -/
def partsInv (s : ByteArray) (y : Int × Int × List SD × Unit) : Prop := ∃ (k f : Nat) (out : List (List UInt8)), y = ((k : Int), (f : Int), out.map toS, ()) ∧ f ≤ k ∧ k ≤ s.size + 1 ∧ out.length ≤ f ∧
  ((k ≤ s.size ∧ spl s.data.toList = out ++ spl (s.data.toList.drop f) ∧ ∀ c ∈ (s.data.toList.drop f).take (k - f), c ≠ 32) ∨ (k = s.size + 1 ∧ spl s.data.toList = out))
def partsMu (s : ByteArray) (y : Int × Int × List SD × Unit) : Nat := s.size + 1 - y.1.toNat
def plainInv (s : ByteArray) (m : Int) (y : Int × Int × Unit) : Prop := ∃ k : Nat, y = ((k : Int), (val 0 (s.data.toList.take k) : Int), ()) ∧ k ≤ s.size ∧ (∀ c ∈ s.data.toList.take k, Dig c) ∧ (val 0 (s.data.toList.take k) : Int) ≤ 10 * m + 9
def plainMu (s : ByteArray) (_ : Int) (y : Int × Int × Unit) : Nat := s.size - y.1.toNat


end Go.Proofs.YtedjlbcclhgfmaaDoor

/- Contracts, and what the evaluator says, as plain propositions: CnV. Printed by vc.py. -/
namespace Go.Proofs.YtedjlbcclhgfmaaDoor
open Go.RowKit Go.ChangeShapes Go.WideShapes Go.Deep
variable {mL : Int} {kk : Nat}

abbrev Itoa_S : Shape := ⟨[.one (.rd tI)], []⟩
abbrev Itoa_f : Shape.den Itoa_S → denVars [.slot 0 false .str] := fun x => (pItoa x.1.1, ())
abbrev Itoa_p : Shape.den Itoa_S → List Prop := fun x => [pLe (-9223372036854775808) x.1.1 = true, pLe x.1.1 9223372036854775807 = true]
def cItoa : Ctr := shCtr Itoa_S Itoa_p [] [.slot 0 false .str] Itoa_f
abbrev Split_S : Shape := ⟨[.one (.rd .str), .one (.rd .str)], []⟩
abbrev Split_f : Shape.den Split_S → denVars [.slot 0 false (.sl tyS)] := fun x => (pSplit x.1.1 x.1.2.1, ())
abbrev Split_p : Shape.den Split_S → List Prop := fun x => [pShort x.1.1, pOne x.1.2.1]
def cSplit : Ctr := shCtr Split_S Split_p [] [.slot 0 false (.sl tyS)] Split_f
abbrev next_S : Shape := ⟨[.one (.lit (.pt 0 0))], [.box [.rd (.sl tyS), .rd .bool]]⟩
abbrev next_f : Shape.den next_S → denVars [.slot 0 false .str, .box 0 vTak] := fun x => (nextS x.2.1.1, (nextL x.2.1.1, nextB x.2.1.1 x.2.1.2.1, ()), ())
abbrev next_p : Shape.den next_S → List Prop := fun x => [pLen x.2.1.1 < 4611686018427387904]
def cnext : Ctr := shCtr next_S next_p [] [.slot 0 false .str, .box 0 vTak] next_f
abbrev number_S : Shape := ⟨[.one (.lit (.pt 0 0)), .one (.rd tI)], [.box [.rd (.sl tyS), .rd .bool]]⟩
abbrev number_f : Shape.den number_S → denVars [.slot 0 false tI, .box 0 vTak] := fun x => (cond (numB (nextS x.2.1.1) x.1.2.1) (pAtoiN (nextS x.2.1.1)) 0, (nextL x.2.1.1, (nextB x.2.1.1 x.2.1.2.1 || !numB (nextS x.2.1.1) x.1.2.1), ()), ())
abbrev number_p : Shape.den number_S → List Prop := fun x => [pLen x.2.1.1 < 4611686018427387904, pShort (nextS x.2.1.1)]
def cnumber : Ctr := shCtr number_S number_p [] [.slot 0 false tI, .box 0 vTak] number_f
abbrev Read_S : Shape := ⟨[.one (.rd .str)], []⟩
abbrev Read_f : Shape.den Read_S → denVars [.agg 0 vCmd, .slot 1 false tI] := fun x => (cmdC x.1.1, cmdE x.1.1, ())
abbrev Read_p : Shape.den Read_S → List Prop := fun _ => []
def cRead : Ctr := shCtr Read_S Read_p [] [.agg 0 vCmd, .slot 1 false tI] Read_f
abbrev partsOf_f : Shape.den Read_S → denVars [.slot 0 true tyS] := fun x => (pSplit x.1.1 (bs [32]), ())
abbrev partsOf_p : Shape.den Read_S → List Prop := fun x => [pShort x.1.1]
def cpartsOf : Ctr := shCtr Read_S partsOf_p [] [.slot 0 true tyS] partsOf_f
abbrev DecP_p (kk : Nat) : Shape.den Itoa_S → List Prop := fun x => [pDec x.1.1 kk]
def cDecP (kk : Nat) : Ctr := shCtr Itoa_S (DecP_p kk) [] [.slot 0 false .str] Itoa_f
abbrev DecS_p (kk : Nat) : Shape.den Itoa_S → List Prop := fun x => [pDec x.1.1 (kk + 1)]
def cDecS (kk : Nat) : Ctr := shCtr Itoa_S (DecS_p kk) [] [.slot 0 false .str] Itoa_f
abbrev Dec_p : Shape.den Itoa_S → List Prop := fun x => [pLe 0 x.1.1 = true, pLe x.1.1 9223372036854775807 = true]
def cDec : Ctr := shCtr Itoa_S Dec_p [] [.slot 0 false .str] Itoa_f
abbrev plain_S : Shape := ⟨[.one (.rd .str), .one (.rd tI)], []⟩
abbrev plain_f : Shape.den plain_S → denVars [.slot 0 false tI, .slot 1 false .bool] := fun x => (cond (numB x.1.1 x.1.2.1) (pAtoiN x.1.1) 0, numB x.1.1 x.1.2.1, ())
abbrev plain_p : Shape.den plain_S → List Prop := fun x => [pShort x.1.1, pLe 0 x.1.2.1 = true, pLe x.1.2.1 1048576 = true]
def cplain : Ctr := shCtr plain_S plain_p [] [.slot 0 false tI, .slot 1 false .bool] plain_f
def cCommandOf : Ctr := shCtr Read_S Read_p [] [.agg 0 vCmd, .slot 1 false tI] Read_f
abbrev eqsCnV : List TypeId := [35]

def next_VC (l : List SD) (b : Bool) : Prop :=
  bif pEq (pInt (pLen l)) (0 : Int) then ((bs []), (l, Bool.true, ()), ()) = (nextS l, (nextL l, nextB l b, ()), ()) else pIn (0 : Int) (pLen l) ∧ pTo (1 : Int) (pLen l) ∧ ((pGet tyS l (pNat (0 : Int))).1, (pSub l (pNat (1 : Int)) (pLen l),
 b, ()), ()) = (nextS l, (nextL l, nextB l b, ()), ())
set_option maxRecDepth 100000 in
theorem next_meets  (h : ∀ (l : List SD) (b : Bool), (∀ p ∈ next_p ⟨((), ()), ((l, b, ()), ())⟩, p) → next_VC l b) : MtG (tabsS mL) 41 cnext :=
  meets_vc (E := envOfG Tryd.prog (tabsS mL) [] eqsCnV) (envOfG_ok (fun p hp => by cases hp) (by kernel_rfl)) next_S (fun x => fun ky9 st9 => look [] ky9) Tryd.func41 (by kernel_rfl) (by kernel_rfl) next_p [] [.slot 0 false .str, .box 0 vTak] next_f (fun x => next_VC x.2.1.1 x.2.1.2.1) (fun x => by kernel_rfl) (fun x hp => h x.2.1.1 x.2.1.2.1 hp)

abbrev number_v0 (m : Int) (l : List SD) (b : Bool) := (bif numB (nextS l) m then pAtoiN (nextS l) else (0 : Int), (nextL l, bif nextB l b then Bool.true else bif numB (nextS l) m then Bool.false else Bool.true, ()), ())
abbrev number_t1 (m : Int) (l : List SD) (b : Bool) : Prop := ((0 : Int), (nextL l, Bool.true, ()), ()) = number_v0 m l b

def number_VC (m : Int) (l : List SD) (b : Bool) : Prop :=
  Nat.le (Nat.succ (pLen l)) 4611686018427387904 ∧ pShort (nextS l) ∧ bif pAtoiB (nextS l) then number_t1 m l b else pLe (-9223372036854775808 : Int) (pAtoiN (nextS l)) = Bool.true ∧ pLe (pAtoiN (nextS l)) (9223372036854775807 : Int) =
 Bool.true ∧ bif pNot (pStrEq (pItoa (pAtoiN (nextS l))) (nextS l)) then number_t1 m l b else bif pLt (pAtoiN (nextS l)) (0 : Int) then number_t1 m l b else bif pGt (pAtoiN (nextS l)) m then number_t1 m l b else (pAtoiN (nextS l), (nextL l,
 nextB l b, ()), ()) = number_v0 m l b
set_option maxRecDepth 100000 in
theorem number_meets (hnext : MtG (tabsS mL) 41 cnext) (hAtoi : MtG (tabsS mL) 70 cAtoi) (hItoa : MtG (tabsS mL) 20 cItoa) (h : ∀ (m : Int) (l : List SD) (b : Bool), (∀ p ∈ number_p ⟨((), m, ()), ((l, b, ()), ())⟩, p) → number_VC m l b) : MtG (tabsS mL) 42 cnumber :=
  meets_vc (E := envOfG Tryd.prog (tabsS mL) [(41, (false, cnext)), (70, (false, cAtoi)), (20, (false, cItoa))] eqsCnV) (envOfG_ok (fun p hp => (by simp only [List.mem_cons, List.not_mem_nil, or_false] at hp; rcases hp with rfl | rfl | rfl; exact hnext; exact hAtoi; exact hItoa)) (by kernel_rfl)) number_S (fun x => fun ky9 st9 => look [] ky9) Tryd.func42 (by kernel_rfl) (by kernel_rfl) number_p [] [.slot 0 false tI, .box 0 vTak] number_f (fun x => number_VC x.1.2.1 x.2.1.1 x.2.1.2.1) (fun x => by kernel_rfl) (fun x hp => h x.1.2.1 x.2.1.1 x.2.1.2.1 hp)

abbrev Read_t0 (s : ByteArray) : Prop := (((0 : Int), (0 : Int), (0 : Int), (0 : Int), Bool.false, ()), (4 : Int), ()) = (cmdC s, cmdE s, ())
abbrev Read_v1 (s : ByteArray) := bif nextB (nextL (nextL (nextL (pSplit s (bs [32]))))) (bif nextB (nextL (nextL (pSplit s (bs [32])))) (bif nextB (nextL (pSplit s (bs [32]))) (nextB (pSplit s (bs [32])) Bool.false) then Bool.true else bif numB (nextS (nextL (pSplit s (bs
 [32])))) (5 : Int) then Bool.false else Bool.true) then Bool.true else bif numB (nextS (nextL (nextL (pSplit s (bs [32]))))) (3 : Int) then Bool.false else Bool.true) then Bool.true else bif numB (nextS (nextL (nextL (nextL (pSplit s (bs
 [32])))))) (1048576 : Int) then Bool.false else Bool.true
abbrev Read_v2 (s : ByteArray) := bif pGt (pInt (pLen (nextL (nextL (nextL (nextL (nextL (pSplit s (bs [32]))))))))) (0 : Int) then Read_t0 s else (((3 : Int), bif numB (nextS (nextL (pSplit s (bs [32])))) (5 : Int) then pAtoiN (nextS (nextL (pSplit s (bs [32])))) else (0 :
 Int), bif numB (nextS (nextL (nextL (pSplit s (bs [32]))))) (3 : Int) then pAtoiN (nextS (nextL (nextL (pSplit s (bs [32]))))) else (0 : Int), bif numB (nextS (nextL (nextL (nextL (pSplit s (bs [32])))))) (1048576 : Int) then pAtoiN (nextS
 (nextL (nextL (nextL (pSplit s (bs [32])))))) else (0 : Int), pStrEq (nextS (nextL (nextL (nextL (nextL (pSplit s (bs [32]))))))) (bs [99, 111, 109, 109, 105, 116]), ()), (0 : Int), ()) = (cmdC s, cmdE s, ())

def Read_VC (s : ByteArray) : Prop :=
  bif pGt (pInt (pStrLen s)) (60 : Int) then (((0 : Int), (0 : Int), (0 : Int), (0 : Int), Bool.false, ()), (1 : Int), ()) = (cmdC s, cmdE s, ()) else pShort s ∧ pOne (bs [32]) ∧ Nat.le (Nat.succ (pLen (pSplit s (bs [32]))))
 4611686018427387904 ∧ bif pStrEq (nextS (pSplit s (bs [32]))) (bs [108, 105, 115, 116]) then bif nextB (pSplit s (bs [32])) Bool.false then Read_t0 s else bif pGt (pInt (pLen (nextL (pSplit s (bs [32]))))) (0 : Int) then Read_t0 s else (((1
 : Int), (0 : Int), (0 : Int), (0 : Int), Bool.false, ()), (0 : Int), ()) = (cmdC s, cmdE s, ()) else bif pStrEq (nextS (pSplit s (bs [32]))) (bs [97, 117, 100, 105, 116]) then bif nextB (pSplit s (bs [32])) Bool.false then Read_t0 s else
 bif pGt (pInt (pLen (nextL (pSplit s (bs [32]))))) (0 : Int) then Read_t0 s else (((4 : Int), (0 : Int), (0 : Int), (0 : Int), Bool.false, ()), (0 : Int), ()) = (cmdC s, cmdE s, ()) else bif pStrEq (nextS (pSplit s (bs [32]))) (bs [115,
 116, 97, 116, 117, 115]) then Nat.le (Nat.succ (pLen (nextL (pSplit s (bs [32]))))) 4611686018427387904 ∧ pShort (nextS (nextL (pSplit s (bs [32])))) ∧ Nat.le (Nat.succ (pLen (nextL (nextL (pSplit s (bs [32])))))) 4611686018427387904 ∧
 pShort (nextS (nextL (nextL (pSplit s (bs [32]))))) ∧ Nat.le (Nat.succ (pLen (nextL (nextL (nextL (pSplit s (bs [32]))))))) 4611686018427387904 ∧ pShort (nextS (nextL (nextL (nextL (pSplit s (bs [32])))))) ∧ bif Read_v1 s then Read_t0 s
 else bif pGt (pInt (pLen (nextL (nextL (nextL (nextL (pSplit s (bs [32])))))))) (0 : Int) then Read_t0 s else (((2 : Int), bif numB (nextS (nextL (pSplit s (bs [32])))) (5 : Int) then pAtoiN (nextS (nextL (pSplit s (bs [32])))) else (0 :
 Int), bif numB (nextS (nextL (nextL (pSplit s (bs [32]))))) (3 : Int) then pAtoiN (nextS (nextL (nextL (pSplit s (bs [32]))))) else (0 : Int), bif numB (nextS (nextL (nextL (nextL (pSplit s (bs [32])))))) (1048576 : Int) then pAtoiN (nextS
 (nextL (nextL (nextL (pSplit s (bs [32])))))) else (0 : Int), Bool.false, ()), (0 : Int), ()) = (cmdC s, cmdE s, ()) else bif pStrEq (nextS (pSplit s (bs [32]))) (bs [102, 111, 114, 99, 101]) then Nat.le (Nat.succ (pLen (nextL (pSplit s (bs
 [32]))))) 4611686018427387904 ∧ pShort (nextS (nextL (pSplit s (bs [32])))) ∧ Nat.le (Nat.succ (pLen (nextL (nextL (pSplit s (bs [32])))))) 4611686018427387904 ∧ pShort (nextS (nextL (nextL (pSplit s (bs [32]))))) ∧ Nat.le (Nat.succ (pLen
 (nextL (nextL (nextL (pSplit s (bs [32]))))))) 4611686018427387904 ∧ pShort (nextS (nextL (nextL (nextL (pSplit s (bs [32])))))) ∧ Nat.le (Nat.succ (pLen (nextL (nextL (nextL (nextL (pSplit s (bs [32])))))))) 4611686018427387904 ∧ bif nextB
 (nextL (nextL (nextL (nextL (pSplit s (bs [32])))))) (Read_v1 s) then Read_t0 s else bif pNot (pStrEq (nextS (nextL (nextL (nextL (nextL (pSplit s (bs [32]))))))) (bs [99, 111, 109, 109, 105, 116])) then bif pNot (pStrEq (nextS (nextL
 (nextL (nextL (nextL (pSplit s (bs [32]))))))) (bs [97, 98, 111, 114, 116])) then Read_t0 s else Read_v2 s else Read_v2 s else Read_t0 s
set_option maxRecDepth 100000 in
theorem Read_meets (hSplit : MtG (tabsS mL) 40 cSplit) (hnext : MtG (tabsS mL) 41 cnext) (hnumber : MtG (tabsS mL) 42 cnumber) (h : ∀ (s : ByteArray), Read_VC s) : MtG (tabsS mL) 11 cRead :=
  meets_vc (E := envOfG Tryd.prog (tabsS mL) [(40, (false, cSplit)), (41, (false, cnext)), (42, (false, cnumber))] eqsCnV) (envOfG_ok (fun p hp => (by simp only [List.mem_cons, List.not_mem_nil, or_false] at hp; rcases hp with rfl | rfl | rfl; exact hSplit; exact hnext; exact hnumber)) (by kernel_rfl)) Read_S (fun x => fun ky9 st9 => look [] ky9) Tryd.func11 (by kernel_rfl) (by kernel_rfl) Read_p [] [.agg 0 vCmd, .slot 1 false tI] Read_f (fun x => Read_VC x.1.1) (fun x => by kernel_rfl) (fun x _ => h x.1.1)

abbrev partsOf_v0 (s : ByteArray) (y0 : kden Bool.false tI × kden Bool.false tI × kden Bool.true tyS × PUnit) := (pAdd IntKind.i64 y0.1 (1 : Int), pAdd IntKind.i64 y0.1 (1 : Int), pApp y0.2.2.1 ((pStrSub s (pNat y0.2.1) (pNat y0.1), ()) :: vnil (ByteArray × PUnit)), ())
abbrev partsOf_t1 (s : ByteArray) (y0 : kden Bool.false tI × kden Bool.false tI × kden Bool.true tyS × PUnit) : Prop := pTo y0.1 (pStrLen s) ∧ pTo y0.2.1 (pNat y0.1) ∧ pRoom (pPlus (pLen y0.2.2.1) (pLen ((pStrSub s (pNat y0.2.1) (pNat y0.1), ()) :: vnil (ByteArray × PUnit)))) 16 ∧ partsInv s (partsOf_v0 s y0) ∧ Nat.le (Nat.succ (partsMu s (partsOf_v0 s y0)))
 (partsMu s y0)

def partsOf_VC (s : ByteArray) : Prop :=
  partsInv s ((0 : Int), (0 : Int), vnil (ByteArray × PUnit), ()) ∧ ∀ (y0 : kden Bool.false tI × kden Bool.false tI × kden Bool.true tyS × PUnit), partsInv s y0 → bif pLe y0.1 (pInt (pStrLen s)) then bif pEq y0.1 (pInt (pStrLen s)) then
 partsOf_t1 s y0 else pIn y0.1 (pStrLen s) ∧ bif pEq (pStrGet s (pNat y0.1)) (32 : Int) then partsOf_t1 s y0 else partsInv s (pAdd IntKind.i64 y0.1 (1 : Int), y0.2) ∧ Nat.le (Nat.succ (partsMu s (pAdd IntKind.i64 y0.1 (1 : Int), y0.2)))
 (partsMu s y0) else y0.2.2 = (pSplit s (bs (32 :: vnil Nat)), ())
set_option maxRecDepth 100000 in
theorem partsOf_meets  (h : ∀ (s : ByteArray), (∀ p ∈ partsOf_p ⟨(s, ()), ()⟩, p) → partsOf_VC s) : MtG (tabsS mL) 43 cpartsOf :=
  meets_vc (E := envOfG Tryd.prog (tabsS mL) [] eqsCnV) (envOfG_ok (fun p hp => by cases hp) (by kernel_rfl)) Read_S (fun x => fun ky9 st9 => look [(4, (⟨[.slot 5 false tI, .slot 4 false tI, .slot 3 true tyS], partsInv x.1.1, partsMu x.1.1⟩ : Ann))] ky9) Tryd.func43 (by kernel_rfl) (by kernel_rfl) partsOf_p [] [.slot 0 true tyS] partsOf_f (fun x => partsOf_VC x.1.1) (fun x => by kernel_rfl) (fun x hp => h x.1.1 hp)

def DecS_VC (kk : Nat) (n : Int) : Prop :=
  bif pLt n (0 : Int) then pDec (pSubI IntKind.i64 (0 : Int) n) kk ∧ pStrFits (bs [45]) (pItoa (pSubI IntKind.i64 (0 : Int) n)) ∧ (pStrApp (bs [45]) (pItoa (pSubI IntKind.i64 (0 : Int) n)), ()) = (pItoa n, ()) else bif pLt n (10 : Int) then
 (pBytes ((pWrap IntKind.u8 (pAdd IntKind.i64 (48 : Int) n), ()) :: vnil (Int × PUnit)), ()) = (pItoa n, ()) else pNz (10 : Int) ∧ pDec (pQuo IntKind.i64 n (10 : Int)) kk ∧ pNz (10 : Int) ∧ pStrFits (pItoa (pQuo IntKind.i64 n (10 : Int)))
 (pBytes ((pWrap IntKind.u8 (pAdd IntKind.i64 (48 : Int) (pRem n (10 : Int))), ()) :: vnil (Int × PUnit))) ∧ (pStrApp (pItoa (pQuo IntKind.i64 n (10 : Int))) (pBytes ((pWrap IntKind.u8 (pAdd IntKind.i64 (48 : Int) (pRem n (10 : Int))), ())
 :: vnil (Int × PUnit))), ()) = (pItoa n, ())
set_option maxRecDepth 100000 in
theorem DecS_meets (hDecP : MtG (tabsS mL) 39 (cDecP kk)) (h : ∀ (n : Int), (∀ p ∈ (DecS_p kk) ⟨(n, ()), ()⟩, p) → DecS_VC kk n) : MtG (tabsS mL) 39 (cDecS kk) :=
  meets_vc (E := envOfG Tryd.prog (tabsS mL) [(39, (false, (cDecP kk)))] eqsCnV) (envOfG_ok (fun p hp => (by simp only [List.mem_cons, List.not_mem_nil, or_false] at hp; rcases hp with rfl; exact hDecP)) (by kernel_rfl)) Itoa_S (fun x => fun ky9 st9 => look [] ky9) Tryd.func39 (by kernel_rfl) (by kernel_rfl) (DecS_p kk) [] [.slot 0 false .str] Itoa_f (fun x => DecS_VC kk x.1.1) (fun x => by kernel_rfl) (fun x hp => h x.1.1 hp)

abbrev plain_t0 (s : ByteArray) (m : Int) : Prop := ((0 : Int), Bool.false, ()) = (bif numB s m then pAtoiN s else (0 : Int), numB s m, ())
abbrev plain_v1 (s : ByteArray) (y0 : kden Bool.false tI × kden Bool.false tI × PUnit) := (pAdd IntKind.i64 y0.1 (1 : Int), pAdd IntKind.i64 (pMul IntKind.i64 (10 : Int) y0.2.1) (pWrap IntKind.i64 (pSubI IntKind.u8 (pStrGet s (pNat y0.1)) (48 : Int))), ())

def plain_VC (s : ByteArray) (m : Int) : Prop :=
  plainInv s m ((0 : Int), (0 : Int), ()) ∧ ∀ (y0 : kden Bool.false tI × kden Bool.false tI × PUnit), plainInv s m y0 → bif pLt y0.1 (pInt (pStrLen s)) then pIn y0.1 (pStrLen s) ∧ bif pLt (pStrGet s (pNat y0.1)) (48 : Int) then plain_t0 s m
 else pIn y0.1 (pStrLen s) ∧ bif pGt (pStrGet s (pNat y0.1)) (57 : Int) then plain_t0 s m else bif pGt y0.2.1 m then plain_t0 s m else pIn y0.1 (pStrLen s) ∧ plainInv s m (plain_v1 s y0) ∧ Nat.le (Nat.succ (plainMu s m (plain_v1 s y0)))
 (plainMu s m y0) else bif pGt y0.2.1 m then plain_t0 s m else pLe (0 : Int) y0.2.1 = Bool.true ∧ pLe y0.2.1 (9223372036854775807 : Int) = Bool.true ∧ bif pNot (pStrEq (pItoa y0.2.1) s) then plain_t0 s m else (y0.2.1, Bool.true, ()) = (bif
 numB s m then pAtoiN s else (0 : Int), numB s m, ())
set_option maxRecDepth 100000 in
theorem plain_meets (hDec : MtG (tabsS mL) 39 cDec) (h : ∀ (s : ByteArray) (m : Int), (∀ p ∈ plain_p ⟨(s, m, ()), ()⟩, p) → plain_VC s m) : MtG (tabsS mL) 44 cplain :=
  meets_vc (E := envOfG Tryd.prog (tabsS mL) [(39, (false, cDec))] eqsCnV) (envOfG_ok (fun p hp => (by simp only [List.mem_cons, List.not_mem_nil, or_false] at hp; rcases hp with rfl; exact hDec)) (by kernel_rfl)) plain_S (fun x => fun ky9 st9 => look [(3, (⟨[.slot 7 false tI, .slot 6 false tI], plainInv x.1.1 x.1.2.1, plainMu x.1.1 x.1.2.1⟩ : Ann))] ky9) Tryd.func44 (by kernel_rfl) (by kernel_rfl) plain_p [] [.slot 0 false tI, .slot 1 false .bool] plain_f (fun x => plain_VC x.1.1 x.1.2.1) (fun x => by kernel_rfl) (fun x hp => h x.1.1 x.1.2.1 hp)

abbrev CommandOf_v0 (s : ByteArray) := (pGet tyS (pSplit s (bs (32 :: vnil Nat))) (pNat (0 : Int))).1
abbrev CommandOf_v1 (s : ByteArray) := (pGet tyS (pSplit s (bs (32 :: vnil Nat))) (pNat (1 : Int))).1
abbrev CommandOf_v2 (s : ByteArray) := (pGet tyS (pSplit s (bs (32 :: vnil Nat))) (pNat (2 : Int))).1
abbrev CommandOf_v3 (s : ByteArray) := (pGet tyS (pSplit s (bs (32 :: vnil Nat))) (pNat (3 : Int))).1
abbrev CommandOf_t4 (s : ByteArray) : Prop := (((0 : Int), (0 : Int), (0 : Int), (0 : Int), Bool.false, ()), (4 : Int), ()) = (cmdC s, cmdE s, ())
abbrev CommandOf_t5 (s : ByteArray) : Prop := pIn (4 : Int) (pLen (pSplit s (bs (32 :: vnil Nat)))) ∧ pIn (1 : Int) (pLen (pSplit s (bs (32 :: vnil Nat)))) ∧ pShort (CommandOf_v1 s) ∧ pLe (0 : Int) (5 : Int) = Bool.true ∧ pLe (5 : Int) (1048576 : Int) = Bool.true ∧ pIn (2 : Int) (pLen
 (pSplit s (bs (32 :: vnil Nat)))) ∧ pShort (CommandOf_v2 s) ∧ pLe (0 : Int) (3 : Int) = Bool.true ∧ pLe (3 : Int) (1048576 : Int) = Bool.true ∧ pIn (3 : Int) (pLen (pSplit s (bs (32 :: vnil Nat)))) ∧ pShort (CommandOf_v3 s) ∧ pLe (0 : Int)
 (1048576 : Int) = Bool.true ∧ pLe (1048576 : Int) (1048576 : Int) = Bool.true ∧ bif pNot (numB (CommandOf_v1 s) (5 : Int)) then CommandOf_t4 s else bif pNot (numB (CommandOf_v2 s) (3 : Int)) then CommandOf_t4 s else bif pNot (numB
 (CommandOf_v3 s) (1048576 : Int)) then CommandOf_t4 s else (((3 : Int), bif numB (CommandOf_v1 s) (5 : Int) then pAtoiN (CommandOf_v1 s) else (0 : Int), bif numB (CommandOf_v2 s) (3 : Int) then pAtoiN (CommandOf_v2 s) else (0 : Int), bif
 numB (CommandOf_v3 s) (1048576 : Int) then pAtoiN (CommandOf_v3 s) else (0 : Int), pStrEq (pGet tyS (pSplit s (bs (32 :: vnil Nat))) (pNat (4 : Int))).1 (bs [99, 111, 109, 109, 105, 116]), ()), (0 : Int), ()) = (cmdC s, cmdE s, ())
abbrev CommandOf_v6 (s : ByteArray) := bif pNe (pInt (pLen (pSplit s (bs (32 :: vnil Nat))))) (4 : Int) then CommandOf_t4 s else pIn (0 : Int) (pLen (pSplit s (bs (32 :: vnil Nat)))) ∧ bif pNot (pStrEq (CommandOf_v0 s) (bs [115, 116, 97, 116, 117, 115])) then CommandOf_t4 s else
 pIn (1 : Int) (pLen (pSplit s (bs (32 :: vnil Nat)))) ∧ pShort (CommandOf_v1 s) ∧ pLe (0 : Int) (5 : Int) = Bool.true ∧ pLe (5 : Int) (1048576 : Int) = Bool.true ∧ pIn (2 : Int) (pLen (pSplit s (bs (32 :: vnil Nat)))) ∧ pShort (CommandOf_v2
 s) ∧ pLe (0 : Int) (3 : Int) = Bool.true ∧ pLe (3 : Int) (1048576 : Int) = Bool.true ∧ pIn (3 : Int) (pLen (pSplit s (bs (32 :: vnil Nat)))) ∧ pShort (CommandOf_v3 s) ∧ pLe (0 : Int) (1048576 : Int) = Bool.true ∧ pLe (1048576 : Int)
 (1048576 : Int) = Bool.true ∧ bif pNot (numB (CommandOf_v1 s) (5 : Int)) then CommandOf_t4 s else bif pNot (numB (CommandOf_v2 s) (3 : Int)) then CommandOf_t4 s else bif pNot (numB (CommandOf_v3 s) (1048576 : Int)) then CommandOf_t4 s else
 (((2 : Int), bif numB (CommandOf_v1 s) (5 : Int) then pAtoiN (CommandOf_v1 s) else (0 : Int), bif numB (CommandOf_v2 s) (3 : Int) then pAtoiN (CommandOf_v2 s) else (0 : Int), bif numB (CommandOf_v3 s) (1048576 : Int) then pAtoiN
 (CommandOf_v3 s) else (0 : Int), Bool.false, ()), (0 : Int), ()) = (cmdC s, cmdE s, ())
abbrev CommandOf_v7 (s : ByteArray) := bif pEq (pInt (pLen (pSplit s (bs (32 :: vnil Nat))))) (5 : Int) then pIn (0 : Int) (pLen (pSplit s (bs (32 :: vnil Nat)))) ∧ bif pStrEq (CommandOf_v0 s) (bs [102, 111, 114, 99, 101]) then pIn (4 : Int) (pLen (pSplit s (bs (32 :: vnil
 Nat)))) ∧ bif pStrEq (pGet tyS (pSplit s (bs (32 :: vnil Nat))) (pNat (4 : Int))).1 (bs [99, 111, 109, 109, 105, 116]) then CommandOf_t5 s else pIn (4 : Int) (pLen (pSplit s (bs (32 :: vnil Nat)))) ∧ bif pStrEq (pGet tyS (pSplit s (bs (32
 :: vnil Nat))) (pNat (4 : Int))).1 (bs [97, 98, 111, 114, 116]) then CommandOf_t5 s else CommandOf_v6 s else CommandOf_v6 s else CommandOf_v6 s
abbrev CommandOf_v8 (s : ByteArray) := bif pEq (pInt (pLen (pSplit s (bs (32 :: vnil Nat))))) (1 : Int) then pIn (0 : Int) (pLen (pSplit s (bs (32 :: vnil Nat)))) ∧ bif pStrEq (CommandOf_v0 s) (bs [97, 117, 100, 105, 116]) then (((4 : Int), (0 : Int), (0 : Int), (0 : Int),
 Bool.false, ()), (0 : Int), ()) = (cmdC s, cmdE s, ()) else CommandOf_v7 s else CommandOf_v7 s

def CommandOf_VC (s : ByteArray) : Prop :=
  bif pGt (pInt (pStrLen s)) (60 : Int) then (((0 : Int), (0 : Int), (0 : Int), (0 : Int), Bool.false, ()), (1 : Int), ()) = (cmdC s, cmdE s, ()) else pShort s ∧ bif pEq (pInt (pLen (pSplit s (bs (32 :: vnil Nat))))) (1 : Int) then pIn (0 :
 Int) (pLen (pSplit s (bs (32 :: vnil Nat)))) ∧ bif pStrEq (CommandOf_v0 s) (bs [108, 105, 115, 116]) then (((1 : Int), (0 : Int), (0 : Int), (0 : Int), Bool.false, ()), (0 : Int), ()) = (cmdC s, cmdE s, ()) else CommandOf_v8 s else
 CommandOf_v8 s
set_option maxRecDepth 100000 in
theorem CommandOf_meets (hpartsOf : MtG (tabsS mL) 43 cpartsOf) (hplain : MtG (tabsS mL) 44 cplain) (h : ∀ (s : ByteArray), CommandOf_VC s) : MtG (tabsS mL) 12 cCommandOf :=
  meets_vc (E := envOfG Tryd.prog (tabsS mL) [(43, (false, cpartsOf)), (44, (false, cplain))] eqsCnV) (envOfG_ok (fun p hp => (by simp only [List.mem_cons, List.not_mem_nil, or_false] at hp; rcases hp with rfl | rfl; exact hpartsOf; exact hplain)) (by kernel_rfl)) Read_S (fun x => fun ky9 st9 => look [] ky9) Tryd.func12 (by kernel_rfl) (by kernel_rfl) Read_p [] [.agg 0 vCmd, .slot 1 false tI] Read_f (fun x => CommandOf_VC x.1.1) (fun x => by kernel_rfl) (fun x _ => h x.1.1)

def ConsoleReads_VC (s : ByteArray) : Prop :=
  bif pAndB (pEq (cmdC s).1 (cmdC s).1) (pAndB (pEq (cmdC s).2.1 (cmdC s).2.1) (pAndB (pEq (cmdC s).2.2.1 (cmdC s).2.2.1) (pAndB (pEq (cmdC s).2.2.2.1 (cmdC s).2.2.2.1) (pBeq (cmdC s).2.2.2.2.1 (cmdC s).2.2.2.2.1)))) then (pEq (cmdE s) (cmdE
 s), ()) = (Bool.true, ()) else (Bool.false, ()) = (Bool.true, ())
set_option maxRecDepth 100000 in
theorem ConsoleReads_walk {H : Type} {enc : TypeId × Value → H} (hRead : MtG (tabsS mL) 11 cRead) (hCommandOf : MtG (tabsS mL) 12 cCommandOf) (h : ∀ (x : denL [(false, wStr)]), okL [(false, wStr)] x → ConsoleReads_VC x.1.1) : ∀ (W : World) (base : Nat) (args : Array Value) (ds : List (DataW H)) (p : List MemPlace), DataW.TrodAll enc Tryd.prog W 0 (fun _ => true) true Tryd.f5.params.toList args.toList ds p → (∀ (j : Nat) (t : TypeId) (v : Value), Tryd.f5.params[j]? = some t → args[j]? = some v → Value.okWide Tryd.prog W .any base t v) → (∀ x ∈ p, x.block < W.heap.size) → (DataW.weightsEach Tryd.prog Tryd.f5.params.toList ds).all (· ≤ reachBytes) = true → (TabsS mL) W → Calls Tryd.prog 5 args W fun e W1 => e = .returned (.bool true) ∧ Below W.heap.size W W1 :=
  law_walkLG (E := envOfG Tryd.prog (tabsS mL) [(11, (false, cRead)), (12, (false, cCommandOf))] eqsCnV) (envOfG_ok (fun p hp => (by simp only [List.mem_cons, List.not_mem_nil, or_false] at hp; rcases hp with rfl | rfl; exact hRead; exact hCommandOf)) (by kernel_rfl)) (TabsS mL) tabsS_ok Tryd.func5 (by kernel_rfl) [(false, wStr)] (by kernel_rfl) (fun x => fun ky9 st9 => look [] ky9) (fun x => ConsoleReads_VC x.1.1) (fun x => by kernel_rfl) h


end Go.Proofs.YtedjlbcclhgfmaaDoor

/- Words and numbers of a line: functions meet their contracts. No condition. -/
namespace Go.Proofs.YtedjlbcclhgfmaaDoor
open Go.RowKit Go.Lib Go.IntWalk
variable {mL : Int}

theorem next_ok : MtG (tabsS mL) 41 cnext := next_meets fun l b hp => by
  unfold next_VC
  cases l with
  | nil => rw [bif_true (by rfl)]; show (bs [], (([] : List SD), true, ()), ()) = (ByteArray.empty, (([] : List SD), b || true, ()), ()); rw [Bool.or_true]; rfl
  | cons a r =>
    rw [bif_false (by show pEq ((r.length + 1 : Nat) : Int) 0 = false; unfold pEq; rw [beq_eq_false_iff_ne]; omega)]
    refine ⟨pIn_coe.2 (Nat.succ_pos _), pTo_coe.2 (Nat.succ_le_succ (Nat.zero_le _)), ?_⟩
    show (a.1, (pSub (a :: r) 1 (r.length + 1), b, ()), ()) = (a.1, (r, b || false, ()), ())
    rw [Bool.or_false]
    have : pSub (a :: r) 1 (r.length + 1) = r := by unfold pSub; rw [List.take_succ_cons, List.take_length]; rfl
    rw [this]
theorem atoi_in (s : ByteArray) : -9223372036854775808 ≤ pAtoiN s ∧ pAtoiN s ≤ 9223372036854775807 := by
  unfold pAtoiN
  cases h : atoiAll s.data.toList with
  | ok v => exact atoiAll_bounds h
  | «syntax» => exact ⟨by show (-9223372036854775808 : Int) ≤ 0; decide, by show (0 : Int) ≤ 9223372036854775807; decide⟩
  | range => exact atoiSat_bounds _
theorem number_ok : MtG (tabsS mL) 42 cnumber := number_meets next_ok Atoi_ok Itoa_ok fun m l b hp => by
  have h1 : pLen l < 4611686018427387904 := hp (pLen l < 4611686018427387904) (by simp)
  have h2 : pShort (nextS l) := hp (pShort (nextS l)) (by simp)
  clear hp
  have ht : numB (nextS l) m = false → number_t1 m l b := fun h => by
    show ((0 : Int), (nextL l, true, ()), ()) = (cond (numB (nextS l) m) (pAtoiN (nextS l)) 0, (nextL l, nextB l b || !numB (nextS l) m, ()), ())
    rw [h, cond_false, Bool.not_false, Bool.or_true]
  have hb := atoi_in (nextS l)
  delta number_VC
  refine ⟨h1, h2, bif_ok (fun a => ht (by unfold numB; rw [a]; rfl)) fun a => ⟨decide_eq_true hb.1, decide_eq_true hb.2, bif_ok (fun c => ht ?_) fun c => bif_ok (fun d => ht ?_) fun d => bif_ok (fun e => ht ?_) fun e => ?_⟩⟩
  · have c : pStrEq (pItoa (pAtoiN (nextS l))) (nextS l) = false := by simpa [pNot] using c
    unfold numB; rw [c]; simp
  · have d : pLe 0 (pAtoiN (nextS l)) = false := by have : pAtoiN (nextS l) < 0 := of_decide_eq_true d; exact decide_eq_false (by omega)
    unfold numB; rw [d]; simp
  · have e : pLe (pAtoiN (nextS l)) m = false := by have : m < pAtoiN (nextS l) := of_decide_eq_true e; exact decide_eq_false (by omega)
    unfold numB; rw [e]; simp
  · have hn : numB (nextS l) m = true := by
      have c : pStrEq (pItoa (pAtoiN (nextS l))) (nextS l) = true := by simpa [pNot] using c
      have d : pLe 0 (pAtoiN (nextS l)) = true := by have : ¬ pAtoiN (nextS l) < 0 := of_decide_eq_false d; exact decide_eq_true (by omega)
      have e : pLe (pAtoiN (nextS l)) m = true := by have : ¬ m < pAtoiN (nextS l) := of_decide_eq_false e; exact decide_eq_true (by omega)
      unfold numB; rw [a, c, d, e]; rfl
    show (pAtoiN (nextS l), (nextL l, nextB l b, ()), ()) = (cond (numB (nextS l) m) (pAtoiN (nextS l)) 0, (nextL l, nextB l b || !numB (nextS l) m, ()), ())
    rw [hn, cond_true, Bool.not_true, Bool.or_false]

theorem u8_wrap (n : Int) : IntKind.u8.wrap n = n % 256 := by
  unfold IntKind.wrap
  simp [IntKind.bits, IntKind.signed]
theorem wrap_u8 (n : Int) : pWrap .u8 n = n % 256 := u8_wrap n
theorem dec_len {n k : Nat} (h : n < 10 ^ k) (h0 : 0 < k) : (decDigits n).length ≤ k := by
  induction k generalizing n with
  | zero => omega
  | succ k ih =>
    rw [decDigits]
    split
    · exact Nat.succ_le_succ (Nat.zero_le _)
    · rename_i h10
      have h1 : n / 10 < 10 ^ k := by rw [Nat.pow_succ] at h; omega
      have hk : 0 < k := by
        rcases Nat.eq_zero_or_pos k with h0 | h0
        · subst h0; omega
        · exact h0
      rw [List.length_append]
      exact Nat.succ_le_succ (ih h1 hk)
theorem app_ba (a b : List UInt8) : pStrApp ⟨a.toArray⟩ ⟨b.toArray⟩ = ⟨(a ++ b).toArray⟩ := by
  apply ba_eq
  show ((⟨a.toArray⟩ : ByteArray) ++ ⟨b.toArray⟩).data.toList = a ++ b
  rw [ByteArray.data_append]; simp
theorem size_ba (a : List UInt8) : (⟨a.toArray⟩ : ByteArray).size = a.length := by show a.toArray.size = a.length; simp
theorem digit_bytes {d : Nat} (h : d < 10) : pBytes [(pWrap .u8 (pAdd .i64 48 (d : Int)), ())] = ⟨[UInt8.ofNat (48 + d)].toArray⟩ := by
  have e : pWrap .u8 (pAdd .i64 48 (d : Int)) = ((48 + d : Nat) : Int) := by
    rw [pAdd_in (by omega), wrap_u8]; omega
  rw [e]; rfl
theorem DecS_ok {kk : Nat} (hc : MtG (tabsS mL) 39 (cDecP kk)) : MtG (tabsS mL) 39 (cDecS kk) := DecS_meets hc fun n hp => by
  obtain ⟨h0, h1, _, h2, h3⟩ : pDec n (kk + 1) := hp _ List.mem_cons_self
  obtain ⟨u, rfl⟩ : ∃ u : Nat, n = (u : Int) := ⟨n.toNat, by omega⟩
  have h1 : u < 10 ^ (kk + 1) := by exact_mod_cast h1
  delta DecS_VC
  refine bif_ok (fun a => ?_) fun _ => bif_ok (fun a => ?_) fun a => ?_
  · have a : (u : Int) < 0 := of_decide_eq_true a
    omega
  · have a : (u : Int) < 10 := of_decide_eq_true a
    have a : u < 10 := by omega
    rw [itoa_coe, decDigits_one a, digit_bytes a]
  · have a : ¬ (u : Int) < 10 := of_decide_eq_false a
    have a : ¬ u < 10 := by omega
    have hq : pQuo .i64 (u : Int) 10 = ((u / 10 : Nat) : Int) := by
      unfold pQuo
      have : Int.tdiv (u : Int) 10 = ((u / 10 : Nat) : Int) := by exact_mod_cast rfl
      rw [this]
      exact i64_in _ (by omega)
    have hr : pRem (u : Int) 10 = ((u % 10 : Nat) : Int) := by unfold pRem; exact_mod_cast rfl
    rw [hq, hr, itoa_coe, itoa_coe, digit_bytes (Nat.mod_lt _ (by decide))]
    have hu : u / 10 < 10 ^ kk := by rw [Nat.pow_succ] at h1; omega
    have hk : 0 < kk := by
      rcases Nat.eq_zero_or_pos kk with h | h
      · subst h; omega
      · exact h
    have hl := dec_len hu hk
    refine ⟨by unfold pNz; decide, ⟨by omega, by exact_mod_cast hu, hk, by omega, by omega⟩, by unfold pNz; decide, ?_, ?_⟩
    · show ((((⟨(decDigits (u / 10)).toArray⟩ : ByteArray).size + (⟨[UInt8.ofNat (48 + u % 10)].toArray⟩ : ByteArray).size : Nat)) : Int) ≤ _
      rw [size_ba, size_ba]
      show (((decDigits (u / 10)).length + 1 : Nat) : Int) ≤ 9223372036854775807
      omega
    · rw [app_ba]
      have : decDigits u = decDigits (u / 10) ++ [UInt8.ofNat (48 + u % 10)] := by rw [decDigits, dif_neg a]
      rw [this]
theorem DecK_ok : ∀ k, MtG (tabsS mL) 39 (cDecP k)
  | 0 => by
    refine ⟨⟨_, Tryd.func39, by kernel_rfl, by kernel_rfl⟩, fun args m0 obs r m1 hc hp => ?_⟩
    unfold cDecP shCtr at hc
    split at hc
    · simp only [Option.some.injEq, Prod.mk.injEq] at hc
      obtain ⟨rfl, _⟩ := hc
      obtain ⟨_, _, h, _⟩ := hp _ List.mem_cons_self
      exact absurd h (Nat.lt_irrefl 0)
    · cases hc
  | k + 1 => DecS_ok (DecK_ok k)
theorem Dec_ok : MtG (tabsS mL) 39 cDec := meets_mono (DecK_ok 19) fun x hp => ⟨fun p h => by
    simp only [List.mem_cons, List.not_mem_nil, or_false] at h
    subst h
    have h0 : 0 ≤ x.1.1 := of_decide_eq_true (hp (pLe 0 x.1.1 = true) (by simp))
    have h1 : x.1.1 ≤ 9223372036854775807 := of_decide_eq_true (hp (pLe x.1.1 9223372036854775807 = true) (by simp))
    have e : ((10 ^ 19 : Nat) : Int) = 10000000000000000000 := by decide
    have h2 : x.1.1 < ((10 ^ 19 : Nat) : Int) := by rw [e]; exact Int.lt_of_le_of_lt h1 (by decide)
    exact ⟨h0, h2, by decide, by decide, h1⟩, rfl⟩

/- a numeral, read byte by byte -/
theorem get_byte {s : ByteArray} {k : Nat} (h : k < s.size) : ∃ c : UInt8, s.data.toList[k]? = some c ∧ pStrGet s k = (c.toNat : Int) ∧ s.data.toList.take (k + 1) = s.data.toList.take k ++ [c] := by
  have hl : k < s.data.toList.length := by rw [← size_eq]; exact h
  refine ⟨s.data.toList[k], List.getElem?_eq_getElem hl, ?_, List.take_succ_eq_append_getElem hl⟩
  unfold pStrGet
  have : s[k]? = some (s.data.toList[k]) := by
    rw [getElem?_pos s k h]; rfl
  rw [this]; rfl
theorem dec_not {s : ByteArray} {m : Int} {k : Nat} {c : UInt8} (hc : s.data.toList[k]? = some c) (hd : ¬ Dig c) : numB s m = false := by
  cases h : numB s m with
  | false => rfl
  | true =>
    obtain ⟨n, rfl, _, _⟩ := numB_iff h
    have : c ∈ decDigits n := List.mem_of_getElem? (by simpa using hc)
    exact absurd (dec_dig n c this) hd
theorem val_big {s : ByteArray} {m : Int} {k : Nat} (h : m < (val 0 (s.data.toList.take k) : Int)) : numB s m = false := by
  cases hq : numB s m with
  | false => rfl
  | true =>
    obtain ⟨n, rfl, hn, _⟩ := numB_iff hq
    have e : (⟨(decDigits n).toArray⟩ : ByteArray).data.toList = decDigits n := by simp
    rw [e] at h
    have h1 := val_app ((decDigits n).take k) ((decDigits n).drop k) 0
    rw [List.take_append_drop, dec_val] at h1
    have h2 := val_le ((decDigits n).drop k) (val 0 ((decDigits n).take k))
    omega
theorem plain_ok : MtG (tabsS mL) 44 cplain := plain_meets Dec_ok fun s m hp => by
  have h1 : pShort s := hp (pShort s) (by simp)
  have h2 : 0 ≤ m := of_decide_eq_true (hp (pLe 0 m = true) (by simp))
  have h3 : m ≤ 1048576 := of_decide_eq_true (hp (pLe m 1048576 = true) (by simp))
  clear hp
  unfold pShort at h1
  have t0 : numB s m = false → plain_t0 s m := fun h => by
    show ((0 : Int), false, ()) = (cond (numB s m) (pAtoiN s) 0, numB s m, ())
    rw [h]; rfl
  delta plain_VC
  refine ⟨⟨0, rfl, Nat.zero_le _, fun c hc => (by cases hc), by show (0 : Int) ≤ _; omega⟩, fun y hy => ?_⟩
  obtain ⟨k, rfl, hk, hd, hv⟩ := hy
  by_cases hlt : k < s.size
  · rw [bif_true (by show decide ((k : Int) < (s.size : Int)) = true; exact decide_eq_true (by omega))]
    obtain ⟨c, hc, hg, ht⟩ := get_byte hlt
    have hin : pIn (k : Int) (pStrLen s) := pIn_coe.2 hlt
    dsimp only
    rw [pNat_coe, hg]
    refine ⟨hin, bif_ok (fun a => t0 (dec_not hc fun h => ?_)) fun a => ⟨hin, bif_ok (fun b => t0 (dec_not hc fun h => ?_)) fun b => bif_ok (fun e => t0 (val_big (k := k) (of_decide_eq_true e))) fun e => ⟨hin, ?_⟩⟩⟩
    · have a : (c.toNat : Int) < 48 := of_decide_eq_true a
      unfold Dig at h; omega
    · have b : (c.toNat : Int) > 57 := of_decide_eq_true b
      unfold Dig at h; omega
    · have a : ¬ (c.toNat : Int) < 48 := of_decide_eq_false a
      have b : ¬ (c.toNat : Int) > 57 := of_decide_eq_false b
      have e : ¬ (val 0 (s.data.toList.take k) : Int) > m := of_decide_eq_false e
      delta plain_v1
      dsimp only
      rw [pNat_coe, hg]
      have e1 : pSubI .u8 (c.toNat : Int) 48 = ((c.toNat - 48 : Nat) : Int) := by
        unfold pSubI; rw [u8_wrap]; omega
      have e2 : pWrap .i64 ((c.toNat - 48 : Nat) : Int) = ((c.toNat - 48 : Nat) : Int) := by unfold pWrap; exact i64_in _ (by omega)
      have e3 : pMul .i64 10 (val 0 (s.data.toList.take k) : Int) = ((10 * val 0 (s.data.toList.take k) : Nat) : Int) := by
        unfold pMul; rw [i64_in _ (by omega)]; omega
      have e4 : pAdd .i64 ((10 * val 0 (s.data.toList.take k) : Nat) : Int) ((c.toNat - 48 : Nat) : Int) = (val 0 (s.data.toList.take (k + 1)) : Int) := by
        rw [pAdd_in (by omega), ht, val_app]
        show _ = ((10 * val 0 (s.data.toList.take k) + (c.toNat - 48) : Nat) : Int)
        omega
      rw [e1, e2, e3, e4, pAdd1 (by omega)]
      refine ⟨⟨k + 1, rfl, hlt, fun x hx => ?_, ?_⟩, ?_⟩
      · rw [ht] at hx
        rcases List.mem_append.1 hx with hx | hx
        · exact hd x hx
        · rw [List.mem_singleton.1 hx]; unfold Dig; omega
      · rw [ht, val_app]
        show ((10 * val 0 (s.data.toList.take k) + (c.toNat - 48) : Nat) : Int) ≤ _
        omega
      · show s.size - ((k + 1 : Nat) : Int).toNat + 1 ≤ s.size - ((k : Nat) : Int).toNat
        simp only [Int.toNat_natCast]; omega
  · obtain rfl : k = s.size := by omega
    rw [bif_false (by show decide ((s.size : Int) < (s.size : Int)) = false; exact decide_eq_false (by omega))]
    have hall : s.data.toList.take s.size = s.data.toList := List.take_of_length_le (by rw [size_eq]; exact Nat.le_refl _)
    rw [hall] at hd hv ⊢
    dsimp only
    refine bif_ok (fun a => t0 (val_big (k := s.size) (by rw [hall]; exact of_decide_eq_true a))) fun a => ?_
    have a : ¬ (val 0 s.data.toList : Int) > m := of_decide_eq_false a
    refine ⟨decide_eq_true (by omega), decide_eq_true (by omega), bif_ok (fun b => t0 ?_) fun b => ?_⟩
    · have b : pStrEq (pItoa (val 0 s.data.toList : Int)) s = false := by simpa [pNot] using b
      cases hq : numB s m with
      | false => rfl
      | true =>
        obtain ⟨n, rfl, _, _⟩ := numB_iff hq
        have e : (⟨(decDigits n).toArray⟩ : ByteArray).data.toList = decDigits n := by simp
        rw [e, dec_val, itoa_coe, strEq_iff.2 rfl] at b
        cases b
    · have b : pStrEq (pItoa (val 0 s.data.toList : Int)) s = true := by simpa [pNot] using b
      have hs := strEq_iff.1 b
      rw [itoa_coe] at hs
      generalize hn : val 0 s.data.toList = n at *
      have h1 : numB s m = true := by rw [← hs]; exact numB_of (by omega) (by omega)
      have h2 : pAtoiN s = (n : Int) := by rw [← hs]; exact (atoi_of (by omega)).1
      rw [h1, h2]; rfl


end Go.Proofs.YtedjlbcclhgfmaaDoor

/- Read and CommandOf meet their contracts; the law's body. No condition. -/
namespace Go.Proofs.YtedjlbcclhgfmaaDoor
open Go.RowKit Go.Lib Go.IntWalk
variable {mL : Int}


theorem spl_len : ∀ (l : List UInt8), (spl l).length ≤ l.length + 1 ∧ ∀ w ∈ spl l, w.length ≤ l.length
  | [] => ⟨Nat.le_refl _, fun w hw => by rw [List.mem_singleton.1 hw]; exact Nat.le_refl _⟩
  | x :: r => by
    obtain ⟨h1, h2⟩ := spl_len r
    unfold spl
    split
    · refine ⟨Nat.succ_le_succ h1, fun w hw => ?_⟩
      rcases List.mem_cons.1 hw with rfl | hw
      · exact Nat.zero_le _
      · exact Nat.le_succ_of_le (h2 w hw)
    · cases hs : spl r with
      | nil =>
        refine ⟨Nat.succ_le_succ (Nat.zero_le _), fun w hw => ?_⟩
        rw [List.mem_singleton.1 hw]; exact Nat.succ_le_succ (Nat.zero_le _)
      | cons a t =>
        rw [hs] at h1 h2
        refine ⟨Nat.le_succ_of_le h1, fun w hw => ?_⟩
        rcases List.mem_cons.1 hw with rfl | hw
        · exact Nat.succ_le_succ (h2 a List.mem_cons_self)
        · exact Nat.le_succ_of_le (h2 w (List.mem_cons_of_mem _ hw))
/-- few words, and short ones -/
def Few (l : List SD) : Prop := l.length ≤ 61 ∧ ∀ a ∈ l, pShort a.1
theorem few_split {s : ByteArray} (h : s.size ≤ 60) : Few (pSplit s (bs [32])) := by
  obtain ⟨h1, h2⟩ := spl_len s.data.toList
  rw [← size_eq] at h1 h2
  rw [split_spl]
  refine ⟨by rw [List.length_map]; omega, fun a ha => ?_⟩
  obtain ⟨w, hw, rfl⟩ := List.mem_map.1 ha
  have := h2 w hw
  show (⟨w.toArray⟩ : ByteArray).size < 4294967281
  rw [size_ba]; omega
theorem Few.tl {l : List SD} (h : Few l) : Few (nextL l) := by
  cases l with
  | nil => exact h
  | cons a r => exact ⟨Nat.le_trans (Nat.le_succ _) h.1, fun b hb => h.2 b (List.mem_cons_of_mem _ hb)⟩
theorem Few.hd {l : List SD} (h : Few l) : pShort (nextS l) := by
  cases l with
  | nil => show 0 < 4294967281; decide
  | cons a r => exact h.2 a List.mem_cons_self
theorem Few.le {l : List SD} (h : Few l) : Nat.le (Nat.succ (pLen l)) 4611686018427387904 := Nat.le_trans (Nat.succ_le_succ h.1) (by decide)

theorem ext_toS (s : ByteArray) (f k : Nat) : (pStrSub s f k, ()) = toS ((s.data.toList.drop f).take (k - f)) := by
  unfold toS pStrSub
  refine congrArg (·, ()) (ba_eq ?_)
  rw [ByteArray.data_extract, Array.toList_extract]
theorem partsOf_ok : MtG (tabsS mL) 43 cpartsOf := partsOf_meets fun s hp => by
  have h1 : pShort s := hp (pShort s) (by simp)
  unfold pShort at h1
  have hL := size_eq s
  delta partsOf_VC
  refine ⟨⟨0, 0, [], rfl, Nat.le_refl _, Nat.zero_le _, Nat.le_refl _, .inl ⟨Nat.zero_le _, rfl, fun c hc => (by cases hc)⟩⟩, fun y hy => ?_⟩
  obtain ⟨k, f, out, rfl, hf, hk, ho, hc⟩ := hy
  refine bif_ok (fun a => ?_) fun a => ?_
  · have a : (k : Int) ≤ (s.size : Int) := of_decide_eq_true a
    have a : k ≤ s.size := by omega
    obtain ⟨_, hs, hn⟩ : k ≤ s.size ∧ spl s.data.toList = out ++ spl (s.data.toList.drop f) ∧ ∀ c ∈ (s.data.toList.drop f).take (k - f), c ≠ 32 := by
      rcases hc with h | h
      · exact h
      · omega
    have t1 : spl (s.data.toList.drop f) = (s.data.toList.drop f).take (k - f) :: spl (s.data.toList.drop (k + 1)) ∨ (k = s.size ∧ spl (s.data.toList.drop f) = [(s.data.toList.drop f).take (k - f)]) →
        (k < s.size → s.data.toList[k]? = some 32) → partsOf_t1 s ((k : Int), (f : Int), out.map toS, ()) := fun h h32 => by
      delta partsOf_t1 partsOf_v0
      dsimp only
      rw [pNat_coe, pNat_coe, pAdd1 (by omega), ext_toS]
      refine ⟨pTo_coe.2 a, pTo_coe.2 hf, ?_, ⟨k + 1, k + 1, out ++ [(s.data.toList.drop f).take (k - f)], ?_, Nat.le_refl _, Nat.succ_le_succ a, ?_, ?_⟩, ?_⟩
      · show ((out.map toS).length + 1) * 16 ≤ 140737488351232
        rw [List.length_map]; omega
      · rw [List.map_append]; rfl
      · rw [List.length_append]; exact Nat.succ_le_succ (Nat.le_trans ho hf)
      · rcases Nat.lt_or_eq_of_le a with hlt | rfl
        · rcases h with h | ⟨h, _⟩
          · exact .inl ⟨hlt, by rw [hs, h, List.append_assoc]; rfl, fun c hc => by rw [Nat.sub_self] at hc; cases hc⟩
          · omega
        · rcases h with h | ⟨_, h⟩
          · exfalso
            have hd : (s.data.toList.drop f).take (s.size - f) = s.data.toList.drop f := List.take_of_length_le (by rw [List.length_drop, ← hL]; exact Nat.le_refl _)
            rw [hd] at hn h
            rw [spl_none _ hn, List.drop_of_length_le (i := s.size + 1) (by rw [← hL]; exact Nat.le_succ _)] at h
            simp [spl] at h
          · exact .inr ⟨rfl, by rw [hs, h]⟩
      · show s.size + 1 - ((k + 1 : Nat) : Int).toNat + 1 ≤ s.size + 1 - ((k : Nat) : Int).toNat
        simp only [Int.toNat_natCast]; omega
    refine bif_ok (fun b => t1 (.inr ?_) fun h => ?_) fun b => ?_
    · have b : (k : Int) = (s.size : Int) := beq_iff_eq.1 b
      obtain rfl : k = s.size := by omega
      have hd : (s.data.toList.drop f).take (s.size - f) = s.data.toList.drop f := List.take_of_length_le (by rw [List.length_drop, ← hL]; exact Nat.le_refl _)
      rw [hd] at hn ⊢
      exact ⟨rfl, spl_none _ hn⟩
    · have b : (k : Int) = (s.size : Int) := beq_iff_eq.1 b
      omega
    · have b : ¬ (k : Int) = (s.size : Int) := fun h => by
        have b : ((k : Int) == (s.size : Int)) = false := b
        rw [h] at b; simp at b
      have hlt : k < s.size := by omega
      obtain ⟨c, hcc, hg, ht⟩ := get_byte hlt
      have hd : s.data.toList.drop f = (s.data.toList.drop f).take (k - f) ++ c :: s.data.toList.drop (k + 1) := by
        have h1 := (List.take_append_drop (k - f) (s.data.toList.drop f)).symm
        rw [List.drop_drop, show f + (k - f) = k by omega] at h1
        rw [List.getElem?_eq_some_iff] at hcc
        obtain ⟨hl, hcc⟩ := hcc
        rw [List.drop_eq_getElem_cons hl, hcc] at h1
        exact h1
      refine ⟨pIn_coe.2 hlt, ?_⟩
      dsimp only
      rw [pNat_coe, hg]
      refine bif_ok (fun e => t1 (.inl ?_) fun _ => ?_) fun e => ?_
      · have e : (c.toNat : Int) = 32 := beq_iff_eq.1 e
        have e : c = 32 := UInt8.toNat_inj.1 (by show c.toNat = 32; omega)
        subst e
        have h2 := spl_cut _ (s.data.toList.drop (k + 1)) hn
        rw [← hd] at h2
        exact h2
      · have e : (c.toNat : Int) = 32 := beq_iff_eq.1 e
        have e : c = 32 := UInt8.toNat_inj.1 (by show c.toNat = 32; omega)
        rw [hcc, e]
      · have e : c ≠ 32 := fun h => by
          subst h
          cases e
        rw [pAdd1 (by omega)]
        refine ⟨⟨k + 1, f, out, rfl, Nat.le_succ_of_le hf, Nat.succ_le_succ a, ho, .inl ⟨hlt, hs, fun x hx => ?_⟩⟩, ?_⟩
        · have h3 : (s.data.toList.drop f).take (k + 1 - f) = (s.data.toList.drop f).take (k - f) ++ [c] := by
            have h4 : k + 1 - f = ((s.data.toList.drop f).take (k - f)).length + 1 := by
              rw [List.length_take, List.length_drop, ← hL]; omega
            rw [h4]
            generalize (s.data.toList.drop f).take (k - f) = A at *
            rw [hd, List.take_length_add_append]; rfl
          rw [h3] at hx
          rcases List.mem_append.1 hx with hx | hx
          · exact hn x hx
          · rw [List.mem_singleton.1 hx]; exact e
        · show s.size + 1 - ((k + 1 : Nat) : Int).toNat + 1 ≤ s.size + 1 - ((k : Nat) : Int).toNat
          simp only [Int.toNat_natCast]; omega
  · have a : ¬ (k : Int) ≤ (s.size : Int) := of_decide_eq_false a
    rcases hc with h | ⟨_, h⟩
    · omega
    · show (out.map toS, ()) = (pSplit s (bs [32]), ())
      rw [split_spl, h]

theorem cmd_some {s : ByteArray} (hs : pGt (pInt s.size) 60 = false) {c : CmdD} (h : cmdW (pSplit s (bs [32])) = some c) : (c, (0 : Int), ()) = (cmdC s, cmdE s, ()) := by
  unfold cmdC cmdE
  rw [hs, h]; rfl
theorem cmd_none {s : ByteArray} (hs : pGt (pInt s.size) 60 = false) (h : cmdW (pSplit s (bs [32])) = none) : (((0 : Int), (0 : Int), (0 : Int), (0 : Int), false, ()), (4 : Int), ()) = (cmdC s, cmdE s, ()) := by
  unfold cmdC cmdE
  rw [hs, h]; rfl
theorem cmd_long {s : ByteArray} (hs : pGt (pInt s.size) 60 = true) : (((0 : Int), (0 : Int), (0 : Int), (0 : Int), false, ()), (1 : Int), ()) = (cmdC s, cmdE s, ()) := by
  unfold cmdC cmdE
  rw [hs]; rfl
theorem not_t {b : Bool} (h : pNot b = true) : b = false := by simpa [pNot] using h
theorem not_f {b : Bool} (h : pNot b = false) : b = true := by simpa [pNot] using h
theorem long_f {s : ByteArray} (a : pGt (pInt s.size) 60 = false) : s.size ≤ 60 := by
  have a : ¬ (s.size : Int) > 60 := of_decide_eq_false a
  omega
theorem cmdW1 (a : SD) : cmdW [a] = cond (pStrEq a.1 (bs [108, 105, 115, 116])) (some (1, 0, 0, 0, false, ())) (cond (pStrEq a.1 (bs [97, 117, 100, 105, 116])) (some (4, 0, 0, 0, false, ())) none) := rfl
theorem cmdW4 (a x y z : SD) : cmdW [a, x, y, z] = cond (pStrEq a.1 (bs [115, 116, 97, 116, 117, 115]) && (numB x.1 5 && (numB y.1 3 && numB z.1 1048576))) (some (2, pAtoiN x.1, pAtoiN y.1, pAtoiN z.1, false, ())) none := rfl
theorem cmdW5 (a x y z e : SD) : cmdW [a, x, y, z, e] = cond (pStrEq a.1 (bs [102, 111, 114, 99, 101]) && ((pStrEq e.1 (bs [99, 111, 109, 109, 105, 116]) || pStrEq e.1 (bs [97, 98, 111, 114, 116])) && (numB x.1 5 && (numB y.1 3 && numB z.1 1048576)))) (some (3, pAtoiN x.1, pAtoiN y.1, pAtoiN z.1, pStrEq e.1 (bs [99, 111, 109, 109, 105, 116]), ())) none := rfl
theorem CommandOf_ok : MtG (tabsS mL) 12 cCommandOf := CommandOf_meets partsOf_ok plain_ok fun s => by
  delta CommandOf_VC CommandOf_v8 CommandOf_v7 CommandOf_v6 CommandOf_t5 CommandOf_t4 CommandOf_v3 CommandOf_v2 CommandOf_v1 CommandOf_v0
  refine bif_ok (fun a => cmd_long a) fun a => ?_
  have a : pGt (pInt s.size) 60 = false := a
  have hw := few_split (long_f a)
  refine ⟨?_, ?_⟩
  · have := long_f a
    show s.size < 4294967281
    omega
  have hS := fun c => cmd_some (c := c) a
  have hN := cmd_none a
  rw [show bs (32 :: vnil Nat) = bs [32] from rfl]
  generalize pSplit s (bs [32]) = l at *
  have n5 : pLe 0 5 = true := rfl
  have n5' : pLe 5 1048576 = true := rfl
  have n3 : pLe 0 3 = true := rfl
  have n3' : pLe 3 1048576 = true := rfl
  have nm : pLe 0 1048576 = true := rfl
  have nm' : pLe 1048576 1048576 = true := rfl
  match l, hw with
  | [], _ =>
    have e1 : pEq (pInt (pLen ([] : List SD))) 1 = false := rfl
    have e5 : pEq (pInt (pLen ([] : List SD))) 5 = false := rfl
    have e4 : pNe (pInt (pLen ([] : List SD))) 4 = true := rfl
    simp only [e1, e5, e4, cond_true, cond_false]
    exact hN rfl
  | [a], _ =>
    have e1 : pEq (pInt (pLen [a])) 1 = true := rfl
    have e5 : pEq (pInt (pLen [a])) 5 = false := rfl
    have e4 : pNe (pInt (pLen [a])) 4 = true := rfl
    have g0 : pGet tyS [a] (pNat 0) = a := rfl
    have i0 : pIn 0 (pLen [a]) := ⟨by decide, by show (0 : Int) < 1; decide⟩
    simp only [e1, e5, e4, g0, cond_true, cond_false]
    refine ⟨i0, bif_ok (fun h => hS _ ?_) fun h => ⟨i0, bif_ok (fun k => hS _ ?_) fun k => hN ?_⟩⟩
    · rw [cmdW1, h]; rfl
    · rw [cmdW1, h, k]; rfl
    · rw [cmdW1, h, k]; rfl
  | [a, b], _ =>
    have e1 : pEq (pInt (pLen [a, b])) 1 = false := rfl
    have e5 : pEq (pInt (pLen [a, b])) 5 = false := rfl
    have e4 : pNe (pInt (pLen [a, b])) 4 = true := rfl
    simp only [e1, e5, e4, cond_true, cond_false]
    exact hN rfl
  | [a, b, c], _ =>
    have e1 : pEq (pInt (pLen [a, b, c])) 1 = false := rfl
    have e5 : pEq (pInt (pLen [a, b, c])) 5 = false := rfl
    have e4 : pNe (pInt (pLen [a, b, c])) 4 = true := rfl
    simp only [e1, e5, e4, cond_true, cond_false]
    exact hN rfl
  | [a, x, y, z], hw =>
    have e1 : pEq (pInt (pLen [a, x, y, z])) 1 = false := rfl
    have e5 : pEq (pInt (pLen [a, x, y, z])) 5 = false := rfl
    have e4 : pNe (pInt (pLen [a, x, y, z])) 4 = false := rfl
    have g0 : pGet tyS [a, x, y, z] (pNat 0) = a := rfl
    have g1 : pGet tyS [a, x, y, z] (pNat 1) = x := rfl
    have g2 : pGet tyS [a, x, y, z] (pNat 2) = y := rfl
    have g3 : pGet tyS [a, x, y, z] (pNat 3) = z := rfl
    have i : ∀ k : Int, 0 ≤ k → k < 4 → pIn k (pLen [a, x, y, z]) := fun k h0 h1 => ⟨h0, h1⟩
    simp only [e1, e5, e4, g0, g1, g2, g3, cond_true, cond_false]
    refine ⟨i _ (by decide) (by decide), bif_ok (fun h => hN ?_) fun h => ⟨i _ (by decide) (by decide), hw.2 x (by simp), n5, n5', i _ (by decide) (by decide), hw.2 y (by simp), n3, n3', i _ (by decide) (by decide), hw.2 z (by simp), nm, nm', bif_ok (fun h1 => hN ?_) fun h1 => bif_ok (fun h2 => hN ?_) fun h2 => bif_ok (fun h3 => hN ?_) fun h3 => ?_⟩⟩
    · rw [cmdW4, not_t h]; rfl
    · rw [cmdW4, not_t h1, not_f h]; rfl
    · rw [cmdW4, not_t h2, not_f h1, not_f h]; rfl
    · rw [cmdW4, not_t h3, not_f h2, not_f h1, not_f h]; rfl
    · rw [not_f h1, not_f h2, not_f h3]
      refine hS _ ?_
      rw [cmdW4, not_f h3, not_f h2, not_f h1, not_f h]; rfl
  | [a, x, y, z, e], hw =>
    have e1 : pEq (pInt (pLen [a, x, y, z, e])) 1 = false := rfl
    have e5 : pEq (pInt (pLen [a, x, y, z, e])) 5 = true := rfl
    have e4 : pNe (pInt (pLen [a, x, y, z, e])) 4 = true := rfl
    have g0 : pGet tyS [a, x, y, z, e] (pNat 0) = a := rfl
    have g1 : pGet tyS [a, x, y, z, e] (pNat 1) = x := rfl
    have g2 : pGet tyS [a, x, y, z, e] (pNat 2) = y := rfl
    have g3 : pGet tyS [a, x, y, z, e] (pNat 3) = z := rfl
    have g4 : pGet tyS [a, x, y, z, e] (pNat 4) = e := rfl
    have i : ∀ k : Int, 0 ≤ k → k < 5 → pIn k (pLen [a, x, y, z, e]) := fun k h0 h1 => ⟨h0, h1⟩
    simp only [e1, e5, e4, g0, g1, g2, g3, g4, cond_true, cond_false]
    refine ⟨i _ (by decide) (by decide), bif_ok (fun h => ⟨i _ (by decide) (by decide), bif_ok (fun k => ?_) fun k => ⟨i _ (by decide) (by decide), bif_ok (fun m => ?_) fun m => hN ?_⟩⟩) fun h => hN ?_⟩
    · have hcb : (pStrEq e.1 (bs [99, 111, 109, 109, 105, 116]) || pStrEq e.1 (bs [97, 98, 111, 114, 116])) = true := by rw [k]; rfl
      exact ⟨i 4 (by decide) (by decide), i 1 (by decide) (by decide), hw.2 x (by simp), n5, n5', i 2 (by decide) (by decide), hw.2 y (by simp), n3, n3', i 3 (by decide) (by decide), hw.2 z (by simp), nm, nm', bif_ok (fun h1 => hN (by rw [cmdW5, not_t h1, h, hcb]; rfl)) fun h1 => bif_ok (fun h2 => hN (by rw [cmdW5, not_t h2, not_f h1, h, hcb]; rfl)) fun h2 => bif_ok (fun h3 => hN (by rw [cmdW5, not_t h3, not_f h2, not_f h1, h, hcb]; rfl)) fun h3 => by
        rw [not_f h1, not_f h2, not_f h3]
        exact hS _ (by rw [cmdW5, not_f h3, not_f h2, not_f h1, h, hcb]; rfl)⟩
    · have hcb : (pStrEq e.1 (bs [99, 111, 109, 109, 105, 116]) || pStrEq e.1 (bs [97, 98, 111, 114, 116])) = true := by rw [k, m]; rfl
      exact ⟨i 4 (by decide) (by decide), i 1 (by decide) (by decide), hw.2 x (by simp), n5, n5', i 2 (by decide) (by decide), hw.2 y (by simp), n3, n3', i 3 (by decide) (by decide), hw.2 z (by simp), nm, nm', bif_ok (fun h1 => hN (by rw [cmdW5, not_t h1, h, hcb]; rfl)) fun h1 => bif_ok (fun h2 => hN (by rw [cmdW5, not_t h2, not_f h1, h, hcb]; rfl)) fun h2 => bif_ok (fun h3 => hN (by rw [cmdW5, not_t h3, not_f h2, not_f h1, h, hcb]; rfl)) fun h3 => by
        rw [not_f h1, not_f h2, not_f h3]
        exact hS _ (by rw [cmdW5, not_f h3, not_f h2, not_f h1, h, hcb]; rfl)⟩
    · rw [cmdW5, h, k, m]; rfl
    · rw [cmdW5, h]; rfl
  | a :: b :: c :: d :: e :: f :: r, _ =>
    have hl : pLen (a :: b :: c :: d :: e :: f :: r) = r.length + 6 := rfl
    have e1 : pEq (pInt (pLen (a :: b :: c :: d :: e :: f :: r))) 1 = false := by rw [hl]; unfold pEq pInt; rw [beq_eq_false_iff_ne]; omega
    have e5 : pEq (pInt (pLen (a :: b :: c :: d :: e :: f :: r))) 5 = false := by rw [hl]; unfold pEq pInt; rw [beq_eq_false_iff_ne]; omega
    have e4 : pNe (pInt (pLen (a :: b :: c :: d :: e :: f :: r))) 4 = true := by
      rw [hl]; unfold pNe pInt
      exact bne_iff_ne.2 (by omega)
    simp only [e1, e5, e4, cond_true, cond_false]
    exact hN rfl


end Go.Proofs.YtedjlbcclhgfmaaDoor

/- Read meets its contract; the law's body. No condition. -/
namespace Go.Proofs.YtedjlbcclhgfmaaDoor
open Go.RowKit Go.Lib Go.IntWalk
variable {mL : Int}


theorem str_ne {a b : List Nat} (h : a.map UInt8.ofNat ≠ b.map UInt8.ofNat) : pStrEq (bs a) (bs b) = false := by
  cases hq : pStrEq (bs a) (bs b) with
  | false => rfl
  | true => exact absurd (congrArg (fun s => s.data.toList) (strEq_iff.1 hq)) h
theorem W_list {l : List SD} (h : pStrEq (nextS l) (bs [108, 105, 115, 116]) = true) (hl : l.length ≠ 1) : cmdW l = none := by
  have h := strEq_iff.1 h
  match l, hl with
  | [], _ => rfl
  | [_], hl => exact absurd rfl hl
  | [_, _], _ => rfl
  | [_, _, _], _ => rfl
  | [a, x, y, z], _ =>
    have h : a.1 = (bs [108, 105, 115, 116]) := h
    rw [cmdW4, h, str_ne (by decide)]; rfl
  | [a, x, y, z, e], _ =>
    have h : a.1 = (bs [108, 105, 115, 116]) := h
    rw [cmdW5, h, str_ne (by decide)]; rfl
  | _ :: _ :: _ :: _ :: _ :: _ :: _, _ => rfl
theorem W_audit {l : List SD} (h : pStrEq (nextS l) (bs [97, 117, 100, 105, 116]) = true) (hl : l.length ≠ 1) : cmdW l = none := by
  have h := strEq_iff.1 h
  match l, hl with
  | [], _ => rfl
  | [_], hl => exact absurd rfl hl
  | [_, _], _ => rfl
  | [_, _, _], _ => rfl
  | [a, x, y, z], _ =>
    have h : a.1 = (bs [97, 117, 100, 105, 116]) := h
    rw [cmdW4, h, str_ne (by decide)]; rfl
  | [a, x, y, z, e], _ =>
    have h : a.1 = (bs [97, 117, 100, 105, 116]) := h
    rw [cmdW5, h, str_ne (by decide)]; rfl
  | _ :: _ :: _ :: _ :: _ :: _ :: _, _ => rfl
theorem W_status {l : List SD} (h : pStrEq (nextS l) (bs [115, 116, 97, 116, 117, 115]) = true) (hl : l.length ≠ 4) : cmdW l = none := by
  have h := strEq_iff.1 h
  match l, hl with
  | [], _ => rfl
  | [a], _ =>
    have h : a.1 = (bs [115, 116, 97, 116, 117, 115]) := h
    rw [cmdW1, h, str_ne (by decide), str_ne (by decide)]; rfl
  | [_, _], _ => rfl
  | [_, _, _], _ => rfl
  | [_, _, _, _], hl => exact absurd rfl hl
  | [a, x, y, z, e], _ =>
    have h : a.1 = (bs [115, 116, 97, 116, 117, 115]) := h
    rw [cmdW5, h, str_ne (by decide)]; rfl
  | _ :: _ :: _ :: _ :: _ :: _ :: _, _ => rfl
theorem W_force {l : List SD} (h : pStrEq (nextS l) (bs [102, 111, 114, 99, 101]) = true) (hl : l.length ≠ 5) : cmdW l = none := by
  have h := strEq_iff.1 h
  match l, hl with
  | [], _ => rfl
  | [a], _ =>
    have h : a.1 = (bs [102, 111, 114, 99, 101]) := h
    rw [cmdW1, h, str_ne (by decide), str_ne (by decide)]; rfl
  | [_, _], _ => rfl
  | [_, _, _], _ => rfl
  | [a, x, y, z], _ =>
    have h : a.1 = (bs [102, 111, 114, 99, 101]) := h
    rw [cmdW4, h, str_ne (by decide)]; rfl
  | [_, _, _, _, _], hl => exact absurd rfl hl
  | _ :: _ :: _ :: _ :: _ :: _ :: _, _ => rfl
theorem W_other {l : List SD} (h1 : pStrEq (nextS l) (bs [108, 105, 115, 116]) = false) (h2 : pStrEq (nextS l) (bs [97, 117, 100, 105, 116]) = false) (h3 : pStrEq (nextS l) (bs [115, 116, 97, 116, 117, 115]) = false) (h4 : pStrEq (nextS l) (bs [102, 111, 114, 99, 101]) = false) : cmdW l = none := by
  match l with
  | [] => rfl
  | [a] =>
    have h1 : pStrEq a.1 (bs [108, 105, 115, 116]) = false := h1
    have h2 : pStrEq a.1 (bs [97, 117, 100, 105, 116]) = false := h2
    rw [cmdW1, h1, h2]; rfl
  | [_, _] => rfl
  | [_, _, _] => rfl
  | [a, x, y, z] =>
    have h3 : pStrEq a.1 (bs [115, 116, 97, 116, 117, 115]) = false := h3
    rw [cmdW4, h3]; rfl
  | [a, x, y, z, e] =>
    have h4 : pStrEq a.1 (bs [102, 111, 114, 99, 101]) = false := h4
    rw [cmdW5, h4]; rfl
  | _ :: _ :: _ :: _ :: _ :: _ :: _ => rfl
theorem gt0 {α : Type} {l : List α} (h : pGt (pInt (pLen l)) 0 = true) : l ≠ [] := fun e => by
  subst e; cases h
theorem gt0_f {α : Type} {l : List α} (h : pGt (pInt (pLen l)) 0 = false) : l = [] := by
  cases l with
  | nil => rfl
  | cons a r =>
    have h : ¬ ((r.length + 1 : Nat) : Int) > 0 := of_decide_eq_false h
    omega
theorem one_word {l : List SD} (h : nextB l false = false) (h2 : pGt (pInt (pLen (nextL l))) 0 = false) : ∃ a, l = [a] := by
  cases l with
  | nil => cases h
  | cons a r => exact ⟨a, by rw [show r = [] from gt0_f h2]⟩
theorem many_words {l : List SD} (h : nextB l false = true ∨ pGt (pInt (pLen (nextL l))) 0 = true) : l.length ≠ 1 := by
  match l with
  | [] => intro e; cases e
  | [a] =>
    rcases h with h | h
    · cases h
    · exact absurd rfl (gt0 h)
  | _ :: _ :: _ => intro e; cases e
theorem next_end (b : Bool) : nextB [] b = true := by unfold nextB; simp
theorem next_go (a : SD) (l : List SD) (b : Bool) : nextB (a :: l) b = b := by unfold nextB; simp
theorem nl0 : nextL [] = [] := rfl
theorem nl1 (a : SD) (l : List SD) : nextL (a :: l) = l := rfl
theorem ns1 (a : SD) (l : List SD) : nextS (a :: l) = a.1 := rfl

theorem Read_ok : MtG (tabsS mL) 11 cRead := Read_meets Split_ok next_ok number_ok fun s => by
  delta Read_VC Read_v2 Read_v1 Read_t0
  refine bif_ok (fun a => cmd_long a) fun a => ?_
  have a : pGt (pInt s.size) 60 = false := a
  have hw := few_split (long_f a)
  refine ⟨?_, Nat.le_refl 1, hw.le, ?_⟩
  · have := long_f a
    show s.size < 4294967281
    omega
  have hS := fun c => cmd_some (c := c) a
  have hN := cmd_none a
  generalize pSplit s (bs [32]) = l at *
  refine bif_ok (fun h => bif_ok (fun k => hN (W_list h (many_words (.inl k)))) fun k => bif_ok (fun m => hN (W_list h (many_words (.inr m)))) fun m => hS _ ?_) fun h1 => bif_ok (fun h => bif_ok (fun k => hN (W_audit h (many_words (.inl k)))) fun k => bif_ok (fun m => hN (W_audit h (many_words (.inr m)))) fun m => hS _ ?_) fun h2 =>
    bif_ok (fun h => ⟨hw.tl.le, hw.tl.hd, hw.tl.tl.le, hw.tl.tl.hd, hw.tl.tl.tl.le, hw.tl.tl.tl.hd, ?_⟩) fun h3 => bif_ok (fun h => ⟨hw.tl.le, hw.tl.hd, hw.tl.tl.le, hw.tl.tl.hd, hw.tl.tl.tl.le, hw.tl.tl.tl.hd, hw.tl.tl.tl.tl.le, ?_⟩) fun h4 => hN (W_other h1 h2 h3 h4)
  · obtain ⟨a, rfl⟩ := one_word k m
    have h : pStrEq a.1 (bs [108, 105, 115, 116]) = true := h
    rw [cmdW1, h]; rfl
  · obtain ⟨a, rfl⟩ := one_word k m
    have h : pStrEq a.1 (bs [97, 117, 100, 105, 116]) = true := h
    have h1 : pStrEq a.1 (bs [108, 105, 115, 116]) = false := h1
    rw [cmdW1, h1, h]; rfl
  · match l, h with
    | [], h => simp only [nl0, next_end, cond_true]; exact hN (W_status h (by simp))
    | [a], h => simp only [nl1, nl0, next_end, cond_true]; exact hN (W_status h (by simp))
    | [a, x], h => simp only [nl1, nl0, next_end, cond_true]; exact hN (W_status h (by simp))
    | [a, x, y], h => simp only [nl1, nl0, next_end, cond_true]; exact hN (W_status h (by simp))
    | [a, x, y, z], h =>
      have h : pStrEq a.1 (bs [115, 116, 97, 116, 117, 115]) = true := h
      simp only [nl1, ns1, next_go, cond_false, cond_true]
      cases hx : numB x.1 5 <;> cases hy : numB y.1 3 <;> cases hz : numB z.1 1048576
      case true.true.true => exact hS _ (by rw [cmdW4, h, hx, hy, hz]; rfl)
      all_goals exact hN (by rw [cmdW4, h, hx, hy, hz]; rfl)
    | a :: x :: y :: z :: e :: r, h =>
      refine bif_ok (fun _ => hN (W_status h (by simp))) fun _ => bif_ok (fun _ => hN (W_status h (by simp))) fun k => ?_
      cases gt0_f k
  · match l, h with
    | [], h => simp only [nl0, next_end, cond_true]; exact hN (W_force h (by simp))
    | [a], h => simp only [nl1, nl0, next_end, cond_true]; exact hN (W_force h (by simp))
    | [a, x], h => simp only [nl1, nl0, next_end, cond_true]; exact hN (W_force h (by simp))
    | [a, x, y], h => simp only [nl1, nl0, next_end, cond_true]; exact hN (W_force h (by simp))
    | [a, x, y, z], h => simp only [nl1, nl0, next_end, cond_true]; exact hN (W_force h (by simp))
    | [a, x, y, z, e], h =>
      have h : pStrEq a.1 (bs [102, 111, 114, 99, 101]) = true := h
      simp only [nl1, ns1, next_go, cond_false, cond_true]
      cases hx : numB x.1 5 <;> cases hy : numB y.1 3 <;> cases hz : numB z.1 1048576
      case true.true.true =>
        simp only [cond_false, cond_true]
        refine bif_ok (fun k => bif_ok (fun m => hN ?_) fun m => ?_) fun k => ?_
        · rw [cmdW5, h, hx, hy, hz, not_t k, not_t m]; rfl
        · exact hS _ (by rw [cmdW5, h, hx, hy, hz, not_f m, Bool.or_true]; rfl)
        · exact hS _ (by rw [cmdW5, h, hx, hy, hz, not_f k]; rfl)
      all_goals exact hN (by rw [cmdW5, h, hx, hy, hz]; simp)
    | a :: x :: y :: z :: e :: f :: r, h =>
      have hq := hN (W_force h (by simp))
      refine bif_ok (fun _ => hq) fun _ => bif_ok (fun _ => bif_ok (fun _ => hq) fun _ => ?_) fun _ => ?_
      · exact bif_ok (fun _ => hq) fun k => by cases gt0_f k
      · exact bif_ok (fun _ => hq) fun k => by cases gt0_f k
theorem consoleReads_vc (s : ByteArray) : ConsoleReads_VC s := by
  unfold ConsoleReads_VC
  have e : ∀ n : Int, pEq n n = true := fun n => beq_self_eq_true n
  have eb : ∀ b : Bool, pBeq b b = true := fun b => by cases b <;> rfl
  simp only [e, eb]
  exact trivial


end Go.Proofs.YtedjlbcclhgfmaaDoor
