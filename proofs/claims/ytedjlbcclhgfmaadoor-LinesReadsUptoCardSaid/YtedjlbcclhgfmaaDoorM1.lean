/- THE MACHINE OF READINGS, texts EA to EH as one. -/
import Derived.Orders
import Derived.Laws.Sem
import Derived.RowKit
import Derived.Below
import Derived.Laws.AppendOwn
import Derived.Laws.StructEq
import Derived.Laws.Slices
import GoSem.Builtin.Max
import Derived.WideLaws
import Derived.Laws.CopyRow
/- THE MACHINE OF READINGS, part A: abstract values, abstract states, the evaluator. It names no program. -/
namespace Go.Proofs.YtedjlbcclhgfmaaDoor

/-- Types of data that are read: what a cell holds, and rows of cells. -/
inductive Ty where
  | unit | int (k : IntKind) | bool | str | sl (t : Ty) | pair (a b : Ty)
  | mark (ow : List Nat) (t : Ty)
  deriving DecidableEq

@[reducible] def Ty.den : Ty → Type
  | .unit => Unit
  | .int _ => Int
  | .bool => Bool
  | .str => ByteArray
  | .sl t => List t.den
  | .pair a b => a.den × b.den
  | .mark _ t => t.den

/-- how many cells -/
def Ty.size : Ty → Nat
  | .unit => 0
  | .pair a b => a.size + b.size
  | .mark _ t => t.size
  | _ => 1

def Ty.dflt : (t : Ty) → t.den
  | .unit => ()
  | .int _ => (0 : Int)
  | .bool => false
  | .str => ByteArray.empty
  | .sl t => ([] : List t.den)
  | .pair a b => (a.dflt, b.dflt)
  | .mark _ t => t.dflt

/-- rows whose block's type is known: .pair (.mark [e] .unit) t: of type e -/
def tiedT : Ty → Option Nat
  | .pair (.mark (e :: _) .unit) _ => some e
  | _ => none

/-- What one cell, or a slot, holds. -/
inductive C where
  | un
  | int (k : IntKind) (n : Int)
  | bool (b : Bool)
  | str (s : ByteArray)
  | nil
  | sl (t : Ty) (xs : List t.den)
  | hs (id : Nat)
  | pt (id off : Nat)
  | pe (t : Ty) (xs : List t.den) (i off : Nat)
  | pr (id i off : Nat)
  | ht (id lo : Nat)
  | gp (g off : Nat)
  | sp (id T : Nat)
  | sz
  | ifc (b : Bool)
  | fn (f : FuncId) (caps : List (Nat × Nat))

/-- What a slot holds: a value of one cell (false), a struct or an array (true); several results. -/
inductive SV where
  | un
  | v (agg : Bool) (cs : List C)
  | tup (vs : List (Bool × List C))

/-- A row whose elements' cells at the places ow are own rows in their turn; op: an element whose own cells are told, by their places. -/
structure Nst where
  t : Ty
  ow : List Nat
  xs : List t.den
  op : Option (Nat × List (Nat × C))

inductive Obj where
  | box (cs : List C)
  | row (t : Ty) (xs : List t.den)
  | nest (d : Nst)
  | opq (z : Nat × Nat)

/- WORDS OF THE PLAIN SIDE: the evaluator leaves them as they stand. -/
def pGet (t : Ty) (xs : List t.den) (i : Nat) : t.den := xs.getD i t.dflt
def pLen {α : Type} (xs : List α) : Nat := xs.length
def pPlus (a b : Nat) : Nat := a + b
def pApp {α : Type} (xs ys : List α) : List α := xs ++ ys
def pTie {α : Type} (xs : List α) : List (Unit × α) := xs.map fun x => ((), x)
def pSub {α : Type} (xs : List α) (l h : Nat) : List α := (xs.take h).drop l
def pSet {α : Type} (xs : List α) (i : Nat) (x : α) : List α := xs.set i x
/-- from a place on: cleared -/
def pClr {α : Type} (xs : List α) (lo : Nat) (d : α) : List α := xs.take lo ++ List.replicate (xs.length - lo) d
def pBelow (a b : Nat) : Prop := a < b
def pNat (i : Int) : Nat := i.toNat
def pInt (n : Nat) : Int := (n : Int)
def pIn (i : Int) (n : Nat) : Prop := 0 ≤ i ∧ i < (n : Int)
def pTo (i : Int) (n : Nat) : Prop := 0 ≤ i ∧ i ≤ (n : Int)
def pNz (i : Int) : Prop := i ≠ 0
def pGe0 (i : Int) : Prop := 0 ≤ i
def pRoom (n bytes : Nat) : Prop := n * bytes ≤ 140737488351232
def pAdd (k : IntKind) (a b : Int) : Int := k.wrap (a + b)
def pSubI (k : IntKind) (a b : Int) : Int := k.wrap (a - b)
def pMul (k : IntKind) (a b : Int) : Int := k.wrap (a * b)
def pQuo (k : IntKind) (a b : Int) : Int := k.wrap (a.tdiv b)
def pRem (a b : Int) : Int := a.tmod b
def pAnd (k : IntKind) (a b : Int) : Int := k.wrap (BitVec.ofInt k.bits a &&& BitVec.ofInt k.bits b).toNat
def pOr (k : IntKind) (a b : Int) : Int := k.wrap (BitVec.ofInt k.bits a ||| BitVec.ofInt k.bits b).toNat
def pShl (k : IntKind) (a b : Int) : Int := k.wrap (a * 2 ^ (min b.toNat k.bits))
def pShr (k : IntKind) (a b : Int) : Int := a.fdiv (2 ^ (min b.toNat k.bits))
def pWrap (k : IntKind) (a : Int) : Int := k.wrap a
def pEq (a b : Int) : Bool := a == b
def pNe (a b : Int) : Bool := a != b
def pLt (a b : Int) : Bool := decide (a < b)
def pLe (a b : Int) : Bool := decide (a ≤ b)
def pGt (a b : Int) : Bool := decide (a > b)
def pGe (a b : Int) : Bool := decide (a ≥ b)
def pMin (a b : Int) : Int := if b < a then b else a
def pMax (a b : Int) : Int := if a < b then b else a
def pNot (a : Bool) : Bool := !a
def pAndB (a b : Bool) : Bool := a && b
def pBeq (a b : Bool) : Bool := a == b
def pStrEq (a b : ByteArray) : Bool := a.toList == b.toList
def pStrEq' (a b : ByteArray) : Bool := a == b
def pStrLen (s : ByteArray) : Nat := s.size
def pStrGet (s : ByteArray) (i : Nat) : Int := ((s[i]?).map fun b => (b.toNat : Int)).getD 0
def pStrSub (s : ByteArray) (l h : Nat) : ByteArray := s.extract l h
def pStrApp (a b : ByteArray) : ByteArray := a ++ b
def pStrLt (a b : ByteArray) : Bool := Go.Op.bytesLess a.toList b.toList
def pStrLe (a b : ByteArray) : Bool := Go.Op.bytesLess a.toList b.toList || a.toList == b.toList
def pBytes (xs : List (Int × Unit)) : ByteArray := ⟨(xs.map fun n => UInt8.ofNat n.1.toNat).toArray⟩
def pRep {α : Type} (n : Nat) (x : α) : List α := List.replicate n x
def pStrCells (s : ByteArray) : List (Int × Unit) := s.data.toList.map fun b => ((b.toNat : Int), ())
def pStrFits (a b : ByteArray) : Prop := ((a.size + b.size : Nat) : Int) ≤ IntKind.i64.max

/- CELLS OF DATA -/
def cellsOf : (t : Ty) → t.den → List C
  | .unit, _ => []
  | .int k, n => [.int k n]
  | .bool, b => [.bool b]
  | .str, s => [.str s]
  | .sl t, xs => [.sl t xs]
  | .pair a b, x => cellsOf a x.1 ++ cellsOf b x.2
  | .mark _ t, x => cellsOf t x

def ofCells : (t : Ty) → List C → Option (t.den × List C)
  | .unit, cs => some ((), cs)
  | .int k, .int k' n :: cs => if k = k' then some (n, cs) else none
  | .bool, .bool b :: cs => some (b, cs)
  | .str, .str s :: cs => some (s, cs)
  | .sl t, .sl t' xs :: cs => if h : t' = t then some (h ▸ xs, cs) else none
  | .sl _, .nil :: cs => some ([], cs)
  | .mark _ t, cs => ofCells t cs
  | .pair a b, cs =>
    match ofCells a cs with
    | none => none
    | some (x, cs') => match ofCells b cs' with
      | none => none
      | some (y, cs'') => some ((x, y), cs'')
  | _, _ => none

/-- the whole list of cells reads as one datum -/
def asD (t : Ty) (cs : List C) : Option t.den :=
  match ofCells t cs with
  | some (x, []) => some x
  | _ => none

def look {α : Type} : List (Nat × α) → Nat → Option α
  | [], _ => none
  | (k, v) :: r, i => bif Nat.beq k i then some v else look r i

structure St where
  slots : List (Nat × SV)
  mem : List (Nat × Option Obj)
  next : Nat
  tch : List Nat

def St.slot (s : St) (t : Nat) : SV := (look s.slots t).getD .un
abbrev Mem := Nat → Option Obj
def memOf (m : List (Nat × Option Obj)) : Mem := fun id => (look m id).getD none
def St.obj (s : St) : Mem := memOf s.mem

/-- An own row stands for what it reads as. -/
def roCell (m : Mem) : C → C
  | .hs id => match m id with
    | some (.row t xs) => .sl t xs
    | some (.nest ⟨t, _, xs, none⟩) => .sl t xs
    | _ => .un
  | c => c
def roCells (m : Mem) (cs : List C) : List C := cs.map (roCell m)

/- OF VALUES, TYPES -/
def cOfValue : Value → C
  | .bool b => .bool b
  | .int k n => .int k n
  | .string s => .str s
  | .slice none 0 0 => .nil
  | .nilIface => .ifc false
  | .func (.func f) x y => match x.toList, y.toList with
    | [], [] => .fn f []
    | _, _ => .un
  | _ => .un
def svOfValue : Value → SV
  | .agg cs => bif cs.toList.all (·.oneCell') then .v true (cs.toList.map cOfValue) else .un
  | .tuple vs => match vs.toList with
    | [] => .tup []
    | _ => .un
  | v => .v false [cOfValue v]

def isAggD : TypeDesc → Bool
  | .struct _ => true
  | .array _ _ => true
  | _ => false
def sizeT (P : Program) (t : TypeId) : Option Nat := (P.info? t).map (·.size)
def zeroT (P : Program) (t : TypeId) : Option (List C) := match (P.info? t).bind (·.zero) with
  | some v => bif v.cells.toList.all (·.oneCell') then some (v.cells.toList.map cOfValue) else none
  | none => none
/-- a new block's cells: nil pointers are known -/
def spOf (p : Bool) (nx T : Nat) : Value → C
  | .pointer none => .sp nx T
  | .slice none 0 0 => cond p .sz .nil
  | v => cOfValue v
def isPn : List Value → Bool
  | .pointer none :: _ => true
  | _ => false
def zeroP (P : Program) (nx : Nat) (t : TypeId) : Option (List C) := match (P.info? t).bind (·.zero) with
  | some v => bif v.cells.toList.all (·.oneCell') then some (v.cells.toList.map (spOf (isPn v.cells.toList) nx t)) else none
  | none => none
def elemT (P : Program) (t : TypeId) : Option TypeId := match P.underlying t with
  | some (.slice e) => some e
  | _ => none
def offT (P : Program) (t : TypeId) (f : Nat) : Option (Nat × TypeId) := match P.underlying t with
  | some (.struct fs) => match fs[f]? with
    | some x => match sizeT P x.type with
      | some (_ + 1) => some (x.offset, x.type)
      | _ => none
    | none => none
  | _ => none

/-- a row of cells' types, flat -/
def Ty.cat : Ty → Ty → Ty
  | .unit, r => r
  | .pair a b, r => .pair a (Ty.cat b r)
  | t, r => .pair t r

/-- the type of data that a type's values read as: flat -/
def tyT (P : Program) : Nat → TypeId → Ty
  | 0, _ => .unit
  | n + 1, t => match P.underlying t with
    | some .bool => .pair .bool .unit
    | some (.int k) => .pair (.int k) .unit
    | some .string => .pair .str .unit
    | some (.slice e) => .pair (.sl (tyT P n e)) .unit
    | some (.struct fs) => fs.toList.foldr (fun f r => Ty.cat (tyT P n f.type) r) .unit
    | _ => .unit

def opCs : Option (Nat × List (Nat × C)) → List C
  | some (_, oc) => oc.map (·.2)
  | none => []
/-- numbers of objects in an effect: all below a bound -/
def idsC : C → List Nat
  | .hs id => [id]
  | .pt id _ => [id]
  | .pr id _ _ => [id]
  | .ht id _ => [id]
  | .sp id _ => [id]
  | .fn _ caps => caps.map (·.1)
  | _ => []
structure Eff where
  res : SV
  upd : List (Nat × Option Obj)

/-- what an operation may yield: what must hold, and its effect -/
abbrev Out := Option (List Prop × Eff)

/-- A contract: on the arguments, and what they lead to; numbers of objects: 0, 1, .. as they are met; answers: what must hold, the results, the objects as they are then. -/
abbrev Ctr := List SV → List (Nat × Option Obj) → Option (List Prop × SV × List (Nat × Option Obj))
/-- A function's own code, taken in: what must be so that all its endings are as told. -/
abbrev CtrK := List SV → List (Nat × Option Obj) → (SV → List (Nat × Option Obj) → Prop) → Prop

def one (c : C) : SV := .v false [c]

/-- a variable of a package that nobody writes: its cells, or a table: its rows -/
inductive Gl where
  | cells (cs : List C)
  | rows (t : Ty) (xs : List t.den)

structure Env where
  P : Program
  ctr : FuncId → Option (Bool × Ctr)
  glob : Nat → Option Gl
  eqs : List TypeId
  /-- slices whose elements have own rows, and where -/
  nst : TypeId → List Nat := fun _ => []
  /-- slots that loops may name anew though they don't assign to them -/
  ren : List Nat := []
  /-- functions whose code is taken in (true: it has but one ending) -/
  inl : FuncId → Option (Bool × CtrK) := fun _ => none
  /-- code of one ending alone -/
  det : Bool := false

def ret (c : C) : Out := some ([], ⟨one c, []⟩)

def aInt (op : BinOp) (k : IntKind) (a b : Int) : Out :=
  match op with
  | .add => ret (.int k (pAdd k a b))
  | .sub => ret (.int k (pSubI k a b))
  | .mul => ret (.int k (pMul k a b))
  | .quo => some ([pNz b], ⟨one (.int k (pQuo k a b)), []⟩)
  | .rem => some ([pNz b], ⟨one (.int k (pRem a b)), []⟩)
  | .and => ret (.int k (pAnd k a b))
  | .or => ret (.int k (pOr k a b))
  | .eql => ret (.bool (pEq a b))
  | .neq => ret (.bool (pNe a b))
  | .lss => ret (.bool (pLt a b))
  | .leq => ret (.bool (pLe a b))
  | .gtr => ret (.bool (pGt a b))
  | .geq => ret (.bool (pGe a b))
  | _ => none

def eqCell : C → C → Option Bool
  | .int k a, .int k' b => if k = k' then some (pEq a b) else none
  | .bool a, .bool b => some (pBeq a b)
  | .str a, .str b => some (pStrEq' a b)
  | _, _ => none
def eqCells : List C → List C → Option Bool
  | [], [] => some true
  | [a], [b] => eqCell a b
  | a :: as, b :: bs => match eqCell a b, eqCells as bs with
    | some x, some y => some (pAndB x y)
    | _, _ => none
  | _, _ => none

/- structs that are compared: the kinds of their cells -/
inductive CK where
  | int | bool | str
def eqFs (P : Program) (g : TypeId → Option (List CK)) : List Field → Nat → Option (List CK)
  | [], _ => some []
  | f :: fs, off => if f.name ≠ "_" ∧ f.offset = off then
      match g f.type, sizeT P f.type with
      | some ks, some k' => if ks.length = k' then (eqFs P g fs (off + k')).map (ks ++ ·) else none
      | _, _ => none
    else none
def eqKs (P : Program) : Nat → TypeId → Option (List CK)
  | 0, _ => none
  | n + 1, T => match P.underlying T with
    | some (.int _) => some [.int]
    | some .bool => some [.bool]
    | some .string => some [.str]
    | some (.struct fs) => if P.stoodInHeld T = false then eqFs P (eqKs P n) fs.toList 0 else none
    | _ => none
def fitK : CK → C → Bool
  | .int, .int _ _ => true
  | .bool, .bool _ => true
  | .str, .str _ => true
  | _, _ => false
def fitKs : List CK → List C → Bool
  | [], [] => true
  | k :: ks, c :: cs => fitK k c && fitKs ks cs
  | _, _ => false

/-- an interface's value held against nil -/
def isIfc (P : Program) (T : TypeId) : Bool := match P.underlying T with
  | some (.interface _) => true
  | _ => false
def aIfc (E : Env) (op : BinOp) (T : TypeId) (b : Bool) : Out :=
  bif isIfc E.P T then (match op with
    | .eql => ret (.bool (pNot b))
    | .neq => ret (.bool b)
    | _ => none) else none

def aBin (E : Env) (op : BinOp) (T : TypeId) (x y : SV) : Out :=
  match x, y with
  | .v false [.int k a], .v false [.int k' b] =>
    match op with
    | .shl => some ([pGe0 b], ⟨one (.int k (pShl k a b)), []⟩)
    | .shr => some ([pGe0 b], ⟨one (.int k (pShr k a b)), []⟩)
    | _ => if k = k' then aInt op k a b else none
  | .v false [.bool a], .v false [.bool b] =>
    match op, E.P.underlying T with
    | .eql, some .bool => ret (.bool (pBeq a b))
    | .neq, some .bool => ret (.bool (pNot (pBeq a b)))
    | _, _ => none
  | .v false [.str a], .v false [.str b] =>
    match op with
    | .add => some ([pStrFits a b], ⟨one (.str (pStrApp a b)), []⟩)
    | .eql => ret (.bool (pStrEq a b))
    | .neq => ret (.bool (pNot (pStrEq a b)))
    | .lss => ret (.bool (pStrLt a b))
    | .leq => ret (.bool (pStrLe a b))
    | .gtr => ret (.bool (pNot (pStrLe a b)))
    | .geq => ret (.bool (pNot (pStrLt a b)))
    | _ => none
  | .v true as, .v true bs =>
    if E.eqs.contains T && fitKs ((eqKs E.P 16 T).getD []) as && fitKs ((eqKs E.P 16 T).getD []) bs then
      match op, eqCells as bs with
      | .eql, some b => ret (.bool b)
      | .neq, some b => ret (.bool (pNot b))
      | _, _ => none
    else none
  | _, _ => none

/-- cells from off on, n of them -/
def cut (cs : List C) (off n : Nat) : Option (List C) := if off + n ≤ cs.length then some ((cs.drop off).take n) else none
def putAt (cs : List C) (off : Nat) (vs : List C) : Option (List C) := if off + vs.length ≤ cs.length then some (cs.take off ++ vs ++ cs.drop (off + vs.length)) else none

def part (E : Env) (T : TypeId) (cs : List C) (off : Nat) : Option SV :=
  match E.P.underlying T with
  | none => none
  | some d => bif isAggD d then match sizeT E.P T with
      | some n => (cut cs off n).map (.v true)
      | none => none
    else (cs[off]?).map one

def aLoad (E : Env) (m : Mem) (T : TypeId) : SV → Out
  | .v false [.pt id off] => match m id with
    | some (.box cs) => (part E T cs off).map fun s => ([], ⟨s, []⟩)
    | _ => none
  | .v false [.pe t xs i off] => (part E T (cellsOf t (pGet t xs i)) off).map fun s => ([], ⟨s, []⟩)
  | .v false [.pr id i off] => match m id with
    | some (.row t xs) => (part E T (cellsOf t (pGet t xs i)) off).map fun s => ([], ⟨s, []⟩)
    | _ => none
  | .v false [.gp g off] => match E.glob g with
    | some (.cells cs) => (part E T cs off).map fun s => ([], ⟨s, []⟩)
    | _ => none
  | _ => none

/-- own rows that a row takes in are its own no more -/
def hsC : C → List Nat
  | .hs id => [id]
  | _ => []
def deads (cs : List C) : List (Nat × Option Obj) := (cs.flatMap hsC).map fun id => (id, none)
def distinct : List Nat → Bool
  | [] => true
  | a :: r => !r.contains a && distinct r

def aStore (E : Env) (m : Mem) (T : TypeId) (x : SV) : SV → Out
  | .v false [.pt id off] => match m id, x with
    | some (.box cs), .v _ vs => if sizeT E.P T = some vs.length then (putAt cs off vs).map fun cs' => ([], ⟨.tup [], [(id, some (.box cs'))]⟩) else none
    | _, _ => none
  | .v false [.pr id i off] => match m id, x with
    | some (.row t xs), .v _ vs =>
      if sizeT E.P T = some vs.length then
        match putAt (cellsOf t (pGet t xs i)) off (roCells m vs) with
        | some cs' => bif (vs.flatMap hsC).contains id then none else (asD t cs').map fun y => ([], ⟨.tup [], (id, some (.row t (pSet xs i y))) :: deads vs⟩)
        | none => none
      else none
    | _, _ => none
  | _ => none

/- ROWS WITH OWN ROWS IN THEM -/
def hits (ow : List Nat) (off n : Nat) : Bool := ow.any fun j => Nat.ble off j && Nat.blt j (off + n)
/-- an element's cells, its own ones as told -/
def nestGo (ow : List Nat) (oc : List (Nat × C)) : Nat → List C → List C
  | _, [] => []
  | j, c :: r => cond (ow.contains j) ((look oc j).getD .un) c :: nestGo ow oc (j + 1) r
/-- own cells that come to be told: each a row of its own -/
def openO (nx : Nat) (cs : List C) : List Nat → Option (List (Nat × C) × List (Nat × Option Obj))
  | [] => some ([], [])
  | j :: r => match cs[j]?, openO (nx + 1) cs r with
    | some (.sl t ys), some (oc, u) => bif (tiedT t).isSome then none else some ((j, .hs nx) :: oc, (nx, some (.row t ys)) :: u)
    | _, _ => none
def nestAt (m : Mem) : SV → Option (Nat × Nat × Nat × Nst)
  | .v false [.pr id i off] => match m id with
    | some (.nest d) => some (id, i, off, d)
    | _ => none
  | _ => none
/-- an element's own cells, told: those that were, or all of them anew -/
def openN (nx i : Nat) (d : Nst) : Option (List Prop × List (Nat × C) × List (Nat × Option Obj)) :=
  match d.op with
  | some (g, oc) => some ([i = g], oc, [])
  | none => bif distinct d.ow && Nat.ble d.ow.length 8 then (openO nx (cellsOf d.t (pGet d.t d.xs i)) d.ow).map fun p => ([], p.1, p.2) else none
def gOf (i : Nat) (d : Nst) : Nat := match d.op with
  | some (g, _) => g
  | none => i
def openU (id i : Nat) (d : Nst) (oc : List (Nat × C)) (u : List (Nat × Option Obj)) : List (Nat × Option Obj) := match d.op with
  | some _ => []
  | none => (id, some (.nest { d with op := some (i, oc) })) :: u
def aLoadN (E : Env) (nx : Nat) (T : TypeId) (id i off : Nat) (d : Nst) : Out :=
  match sizeT E.P T with
  | some (n + 1) => cond (hits d.ow off (n + 1))
      (match openN nx i d with
      | some (obs, oc, u) => (part E T (nestGo d.ow oc 0 (cellsOf d.t (pGet d.t d.xs i))) off).map fun s => (obs, ⟨s, openU id i d oc u⟩)
      | none => none)
      ((part E T (nestGo d.ow [] 0 (cellsOf d.t (pGet d.t d.xs i))) off).map fun s => ([], ⟨s, []⟩))
  | _ => none
/-- cells of an element behind a store: the flat ones -/
def flatPut (ow : List Nat) (off : Nat) (vs : List C) : Nat → List C → List C
  | _, [] => []
  | j, c :: r => cond (!ow.contains j && Nat.ble off j && Nat.blt j (off + vs.length)) (vs.getD (j - off) .un) c :: flatPut ow off vs (j + 1) r
/-- … and the own ones -/
def ownPut (off : Nat) (vs : List C) : List (Nat × C) → List (Nat × C)
  | [] => []
  | (j, c) :: r => (j, cond (Nat.ble off j && Nat.blt j (off + vs.length)) (vs.getD (j - off) .un) c) :: ownPut off vs r
/-- the flat cells that are stored -/
def flatOf (ow : List Nat) (off : Nat) : List C → List C
  | [] => []
  | c :: r => cond (ow.contains off) (flatOf ow (off + 1) r) (c :: flatOf ow (off + 1) r)
/-- the elements behind a store of flat cells -/
def flatXs (m : Mem) (d : Nst) (i off : Nat) (vs : List C) : Option (List d.t.den) :=
  match flatOf d.ow off vs with
  | [] => some d.xs
  | _ => (asD d.t (flatPut d.ow off (roCells m vs) 0 (cellsOf d.t (pGet d.t d.xs i)))).map fun y => pSet d.xs i y
def aStoreN (E : Env) (m : Mem) (nx : Nat) (T : TypeId) (x : SV) (id i off : Nat) (d : Nst) : Out :=
  match x with
  | .v _ vs =>
    if sizeT E.P T = some vs.length ∧ off + vs.length ≤ d.t.size then
      bif (vs.flatMap hsC).contains id then none else
      match flatXs m d i off vs with
      | none => none
      | some xs => cond (hits d.ow off vs.length)
          (match openN nx i d with
          | some (obs, oc, u) => some (obs, ⟨.tup [], (id, some (.nest { d with xs := xs, op := some (gOf i d, ownPut off vs oc) })) :: (deads (flatOf d.ow off vs) ++ u)⟩)
          | none => none)
          (some ([], ⟨.tup [], (id, some (.nest { d with xs := xs })) :: deads (flatOf d.ow off vs)⟩))
    else none
  | _ => none

def fillC (place : Nat → Option (Nat × Nat)) : List C → List (Nat × List C) → Option (List C)
  | cs, [] => some cs
  | cs, (i, v) :: rest => match place i with
    | none => none
    | some (off, size) => if v.length = size then
        match putAt cs off v with
        | some cs' => fillC place cs' rest
        | none => none
      else none

def partsC (get : Operand → SV) : List (Nat × Operand) → Option (List (Nat × List C))
  | [] => some []
  | (i, x) :: r => match get x, partsC get r with
    | .v _ cs, some l => some ((i, cs) :: l)
    | _, _ => none

/-- the fields' places: offset, size -/
def placesT (P : Program) : List Field → Option (List (Nat × Nat))
  | [] => some []
  | f :: r => match sizeT P f.type, placesT P r with
    | some n, some l => some ((f.offset, n) :: l)
    | _, _ => none

def aBuild (E : Env) (T : TypeId) (parts : Option (List (Nat × List C))) : Out :=
  match E.P.underlying T, zeroT E.P T, parts with
  | some (.struct fs), some z, some ps => match placesT E.P fs.toList with
    | some pl => (fillC (fun i => pl[i]?) z ps).map fun cs => ([], ⟨.v true cs, []⟩)
    | none => none
  | some (.array _ e), some z, some ps => match sizeT E.P e with
    | some n => (fillC (fun i => some (i * n, n)) z ps).map fun cs => ([], ⟨.v true cs, []⟩)
    | none => none
  | _, _, _ => none

/-- cells as a row of elements -/
def rowOf (t : Ty) : Nat → List C → Option (List t.den)
  | 0, [] => some []
  | n + 1, cs => match ofCells t cs with
    | some (x, cs') => (rowOf t n cs').map (x :: ·)
    | none => none
  | _, _ => none

def repC (z : List C) : Nat → List C
  | 0 => []
  | n + 1 => z ++ repC z n

def aBuildSlice (E : Env) (m : Mem) (nx : Nat) (T : TypeId) (len : Nat) (parts : Option (List (Nat × List C))) : Out :=
  match elemT E.P T, parts with
  | some e, some ps => match zeroT E.P e, sizeT E.P e with
    | some z, some n =>
      if z.length = n ∧ (tyT E.P 8 e).size = n ∧ 0 < n ∧ 0 < len ∧ len * n ≤ 16777216 then
        match fillC (fun i => some (i * n, n)) (repC z len) ps with
        | some cs => (rowOf (tyT E.P 8 e) len (roCells m cs)).map fun xs => ([], ⟨one (.hs nx), (nx, some (.row (tyT E.P 8 e) xs)) :: deads cs⟩)
        | none => none
      else none
    | _, _ => none
  | _, _ => none

/-- a slice of one element that has own rows in it -/
def ownKid (m : Mem) : C → Bool
  | .nil => true
  | .hs id => match m id with
    | some (.row _ _) => true
    | _ => false
  | _ => false
def kidsAt (ow : List Nat) (cs : List C) : List C := ow.map fun j => (cs[j]?).getD .un
def aBuildNest (E : Env) (m : Mem) (nx : Nat) (T : TypeId) (len : Nat) (parts : Option (List (Nat × List C))) : Out :=
  match elemT E.P T, parts with
  | some e, some ps => match zeroT E.P e, sizeT E.P e with
    | some z, some n =>
      if z.length = n ∧ (tyT E.P 8 e).size = n ∧ 0 < n ∧ len = 1 ∧ n ≤ 16777216 then
        match fillC (fun i => some (i * n, n)) (repC z 1) ps with
        | some cs => bif (kidsAt (E.nst T) cs).all (ownKid m) && distinct (kidsAt (E.nst T) cs |>.flatMap hsC) && (flatOf (E.nst T) 0 cs |>.flatMap hsC).all (fun id => !(kidsAt (E.nst T) cs |>.flatMap hsC).contains id) then
            (asD (tyT E.P 8 e) (roCells m cs)).map fun x => ([], ⟨one (.hs nx), (nx, some (.nest ⟨tyT E.P 8 e, E.nst T, [x], none⟩)) :: deads cs⟩) else none
        | none => none
      else none
    | _, _ => none
  | _, _ => none

/-- a slice literal without elements -/
def aEmpty (E : Env) (nx : Nat) (T : TypeId) (ps : Array (Nat × Operand)) : Out :=
  match elemT E.P T, ps.toList with
  | some e, [] => match sizeT E.P e with
    | some _ => some ([], ⟨one (.hs nx), [(nx, some (.row (tyT E.P 8 e) []))]⟩)
    | none => none
  | _, _ => none

/-- what a slice's elements are, for reading -/
def aElems (m : Mem) (t : Ty) : C → Option (List t.den)
  | .nil => some []
  | .sl t' xs => if h : t' = t then some (h ▸ xs) else none
  | .hs id => match m id with
    | some (.row t' xs) => if h : t' = t then some (h ▸ xs) else none
    | _ => none
  | _ => none

/-- what is appended to: nothing, or an own row -/
def aBase (m : Mem) (t : Ty) : C → Option (List t.den)
  | .nil => some []
  | .hs id => aElems m t (.hs id)
  | _ => none

/-- a closed row of such elements, or nothing -/
def nRead (m : Mem) (ow : List Nat) (t : Ty) : C → Option (List t.den)
  | .nil => some []
  | .hs id => match m id with
    | some (.nest ⟨t', ow', xs, none⟩) => if h : t' = t then (if ow' = ow then some (h ▸ xs) else none) else none
    | _ => none
  | _ => none
def aAppendN (E : Env) (m : Mem) (nx : Nat) (T : TypeId) : SV → SV → Out
  | .v false [s], .v false [x] =>
    match elemT E.P T with
    | some e => match E.P.info? e with
      | some i =>
        if (tyT E.P 8 e).size = i.size ∧ 0 < i.size ∧ 0 < i.bytes ∧ (i.zero.map (·.cells.size)) = some i.size ∧ distinct (hsC s ++ hsC x) then
          match nRead m (E.nst T) (tyT E.P 8 e) s, nRead m (E.nst T) (tyT E.P 8 e) x with
          | some xs, some ys => some ([pRoom (pPlus (pLen xs) (pLen ys)) i.bytes], ⟨one (.hs nx), (nx, some (.nest ⟨tyT E.P 8 e, E.nst T, pApp xs ys, none⟩)) :: deads [s, x]⟩)
          | _, _ => none
        else none
      | none => none
    | none => none
  | _, _ => none
/-- what is appended: elements; a text's bytes -/
def aFrom (E : Env) (m : Mem) (T T' : TypeId) (t : Ty) (x : C) : Option (List t.den) :=
  if T = T' then aElems m t x else match x with
    | .str s => match E.P.underlying T' with
      | some .string => if h : Ty.pair (.int .u8) .unit = t then some (h ▸ pStrCells s) else none
      | _ => none
    | _ => none
def aAppend (E : Env) (m : Mem) (nx : Nat) (T T' : TypeId) : SV → SV → Out
  | .v false [s], .v false [x] =>
    match elemT E.P T with
    | some e => match E.P.info? e with
      | some i =>
        if (tyT E.P 8 e).size = i.size ∧ 0 < i.size ∧ 0 < i.bytes ∧ (i.zero.map (·.cells.size)) = some i.size then
          match aBase m (tyT E.P 8 e) s, aFrom E m T T' (tyT E.P 8 e) x with
          | some xs, some ys => some ([pRoom (pPlus (pLen xs) (pLen ys)) i.bytes], ⟨one (.hs nx), (nx, some (.row (tyT E.P 8 e) (pApp xs ys))) :: deads [s]⟩)
          | _, _ => none
        else none
      | none => none
    | none => none
  | _, _ => none

def isStr : SV → Bool
  | .v false [.str _] => true
  | _ => false
/- rows whose block's type is known -/
abbrev bT (e : Nat) (t : Ty) : Ty := .pair (.mark [e] .unit) t
def bBase (m : Mem) (t : Ty) : C → Option (List t.den)
  | .sz => some []
  | .hs id => aElems m t (.hs id)
  | _ => none
def isBuf (m : Mem) : SV → Bool
  | .v false [.sz] => true
  | .v false [.hs id] => match m id with
    | some (.row t _) => (tiedT t).isSome
    | _ => false
  | _ => false
def aAppendB (E : Env) (m : Mem) (nx : Nat) (T T' : TypeId) : SV → SV → Out
  | .v false [s], .v false [x] =>
    match elemT E.P T with
    | some e => match E.P.info? e with
      | some i =>
        if (tyT E.P 8 e).size = i.size ∧ 0 < i.size ∧ 0 < i.bytes ∧ (i.zero.map (·.cells.size)) = some i.size then
          match bBase m (bT e (tyT E.P 8 e)) s, aFrom E m T T' (tyT E.P 8 e) x with
          | some xs, some ys => some ([pRoom (pPlus (pLen xs) (pLen ys)) i.bytes], ⟨one (.hs nx), (nx, some (.row (bT e (tyT E.P 8 e)) (pApp xs (pTie ys)))) :: deads [s]⟩)
          | _, _ => none
        else none
      | none => none
    | none => none
  | _, _ => none
def aLen (E : Env) (m : Mem) (T : TypeId) (x : SV) : Out :=
  match E.P.underlying T, x with
  | some (.slice _), .v false [.nil] => ret (.int .i64 0)
  | some (.slice _), .v false [.sl _ xs] => ret (.int .i64 (pInt (pLen xs)))
  | some (.slice _), .v false [.hs id] => match m id with
    | some (.row _ xs) => ret (.int .i64 (pInt (pLen xs)))
    | some (.nest d) => ret (.int .i64 (pInt (pLen d.xs)))
    | _ => none
  | some .string, .v false [.str s] => ret (.int .i64 (pInt (pStrLen s)))
  | _, _ => none

/-- the size of a slice type's elements -/
def esizeT (P : Program) (T : TypeId) : Option Nat := (elemT P T).bind (sizeT P)

def aIndexAddr (E : Env) (m : Mem) (T : TypeId) (x i : SV) : Out :=
  match x, i with
  | .v false [.sl t xs], .v false [.int _ n] => if esizeT E.P T = some t.size then some ([pIn n (pLen xs)], ⟨one (.pe t xs (pNat n) 0), []⟩) else none
  | .v false [.hs id], .v false [.int _ n] => match m id with
    | some (.row t xs) => if esizeT E.P T = some t.size then some ([pIn n (pLen xs)], ⟨one (.pr id (pNat n) 0), []⟩) else none
    | some (.nest d) => if esizeT E.P T = some d.t.size then some ([pIn n (pLen d.xs)], ⟨one (.pr id (pNat n) 0), []⟩) else none
    | _ => none
  | .v false [.nil], .v false [.int _ _] => some ([False], ⟨.un, []⟩)
  | .v false [.gp g off], .v false [.int _ i] => match E.glob g with
    | some (.rows t xs) => match E.P.underlying T with
      | some (.array len e) => if off = 0 ∧ sizeT E.P e = some t.size ∧ len = xs.length then some ([pIn i len], ⟨one (.pe t xs (pNat i) 0), []⟩) else none
      | _ => none
    | _ => match i with
      | .ofNat n => match E.P.underlying T with
        | some (.array len e) => match sizeT E.P e with
          | some z => if n < len then ret (.gp g (off + n * z)) else none
          | none => none
        | _ => none
      | _ => none
  | .v false [.pt id off], .v false [.int _ (.ofNat n)] => match E.P.underlying T with
    | some (.array len e) => match sizeT E.P e with
      | some z => if n < len then ret (.pt id (off + n * z)) else none
      | none => none
    | _ => none
  | _, _ => none

def aFieldAddr (E : Env) (T : TypeId) (f : Nat) : SV → Out
  | .v false [.pt id off] => (offT E.P T f).bind fun p => ret (.pt id (off + p.1))
  | .v false [.pe t xs i off] => (offT E.P T f).bind fun p => ret (.pe t xs i (off + p.1))
  | .v false [.pr id i off] => (offT E.P T f).bind fun p => ret (.pr id i (off + p.1))
  | .v false [.gp g off] => (offT E.P T f).bind fun p => ret (.gp g (off + p.1))
  | _ => none

def aField (E : Env) (T : TypeId) (f : Nat) : SV → Out
  | .v true cs => (offT E.P T f).bind fun p => (part E p.2 cs p.1).map fun s => ([], ⟨s, []⟩)
  | _ => none

def bound : Option SV → Option (Option Int)
  | none => some none
  | some (.v false [.int _ n]) => some (some n)
  | _ => none

/-- no bound, or 0 -/
def okZ : Option Int → Bool
  | none => true
  | some (.ofNat 0) => true
  | _ => false
def aSliceNil (E : Env) (T : TypeId) (lo hi mx : Option SV) : Out :=
  match bound lo, bound hi, bound mx with
  | some l, some h, some m => bif okZ l && okZ h && okZ m && (m.isNone || h.isSome) && ((elemT E.P T).isSome && (esizeT E.P T).isSome) then ret .nil else none
  | _, _, _ => none
def aSlice (E : Env) (T : TypeId) (x : SV) (lo hi mx : Option SV) : Out :=
  match x, bound mx with
  | .v false [.sl t xs], some none =>
    match bound lo, bound hi with
    | some l, some h =>
      if esizeT E.P T = some t.size then match l, h with
      | none, none => ret (.sl t xs)
      | some l, none => some ([pTo l (pLen xs)], ⟨one (.sl t (pSub xs (pNat l) (pLen xs))), []⟩)
      | none, some h => some ([pTo h (pLen xs)], ⟨one (.sl t (pSub xs 0 (pNat h))), []⟩)
      | some l, some h => some ([pTo h (pLen xs), pTo l (pNat h)], ⟨one (.sl t (pSub xs (pNat l) (pNat h))), []⟩)
      else none
    | _, _ => none
  | .v false [.sl t xs], some (some m) =>
    match bound lo, bound hi with
    | some none, some (some h) => if esizeT E.P T = some t.size then some ([pTo h (pLen xs), m = h], ⟨one (.sl t (pSub xs 0 (pNat h))), []⟩) else none
    | some (some (.ofNat 0)), some (some (.ofNat 0)) => match m with
      | .ofNat 0 => bif (elemT E.P T).isSome && (esizeT E.P T).isSome then ret .nil else none
      | _ => none
    | _, _ => none
  | .v false [.str s], some none =>
    match E.P.underlying T, bound lo, bound hi with
    | some .string, some l, some h => match l, h with
      | none, none => ret (.str s)
      | some l, none => some ([pTo l (pStrLen s)], ⟨one (.str (pStrSub s (pNat l) (pStrLen s))), []⟩)
      | none, some h => some ([pTo h (pStrLen s)], ⟨one (.str (pStrSub s 0 (pNat h))), []⟩)
      | some l, some h => some ([pTo h (pStrLen s), pTo l (pNat h)], ⟨one (.str (pStrSub s (pNat l) (pNat h))), []⟩)
    | _, _, _ => none
  | .v false [.gp g 0], some none => match E.glob g, E.P.underlying T, bound lo, bound hi with
    | some (.rows t xs), some (.array len e), some (some l), some none => if sizeT E.P e = some t.size ∧ len = xs.length then some ([pTo l len], ⟨one (.sl t (pSub xs (pNat l) len)), []⟩) else none
    | _, _, _, _ => none
  | _, _ => none

/-- parts of an own row: its head is a row that takes its place; its tail may be cleared -/
def aSliceOwn (E : Env) (m : Mem) (nx : Nat) (T : TypeId) (id : Nat) (lo hi mx : Option SV) : Out :=
  match m id, bound lo, bound hi, bound mx with
  | some (.row t xs), some l, some h, some none =>
    if esizeT E.P T = some t.size then match l, h with
    | some l, none => some ([pTo l (pLen xs)], ⟨one (.ht id (pNat l)), []⟩)
    | none, some h => some ([pTo h (pLen xs)], ⟨one (.hs nx), (nx, some (.row t (pSub xs 0 (pNat h)))) :: deads [.hs id]⟩)
    | _, _ => none
    else none
  | _, _, _, _ => none
def aClear (E : Env) (m : Mem) (T : TypeId) : SV → Out
  | .v false [.ht id lo] => match m id, elemT E.P T with
    | some (.row t xs), some e => match zeroT E.P e, esizeT E.P T with
      | some z, some n => if n = t.size then (asD t z).map fun d => ([pBelow lo (pLen xs)], ⟨.tup [], [(id, some (.row t (pClr xs lo d)))]⟩) else none
      | _, _ => none
    | _, _ => none
  | _ => none

def aIndex (E : Env) (T : TypeId) (x i : SV) : Out :=
  match E.P.underlying T, x, i with
  | some .string, .v false [.str s], .v false [.int _ n] => some ([pIn n (pStrLen s)], ⟨one (.int .u8 (pStrGet s (pNat n))), []⟩)
  | _, _, _ => none

def aConvert (E : Env) (S D : TypeId) (x : SV) : Out :=
  match E.P.underlying S, E.P.underlying D, x with
  | some (.int _), some (.int k), .v false [.int _ n] => ret (.int k (pWrap k n))
  | some .string, some .string, .v false [.str s] => ret (.str s)
  | _, _, _ => none

/-- bytes as a string -/
def tyB : Ty := .pair (.int .u8) .unit
def isText (P : Program) (S D : TypeId) : Bool := match elemT P S, P.underlying D with
  | some e, some .string => match P.underlying e with
    | some (.int .u8) => true
    | _ => false
  | _, _ => false
def aText (m : Mem) : SV → Out
  | .v false [c] => (aElems m tyB c).bind fun xs => ret (.str (pBytes xs))
  | _ => none

/-- a slice of zeros -/
def aMake (E : Env) (nx : Nat) (T : TypeId) : SV → SV → Out
  | .v false [.int _ l], .v false [.int _ c] =>
    match elemT E.P T with
    | some e => match E.P.info? e, zeroT E.P e with
      | some i, some z =>
        if (tyT E.P 8 e).size = i.size ∧ z.length = i.size then
          (asD (tyT E.P 8 e) z).map fun d => ([pGe0 l, c = l, pRoom (pNat l) i.bytes, pNat l ≤ 4611686018427387904], ⟨one (.hs nx), [(nx, some (.row (tyT E.P 8 e) (pRep (pNat l) d)))]⟩)
        else none
      | _, _ => none
    | none => none
  | _, _ => none

/-- zeros behind nothing: append(nil, make([]T, n)...), where the builtin takes the number -/
def aAppendZ (E : Env) (nx : Nat) (T T' : TypeId) : SV → SV → Out
  | .v false [.nil], .v false [.int _ n] =>
    match elemT E.P T, E.P.underlying T' with
    | some e, some (.int _) => match E.P.info? e, zeroT E.P e with
      | some i, some z =>
        if (tyT E.P 8 e).size = i.size ∧ z.length = i.size ∧ 0 < i.size then
          (asD (tyT E.P 8 e) z).map fun d => ([pLt 0 n = true, pRoom (pNat n) i.bytes, pNat n ≤ 4611686018427387904], ⟨one (.hs nx), [(nx, some (.row (tyT E.P 8 e) (pRep (pNat n) d)))]⟩)
        else none
      | _, _ => none
    | _, _ => none
  | _, _ => none

def aCap (E : Env) (T : TypeId) (x : SV) : Out :=
  match E.P.underlying T, x with
  | some (.slice _), .v false [.nil] => ret (.int .i64 0)
  | _, _ => none

def capsOf : List SV → Option (List (Nat × Nat))
  | [] => some []
  | .v false [.pt id off] :: r => (capsOf r).map ((id, off) :: ·)
  | _ => none

/- CALLS: what the arguments lead to, by new numbers -/
/-- the numbers met so far: (old, new) -/
abbrev Ren := List (Nat × Nat)
def Ren.to (r : Ren) (id : Nat) : Option Nat := look r id
def metC (keep : Bool) : C → List Nat
  | .hs id => if keep then [id] else []
  | .pt id _ => [id]
  | .pr id _ _ => [id]
  | .ht id _ => [id]
  | .sp id _ => [id]
  | .fn _ caps => caps.map (·.1)
  | _ => []
def metS (keep : Bool) : SV → List Nat
  | .v _ cs => cs.flatMap (metC keep)
  | _ => []
def metO : Obj → List Nat
  | .box cs => cs.flatMap (metC true)
  | .row _ _ => []
  | .nest d => (opCs d.op).flatMap (metC true)
  | .opq _ => []
def addNew (l : List Nat) : List Nat → List Nat
  | [] => l
  | a :: r => if l.contains a then addNew l r else addNew (l ++ [a]) r
/-- all that is reached, in the order in which it is met -/
def reach (m : Mem) : Nat → List Nat → List Nat
  | 0, l => l
  | n + 1, l => reach m n (addNew l (l.flatMap fun id => match m id with
    | some o => metO o
    | none => []))
def numAt (id : Nat) : Nat → List Nat → Option Nat
  | _, [] => none
  | n, a :: r => bif Nat.beq a id then some n else numAt id (n + 1) r
def renCaps (f : Nat → Option Nat) : List (Nat × Nat) → Option (List (Nat × Nat))
  | [] => some []
  | (id, off) :: r => match f id, renCaps f r with
    | some i, some l => some ((i, off) :: l)
    | _, _ => none
def renC (f : Nat → Option Nat) : C → Option C
  | .hs id => (f id).map .hs
  | .pt id off => (f id).map (.pt · off)
  | .pr id i off => (f id).map (.pr · i off)
  | .ht id lo => (f id).map (.ht · lo)
  | .sp id T => (f id).map (.sp · T)
  | .fn g caps => (renCaps f caps).map (.fn g)
  | c => some c
def renCs (f : Nat → Option Nat) : List C → Option (List C)
  | [] => some []
  | c :: r => match renC f c, renCs f r with
    | some c', some r' => some (c' :: r')
    | _, _ => none
def renOc (f : Nat → Option Nat) : List (Nat × C) → Option (List (Nat × C))
  | [] => some []
  | (j, c) :: r => match renC f c, renOc f r with
    | some c', some r' => some ((j, c') :: r')
    | _, _ => none
def renOp (f : Nat → Option Nat) : Option (Nat × List (Nat × C)) → Option (Option (Nat × List (Nat × C)))
  | none => some none
  | some (g, oc) => (renOc f oc).map fun oc' => some (g, oc')
def renO (f : Nat → Option Nat) : Obj → Option Obj
  | .box cs => (renCs f cs).map .box
  | .nest d => (renOp f d.op).map fun op => .nest { d with op := op }
  | o => some o
def renVs (f : Nat → Option Nat) : List (Bool × List C) → Option (List (Bool × List C))
  | [] => some []
  | (a, cs) :: r => match renCs f cs, renVs f r with
    | some cs', some r' => some ((a, cs') :: r')
    | _, _ => none
def renS (f : Nat → Option Nat) : SV → Option SV
  | .v a cs => (renCs f cs).map (.v a)
  | .tup vs => (renVs f vs).map .tup
  | .un => some .un
def renSs (f : Nat → Option Nat) : List SV → Option (List SV)
  | [] => some []
  | s :: r => match renS f s, renSs f r with
    | some s', some r' => some (s' :: r')
    | _, _ => none
def memFor (m : Mem) (f : Nat → Option Nat) : List Nat → Nat → Option (List (Nat × Option Obj))
  | [], _ => some []
  | id :: r, n => match m id, memFor m f r (n + 1) with
    | some o, some l => match renO f o with
      | some o' => some ((n, some o') :: l)
      | none => none
    | _, _ => none
/-- the objects behind a call, by the caller's numbers -/
def memBack (f : Nat → Option Nat) : List (Nat × Option Obj) → Option (List (Nat × Option Obj))
  | [] => some []
  | (n, o) :: r => match f n, memBack f r with
    | some id, some l => match o with
      | none => some ((id, none) :: l)
      | some o => match renO f o with
        | some o' => some ((id, some o') :: l)
        | none => none
    | _, _ => none
def back (ids : List Nat) (nx : Nat) (n : Nat) : Option Nat :=
  if n < ids.length then ids[n]? else if n < ids.length + 8 then some (nx + (n - ids.length)) else none

/- what names no block: it reads so whatever is stable -/
def flatT : Ty → Bool
  | .sl _ => false
  | .pair a b => flatT a && flatT b
  | .mark _ t => flatT t
  | _ => true
/-- the same of elements whose cells at the places ow are own rows -/
def flatAt (ow : List Nat) : Ty → Nat → Bool
  | .sl t, off => ow.contains off && flatT t
  | .pair a b, off => flatAt ow a off && flatAt ow b (off + a.size)
  | .mark _ t, off => flatAt ow t off
  | _, _ => true
def flatC : C → Bool
  | .sl _ _ => false
  | .pe _ _ _ _ => false
  | _ => true
def flatO : Option Obj → Bool
  | some (.box cs) => cs.all flatC
  | some (.row t _) => flatT t
  | some (.nest d) => d.op.isNone && flatAt d.ow d.t 0
  | some (.opq _) => true
  | none => true
def flatS : SV → Bool
  | .v _ cs => cs.all flatC
  | .tup vs => vs.all fun p => p.2.all flatC
  | .un => true
def turnO : Obj → Option Obj → Option (List Prop)
  | _, none => some []
  | .box _, some (.box _) => some []
  | .row t xs, some (.row t' ys) => if t = t' then some [pLen ys = pLen xs] else none
  | .nest d, some (.nest d') => if d.t = d'.t then some [pLen d'.xs = pLen d.xs] else none
  | .nest d, some (.row t' ys) => if d.t = t' then some [pLen ys = pLen d.xs] else none
  | _, _ => none
/-- objects that went in and are not told of are as they were; rows that stay keep their length -/
def turnAll (m1 : List (Nat × Option Obj)) : List (Nat × Option Obj) → Option (List Prop)
  | [] => some []
  | (n, some o) :: r => match turnAll m1 r with
    | some l => match look m1 n with
      | none => some l
      | some o' => match turnO o o' with
        | some l' => some (l' ++ l)
        | none => none
    | none => none
  | (_, none) :: _ => none
/-- rows with own rows in them, taken for plain rows -/
def flatD0 (m : Mem) (d : Nst) : Option (List d.t.den) :=
  match d.op with
  | none => some d.xs
  | some (g, oc) => bif (oc.map (·.2)).all (ownKid m) && distinct ((oc.map (·.2)).flatMap hsC) && d.ow.all (fun j => Nat.blt j d.t.size && (look oc j).isSome) then (asD d.t (nestGo d.ow (oc.map fun p => (p.1, roCell m p.2)) 0 (cellsOf d.t (pGet d.t d.xs g)))).map fun y => pSet d.xs g y else none
def flatD (m : Mem) (d : Nst) : Option (List d.t.den) := bif (tiedT d.t).isSome then none else flatD0 m d
/-- an own row that is lent: it stands for what it reads as, also when an element of it is told -/
def roCellO (m : Mem) : C → C
  | .hs id => match m id with
    | some (.row t xs) => .sl t xs
    | some (.nest d) => match flatD m d with
      | some xs => .sl d.t xs
      | none => .un
    | _ => .un
  | c => c
def roS (m : Mem) : SV → SV
  | .v a cs => .v a (cs.map (roCellO m))
  | s => s
def lentC (m : Mem) : C → List Nat
  | .hs id => id :: (match m id with
    | some (.nest d) => (opCs d.op).flatMap hsC
    | _ => [])
  | _ => []
def lentS (m : Mem) : SV → List Nat
  | .v _ cs => cs.flatMap (lentC m)
  | _ => []

def aCall (E : Env) (m : Mem) (nx : Nat) (f : FuncId) (args : List SV) : Out :=
  match E.ctr f with
  | none => none
  | some (keep, c) =>
    let lent := if keep then [] else args.flatMap (lentS m)
    let args1 := if keep then args else args.map (roS m)
    let ids := reach m 3 (addNew [] (args1.flatMap (metS true)))
    match renSs (fun id => numAt id 0 ids) args1, memFor m (fun id => numAt id 0 ids) ids 0 with
    | some args', some m0 =>
      match c args' m0 with
      | some (obs, r, m1) => match turnAll m1 m0, renS (back ids nx) r, memBack (back ids nx) m1 with
        | some obs', some r', some u =>
          bif distinct ids && lent.all (fun id => !ids.contains id) then
            some (obs ++ obs', ⟨r', u ++ (bif lent.isEmpty || (flatS r && (m1.all (fun x => flatO x.2) && m0.all fun x => flatO x.2)) then [] else lent.map fun id => (id, none))⟩) else none
        | _, _, _ => none
      | none => none
    | _, _ => none

def flat1 (m : Mem) (id : Nat) : List (Nat × Option Obj) :=
  match m id with
  | some (.nest d) => match flatD m d with
    | some xs => (id, some (.row d.t xs)) :: deads (opCs d.op)
    | none => []
  | _ => []
def upM (m : Mem) (u : List (Nat × Option Obj)) : Mem := fun i => match look u i with
  | some o => o
  | none => m i
def flatM (m : Mem) : List Nat → List (Nat × Option Obj)
  | [] => []
  | id :: r => let u := flatM m r
    flat1 (upM m u) id ++ u
def aCallF (E : Env) (m : Mem) (nx : Nat) (f : FuncId) (args : List SV) : Out :=
  match aCall E m nx f args with
  | some r => some r
  | none => match flatM m (reach m 3 (addNew [] (args.flatMap (metS true)))) with
    | [] => none
    | u => match aCall E (upM m u) nx f args with
      | some (obs, e) => some (obs, ⟨e.res, e.upd ++ u⟩)
      | none => none

def aop (E : Env) (m : Mem) (nx : Nat) (get : Operand → SV) (o : Op) : Out :=
  match o with
  | .move x => some ([], ⟨get x, []⟩)
  | .assign x => some ([], ⟨get x, []⟩)
  | .alloc T => (zeroP E.P nx T).map fun cs => ([], ⟨one (.pt nx 0), [(nx, some (.box cs))]⟩)
  | .box _ x => match get x with
    | .v _ cs => some ([], ⟨one (.pt nx 0), [(nx, some (.box cs))]⟩)
    | _ => none
  | .build T ps => aBuild E T (partsC get ps.toList)
  | .buildSlice T n ps => bif Nat.beq n 0 then aEmpty E nx T ps else bif (E.nst T).isEmpty then aBuildSlice E m nx T n (partsC get ps.toList) else aBuildNest E m nx T n (partsC get ps.toList)
  | .load T x => match nestAt m (get x) with
    | some (id, i, off, d) => aLoadN E nx T id i off d
    | none => aLoad E m T (get x)
  | .store T x y => match nestAt m (get x) with
    | some (id, i, off, d) => aStoreN E m nx T (get y) id i off d
    | none => aStore E m T (get y) (get x)
  | .nilCheck x => match get x with
    | .v false [.pt id off] => ret (.pt id off)
    | .v false [.pe t xs i off] => ret (.pe t xs i off)
    | .v false [.pr id i off] => ret (.pr id i off)
    | .v false [.gp g off] => ret (.gp g off)
    | _ => none
  | .binOp op T x y _ => match get x, y with
    | .v false [.ifc b], .const .nilIface => aIfc E op T b
    | _, _ => aBin E op T (get x) (get y)
  | .unOp .not _ x => match get x with
    | .v false [.bool b] => ret (.bool (pNot b))
    | _ => none
  | .unOp .neg _ x => match get x with
    | .v false [.int k n] => ret (.int k (pSubI k 0 n))
    | _ => none
  | .convert S D x => bif isText E.P S D then aText m (get x) else aConvert E S D (get x)
  | .makeSlice T l c => aMake E nx T (get l) (get c)
  | .makeFunc (.func f) first cs => match first.toList with
    | [] => (capsOf (cs.toList.map get)).map fun l => ([], ⟨one (.fn f l), []⟩)
    | _ => none
  | .slice T x lo hi mx => match get x with
    | .v false [.hs id] => aSliceOwn E m nx T id (lo.map get) (hi.map get) (mx.map get)
    | .v false [.nil] => aSliceNil E T (lo.map get) (hi.map get) (mx.map get)
    | _ => aSlice E T (get x) (lo.map get) (hi.map get) (mx.map get)
  | .fieldAddr T x f => aFieldAddr E T f (get x)
  | .field T x f => aField E T f (get x)
  | .indexAddr T x i => aIndexAddr E m T (get x) (get i)
  | .index T x i => aIndex E T (get x) (get i)
  | .extract x i => match get x with
    | .tup vs => match vs[i]? with
      | some (a, cs) => some ([], ⟨.v a cs, []⟩)
      | none => none
    | _ => none
  | .call c => match c.callee with
    | .builtin .len => match c.args.toList, c.argTypes.toList with
      | [x], T :: _ => aLen E m T (get x)
      | _, _ => none
    | .builtin .append => match c.args.toList, c.argTypes.toList with
      | [x, y], [T, T'] => bif isBuf m (get x) then aAppendB E m nx T T' (get x) (get y) else if T = T' then (bif (E.nst T).isEmpty then aAppend E m nx T T (get x) (get y) else aAppendN E m nx T (get x) (get y)) else bif isStr (get y) then aAppend E m nx T T' (get x) (get y) else aAppendZ E nx T T' (get x) (get y)
      | _, _ => none
    | .builtin .clear => match c.args.toList, c.argTypes.toList with
      | [x], [T] => aClear E m T (get x)
      | _, _ => none
    | .builtin .cap => match c.args.toList, c.argTypes.toList with
      | [x], T :: _ => aCap E T (get x)
      | _, _ => none
    | .builtin .min => match c.args.toList.map get with
      | [.v false [.int k a], .v false [.int _ b]] => ret (.int k (pMin a b))
      | _ => none
    | .builtin .max => match c.args.toList.map get with
      | [.v false [.int k a], .v false [.int _ b]] => ret (.int k (pMax a b))
      | _ => none
    | .value g => match get g with
      | .v false [.fn f caps] => aCallF E m nx f (c.args.toList.map get ++ caps.map fun (p : Nat × Nat) => one (.pt p.1 p.2))
      | _ => none
    | _ => none
  | _ => none

/- REGIONS -/
structure Step where
  at_ : Nat
  lo : Nat
  ids : List Nat
  upd : List Nat

def St.get (s : St) : Operand → SV
  | .tmp t => s.slot t
  | .const v => svOfValue v
  | .global g => one (.gp g 0)
  | .func f => one (.fn f [])

def idsS' : SV → List Nat
  | .un => []
  | .v _ cs => cs.flatMap idsC
  | .tup vs => vs.flatMap fun p => p.2.flatMap idsC
def maxIds : Nat := 8
def St.put (s : St) (dst : Option Tmp) (e : Eff) : St :=
  { s with
    slots := match dst with
      | some d => (d, e.res) :: s.slots
      | none => s.slots
    mem := e.upd ++ s.mem
    tch := e.upd.map (·.1) ++ s.tch }
def St.lit (s : St) (t : Nat) (b : Bool) : St := { s with slots := (t, one (.bool b)) :: s.slots }

def allP : List Prop → Prop → Prop
  | [], K => K
  | p :: ps, K => p ∧ allP ps K

def belowC (n : Nat) (cs : List C) : Bool := cs.all fun c => (idsC c).all (Nat.blt · n)
def belowS (n : Nat) : SV → Bool
  | .un => true
  | .v _ cs => belowC n cs
  | .tup vs => vs.all fun x => belowC n x.2
def belowO (n : Nat) : Option Obj → Bool
  | some (.box cs) => belowC n cs
  | some (.nest d) => belowC n (opCs d.op)
  | _ => true
def belowE (n : Nat) (e : Eff) : Bool := belowS n e.res && e.upd.all fun x => Nat.blt x.1 n && belowO n x.2

/-- the objects that an operation may look at -/
def opIds (m : Mem) (get : Operand → SV) (o : Op) : List Nat :=
  let d := addNew [] (o.operands.toList.flatMap fun x => metS true (get x))
  match o with
  | .nilCheck _ => d
  | .fieldAddr _ _ _ => d
  | .move x => addNew [] (idsS' (get x))
  | .assign x => addNew [] (idsS' (get x))
  | .indexAddr _ _ _ => d
  | .load _ _ => reach m 1 d
  | .extract _ _ => addNew [] (o.operands.toList.flatMap fun x => idsS' (get x))
  | _ => reach m 3 d
/-- an operation that moves a value looks at no object -/
def seen (o : Op) (ids : List Nat) : List Nat := match o with
  | .move _ => []
  | .assign _ => []
  | .extract _ _ => []
  | .pick _ _ _ => []
  | _ => ids
def only (ids : List Nat) (m : Mem) : Mem := fun id => if ids.contains id then m id else none

/-- an effect names what it was told of, and what it makes -/
def idsE (e : Eff) : List Nat := (match e.res with
  | .un => []
  | .v _ cs => cs.flatMap idsC
  | .tup vs => vs.flatMap fun p => p.2.flatMap idsC) ++ e.upd.flatMap fun x => match x.2 with
    | some (.box cs) => cs.flatMap idsC
    | some (.nest d) => (opCs d.op).flatMap idsC
    | _ => []
def effIn (ids : List Nat) (e : Eff) : Bool := (idsE e).all fun id => ids.contains id || (e.upd.map (·.1)).contains id

/- a slice against nil: one that is empty may be either -/
def isNilO : Operand → Bool
  | .const (.slice none 0 0) => true
  | _ => false
def slLen (m : Mem) : SV → Option Nat
  | .v false [.nil] => some 0
  | .v false [.sl _ xs] => some (pLen xs)
  | .v false [.hs id] => match m id with
    | some (.row _ xs) => some (pLen xs)
    | some (.nest d) => some (pLen d.xs)
    | _ => none
  | _ => none
def nilTest (P : Program) (s : St) : Op → Option (Bool × Nat)
  | .binOp .eql T x y _ => bif isNilO y && (elemT P T).isSome then (slLen s.obj (s.get x)).map fun n => (true, n) else none
  | .binOp .neq T x y _ => bif isNilO y && (elemT P T).isSome then (slLen s.obj (s.get x)).map fun n => (false, n) else none
  | _ => none

/- a call of a function whose code is taken in -/
def inlOf (E : Env) (get : Operand → SV) : Op → Option (Bool × CtrK × List SV)
  | .call c => match c.callee with
    | .value g => match get g with
      | .v false [.fn f caps] => match E.inl f with
        | some (d, k) => some (d, k, c.args.toList.map get ++ caps.map fun (p : Nat × Nat) => one (.pt p.1 p.2))
        | none => none
      | _ => none
    | _ => none
  | _ => none
def aInl (m : Mem) (nx : Nat) (k : CtrK) (args : List SV) (K : Eff → Prop) : Prop :=
  let ids := reach m 6 (addNew [] (args.flatMap (metS true)))
  match renSs (fun id => numAt id 0 ids) args, memFor m (fun id => numAt id 0 ids) ids 0 with
  | some args', some m0 => cond (distinct ids) (k args' m0 fun r m1 =>
      match turnAll m1 m0, renS (back ids nx) r, memBack (back ids nx) m1 with
      | some obs, some r', some u => allP obs (K ⟨r', u⟩)
      | _, _, _ => False) False
  | _, _ => False

/-- one operation that is wanted -/
def aStep (E : Env) (draw : Bool) (i : Nat) (o : Oper) (s : St) (tr : List Step) (K : St → List Step → Prop) : Prop :=
  let ids := if draw then opIds s.obj s.get o.op else []
  let m := if draw then only (seen o.op ids) s.obj else s.obj
  match nilTest E.P s o.op with
  | some (b, n) => cond (draw || E.det) False ((n = 0 → K (s.put o.dst ⟨one (.bool b), []⟩) (⟨i, s.next + i * maxIds, [], []⟩ :: tr)) ∧ K (s.put o.dst ⟨one (.bool (!b)), []⟩) (⟨i, s.next + i * maxIds, [], []⟩ :: tr))
  | none =>
  match inlOf E s.get o.op with
  | some (d, k, args) => cond ((draw || E.det) && !d) False (aInl m (s.next + i * maxIds) k args fun e =>
      cond (belowE (s.next + (i + 1) * maxIds) e && (!draw || effIn ids e)) (K (s.put o.dst e) (⟨i, s.next + i * maxIds, ids, e.upd.map (·.1)⟩ :: tr)) False)
  | none =>
  match o.op with
  | .pick (.tmp c) a b => match s.slot c with
    | .v false [.bool t] => cond t
        (cond (belowE (s.next + (i + 1) * maxIds) ⟨s.get a, []⟩ && (!draw || effIn (idsS' (s.get a)) ⟨s.get a, []⟩)) (K (s.put o.dst ⟨s.get a, []⟩) (⟨i, s.next + i * maxIds, idsS' (s.get a), []⟩ :: tr)) False)
        (cond (belowE (s.next + (i + 1) * maxIds) ⟨s.get b, []⟩ && (!draw || effIn (idsS' (s.get b)) ⟨s.get b, []⟩)) (K (s.put o.dst ⟨s.get b, []⟩) (⟨i, s.next + i * maxIds, idsS' (s.get b), []⟩ :: tr)) False)
    | _ => False
  | _ => match aop E m (s.next + i * maxIds) s.get o.op with
    | some (obs, e) => cond (belowE (s.next + (i + 1) * maxIds) e && (!draw || effIn ids e)) (allP obs (K (s.put o.dst e) (⟨i, s.next + i * maxIds, ids, e.upd.map (·.1)⟩ :: tr))) False
    | none => False

def undefE : Eff := ⟨.tup [], []⟩

def aRegion (E : Env) (ops : Array Oper) (draw : Bool) (K : St → List Step → Prop) : List (Oper × Nat) → St → List Step → Prop
  | [], s, tr => K s tr
  | (o, i) :: r, s, tr =>
    match o.guard with
    | none => aStep E draw i o s tr (aRegion E ops draw K r)
    | some (g, want) => match (ops[g]?).bind (·.dst) with
      | none => False
      | some c => match s.slot c with
        | .v false [.bool t] => cond t
            (cond want (aStep E draw i o (s.lit c true) tr (aRegion E ops draw K r)) (aRegion E ops draw K r ((s.lit c true).put o.dst undefE) (⟨i, s.next + i * maxIds, [], []⟩ :: tr)))
            (cond want (aRegion E ops draw K r ((s.lit c false).put o.dst undefE) (⟨i, s.next + i * maxIds, [], []⟩ :: tr)) (aStep E draw i o (s.lit c false) tr (aRegion E ops draw K r)))
        | .tup [] => aRegion E ops draw K r (s.put o.dst undefE) (⟨i, s.next + i * maxIds, [], []⟩ :: tr)
        | _ => False

/-- two operations of a region that draws, the later one first: may they stand in either order? -/
def apartS (a b : List Nat) : Bool := a.all fun x => !b.contains x
def offS (lo : Nat) (a : List Nat) : Bool := a.all fun x => Nat.blt x lo || Nat.ble (lo + maxIds) x
/-- by a chain of edges -/
def ordN (ops : Array Oper) : Nat → Oper → Nat → Bool
  | 0, _, _ => false
  | n + 1, o, i => o.after.any fun e => Region.binds .any e && (Nat.beq e.on i || (Nat.blt i e.on && match ops[e.on]? with
    | some o' => ordN ops n o' i
    | none => false))
def apartSteps (ops : Array Oper) (x y : Step) : Bool :=
  match ops[x.at_]?, ops[y.at_]? with
  | some ox, some oy =>
    ordN ops 1 ox y.at_ ||
      ((ox.apart ops oy && apartS x.upd (seen oy.op y.ids) && apartS y.upd (seen ox.op x.ids) && apartS x.upd y.upd && offS y.lo x.ids && offS y.lo x.upd) || ordN ops 6 ox y.at_)
  | _, _ => false
def fine (ops : Array Oper) : List Step → Bool
  | [] => true
  | x :: r => r.all (apartSteps ops x) && fine ops r
/-- the edges lead to earlier operations -/
def edgesOk (ops : Array Oper) : Bool := ops.toList.zipIdx.all fun x => x.1.after.all fun e => !Region.binds .any e || Nat.blt e.on x.2

/- CODE -/
inductive Ex where
  | normal | exit (id : Nat) | ret

/-- what changes from round to round: a slot of one cell, or an own box; (own, type): data, or an own row; a row that keeps its number -/
inductive Var where
  | slot (s : Nat) (own : Bool) (t : Ty)
  | agg (s : Nat) (ks : List (Bool × Ty))
  | box (id : Nat) (ks : List (Bool × Ty))
  | row (id : Nat) (t : Ty)
@[reducible] def kden : Bool → Ty → Type
  | true, t => List t.den
  | false, t => t.den
@[reducible] def denCells : List (Bool × Ty) → Type
  | [] => Unit
  | (own, t) :: r => kden own t × denCells r
@[reducible] def denVars : List Var → Type
  | [] => Unit
  | .slot _ own t :: r => kden own t × denVars r
  | .agg _ ks :: r => denCells ks × denVars r
  | .box _ ks :: r => denCells ks × denVars r
  | .row _ t :: r => List t.den × denVars r

structure Ann where
  vars : List Var
  inv : denVars vars → Prop
  mu : denVars vars → Nat

/-- what a slot holds, for annotations -/
def slotI (s : St) (t : Nat) : Int := match s.slot t with
  | .v false [.int _ n] => n
  | _ => 0

/-- the number of a pointer's box -/
def ptI (s : St) (t : Nat) : Nat := match s.slot t with
  | .v false [.pt id _] => id
  | _ => 0
/-- the number of the row whose handle a slot holds -/
def hsS (s : St) (t : Nat) : Nat := match s.slot t with
  | .v false [.hs i] => i
  | _ => 0
/-- the number that a box's cell bears -/
def hsI (s : St) (id off : Nat) : Nat := match s.obj id with
  | some (.box cs) => match cs[off]? with
    | some (.hs i) => i
    | some (.pt i _) => i
    | _ => 0
  | _ => 0

/-- the datum of one cell -/
def cell1 : (t : Ty) → t.den → C
  | .int k, n => .int k n
  | .bool, b => .bool b
  | .str, s => .str s
  | .sl t, xs => .sl t xs
  | _, _ => .un
def uncell1 : (t : Ty) → C → Option t.den
  | .unit, _ => some ()
  | .int k, .int k' n => if k = k' then some n else none
  | .bool, .bool b => some b
  | .str, .str s => some s
  | .sl t, .sl t' xs => if h : t' = t then some (h ▸ xs) else none
  | .sl _, .nil => some []
  | _, _ => none

/-- what a slot, or a box's cell, holds, for annotations: data; a row -/
def slotD (t : Ty) (s : St) (n : Nat) : t.den := match s.slot n with
  | .v false [c] => (uncell1 t c).getD t.dflt
  | _ => t.dflt
def rowC (t : Ty) (m : Mem) (c : C) : List t.den := match aElems m t c with
  | some xs => xs
  | none => match c with
    | .hs id => match m id with
      | some (.nest d) => if h : d.t = t then h ▸ ((flatD m d).getD []) else []
      | _ => []
    | _ => []
def rowD (t : Ty) (s : St) (n : Nat) : List t.den := match s.slot n with
  | .v false [c] => rowC t s.obj c
  | _ => []
def cellD (t : Ty) (s : St) (id off : Nat) : t.den := match s.obj id with
  | some (.box cs) => match cs[off]? with
    | some c => (uncell1 t c).getD t.dflt
    | none => t.dflt
  | _ => t.dflt
def crowD (t : Ty) (s : St) (id off : Nat) : List t.den := match s.obj id with
  | some (.box cs) => match cs[off]? with
    | some c => rowC t s.obj c
    | none => []
  | _ => []
/-- a struct's cells, as data -/
def aggD (t : Ty) (s : St) (n : Nat) : t.den := match s.slot n with
  | .v _ cs => (asD t (roCells s.obj cs)).getD t.dflt
  | _ => t.dflt
def boxD (t : Ty) (s : St) (id : Nat) : t.den := match s.obj id with
  | some (.box cs) => (asD t (roCells s.obj cs)).getD t.dflt
  | _ => t.dflt
/-- cells without those at some places -/
def dropAt (skip : List Nat) : Nat → List C → List C
  | _, [] => []
  | j, c :: r => cond (skip.contains j) (dropAt skip (j + 1) r) (c :: dropAt skip (j + 1) r)
/-- a box's cells but those at the places skip, as data -/
def boxX (t : Ty) (s : St) (id : Nat) (skip : List Nat) : t.den := match s.obj id with
  | some (.box cs) => (asD t (roCells s.obj (dropAt skip 0 cs))).getD t.dflt
  | _ => t.dflt

/-- the elements of a row with own rows in it -/
def markRead (m : Mem) (ow : List Nat) (t : Ty) : C → Option (List t.den)
  | .nil => some []
  | .hs id => match m id with
    | some (.nest d) => if h : d.t = t then (if d.ow = ow then (flatD m d).map fun xs => h ▸ xs else none) else none
    | _ => none
  | _ => none
/-- a cell that keeps what it names: [n]: an own row's handle; [n, off]: a pointer into a box; [n, T, _]: nil, or a pointer to a box of type T; .mark ns .unit is its kind -/
def keepC : List Nat → C
  | [n] => .hs n
  | [n, off] => .pt n off
  | [n, T, _] => .sp n T
  | _ => .un
def isKept : List Nat → C → Bool
  | [n], .hs n' => Nat.beq n n'
  | [n, off], .pt n' off' => Nat.beq n n' && Nat.beq off off'
  | [n, T, _], .sp n' T' => Nat.beq n n' && Nat.beq T T'
  | _, _ => false
/-- the kind of a number that stays as it is -/
abbrev litT (n : Nat) : Ty := .mark [] (.mark [n] .unit)
def isLit (n : Nat) : C → Bool
  | .int .i64 (.ofNat n') => Nat.beq n n'
  | _ => false
def kRead0 : (t : Ty) → C → Option t.den
  | .mark ns .unit, c => bif isKept ns c then some () else none
  | .mark [] (.mark [n] .unit), c => bif isLit n c then some () else none
  | t, c => uncell1 t c
def kPut0 : (t : Ty) → t.den → C
  | .mark ns .unit, _ => keepC ns
  | .mark [] (.mark [n] .unit), _ => .int .i64 (.ofNat n)
  | t, x => cell1 t x
def keepT : Bool → Ty → List Nat
  | false, .mark (n :: _) .unit => [n]
  | _, _ => []
def keepCells : List (Bool × Ty) → List Nat
  | [] => []
  | (own, t) :: r => keepT own t ++ keepCells r
def keepVars : List Var → List Nat
  | [] => []
  | .slot _ own t :: r => keepT own t ++ keepVars r
  | .agg _ ks :: r => keepCells ks ++ keepVars r
  | .box _ ks :: r => keepCells ks ++ keepVars r
  | .row _ _ :: r => keepVars r
def kRead (m : Mem) : (own : Bool) → (t : Ty) → C → Option (kden own t)
  | false, t, c => kRead0 t c
  | true, .mark ow t, c => markRead m ow t c
  | true, t, c => match c with
    | .sl _ _ => none
    | .sz => if (tiedT t).isSome then some [] else none
    | .nil => if (tiedT t).isSome then none else some []
    | c => aElems m t c
/-- the numbers of the rows that are read -/
def kId (m : Mem) : Bool → C → List Nat
  | true, .hs id => match m id with
    | some (.nest d) => id :: (opCs d.op).flatMap hsC
    | _ => [id]
  | _, _ => []
def readCells (m : Mem) : (ks : List (Bool × Ty)) → List C → Option (denCells ks)
  | [], [] => some ()
  | (own, t) :: r, c :: cs => match kRead m own t c, readCells m r cs with
    | some x, some y => some (x, y)
    | _, _ => none
  | _, _ => none
def idsCells (m : Mem) : List (Bool × Ty) → List C → List Nat
  | (own, _) :: r, c :: cs => kId m own c ++ idsCells m r cs
  | _, _ => []
def readVars (s : St) : (vs : List Var) → Option (denVars vs)
  | [] => some ()
  | .slot n own t :: r => match s.slot n with
    | .v false [c] => match kRead s.obj own t c, readVars s r with
      | some x, some y => some (x, y)
      | _, _ => none
    | _ => none
  | .agg n ks :: r => match s.slot n with
    | .v true cs => match readCells s.obj ks cs, readVars s r with
      | some x, some y => some (x, y)
      | _, _ => none
    | _ => none
  | .box id ks :: r => match s.obj id with
    | some (.box cs) => match readCells s.obj ks cs, readVars s r with
      | some x, some y => some (x, y)
      | _, _ => none
    | _ => none
  | .row id t :: r => match aElems s.obj t (.hs id), readVars s r with
    | some x, some y => some (x, y)
    | _, _ => none
def idsVars (s : St) : List Var → List Nat
  | [] => []
  | .slot n own _ :: r => (match s.slot n with
    | .v false [c] => kId s.obj own c
    | _ => []) ++ idsVars s r
  | .agg n ks :: r => (match s.slot n with
    | .v true cs => idsCells s.obj ks cs
    | _ => []) ++ idsVars s r
  | .box id ks :: r => (match s.obj id with
    | some (.box cs) => idsCells s.obj ks cs
    | _ => []) ++ idsVars s r
  | .row _ _ :: r => idsVars s r
def rowVars : List Var → List Nat
  | [] => []
  | .row id _ :: r => id :: rowVars r
  | .slot _ _ _ :: r => rowVars r
  | .agg _ _ :: r => rowVars r
  | .box _ _ :: r => rowVars r
/-- the state at a round's head: slots, objects, the next number -/
structure Head where
  slots : List (Nat × SV)
  mem : List (Nat × Option Obj)
  next : Nat
def kPut : (own : Bool) → (t : Ty) → kden own t → Nat → C
  | false, t, x, _ => kPut0 t x
  | true, _, _, n => .hs n
def kObj : (t : Ty) → List t.den → Obj
  | .mark ow t, x => .nest ⟨t, ow, x, none⟩
  | t, x => .row t x
def kMem : (own : Bool) → (t : Ty) → kden own t → Nat → List (Nat × Option Obj)
  | false, _, _, _ => []
  | true, t, x, n => [(n, some (kObj t x))]
def kNext : Bool → Nat → Nat
  | true, n => n + 1
  | false, n => n
def putCells : (ks : List (Bool × Ty)) → denCells ks → Nat → List C × List (Nat × Option Obj) × Nat
  | [], _, n => ([], [], n)
  | (own, t) :: r, x, n =>
    let z := putCells r x.2 (kNext own n)
    (kPut own t x.1 n :: z.1, kMem own t x.1 n ++ z.2.1, z.2.2)
def putVars : (vs : List Var) → denVars vs → Nat → Head
  | [], _, n => ⟨[], [], n⟩
  | .slot s own t :: r, x, n =>
    let z := putVars r x.2 (kNext own n)
    ⟨(s, one (kPut own t x.1 n)) :: z.slots, kMem own t x.1 n ++ z.mem, z.next⟩
  | .agg s ks :: r, x, n =>
    let y := putCells ks x.1 n
    let z := putVars r x.2 y.2.2
    ⟨(s, .v true y.1) :: z.slots, y.2.1 ++ z.mem, z.next⟩
  | .box id ks :: r, x, n =>
    let y := putCells ks x.1 n
    let z := putVars r x.2 y.2.2
    ⟨z.slots, y.2.1 ++ (id, some (.box y.1)) :: z.mem, z.next⟩
  | .row id t :: r, x, n =>
    let z := putVars r x.2 n
    ⟨z.slots, (id, some (.row t x.1)) :: z.mem, z.next⟩
def boxVars : List Var → List Nat
  | [] => []
  | .slot _ _ _ :: r => boxVars r
  | .agg _ _ :: r => boxVars r
  | .box id _ :: r => id :: boxVars r
  | .row id _ :: r => id :: boxVars r
def slotVars : List Var → List Nat
  | [] => []
  | .slot s _ _ :: r => s :: slotVars r
  | .agg s _ :: r => s :: slotVars r
  | .box _ _ :: r => slotVars r
  | .row _ _ :: r => slotVars r
/-- slots that are assigned to; where there are loops also those of F, which a loop may name anew -/
def Code.dsts (F : List Nat) : Code → List Nat
  | .region _ ops _ => ops.toList.filterMap (·.dst)
  | .seq a b => Code.dsts F a ++ Code.dsts F b
  | .cond _ a b => Code.dsts F a ++ Code.dsts F b
  | .block _ b => Code.dsts F b
  | .loop b => F ++ Code.dsts F b
  | .scope b => Code.dsts F b
  | _ => []
def Code.key : Code → Nat
  | .region id _ _ => id
  | .seq a _ => Code.key a
  | .cond _ a _ => Code.key a
  | .block _ b => Code.key b
  | .loop b => Code.key b
  | _ => 0
def loopHead (s : St) (ds dead : List Nat) (vs : List Var) (x : denVars vs) : St :=
  let h := putVars vs x s.next
  { slots := h.slots ++ s.slots.filter (fun p => !(ds.contains p.1) && !((slotVars vs).contains p.1))
    mem := h.mem ++ (dead.map fun id => (id, none)) ++ s.mem
    next := h.next
    tch := [] }

/-- what an entry, or a round, must come to: the variables read, rows that are each one's own, nothing else touched -/
def loopIn (ok : Nat → Bool) (s : St) (vs : List Var) (K : denVars vs → Prop) : Prop :=
  match readVars s vs with
  | some x => cond (distinct (rowVars vs ++ idsVars s vs) && (idsVars s vs).all ok) (K x) False
  | none => False

def dstBelow (n : Nat) (o : Oper) : Bool := match o.dst with
  | some t => Nat.blt t n
  | none => true

def awp (E : Env) (A : Nat → St → Option Ann) (n : Nat) (F : List Nat) : Code → (Ex → St → Prop) → St → Prop
  | .skip, Q, s => Q .normal s
  | .region _ ops d, Q, s => cond (ops.toList.all (dstBelow n)) (aRegion E ops d (fun s' tr =>
      cond (!d || (fine ops tr && edgesOk ops && E.P.follows .mixedOrders)) (Q .normal { s' with next := s'.next + ops.size * maxIds }) False) ops.toList.zipIdx s []) False
  | .seq a b, Q, s => awp E A n F a (fun e s' => match e with
      | .normal => awp E A n F b Q s'
      | e => Q e s') s
  | .cond c a b, Q, s => match s.get c with
      | .v false [.bool t] => cond t (awp E A n F a Q s) (awp E A n F b Q s)
      | _ => False
  | .block id b, Q, s => awp E A n F b (fun e s' => match e with
      | .exit id' => bif Nat.beq id' id then Q .normal s' else Q e s'
      | e => Q e s') s
  | .loop b, Q, s => match A (Code.key b) s with
      | none => False
      | some L => cond (((slotVars L.vars).all fun t => (F ++ Code.dsts F b).contains t) && (keepVars L.vars).all (Nat.blt · s.next)) (loopIn (fun _ => true) s L.vars (fun x => L.inv x ∧ ∀ y, L.inv y →
          awp E A n F b (fun e s' => match e with
            | .normal => cond (s'.tch.all fun id => Nat.ble s.next id || (boxVars L.vars).contains id)
                (loopIn (fun id => Nat.ble s.next id) s' L.vars (fun z => L.inv z ∧ L.mu z < L.mu y)) False
            | e => Q e { s' with tch := s'.tch ++ boxVars L.vars ++ idsVars s L.vars ++ s.tch })
            (loopHead s (F ++ Code.dsts F b) (idsVars s L.vars) L.vars y))) False
  | .exit id, Q, s => Q (.exit id) s
  | .ret, Q, s => Q .ret s
  | _, _, _ => False

/- FUNCTIONS -/
def resOf (E : Env) (s : St) : ResultVar → Option (Bool × List C)
  | .tmp t => match s.slot t with
    | .v a cs => some (a, cs)
    | _ => none
  | .cell a T => match aLoad E s.obj T (s.slot a) with
    | some (_, ⟨.v b cs, _⟩) => some (b, cs)
    | _ => none
def resAll (E : Env) (s : St) : List ResultVar → Option (List (Bool × List C))
  | [] => some []
  | r :: rs => match resOf E s r, resAll E s rs with
    | some x, some l => some (x :: l)
    | _, _ => none
def resSV : List (Bool × List C) → SV
  | [(a, cs)] => .v a cs
  | l => .tup l

def startSt (args : List SV) (m0 : List (Nat × Option Obj)) : St :=
  { slots := (args.zipIdx.map fun x => (x.2, x.1)), mem := m0, next := m0.length, tch := [] }

/-- the results, as a state's first slots -/
def endSt (s : St) (l : List (Bool × List C)) : St := { s with slots := (l.zipIdx.map fun x => (x.2, .v x.1.1 x.1.2)) }

/-- rows with own rows in them that are told of as plain rows -/
def isMark : Ty → Bool
  | .mark _ _ => true
  | _ => false
def plainK : Bool → Ty → C → List Nat
  | true, t, .hs id => cond (isMark t) [] [id]
  | _, _, _ => []
def plainCells : List (Bool × Ty) → List C → List Nat
  | (own, t) :: r, c :: cs => plainK own t c ++ plainCells r cs
  | _, _ => []
def plainVars (s : St) : List Var → List Nat
  | [] => []
  | .slot n own t :: r => (match s.slot n with
    | .v false [c] => plainK own t c
    | _ => []) ++ plainVars s r
  | .agg n ks :: r => (match s.slot n with
    | .v true cs => plainCells ks cs
    | _ => []) ++ plainVars s r
  | .box id ks :: r => (match s.obj id with
    | some (.box cs) => plainCells ks cs
    | _ => []) ++ plainVars s r
  | .row _ _ :: r => plainVars s r
def St.flat (s : St) (ids : List Nat) : St := { s with mem := flatM s.obj ids ++ s.mem, tch := (flatM s.obj ids).map (·.1) ++ s.tch }
def St.flatFor (s : St) (vs : List Var) : St := s.flat (plainVars s vs)

/-- A function on arguments and objects: what its results, and boxes, are in the end (vs; in order: slots 0, 1, .. are the results); objects that it may let go (dead). -/
def afn (E : Env) (A : Nat → St → Option Ann) (f : Func) (args : List SV) (m0 : List (Nat × Option Obj)) (dead : List Nat) (vs : List Var) (Q : denVars vs → Prop) : Prop :=
  match f.body with
  | none => False
  | some c => cond (Nat.ble args.length f.ntmps && (slotVars vs == List.range f.results.size) && (boxVars vs).all (Nat.blt · m0.length) && (keepVars vs).all (Nat.blt · m0.length)) (awp E A f.ntmps E.ren c (fun e s => match e with
      | .exit _ => False
      | _ => match resAll E s f.results.toList with
        | some l => cond (((endSt s l).flatFor vs).tch.all fun id => Nat.ble m0.length id || (boxVars vs).contains id || dead.contains id)
            (loopIn (fun id => Nat.ble m0.length id || dead.contains id) ((endSt s l).flatFor vs) vs Q) False
        | none => False) (startSt args m0)) False

/- A FUNCTION'S CODE, TAKEN IN: its endings by the numbers of what went in; what is new is numbered on -/
def finL (m : Mem) (g : Nat → Option Nat) : List (Nat × Nat) → Option (List (Nat × Option Obj))
  | [] => some []
  | (id, n) :: r => match finL m g r with
    | none => none
    | some l => match m id with
      | none => some ((n, none) :: l)
      | some o => match renO g o with
        | some o' => some ((n, some o') :: l)
        | none => none
def finOld (s : St) (n0 : Nat) : List Nat := (addNew [] s.tch).filter (Nat.blt · n0)
def finNew (s : St) (n0 : Nat) (l : List (Bool × List C)) : List Nat := (reach s.obj 6 (addNew (finOld s n0) (l.flatMap fun p => p.2.flatMap idsC))).filter (Nat.ble n0 ·)
def finG (n0 : Nat) (news : List Nat) (id : Nat) : Option Nat := bif Nat.blt id n0 then some id else numAt id n0 news
def finK (E : Env) (f : Func) (n0 : Nat) (s : St) (G : SV → List (Nat × Option Obj) → Prop) : Prop :=
  match resAll E s f.results.toList with
  | none => False
  | some l =>
    match renVs (finG n0 (finNew s n0 l)) l, finL s.obj (finG n0 (finNew s n0 l)) ((finOld s n0).map (fun id => (id, id)) ++ (finNew s n0 l).zipIdx n0) with
    | some l', some u => cond (distinct (finNew s n0 l)) (G (resSV l') u) False
    | _, _ => False
def inlC (E : Env) (A : Nat → St → Option Ann) (f : Func) : CtrK := fun args m0 G => match f.body with
  | none => False
  | some c => cond (Nat.ble args.length f.ntmps) (awp E A f.ntmps E.ren c (fun e s => match e with
      | .exit _ => False
      | _ => finK E f m0.length s G) (startSt args m0)) False

/-- the answer of a contract: results, objects -/
def outOf (vs : List Var) (dead : List Nat) (x : denVars vs) (m0 : List (Nat × Option Obj)) : SV × List (Nat × Option Obj) :=
  let h := putVars vs x m0.length
  (resSV ((slotVars vs).map fun t => match look h.slots t with
    | some (.v a cs) => (a, cs)
    | _ => (false, [])), h.mem ++ dead.map fun id => (id, none))

end Go.Proofs.YtedjlbcclhgfmaaDoor

/- THE MACHINE OF READINGS, part B: what it means that a world's values read as abstract ones. -/
namespace Go.Proofs.YtedjlbcclhgfmaaDoor
open Go.RowKit

inductive All2 {α β : Type} (R : α → β → Prop) : List α → List β → Prop where
  | nil : All2 R [] []
  | cons {a : α} {b : β} {as : List α} {bs : List β} : R a b → All2 R as bs → All2 R (a :: as) (b :: bs)

section
variable {α β : Type} {R S : α → β → Prop}
theorem All2.len : ∀ {as : List α} {bs : List β}, All2 R as bs → as.length = bs.length
  | _, _, .nil => rfl
  | _, _, .cons _ h => by simp [h.len]
theorem All2.mono (h : ∀ a b, R a b → S a b) : ∀ {as : List α} {bs : List β}, All2 R as bs → All2 S as bs
  | _, _, .nil => .nil
  | _, _, .cons a b => .cons (h _ _ a) (b.mono h)
theorem All2.mono' : ∀ {as : List α} {bs : List β}, All2 R as bs → (∀ a ∈ as, ∀ b, R a b → S a b) → All2 S as bs
  | _, _, .nil, _ => .nil
  | _, _, .cons a b, h => .cons (h _ (by simp) _ a) (b.mono' fun x hx => h x (by simp [hx]))
theorem All2.append : ∀ {as : List α} {bs : List β} {cs : List α} {ds : List β}, All2 R as bs → All2 R cs ds → All2 R (as ++ cs) (bs ++ ds)
  | _, _, _, _, .nil, h => h
  | _, _, _, _, .cons a b, h => .cons a (b.append h)
theorem All2.take : ∀ {as : List α} {bs : List β} (n : Nat), All2 R as bs → All2 R (as.take n) (bs.take n)
  | _, _, _, .nil => by simp; exact .nil
  | _, _, 0, .cons _ _ => .nil
  | _, _, n + 1, .cons a b => by simpa using All2.cons a (b.take n)
theorem All2.drop : ∀ {as : List α} {bs : List β} (n : Nat), All2 R as bs → All2 R (as.drop n) (bs.drop n)
  | _, _, _, .nil => by simp; exact .nil
  | _, _, 0, .cons a b => .cons a b
  | _, _, n + 1, .cons _ b => by simpa using b.drop n
theorem All2.get : ∀ {as : List α} {bs : List β} (i : Nat) {a : α}, All2 R as bs → as[i]? = some a → ∃ b, bs[i]? = some b ∧ R a b
  | _, _, _, _, .nil, h => by simp at h
  | _, _, 0, _, .cons a _, h => by simp at h; subst h; exact ⟨_, rfl, a⟩
  | _, _, n + 1, _, .cons _ b, h => by simp at h ⊢; exact b.get n h
theorem All2.getR : ∀ {as : List α} {bs : List β} (i : Nat) {b : β}, All2 R as bs → bs[i]? = some b → ∃ a, as[i]? = some a ∧ R a b
  | _, _, _, _, .nil, h => by simp at h
  | _, _, 0, _, .cons a _, h => by simp at h; subst h; exact ⟨_, rfl, a⟩
  | _, _, n + 1, _, .cons _ b, h => by simp at h ⊢; exact b.getR n h
theorem All2.inv_append : ∀ {as cs : List α} {bs : List β}, All2 R (as ++ cs) bs → ∃ b1 b2, bs = b1 ++ b2 ∧ All2 R as b1 ∧ All2 R cs b2
  | [], _, _, h => ⟨[], _, rfl, .nil, h⟩
  | _ :: _, _, _, .cons h1 h2 => by
    obtain ⟨b1, b2, rfl, h3, h4⟩ := h2.inv_append
    exact ⟨_ :: b1, b2, rfl, .cons h1 h3, h4⟩
end

/-- blocks that stay as they are -/
abbrev Blk := Nat → Prop

/-- The cells vs, in the world w, read as x; what they lead to lies in blocks of N. -/
def Rd : (t : Ty) → World → Blk → List Value → t.den → Prop
  | .unit, _, _, vs, _ => vs = []
  | .int k, _, _, vs, n => vs = [.int k n]
  | .bool, _, _, vs, b => vs = [.bool b]
  | .str, _, _, vs, s => vs = [.string s]
  | .sl t, w, N, vs, xs => ∃ A n c, vs = [.slice A n c] ∧ xs.length = n ∧ n ≤ c ∧
      (0 < n → ∃ b off, A = some ⟨b, off, none⟩ ∧ N b ∧ ∀ (k : Nat) (h : k < xs.length), ∃ us : List Value, Rd t w N us xs[k] ∧ us.length = t.size ∧
        ∀ (j : Nat) (u : Value), us[j]? = some u → w.cell? ⟨b, off + k * t.size + j, none⟩ = some u)
  | .pair a b, w, N, vs, x => ∃ v1 v2, vs = v1 ++ v2 ∧ Rd a w N v1 x.1 ∧ Rd b w N v2 x.2
  | .mark _ t, w, N, vs, x => Rd t w N vs x

theorem Rd.len : ∀ {t : Ty} {w : World} {N : Blk} {vs : List Value} {x : t.den}, Rd t w N vs x → vs.length = t.size
  | .unit, _, _, _, _, h => by have h : _ = _ := h; subst h; rfl
  | .int _, _, _, _, _, h => by have h : _ = _ := h; subst h; rfl
  | .bool, _, _, _, _, h => by have h : _ = _ := h; subst h; rfl
  | .str, _, _, _, _, h => by have h : _ = _ := h; subst h; rfl
  | .sl _, _, _, _, _, h => by obtain ⟨A, n, c, rfl, _⟩ := h; rfl
  | .pair _ _, _, _, _, _, h => by
    obtain ⟨v1, v2, rfl, h1, h2⟩ := h
    simp [Ty.size, h1.len, h2.len]
  | .mark _ t, _, _, _, _, h => Rd.len (t := t) h

theorem Rd.one : ∀ {t : Ty} {w : World} {N : Blk} {vs : List Value} {x : t.den}, Rd t w N vs x → ∀ u ∈ vs, u.oneCell' = true
  | .unit, _, _, _, _, h => by have h : _ = _ := h; subst h; simp
  | .int _, _, _, _, _, h => by have h : _ = _ := h; subst h; simp [Value.oneCell']
  | .bool, _, _, _, _, h => by have h : _ = _ := h; subst h; simp [Value.oneCell']
  | .str, _, _, _, _, h => by have h : _ = _ := h; subst h; simp [Value.oneCell']
  | .sl _, _, _, _, _, h => by obtain ⟨A, n, c, rfl, _⟩ := h; simp [Value.oneCell']
  | .pair _ _, _, _, _, _, h => by
    obtain ⟨v1, v2, rfl, h1, h2⟩ := h
    intro u hu
    rcases List.mem_append.1 hu with hu | hu
    · exact h1.one u hu
    · exact h2.one u hu
  | .mark _ t, _, _, _, _, h => Rd.one (t := t) h

/-- w' is as w in the blocks of N -/
def SameOn (N : Blk) (w w' : World) : Prop := ∀ b, N b → w'.heap[b]? = w.heap[b]?
theorem SameOn.cell {N : Blk} {w w' : World} (h : SameOn N w w') {b off : Nat} (hb : N b) : w'.cell? ⟨b, off, none⟩ = w.cell? ⟨b, off, none⟩ := by
  simp [World.cell?, h b hb]

theorem Rd.mono : ∀ {t : Ty} {w w' : World} {N N' : Blk} {vs : List Value} {x : t.den}, Rd t w N vs x → (∀ b, N b → N' b) → SameOn N w w' → Rd t w' N' vs x
  | .unit, _, _, _, _, _, _, h, _, _ => h
  | .int _, _, _, _, _, _, _, h, _, _ => h
  | .bool, _, _, _, _, _, _, h, _, _ => h
  | .str, _, _, _, _, _, _, h, _, _ => h
  | .sl _, _, _, _, _, _, _, h, hN, hs => by
    obtain ⟨A, n, c, hv, hl, hc, hx⟩ := h
    refine ⟨A, n, c, hv, hl, hc, fun h0 => ?_⟩
    obtain ⟨b, off, hA, hb, hk⟩ := hx h0
    refine ⟨b, off, hA, hN b hb, fun k h => ?_⟩
    obtain ⟨us, hr, hlen, hcell⟩ := hk k h
    exact ⟨us, hr.mono hN hs, hlen, fun j u hj => (hs.cell hb).trans (hcell j u hj)⟩
  | .pair _ _, _, _, _, _, _, _, h, hN, hs => by
    obtain ⟨v1, v2, rfl, h1, h2⟩ := h
    exact ⟨v1, v2, rfl, h1.mono hN hs, h2.mono hN hs⟩
  | .mark _ t, _, _, _, _, _, _, h, hN, hs => Rd.mono (t := t) h hN hs

/-- where an object lies: a box or a row: its address; a row's capacity -/
structure Pl where
  A : Option Addr
  cap : Nat
  sub : Nat → Nat → Option Addr × Nat
abbrev pl0 (A : Option Addr) (cap : Nat) : Pl := ⟨A, cap, fun _ _ => (none, 0)⟩

/-- a row's element size, and its length -/
def Obj.rw : Obj → Option (Nat × Nat)
  | .box _ => none
  | .row t xs => some (t.size, xs.length)
  | .nest d => some (d.t.size, d.xs.length)
  | .opq z => some z

/-- One cell. -/
def CR (w : World) (N : Blk) (ρ : Nat → Pl) (m : Mem) : C → Value → Prop
  | .un, v => v.oneCell' = true
  | .int k n, v => v = .int k n
  | .bool b, v => v = .bool b
  | .str s, v => v = .string s
  | .nil, v => ∃ A, v = .slice A 0 0
  | .sl t xs, v => Rd (.sl t) w N [v] xs
  | .hs id, v => (∃ A n c, v = .slice A n c) ∧ ∀ o z, m id = some o → o.rw = some z → v = .slice (ρ id).A z.2 (ρ id).cap
  | .pt id off, v => ∃ b, (ρ id).A = some ⟨b, 0, none⟩ ∧ v = .pointer (some ⟨b, off, none⟩)
  | .pe t xs i off, v => ∃ b o, v = .pointer (some ⟨b, o + off, none⟩) ∧ N b ∧ i < xs.length ∧
      ∃ us : List Value, Rd t w N us (pGet t xs i) ∧ ∀ (j : Nat) (u : Value), us[j]? = some u → w.cell? ⟨b, o + j, none⟩ = some u
  | .pr id i off, v => (∃ a, v = .pointer (some a)) ∧ ∀ o z, m id = some o → o.rw = some z → i < z.2 ∧ ∃ b, (ρ id).A = some ⟨b, 0, none⟩ ∧ v = .pointer (some ⟨b, i * z.1 + off, none⟩)
  | .ht id lo, v => (∃ A n c, v = .slice A n c) ∧ ∀ o z, m id = some o → o.rw = some z → lo ≤ z.2 ∧ v = .slice (if (ρ id).cap = lo then (ρ id).A else (ρ id).A.map (·.add (lo * z.1))) (z.2 - lo) ((ρ id).cap - lo)
  | .gp g off, v => v = .pointer (some ⟨g, off, none⟩)
  | .sz, v => v = .slice none 0 0
  | .sp id T, v => (ρ id).cap = T ∧ (v = .pointer none ∨ ∃ b, (ρ id).A = some ⟨b, 0, none⟩ ∧ v = .pointer (some ⟨b, 0, none⟩))
  | .ifc b, v => (b = true ∧ ∃ t p, v = .iface t p) ∨ (b = false ∧ v = .nilIface)
  | .fn f caps, v => ∃ vs : List Value, v = .func (.func f) #[] vs.toArray ∧ All2 (fun (p : Nat × Nat) u => ∃ b, (ρ p.1).A = some ⟨b, 0, none⟩ ∧ u = .pointer (some ⟨b, p.2, none⟩)) caps vs

theorem CR.one {w : World} {N : Blk} {ρ : Nat → Pl} {m : Mem} : ∀ {c : C} {v : Value}, CR w N ρ m c v → v.oneCell' = true
  | .un, _, h => h
  | .int _ _, _, h => by have h : _ = _ := h; subst h; rfl
  | .bool _, _, h => by have h : _ = _ := h; subst h; rfl
  | .str _, _, h => by have h : _ = _ := h; subst h; rfl
  | .nil, _, h => by obtain ⟨A, rfl⟩ := h; rfl
  | .sl _ _, _, h => Rd.one h _ (by simp)
  | .hs _, _, h => by obtain ⟨⟨A, n, c, rfl⟩, _⟩ := h; rfl
  | .pt _ _, _, h => by obtain ⟨b, _, rfl⟩ := h; rfl
  | .pe _ _ _ _, _, h => by obtain ⟨b, o, rfl, _⟩ := h; rfl
  | .pr _ _ _, _, h => by obtain ⟨⟨a, rfl⟩, _⟩ := h; rfl
  | .ht _ _, _, h => by obtain ⟨⟨A, n, c, rfl⟩, _⟩ := h; rfl
  | .gp _ _, _, h => by have h : _ = _ := h; subst h; rfl
  | .sz, _, h => by have h : _ = _ := h; subst h; rfl
  | .sp _ _, _, h => by
    have h := h.2
    rcases h with rfl | ⟨b, _, rfl⟩ <;> rfl
  | .ifc _, _, h => by
    have h : _ ∨ _ := h
    rcases h with ⟨_, t, p, rfl⟩ | ⟨_, rfl⟩ <;> rfl
  | .fn _ _, _, h => by obtain ⟨vs, rfl, _⟩ := h; rfl

/-- A value of one cell, or a struct. -/
def VR (w : World) (N : Blk) (ρ : Nat → Pl) (m : Mem) (agg : Bool) (cs : List C) (v : Value) : Prop :=
  match agg with
  | false => ∃ c, cs = [c] ∧ CR w N ρ m c v
  | true => ∃ vs : List Value, v = .agg vs.toArray ∧ All2 (CR w N ρ m) cs vs

def SVR (w : World) (N : Blk) (ρ : Nat → Pl) (m : Mem) : SV → Value → Prop
  | .un, _ => True
  | .v agg cs, v => VR w N ρ m agg cs v
  | .tup l, v => ∃ vs : List Value, v = .tuple vs.toArray ∧ All2 (fun (p : Bool × List C) u => VR w N ρ m p.1 p.2 u) l vs

theorem VR.cells {w : World} {N : Blk} {ρ : Nat → Pl} {m : Mem} {agg : Bool} {cs : List C} {v : Value} (h : VR w N ρ m agg cs v) : All2 (CR w N ρ m) cs v.cells.toList := by
  cases agg with
  | true => obtain ⟨vs, rfl, h⟩ := h; simpa [Value.cells] using h
  | false =>
    obtain ⟨c, rfl, h⟩ := h
    have h1 := h.one
    have : v.cells = #[v] := by cases v <;> first | rfl | simp [Value.oneCell'] at h1
    rw [this]
    exact .cons h .nil

/-- does an element's own cells hang on nothing that is told? -/
def Nst.shut (d : Nst) (k : Nat) : Prop := ∀ g oc, d.op = some (g, oc) → k ≠ g
def Nst.oc (d : Nst) (k : Nat) : List (Nat × C) := match d.op with
  | some (g, oc) => if k = g then oc else []
  | none => []
/-- the blocks that own rows within a row hold -/
def Kid (p : Pl) (d : Nst) (k j b : Nat) : Prop := k < d.xs.length ∧ j ∈ d.ow ∧ d.shut k ∧ 0 < (p.sub k j).2 ∧ (p.sub k j).1 = some ⟨b, 0, none⟩
/-- the blocks that an object holds -/
def Bl (p : Pl) : Obj → Nat → Prop
  | .box _, b => p.A = some ⟨b, 0, none⟩
  | .row _ _, b => 0 < p.cap ∧ p.A = some ⟨b, 0, none⟩
  | .nest d, b => (0 < p.cap ∧ p.A = some ⟨b, 0, none⟩) ∨ ∃ k j, Kid p d k j b
  | .opq _, _ => False

/-- a row, in its place -/
def RowAt (w : World) (N : Blk) (A : Option Addr) (cap : Nat) (t : Ty) (xs : List t.den) : Prop :=
  (xs.length ≤ cap ∧ cap ≤ 9223372036854775807) ∧ (0 < cap → ∃ b vals T, A = some ⟨b, 0, none⟩ ∧ w.heap[b]? = some (.cells vals T (0, 0)) ∧
      vals.size = cap * t.size ∧ ∀ (k : Nat) (h : k < xs.length), ∃ us : List Value, Rd t w N us xs[k] ∧ ∀ (j : Nat) (u : Value), us[j]? = some u → vals[k * t.size + j]? = some u)

/-- a row whose block's type is known -/
def Tie (w : World) (p : Pl) (t : Ty) : Prop := ∀ e, tiedT t = some e → (p.cap = 0 → p.A = none) ∧ ∀ b vals T fz, 0 < p.cap → p.A = some ⟨b, 0, none⟩ → w.heap[b]? = some (.cells vals T fz) → T = e
theorem Tie.none {w : World} {p : Pl} {t : Ty} (h : tiedT t = none) : Tie w p t := fun e he => by rw [h] at he; cases he
theorem tied_cat : ∀ {a r : Ty}, (a = .unit ∨ ∃ x y, a = .pair x y) → tiedT a = .none → tiedT r = .none → tiedT (Ty.cat a r) = .none
  | .unit, _, _, _, h => h
  | .pair (.mark (_ :: _) .unit) _, _, _, h, _ => by cases h
  | .pair .unit _, _, _, _, _ => rfl
  | .pair (.int _) _, _, _, _, _ => rfl
  | .pair .bool _, _, _, _, _ => rfl
  | .pair .str _, _, _, _, _ => rfl
  | .pair (.sl _) _, _, _, _, _ => rfl
  | .pair (.pair _ _) _, _, _, _, _ => rfl
  | .pair (.mark [] _) _, _, _, _, _ => rfl
  | .pair (.mark (_ :: _) (.int _)) _, _, _, _, _ => rfl
  | .pair (.mark (_ :: _) .bool) _, _, _, _, _ => rfl
  | .pair (.mark (_ :: _) .str) _, _, _, _, _ => rfl
  | .pair (.mark (_ :: _) (.sl _)) _, _, _, _, _ => rfl
  | .pair (.mark (_ :: _) (.pair _ _)) _, _, _, _, _ => rfl
  | .pair (.mark (_ :: _) (.mark _ _)) _, _, _, _, _ => rfl
  | .int _, _, h, _, _ => by rcases h with h | ⟨_, _, h⟩ <;> cases h
  | .bool, _, h, _, _ => by rcases h with h | ⟨_, _, h⟩ <;> cases h
  | .str, _, h, _, _ => by rcases h with h | ⟨_, _, h⟩ <;> cases h
  | .sl _, _, h, _, _ => by rcases h with h | ⟨_, _, h⟩ <;> cases h
  | .mark _ _, _, h, _, _ => by rcases h with h | ⟨_, _, h⟩ <;> cases h
theorem shape_cat : ∀ {a r : Ty}, (a = .unit ∨ ∃ x y, a = .pair x y) → (r = .unit ∨ ∃ x y, r = .pair x y) → (Ty.cat a r = .unit ∨ ∃ x y, Ty.cat a r = .pair x y) := by
  intro a r ha hr
  rcases ha with rfl | ⟨x, y, rfl⟩
  · exact hr
  · exact .inr ⟨_, _, rfl⟩
theorem tied_tyT (P : Program) : ∀ (n : Nat) (t : TypeId), (tyT P n t = .unit ∨ ∃ x y, tyT P n t = .pair x y) ∧ tiedT (tyT P n t) = .none
  | 0, _ => ⟨.inl rfl, rfl⟩
  | n + 1, t => by
    unfold tyT
    split
    · exact ⟨.inr ⟨_, _, rfl⟩, rfl⟩
    · exact ⟨.inr ⟨_, _, rfl⟩, rfl⟩
    · exact ⟨.inr ⟨_, _, rfl⟩, rfl⟩
    · exact ⟨.inr ⟨_, _, rfl⟩, rfl⟩
    · rename_i fs _
      induction fs.toList with
      | nil => exact ⟨.inl rfl, rfl⟩
      | cons f r ih =>
        have h := tied_tyT P n f.type
        exact ⟨shape_cat h.1 ih.1, tied_cat h.1 h.2 ih.2⟩
    · exact ⟨.inl rfl, rfl⟩
theorem Tie.ofT {w : World} {p : Pl} {P : Program} {n : Nat} {t : TypeId} : Tie w p (tyT P n t) := .none (tied_tyT P n t).2
theorem Tie.step {w w' : World} {p : Pl} {t : Ty} (h : Tie w p t) (hk : ∀ b vals T fz, 0 < p.cap → p.A = some ⟨b, 0, Option.none⟩ → w'.heap[b]? = some (.cells vals T fz) → ∃ vals' fz', w.heap[b]? = some (.cells vals' T fz')) : Tie w' p t := fun e he => by
  obtain ⟨h1, h2⟩ := h e he
  refine ⟨h1, fun b vals T fz hc hA hh => ?_⟩
  obtain ⟨vals', fz', hh'⟩ := hk b vals T fz hc hA hh
  exact h2 b vals' T fz' hc hA hh'
theorem Tie.keep {w w' : World} {p : Pl} {t : Ty} (h : Tie w p t) (hk : ∀ b, 0 < p.cap → p.A = some ⟨b, 0, Option.none⟩ → w'.heap[b]? = w.heap[b]?) : Tie w' p t :=
  h.step fun b vals T fz hc hA hh => ⟨vals, fz, (hk b hc hA).symm.trans hh⟩
theorem Tie.set {w w' : World} {p : Pl} {t : Ty} {b : Nat} {vals vals2 : Array Value} {T : TypeId} {fz fz2 : Nat × Nat} (h : Tie w p t) (hA : p.A = some ⟨b, 0, Option.none⟩) (h1 : w.heap[b]? = some (.cells vals T fz)) (h2 : w'.heap[b]? = some (.cells vals2 T fz2)) : Tie w' p t :=
  h.step fun b' v' T' f' _ hA' hh' => by
    rw [hA] at hA'
    simp only [Option.some.injEq, Addr.mk.injEq, and_true] at hA'
    subst hA'
    rw [h2] at hh'
    simp only [Option.some.injEq, Go.Obj.cells.injEq] at hh'
    rw [← hh'.2.1]
    exact ⟨vals, fz, h1⟩
/-- An object, in its place. -/
def ObjR (w : World) (N : Blk) (ρ : Nat → Pl) (m : Mem) (id : Nat) : Obj → Prop
  | .box cs => ∃ b vals T, (ρ id).A = some ⟨b, 0, none⟩ ∧ w.heap[b]? = some (.cells vals T (0, 0)) ∧ All2 (CR w N ρ m) cs vals.toList ∧ (ρ id).cap = T
  | .row t xs => RowAt w N (ρ id).A (ρ id).cap t xs ∧ Tie w (ρ id) t
  | .nest d => (d.xs.length ≤ (ρ id).cap ∧ (ρ id).cap ≤ 9223372036854775807) ∧ (∀ g oc, d.op = some (g, oc) → g < d.xs.length) ∧
      (0 < (ρ id).cap → ∃ b vals T, (ρ id).A = some ⟨b, 0, none⟩ ∧ w.heap[b]? = some (.cells vals T (0, 0)) ∧ vals.size = (ρ id).cap * d.t.size ∧
        ∀ k, k < d.xs.length → ∃ us : List Value, us.length = d.t.size ∧ All2 (CR w N ρ m) (nestGo d.ow (d.oc k) 0 (cellsOf d.t (pGet d.t d.xs k))) us ∧ (∀ (j : Nat) (u : Value), us[j]? = some u → vals[k * d.t.size + j]? = some u) ∧
          (d.shut k → ∀ j t' ys, j ∈ d.ow → (cellsOf d.t (pGet d.t d.xs k))[j]? = some (.sl t' ys) → us[j]? = some (.slice ((ρ id).sub k j).1 ys.length ((ρ id).sub k j).2))) ∧
      (∀ k, k < d.xs.length → d.shut k → ∀ j, j ∈ d.ow → ∃ t' ys, (cellsOf d.t (pGet d.t d.xs k))[j]? = some (.sl t' ys) ∧ RowAt w N ((ρ id).sub k j).1 ((ρ id).sub k j).2 t' ys) ∧
      (∀ k j k' j' b, Kid (ρ id) d k j b → Kid (ρ id) d k' j' b → k = k' ∧ j = j') ∧ ∀ k j b, Kid (ρ id) d k j b → (ρ id).A ≠ some ⟨b, 0, none⟩
  | .opq _ => True

/-- the blocks that objects hold -/
def Own (ρ : Nat → Pl) (m : Mem) (b : Nat) : Prop := ∃ id o, m id = some o ∧ Bl (ρ id) o b

structure MR (w : World) (N : Blk) (ρ : Nat → Pl) (m : Mem) : Prop where
  obj : ∀ id o, m id = some o → ObjR w N ρ m id o
  inj : ∀ id id' o o' b, m id = some o → m id' = some o' → Bl (ρ id) o b → Bl (ρ id') o' b → id = id'
  nown : ∀ b, N b → ¬ Own ρ m b
  nlt : ∀ b, N b → b < w.heap.size

/-- what has happened since a call began: nothing that was there and is not its own has turned -/
structure Since (w0 : World) (X : Blk) (w : World) : Prop where
  os : w.os = w0.os
  tape : w.tape = w0.tape
  output : w.output = w0.output
  size : w0.heap.size ≤ w.heap.size
  keep : ∀ b, b < w0.heap.size → ¬ X b → w.heap[b]? = w0.heap[b]?

theorem Since.refl (w : World) (X : Blk) : Since w X w := ⟨rfl, rfl, rfl, Nat.le_refl _, fun _ _ _ => rfl⟩

/-- An effect on objects: what is new, what is other than it was. -/
structure Turn (ρ : Nat → Pl) (m : Mem) (ρ' : Nat → Pl) (m' : Mem) (F : Nat → Prop) : Prop where
  pl : ∀ id, ¬ F id → ρ' id = ρ id
  row : ∀ id o' z, ¬ F id → m' id = some o' → o'.rw = some z → ∃ o, m id = some o ∧ o.rw = some z

theorem CR.turn {w w' : World} {N N' : Blk} {ρ ρ' : Nat → Pl} {m m' : Mem} {F : Nat → Prop} (ht : Turn ρ m ρ' m' F) (hN : ∀ b, N b → N' b) (hs : SameOn N w w') :
    ∀ {c : C} {v : Value}, (∀ id ∈ idsC c, ¬ F id) → CR w N ρ m c v → CR w' N' ρ' m' c v
  | .un, _, _, h => h
  | .int _ _, _, _, h => h
  | .bool _, _, _, h => h
  | .str _, _, _, h => h
  | .nil, _, _, h => h
  | .sl _ _, _, _, h => Rd.mono (t := .sl _) h hN hs
  | .hs id, _, hf, h => by
    have hid : ¬ F id := hf id (by simp [idsC])
    refine ⟨h.1, fun o' z hm hz => ?_⟩
    obtain ⟨o, ho, hz'⟩ := ht.row id o' z hid hm hz
    rw [h.2 o z ho hz', ht.pl id hid]
  | .pt id _, _, hf, h => by
    obtain ⟨b, hb, hv⟩ := h
    exact ⟨b, by rw [ht.pl id (hf id (by simp [idsC]))]; exact hb, hv⟩
  | .pe _ _ _ _, _, _, h => by
    obtain ⟨b, o, hv, hb, hi, us, hr, hc⟩ := h
    exact ⟨b, o, hv, hN b hb, hi, us, hr.mono hN hs, fun j u hj => (hs.cell hb).trans (hc j u hj)⟩
  | .pr id _ _, _, hf, h => by
    have hid : ¬ F id := hf id (by simp [idsC])
    refine ⟨h.1, fun o' z hm hz => ?_⟩
    obtain ⟨o, ho, hz'⟩ := ht.row id o' z hid hm hz
    obtain ⟨h1, b, hb, hv⟩ := h.2 o z ho hz'
    exact ⟨h1, b, by rw [ht.pl id hid]; exact hb, hv⟩
  | .ht id _, _, hf, h => by
    have hid : ¬ F id := hf id (by simp [idsC])
    refine ⟨h.1, fun o' z hm hz => ?_⟩
    obtain ⟨o, ho, hz'⟩ := ht.row id o' z hid hm hz
    obtain ⟨h1, h2⟩ := h.2 o z ho hz'
    exact ⟨h1, by rw [h2, ht.pl id hid]⟩
  | .gp _ _, _, _, h => h
  | .sz, _, _, h => h
  | .sp id _, _, hf, h => by
    have e := ht.pl id (hf id (by simp [idsC]))
    refine ⟨by rw [e]; exact h.1, ?_⟩
    rcases h.2 with h | ⟨b, hb, hv⟩
    · exact .inl h
    · exact .inr ⟨b, by rw [e]; exact hb, hv⟩
  | .ifc _, _, _, h => h
  | .fn _ caps, _, hf, h => by
    obtain ⟨vs, hv, ha⟩ := h
    refine ⟨vs, hv, ha.mono' fun p hp u hu => ?_⟩
    obtain ⟨b, hb, e⟩ := hu
    exact ⟨b, by rw [ht.pl p.1 (hf p.1 (by simp only [idsC, List.mem_map]; exact ⟨p, hp, rfl⟩))]; exact hb, e⟩

def idsCs (cs : List C) : List Nat := cs.flatMap idsC
def idsS : SV → List Nat
  | .un => []
  | .v _ cs => idsCs cs
  | .tup vs => vs.flatMap fun p => idsCs p.2
def idsO : Obj → List Nat
  | .box cs => idsCs cs
  | .row _ _ => []
  | .nest d => idsCs (opCs d.op)
  | .opq _ => []

theorem All2.turn {w w' : World} {N N' : Blk} {ρ ρ' : Nat → Pl} {m m' : Mem} {F : Nat → Prop} (ht : Turn ρ m ρ' m' F) (hN : ∀ b, N b → N' b) (hs : SameOn N w w')
    {cs : List C} {vs : List Value} (hf : ∀ id ∈ idsCs cs, ¬ F id) (h : All2 (CR w N ρ m) cs vs) : All2 (CR w' N' ρ' m') cs vs :=
  h.mono' fun c hc _ hv => hv.turn ht hN hs fun id hid => hf id (List.mem_flatMap.2 ⟨c, hc, hid⟩)

theorem VR.turn {w w' : World} {N N' : Blk} {ρ ρ' : Nat → Pl} {m m' : Mem} {F : Nat → Prop} (ht : Turn ρ m ρ' m' F) (hN : ∀ b, N b → N' b) (hs : SameOn N w w')
    {agg : Bool} {cs : List C} {v : Value} (hf : ∀ id ∈ idsCs cs, ¬ F id) (h : VR w N ρ m agg cs v) : VR w' N' ρ' m' agg cs v := by
  cases agg with
  | true => obtain ⟨vs, hv, h⟩ := h; exact ⟨vs, hv, h.turn ht hN hs hf⟩
  | false =>
    obtain ⟨c, rfl, h⟩ := h
    exact ⟨c, rfl, h.turn ht hN hs fun id hid => hf id (by simp [idsCs, hid])⟩

theorem SVR.turn {w w' : World} {N N' : Blk} {ρ ρ' : Nat → Pl} {m m' : Mem} {F : Nat → Prop} (ht : Turn ρ m ρ' m' F) (hN : ∀ b, N b → N' b) (hs : SameOn N w w') :
    ∀ {sv : SV} {v : Value}, (∀ id ∈ idsS sv, ¬ F id) → SVR w N ρ m sv v → SVR w' N' ρ' m' sv v
  | .un, _, _, _ => trivial
  | .v _ _, _, hf, h => VR.turn ht hN hs hf h
  | .tup vs, _, hf, h => by
    obtain ⟨us, hv, ha⟩ := h
    exact ⟨us, hv, ha.mono' fun p hp u hu => VR.turn ht hN hs (fun id hid => hf id (List.mem_flatMap.2 ⟨p, hp, hid⟩)) hu⟩

theorem CR.hs_row {w : World} {N : Blk} {ρ : Nat → Pl} {m : Mem} {id : Nat} {v : Value} (h : CR w N ρ m (.hs id) v) {t : Ty} {xs : List t.den} (hm : m id = some (.row t xs)) : v = .slice (ρ id).A xs.length (ρ id).cap := h.2 _ _ hm rfl
theorem CR.pr_row {w : World} {N : Blk} {ρ : Nat → Pl} {m : Mem} {id i off : Nat} {v : Value} (h : CR w N ρ m (.pr id i off) v) {t : Ty} {xs : List t.den} (hm : m id = some (.row t xs)) : i < xs.length ∧ ∃ b, (ρ id).A = some ⟨b, 0, none⟩ ∧ v = .pointer (some ⟨b, i * t.size + off, none⟩) := h.2 _ _ hm rfl
theorem cellsOf_ids : ∀ (t : Ty) (x : t.den), idsCs (cellsOf t x) = []
  | .unit, _ => rfl
  | .int _, _ => rfl
  | .bool, _ => rfl
  | .str, _ => rfl
  | .sl _, _ => rfl
  | .pair a b, x => by
    have h1 := cellsOf_ids a x.1
    have h2 := cellsOf_ids b x.2
    simp only [idsCs] at h1 h2 ⊢
    simp only [cellsOf, List.flatMap_append, h1, h2, List.append_nil]
  | .mark _ t, x => cellsOf_ids t x
theorem nestGo_ids {ow : List Nat} {oc : List (Nat × C)} : ∀ {cs : List C} {j id : Nat}, id ∈ idsCs (nestGo ow oc j cs) → id ∈ idsCs cs ∨ id ∈ idsCs (oc.map (·.2))
  | [], _, _, h => by cases h
  | c :: r, j, id, h => by
    simp only [nestGo, idsCs, List.flatMap_cons, List.mem_append] at h ⊢
    rcases h with h | h
    · cases hc : ow.contains j with
      | false => rw [hc] at h; exact .inl (.inl h)
      | true =>
        rw [hc] at h
        simp only [cond_true] at h
        have key : ∀ {l : List (Nat × C)}, id ∈ idsC ((look l j).getD .un) → id ∈ List.flatMap idsC (l.map (·.2)) := by
          intro l
          induction l with
          | nil => intro h; cases h
          | cons p l ih =>
            intro h
            obtain ⟨q, c'⟩ := p
            simp only [look] at h
            simp only [List.map_cons, List.flatMap_cons, List.mem_append]
            cases hb : Nat.beq q j with
            | true => rw [hb] at h; exact .inl h
            | false => rw [hb] at h; exact .inr (ih h)
        exact .inr (key h)
    · rcases nestGo_ids (cs := r) h with h | h
      · exact .inl (.inr h)
      · exact .inr h
theorem Nst.oc_ids {d : Nst} {k id : Nat} (h : id ∈ idsCs ((d.oc k).map (·.2))) : id ∈ idsCs (opCs d.op) := by
  unfold Nst.oc at h
  cases hop : d.op with
  | none => rw [hop] at h; cases h
  | some p =>
    obtain ⟨g, oc⟩ := p
    rw [hop] at h
    simp only at h
    split at h
    · exact h
    · cases h
theorem RowAt.mono {w w' : World} {N N' : Blk} {A : Option Addr} {cap : Nat} {t : Ty} {xs : List t.den} (h : RowAt w N A cap t xs) (hN : ∀ b, N b → N' b) (hs : SameOn N w w') (hb : ∀ b, 0 < cap → A = some ⟨b, 0, none⟩ → w'.heap[b]? = w.heap[b]?) : RowAt w' N' A cap t xs := by
  obtain ⟨hl, hr⟩ := h
  refine ⟨hl, fun hc => ?_⟩
  obtain ⟨b, vals, T, hA, hh, hsz, hx⟩ := hr hc
  refine ⟨b, vals, T, hA, (hb b hc hA).trans hh, hsz, fun k hk => ?_⟩
  obtain ⟨us, h1, h2⟩ := hx k hk
  exact ⟨us, h1.mono hN hs, h2⟩
theorem pGet_get {t : Ty} {xs : List t.den} {k : Nat} (h : k < xs.length) : pGet t xs k = xs[k] := by unfold pGet; simp [List.getD, h]

end Go.Proofs.YtedjlbcclhgfmaaDoor

/- THE MACHINE OF READINGS, part C: the relation of states; operations that only compute or read. -/
namespace Go.Proofs.YtedjlbcclhgfmaaDoor
open Go.RowKit

/-- a variable of a package that nobody writes -/
def GlobR (w : World) (N : Blk) (g : Nat) : Gl → Prop
  | .cells cs => N g ∧ ∃ vals T fz, w.heap[g]? = some (.cells vals T fz) ∧ All2 (CR w N (fun _ => pl0 none 0) (fun _ => none)) cs vals.toList ∧ idsCs cs = []
  | .rows t xs => N g ∧ ∀ (i : Nat) (h : i < xs.length), ∃ us : List Value, Rd t w N us xs[i] ∧ ∀ (j : Nat) (u : Value), us[j]? = some u → w.cell? ⟨g, i * t.size + j, none⟩ = some u

structure Rel (E : Env) (w0 : World) (X Z : Blk) (a : Act) (w : World) (s : St) (ρ : Nat → Pl) (N : Blk) : Prop where
  slots : ∀ t sv, look s.slots t = some sv → SVR w N ρ s.obj sv (a.tmps.getD t undef)
  mr : MR w N ρ s.obj
  defers : a.defers = []
  since : Since w0 X w
  own : ∀ b, Own ρ s.obj b → X b ∨ w0.heap.size ≤ b
  glob : ∀ g cs, E.glob g = some cs → GlobR w N g cs
  nn : ∀ b, N b → Z b ∨ w0.heap.size ≤ b ∨ X b

section
variable {E : Env} {w0 : World} {X Z : Blk} {a : Act} {w : World} {s : St} {ρ : Nat → Pl} {N : Blk} {m : Mem}

theorem cOfValue_ok (v : Value) (h : v.oneCell' = true) : CR w N ρ m (cOfValue v) v := by
  generalize hc : cOfValue v = c
  unfold cOfValue at hc
  split at hc <;> subst hc
  · exact rfl
  · exact rfl
  · exact rfl
  · exact ⟨_, rfl⟩
  · exact .inr ⟨rfl, rfl⟩
  · rename_i f x y
    split
    · rename_i hx hy
      obtain rfl : x = #[] := by simpa using hx
      obtain rfl : y = #[] := by simpa using hy
      exact ⟨[], rfl, .nil⟩
    · exact h
  · exact h

theorem cOfValues_ok : ∀ (vs : List Value), vs.all (·.oneCell') = true → All2 (CR w N ρ m) (vs.map cOfValue) vs
  | [], _ => .nil
  | v :: vs, h => by
    simp only [List.all_cons, Bool.and_eq_true] at h
    exact .cons (cOfValue_ok v h.1) (cOfValues_ok vs h.2)

theorem svOfValue_ok (v : Value) : SVR w N ρ m (svOfValue v) v := by
  generalize hs : svOfValue v = sv
  unfold svOfValue at hs
  split at hs
  · rename_i cs
    cases h : cs.toList.all (·.oneCell') with
    | true => rw [h] at hs; subst hs; exact ⟨cs.toList, rfl, cOfValues_ok _ h⟩
    | false => rw [h] at hs; subst hs; trivial
  · rename_i vs
    subst hs
    split
    · rename_i hv
      obtain rfl : vs = #[] := by simpa using hv
      exact ⟨[], rfl, .nil⟩
    · trivial
  · rename_i h1 h3
    subst hs
    refine ⟨_, rfl, cOfValue_ok v ?_⟩
    cases v <;> first
      | rfl
      | exact absurd rfl (h1 _)
      | exact absurd rfl (h3 _)

theorem Rel.get (h : Rel E w0 X Z a w s ρ N) (x : Operand) : SVR w N ρ s.obj (s.get x) (a.eval x) := by
  cases x with
  | tmp t =>
    show SVR w N ρ s.obj ((look s.slots t).getD .un) (a.tmps.getD t undef)
    cases hl : look s.slots t with
    | none => trivial
    | some sv => exact h.slots t sv hl
  | const v => exact svOfValue_ok v
  | global g => exact ⟨_, rfl, rfl⟩
  | func f => exact ⟨_, rfl, [], rfl, .nil⟩

/-- cells of a datum -/
theorem Rd.cells : ∀ {t : Ty} {us : List Value} {x : t.den}, Rd t w N us x → All2 (CR w N ρ m) (cellsOf t x) us
  | .unit, _, _, h => by have h : _ = _ := h; subst h; exact .nil
  | .int _, _, _, h => by have h : _ = _ := h; subst h; exact .cons rfl .nil
  | .bool, _, _, h => by have h : _ = _ := h; subst h; exact .cons rfl .nil
  | .str, _, _, h => by have h : _ = _ := h; subst h; exact .cons rfl .nil
  | .sl _, _, _, h => by
    have h' := h
    obtain ⟨A, n, c, rfl, _⟩ := h'
    exact .cons h .nil
  | .pair _ _, _, _, h => by
    obtain ⟨v1, v2, rfl, h1, h2⟩ := h
    exact h1.cells.append h2.cells
  | .mark _ t, _, _, h => Rd.cells (t := t) h

/-- … and back: cells that are taken for a datum -/
theorem ofCells_rd : ∀ {t : Ty} {cs : List C} {us : List Value} {x : t.den} {r : List C}, ofCells t cs = some (x, r) → All2 (CR w N ρ m) cs us → ∃ u1 u2, us = u1 ++ u2 ∧ Rd t w N u1 x ∧ All2 (CR w N ρ m) r u2
  | .unit, cs, us, x, r, he, h => by
    simp only [ofCells, Option.some.injEq, Prod.mk.injEq] at he
    obtain ⟨_, rfl⟩ := he
    exact ⟨[], us, rfl, rfl, h⟩
  | .int k, cs, us, x, r, he, h => by
    cases h with
    | nil => simp [ofCells] at he
    | @cons c v cs' us' h1 h2 =>
      cases c <;> simp only [ofCells, reduceCtorEq] at he
      rename_i k' n
      split at he
      · rename_i hk; subst hk
        simp only [Option.some.injEq, Prod.mk.injEq] at he
        obtain ⟨rfl, rfl⟩ := he
        have h1 : _ = _ := h1
        subst h1
        exact ⟨[_], _, rfl, rfl, h2⟩
      · cases he
  | .bool, cs, us, x, r, he, h => by
    cases h with
    | nil => simp [ofCells] at he
    | @cons c v cs' us' h1 h2 =>
      cases c <;> simp only [ofCells, reduceCtorEq, Option.some.injEq, Prod.mk.injEq] at he
      obtain ⟨rfl, rfl⟩ := he
      have h1 : _ = _ := h1
      subst h1
      exact ⟨[_], _, rfl, rfl, h2⟩
  | .str, cs, us, x, r, he, h => by
    cases h with
    | nil => simp [ofCells] at he
    | @cons c v cs' us' h1 h2 =>
      cases c <;> simp only [ofCells, reduceCtorEq, Option.some.injEq, Prod.mk.injEq] at he
      obtain ⟨rfl, rfl⟩ := he
      have h1 : _ = _ := h1
      subst h1
      exact ⟨[_], _, rfl, rfl, h2⟩
  | .sl t, cs, us, x, r, he, h => by
    cases h with
    | nil => simp [ofCells] at he
    | @cons c v cs' us' h1 h2 =>
      cases c <;> simp only [ofCells, reduceCtorEq] at he
      · simp only [Option.some.injEq, Prod.mk.injEq] at he
        obtain ⟨rfl, rfl⟩ := he
        obtain ⟨A, rfl⟩ := h1
        exact ⟨[_], _, rfl, ⟨A, 0, 0, rfl, rfl, Nat.le_refl _, fun h => absurd h (by omega)⟩, h2⟩
      · rename_i t' xs
        split at he
        · rename_i ht; subst ht
          simp only [Option.some.injEq, Prod.mk.injEq] at he
          obtain ⟨rfl, rfl⟩ := he
          exact ⟨[v], _, rfl, h1, h2⟩
        · cases he
  | .pair ta tb, cs, us, x, r, he, h => by
    simp only [ofCells] at he
    split at he
    · cases he
    · rename_i x1 c1 e1
      split at he
      · cases he
      · rename_i x2 c2 e2
        simp only [Option.some.injEq, Prod.mk.injEq] at he
        obtain ⟨rfl, rfl⟩ := he
        obtain ⟨u1, u2, rfl, r1, h1⟩ := ofCells_rd e1 h
        obtain ⟨u3, u4, rfl, r2, h2⟩ := ofCells_rd e2 h1
        exact ⟨u1 ++ u3, u4, by simp, ⟨u1, u3, rfl, r1, r2⟩, h2⟩
  | .mark _ t, cs, us, x, r, he, h => ofCells_rd (t := t) (by simpa only [ofCells] using he) h

theorem asD_rd {t : Ty} {cs : List C} {us : List Value} {x : t.den} (he : asD t cs = some x) (h : All2 (CR w N ρ m) cs us) : Rd t w N us x := by
  unfold asD at he
  split at he
  · rename_i y e
    simp only [Option.some.injEq] at he
    subst he
    obtain ⟨u1, u2, rfl, r1, h1⟩ := ofCells_rd e h
    cases h1
    simpa using r1
  · cases he

theorem sizeT_some {P : Program} {T : TypeId} {n : Nat} (h : sizeT P T = some n) : ∃ i, P.info? T = some i ∧ i.size = n := by
  unfold sizeT at h
  cases hi : P.info? T with
  | none => simp [hi] at h
  | some i => exact ⟨i, rfl, by simpa [hi] using h⟩

theorem run_sizeT {P : Program} {T : TypeId} {n : Nat} (w : World) (h : sizeT P T = some n) : (sizeOf T).run P w = .ok n w := by
  obtain ⟨i, hi, rfl⟩ := sizeT_some h
  simp [sizeOf, typeInfo, hi]

theorem run_isAggD {P : Program} {T : TypeId} {d : TypeDesc} (w : World) (h : P.underlying T = some d) : (isAgg T).run P w = .ok (isAggD d) w := by
  unfold isAgg
  simp only [Sem.run_bind, run_underlying h, Result.andThen_ok]
  cases d <;> rfl

theorem cut_some {cs vs : List C} {off n : Nat} (h : cut cs off n = some vs) : off + n ≤ cs.length ∧ vs = (cs.drop off).take n := by
  unfold cut at h
  split at h
  · rename_i hl; exact ⟨hl, by simpa using h.symm⟩
  · cases h

theorem addr_add (b o n : Nat) : (⟨b, o, none⟩ : Addr).add n = ⟨b, o + n, none⟩ := by unfold Addr.add; split <;> simp_all

/-- a load out of cells that are known -/
theorem load_part {T : TypeId} {cs : List C} {us : List Value} {b o off : Nat} {sv : SV} (hp : part E T cs off = some sv) (h : All2 (CR w N ρ m) cs us)
    (hc : ∀ (j : Nat) (u : Value), us[j]? = some u → w.cell? ⟨b, o + j, none⟩ = some u) : ∃ v, (loadVar T ⟨b, o + off, none⟩).run E.P w = .ok v w ∧ SVR w N ρ m sv v := by
  unfold part at hp
  split at hp
  · cases hp
  · rename_i d hd
    cases ha : isAggD d with
    | true =>
      simp only [ha, cond_true] at hp
      split at hp
      · rename_i n hn
        cases hcut : cut cs off n with
        | none => simp [hcut] at hp
        | some vs =>
          simp only [hcut, Option.map_some, Option.some.injEq] at hp
          subst hp
          obtain ⟨hl, rfl⟩ := cut_some hcut
          have hlen : ((us.drop off).take n).length = n := by
            have := h.len
            simp only [List.length_take, List.length_drop]; omega
          refine ⟨.agg ((us.drop off).take n).toArray, ?_, _, rfl, (h.drop off).take n⟩
          have hr := run_loadCells_list (P := E.P) w ⟨b, o + off, none⟩ ((us.drop off).take n) (fun j v hj => by
            rw [addr_add, Nat.add_assoc]
            refine hc _ _ ?_
            rw [List.getElem?_take] at hj
            split at hj
            · simpa using hj
            · cases hj)
          rw [hlen] at hr
          simp [loadVar, run_isAggD w hd, ha, run_sizeT w hn, hr]
      · cases hp
    | false =>
      simp only [ha, cond_false] at hp
      cases hg : cs[off]? with
      | none => simp [hg] at hp
      | some c =>
        simp only [hg, Option.map_some, Option.some.injEq] at hp
        subst hp
        obtain ⟨u, hu, hr⟩ := h.get off hg
        refine ⟨u, ?_, c, rfl, hr⟩
        have := hc off u hu
        simp [loadVar, run_isAggD w hd, ha, this]

/-- what an operation that only computes or reads comes to -/
def PureR (E : Env) (a : Act) (o : Oper) (w : World) (N : Blk) (ρ : Nat → Pl) (m : Mem) (e : Eff) : Prop :=
  ∃ v, (execOp a.eval o).run E.P w = .ok (.value v) w ∧ SVR w N ρ m e.res v ∧ e.upd = []

theorem vr1 {c : C} {v : Value} (h : SVR w N ρ m (.v false [c]) v) : CR w N ρ m c v := by
  obtain ⟨c', hc, h⟩ := h
  simp only [List.cons.injEq, and_true] at hc
  subst hc; exact h

theorem box_cells {id : Nat} {cs : List C} (h : ObjR w N ρ m id (.box cs)) : ∃ b, ∃ us : List Value, (ρ id).A = some ⟨b, 0, none⟩ ∧ All2 (CR w N ρ m) cs us ∧ ∀ (j : Nat) (u : Value), us[j]? = some u → w.cell? ⟨b, j, none⟩ = some u := by
  obtain ⟨b, vals, T, hA, hh, ha, _⟩ := h
  exact ⟨b, vals.toList, hA, ha, fun j u hj => by simp [World.cell?, hh]; simpa using hj⟩

theorem row_cells {id : Nat} {t : Ty} {xs : List t.den} (h : ObjR w N ρ m id (.row t xs)) {i : Nat} (hi : i < xs.length) : ∃ b, ∃ us : List Value, (ρ id).A = some ⟨b, 0, none⟩ ∧ Rd t w N us (pGet t xs i) ∧ ∀ (j : Nat) (u : Value), us[j]? = some u → w.cell? ⟨b, i * t.size + j, none⟩ = some u := by
  obtain ⟨⟨hl, hr⟩, _⟩ := h
  obtain ⟨b, vals, T, hA, hh, hs, hx⟩ := hr (by omega)
  obtain ⟨us, h1, h2⟩ := hx i hi
  refine ⟨b, us, hA, ?_, fun j u hj => by simp [World.cell?, hh]; exact h2 j u hj⟩
  have : pGet t xs i = xs[i] := by unfold pGet; simp [List.getD, hi]
  rw [this]; exact h1

theorem load_ok (h : Rel E w0 X Z a w s ρ N) (hm : ∀ id ob, m id = some ob → s.obj id = some ob) {o : Oper} {T : TypeId} {x : Operand} (ho : o.op = .load T x) {obs : List Prop} {e : Eff}
    (he : aLoad E m T (s.get x) = some (obs, e)) : PureR E a o w N ρ s.obj e := by
  have hx := h.get x
  have fin : ∀ {cs : List C} {us : List Value} {b o' off : Nat} {obs : List Prop}, a.eval x = .pointer (some ⟨b, o' + off, none⟩) → All2 (CR w N ρ s.obj) cs us →
      (∀ (j : Nat) (u : Value), us[j]? = some u → w.cell? ⟨b, o' + j, none⟩ = some u) → (part E T cs off).map (fun s => (([] : List Prop), (⟨s, []⟩ : Eff))) = some (obs, e) → PureR E a o w N ρ s.obj e := by
    intro cs us b o' off obs hev ha hc hp
    cases hq : part E T cs off with
    | none => simp [hq] at hp
    | some sv =>
      simp only [hq, Option.map_some, Option.some.injEq, Prod.mk.injEq] at hp
      obtain ⟨_, rfl⟩ := hp
      obtain ⟨v, hr, hv⟩ := load_part hq ha hc
      refine ⟨v, ?_, hv, rfl⟩
      simp [execOp, ho, Instr.loadAt, Instr.sureAddr, hev, hr]
  unfold aLoad at he
  split at he
  · rename_i id off hg
    split at he
    · rename_i cs hmem
      rw [hg] at hx
      obtain ⟨b, hA, hv⟩ := vr1 hx
      obtain ⟨b', us, hA', ha, hc⟩ := box_cells (h.mr.obj id _ (hm id _ hmem))
      rw [hA] at hA'
      simp only [Option.some.injEq, Addr.mk.injEq, and_true] at hA'
      subst hA'
      exact fin (b := b) (o' := 0) (off := off) (by simpa using hv) ha (by simpa using hc) he
    · cases he
  · rename_i t xs i off hg
    rw [hg] at hx
    obtain ⟨b, o', hv, _, hi, us, hr, hc⟩ := vr1 hx
    exact fin hv (Rd.cells hr) hc he
  · rename_i id i off hg
    split at he
    · rename_i t xs hmem
      rw [hg] at hx
      have hso := hm id _ hmem
      obtain ⟨hi, b, hA, hv⟩ := (vr1 hx).pr_row hso
      obtain ⟨b', us, hA', hr, hc⟩ := row_cells (h.mr.obj id _ hso) hi
      rw [hA] at hA'
      simp only [Option.some.injEq, Addr.mk.injEq, and_true] at hA'
      subst hA'
      exact fin hv (Rd.cells hr) hc he
    · cases he
  · rename_i g off hg
    split at he
    · rename_i cs hgl
      rw [hg] at hx
      have hv : _ = _ := vr1 hx
      obtain ⟨_, vals, T', fz, hh, ha, hids⟩ := h.glob g _ hgl
      have ha' : All2 (CR w N ρ s.obj) cs vals.toList := ha.turn (F := fun _ => True) ⟨fun id hid => absurd trivial hid, fun id _ _ hid => absurd trivial hid⟩ (fun _ h => h) (fun _ _ => rfl) (by rw [hids]; simp)
      exact fin (b := g) (o' := 0) (off := off) (by simpa using hv) ha' (fun j u hj => by simp [World.cell?, hh]; simpa using hj) he
    · cases he
  · cases he

end
end Go.Proofs.YtedjlbcclhgfmaaDoor

/- THE MACHINE OF READINGS, part D: the other operations that only compute or read. -/
namespace Go.Proofs.YtedjlbcclhgfmaaDoor
open Go.RowKit

section
variable {E : Env} {w0 : World} {X Z : Blk} {a : Act} {w : World} {s : St} {ρ : Nat → Pl} {N : Blk} {m : Mem}

theorem offT_some {P : Program} {T : TypeId} {f : Nat} {p : Nat × TypeId} (h : offT P T f = some p) : ∃ fs x i, P.underlying T = some (.struct fs) ∧ fs[f]? = some x ∧ p = (x.offset, x.type) ∧ P.info? x.type = some i ∧ i.size ≠ 0 := by
  unfold offT at h
  split at h
  · rename_i fs hu
    split at h
    · rename_i x hx
      split at h
      · rename_i n hn
        simp only [Option.some.injEq] at h
        obtain ⟨i, hi, hs⟩ := sizeT_some hn
        exact ⟨fs, x, i, hu, hx, h.symm, hi, by omega⟩
      · cases h
    · cases h
  · cases h

theorem run_fieldAt {T : TypeId} {f : Nat} {p : Nat × TypeId} (h : offT E.P T f = some p) (b off : Nat) (w : World) :
    (Instr.fieldAt T (.pointer (some ⟨b, off, none⟩)) f).run E.P w = .ok (.pointer (some ⟨b, off + p.1, none⟩)) w := by
  obtain ⟨fs, x, i, hu, hx, rfl, hi, hs⟩ := offT_some h
  simp [Instr.fieldAt, run_underlying hu, hx, Instr.sureAddr, fieldPlace, sizeOf, typeInfo, hi, hs, addr_add]

theorem fieldAddr_ok (h : Rel E w0 X Z a w s ρ N) {o : Oper} {T : TypeId} {x : Operand} {f : Nat} (ho : o.op = .fieldAddr T x f) {obs : List Prop} {e : Eff}
    (he : aFieldAddr E T f (s.get x) = some (obs, e)) : PureR E a o w N ρ s.obj e := by
  have hx := h.get x
  have fin : ∀ {b off : Nat} {p : Nat × TypeId} {c : C} {obs : List Prop}, a.eval x = .pointer (some ⟨b, off, none⟩) → offT E.P T f = some p → CR w N ρ s.obj c (.pointer (some ⟨b, off + p.1, none⟩)) → ret c = some (obs, e) → PureR E a o w N ρ s.obj e := by
    intro b off p c obs hev hp hc hr
    simp only [ret, Option.some.injEq, Prod.mk.injEq] at hr
    obtain ⟨_, rfl⟩ := hr
    exact ⟨_, by simp [execOp, ho, hev, run_fieldAt hp], ⟨_, rfl, hc⟩, rfl⟩
  unfold aFieldAddr at he
  split at he
  · rename_i id off hg
    rw [hg] at hx
    obtain ⟨b, hA, hv⟩ := vr1 hx
    cases hp : offT E.P T f with
    | none => simp [hp] at he
    | some p => simp only [hp, Option.bind_some] at he; exact fin (c := .pt id (off + p.1)) hv hp ⟨b, hA, rfl⟩ he
  · rename_i t xs i off hg
    rw [hg] at hx
    obtain ⟨b, o', hv, hN, hi, hr⟩ := vr1 hx
    cases hp : offT E.P T f with
    | none => simp [hp] at he
    | some p => simp only [hp, Option.bind_some] at he; exact fin (c := .pe t xs i (off + p.1)) hv hp ⟨b, o', by rw [Nat.add_assoc], hN, hi, hr⟩ he
  · rename_i id i off hg
    rw [hg] at hx
    obtain ⟨⟨ad, hv⟩, hr⟩ := vr1 hx
    cases hp : offT E.P T f with
    | none => simp [hp] at he
    | some p =>
      simp only [hp, Option.bind_some] at he
      simp only [ret, Option.some.injEq, Prod.mk.injEq] at he
      obtain ⟨_, rfl⟩ := he
      obtain ⟨fs, y, i', hu, hy, rfl, hi, hs⟩ := offT_some hp
      refine ⟨.pointer (some (ad.add y.offset)), by simp [execOp, ho, hv, Instr.fieldAt, run_underlying hu, hy, Instr.sureAddr, fieldPlace, sizeOf, typeInfo, hi, hs], ⟨_, rfl, ⟨_, rfl⟩, fun ob z hm hz => ?_⟩, rfl⟩
      obtain ⟨h1, b, hA, hb⟩ := hr ob z hm hz
      rw [hv] at hb
      simp only [Value.pointer.injEq, Option.some.injEq] at hb
      subst hb
      exact ⟨h1, b, hA, by rw [addr_add, Nat.add_assoc]⟩
  · rename_i g off hg
    rw [hg] at hx
    have hv : _ = _ := vr1 hx
    cases hp : offT E.P T f with
    | none => simp [hp] at he
    | some p => simp only [hp, Option.bind_some] at he; exact fin (c := .gp g (off + p.1)) hv hp rfl he
  · cases he

theorem field_ok (h : Rel E w0 X Z a w s ρ N) {o : Oper} {T : TypeId} {x : Operand} {f : Nat} (ho : o.op = .field T x f) {obs : List Prop} {e : Eff}
    (he : aField E T f (s.get x) = some (obs, e)) : PureR E a o w N ρ s.obj e := by
  have hx := h.get x
  unfold aField at he
  split at he
  · rename_i cs hg
    rw [hg] at hx
    obtain ⟨us, hv, ha⟩ := hx
    cases hp : offT E.P T f with
    | none => simp [hp] at he
    | some p =>
      simp only [hp, Option.bind_some] at he
      obtain ⟨fs, y, i, hu, hy, rfl, hi, hs⟩ := offT_some hp
      cases hq : part E y.type cs y.offset with
      | none => simp [hq] at he
      | some sv =>
        simp only [hq, Option.map_some, Option.some.injEq, Prod.mk.injEq] at he
        obtain ⟨_, rfl⟩ := he
        have key : ∃ v, (Go.part y.type us.toArray y.offset).run E.P w = .ok v w ∧ SVR w N ρ s.obj sv v := by
          unfold part at hq
          split at hq
          · cases hq
          · rename_i d hd
            cases hag : isAggD d with
            | true =>
              simp only [hag, cond_true] at hq
              split at hq
              · rename_i n hn
                cases hcut : cut cs y.offset n with
                | none => simp [hcut] at hq
                | some vs =>
                  simp only [hcut, Option.map_some, Option.some.injEq] at hq
                  subst hq
                  obtain ⟨hl, rfl⟩ := cut_some hcut
                  refine ⟨.agg (us.toArray.extract y.offset (y.offset + n)), by simp [Go.part, run_isAggD w hd, hag, run_sizeT w hn], (us.drop y.offset).take n, ?_, (ha.drop _).take _⟩
                  congr 1
                  apply Array.ext'
                  simp
              · cases hq
            | false =>
              simp only [hag, cond_false] at hq
              cases hgc : cs[y.offset]? with
              | none => simp [hgc] at hq
              | some c =>
                simp only [hgc, Option.map_some, Option.some.injEq] at hq
                subst hq
                obtain ⟨u, hu', hr⟩ := ha.get _ hgc
                exact ⟨u, by simp [Go.part, run_isAggD w hd, hag, hu'], c, rfl, hr⟩
        obtain ⟨v, hr, hsv⟩ := key
        exact ⟨v, by simp [execOp, ho, Instr.field, run_underlying hu, hy, hv, asAgg, hr], hsv, rfl⟩
  · cases he

theorem esizeT_some {P : Program} {T : TypeId} {n : Nat} (h : esizeT P T = some n) : ∃ e i, P.underlying T = some (.slice e) ∧ P.info? e = some i ∧ i.size = n := by
  unfold esizeT elemT at h
  split at h
  · rename_i e hu
    obtain ⟨i, hi, hs⟩ := sizeT_some (by simpa using h)
    exact ⟨e, i, hu, hi, hs⟩
  · simp at h

theorem indexAddr_ok (h : Rel E w0 X Z a w s ρ N) (hm : ∀ id ob, m id = some ob → s.obj id = some ob) {o : Oper} {T : TypeId} {x i : Operand} (ho : o.op = .indexAddr T x i) {obs : List Prop} {e : Eff}
    (he : aIndexAddr E m T (s.get x) (s.get i) = some (obs, e)) (hob : ∀ p ∈ obs, p) : PureR E a o w N ρ s.obj e := by
  have hx := h.get x
  have hi := h.get i
  unfold aIndexAddr at he
  split at he
  · rename_i t xs k n hgx hgi
    rw [hgx] at hx; rw [hgi] at hi
    have hiv : _ = _ := vr1 hi
    split at he
    · rename_i hes
      simp only [Option.some.injEq, Prod.mk.injEq] at he
      obtain ⟨rfl, rfl⟩ := he
      have hb : pIn n (pLen xs) := hob _ (by simp)
      unfold pIn pLen at hb
      obtain ⟨el, inf, hu, hinf, hsz⟩ := esizeT_some hes
      obtain ⟨A, nn, c, hv, hl, hc, hr⟩ := (vr1 hx : Rd _ _ _ _ _)
      simp only [List.cons.injEq, and_true] at hv
      obtain ⟨b, off, rfl, hN, hk⟩ := hr (by omega)
      have hlt : n.toNat < xs.length := by omega
      obtain ⟨us, hrd, _, hcell⟩ := hk n.toNat hlt
      refine ⟨.pointer (some ⟨b, off + n.toNat * t.size, none⟩), ?_, ⟨_, rfl, b, off + n.toNat * t.size, rfl, hN, by simpa [pNat] using hlt, us, ?_, hcell⟩, rfl⟩
      · have h1 : 0 ≤ n ∧ n < (nn : Int) := by omega
        simp [execOp, ho, hv, hiv, Instr.indexAt, asIntOf, run_underlying hu, h1, sizeOf, typeInfo, hinf, hsz, addr_add]
      · have : pGet t xs (pNat n) = xs[n.toNat] := by unfold pGet pNat; simp [List.getD, hlt]
        rw [this]; exact hrd
    · cases he
  · rename_i id k n hgx hgi
    rw [hgx] at hx; rw [hgi] at hi
    have hiv : _ = _ := vr1 hi
    split at he
    · rename_i t xs hmem
      split at he
      · rename_i hes
        simp only [Option.some.injEq, Prod.mk.injEq] at he
        obtain ⟨rfl, rfl⟩ := he
        have hb : pIn n (pLen xs) := hob _ (by simp)
        unfold pIn pLen at hb
        obtain ⟨el, inf, hu, hinf, hsz⟩ := esizeT_some hes
        have hso := hm id _ hmem
        have hv := (vr1 hx).hs_row hso
        obtain ⟨b, us, hA, _, _⟩ := row_cells (h.mr.obj id _ hso) (i := n.toNat) (by omega)
        refine ⟨.pointer (some ⟨b, n.toNat * t.size, none⟩), ?_, ⟨_, rfl, ⟨_, rfl⟩, fun ob z hy hz' => ?_⟩, rfl⟩
        · have h1 : 0 ≤ n ∧ n < (xs.length : Int) := by omega
          simp [execOp, ho, hv, hA, hiv, Instr.indexAt, asIntOf, run_underlying hu, h1, sizeOf, typeInfo, hinf, hsz, addr_add]
        · rw [hso] at hy
          simp only [Option.some.injEq] at hy
          subst hy
          simp only [Obj.rw, Option.some.injEq] at hz'
          subst hz'
          exact ⟨by unfold pNat; omega, b, hA, by simp [pNat]⟩
      · cases he
    · rename_i d hmem
      split at he
      · rename_i hes
        simp only [Option.some.injEq, Prod.mk.injEq] at he
        obtain ⟨rfl, rfl⟩ := he
        have hb : pIn n (pLen d.xs) := hob _ (by simp)
        unfold pIn pLen at hb
        obtain ⟨el, inf, hu, hinf, hsz⟩ := esizeT_some hes
        have hso := hm id _ hmem
        have hv : a.eval x = .slice (ρ id).A d.xs.length (ρ id).cap := (vr1 hx).2 _ _ hso rfl
        obtain ⟨⟨hl, _⟩, _, hr, _⟩ := h.mr.obj id _ hso
        obtain ⟨b, _, _, hA, _⟩ := hr (by omega)
        refine ⟨.pointer (some ⟨b, n.toNat * d.t.size, none⟩), ?_, ⟨_, rfl, ⟨_, rfl⟩, fun ob z hy hz' => ?_⟩, rfl⟩
        · have h1 : 0 ≤ n ∧ n < (d.xs.length : Int) := by omega
          simp [execOp, ho, hv, hA, hiv, Instr.indexAt, asIntOf, run_underlying hu, h1, sizeOf, typeInfo, hinf, hsz, addr_add]
        · rw [hso] at hy
          simp only [Option.some.injEq] at hy
          subst hy
          simp only [Obj.rw, Option.some.injEq] at hz'
          subst hz'
          exact ⟨by unfold pNat; omega, b, hA, by simp [pNat]⟩
      · cases he
    · cases he
  · simp only [Option.some.injEq, Prod.mk.injEq] at he
    obtain ⟨rfl, rfl⟩ := he
    exact absurd (hob False (by simp)) id
  · rename_i g off k n hgx hgi
    rw [hgx] at hx; rw [hgi] at hi
    have hiv : _ = _ := vr1 hi
    have hv : _ = _ := vr1 hx
    split at he
    · rename_i t xs hgl
      split at he
      · rename_i len el hu
        split at he
        · rename_i hq
          obtain ⟨rfl, hz, rfl⟩ := hq
          simp only [Option.some.injEq, Prod.mk.injEq] at he
          obtain ⟨rfl, rfl⟩ := he
          have hb : pIn n xs.length := hob _ (by simp)
          unfold pIn at hb
          obtain ⟨hN, hr⟩ := h.glob g _ hgl
          have hlt : n.toNat < xs.length := by omega
          obtain ⟨us, hrd, hcell⟩ := hr n.toNat hlt
          refine ⟨.pointer (some ⟨g, n.toNat * t.size, none⟩), ?_, ⟨_, rfl, g, n.toNat * t.size, rfl, hN, by simpa [pNat] using hlt, us, ?_, hcell⟩, rfl⟩
          · have h1 : 0 ≤ n ∧ n < (xs.length : Int) := by omega
            simp only [execOp, ho, hv, hiv, Instr.indexAt, asIntOf, Sem.run_bind, Sem.run_pure, Result.andThen_ok, run_underlying hu, Instr.sureAddr]
            simp [run_sizeT w hz, addr_add, h1]
          · have : pGet t xs (pNat n) = xs[n.toNat] := by unfold pGet pNat; simp [List.getD, hlt]
            rw [this]; exact hrd
        · cases he
      · cases he
    split at he
    rotate_left
    · cases he
    rename_i n
    split at he
    · rename_i len el hu
      split at he
      · rename_i z hz
        split at he
        · rename_i hn
          simp only [ret, Option.some.injEq, Prod.mk.injEq] at he
          obtain ⟨_, rfl⟩ := he
          refine ⟨_, ?_, ⟨_, rfl, rfl⟩, rfl⟩
          simp only [execOp, ho, hv, hiv, Instr.indexAt, asIntOf, Sem.run_bind, Sem.run_pure, Result.andThen_ok, run_underlying hu, Instr.sureAddr]
          simp [run_sizeT w hz, addr_add, hn]
        · cases he
      · cases he
    · cases he
  · rename_i id off k n hgx hgi
    rw [hgx] at hx; rw [hgi] at hi
    have hiv : _ = _ := vr1 hi
    obtain ⟨b, hA, hv⟩ := vr1 hx
    split at he
    · rename_i len el hu
      split at he
      · rename_i z hz
        split at he
        · rename_i hn
          simp only [ret, Option.some.injEq, Prod.mk.injEq] at he
          obtain ⟨_, rfl⟩ := he
          refine ⟨_, ?_, ⟨_, rfl, b, hA, rfl⟩, rfl⟩
          simp only [execOp, ho, hv, hiv, Instr.indexAt, asIntOf, Sem.run_bind, Sem.run_pure, Result.andThen_ok, run_underlying hu, Instr.sureAddr]
          simp [run_sizeT w hz, addr_add, hn]
        · cases he
      · cases he
    · cases he
  · cases he

end
end Go.Proofs.YtedjlbcclhgfmaaDoor

/- THE MACHINE OF READINGS, part E: arithmetic, strings, slices of slices. -/
namespace Go.Proofs.YtedjlbcclhgfmaaDoor
open Go.RowKit

/-- structs of this type are compared cell by cell -/
def EqT (P : Program) (T : TypeId) : Prop :=
  P.eqGuardType P.depth T = false ∧ ∀ (w : World) (N : Blk) (ρ : Nat → Pl) (m : Mem) (cs ds : List C) (us vs : List Value) (b : Bool),
    fitKs ((eqKs P 16 T).getD []) cs = true → fitKs ((eqKs P 16 T).getD []) ds = true → All2 (CR w N ρ m) cs us → All2 (CR w N ρ m) ds vs → eqCells cs ds = some b → (Op.equalIn 10000 T (.agg us.toArray) (.agg vs.toArray)).run P w = .ok b w

section
variable {E : Env} {w0 : World} {X Z : Blk} {a : Act} {w : World} {s : St} {ρ : Nat → Pl} {N : Blk} {m : Mem}

theorem pure_ret {o : Oper} {c : C} {v : Value} {obs : List Prop} {e : Eff} (hr : (execOp a.eval o).run E.P w = .ok (.value v) w) (hc : CR w N ρ m c v) (he : ret c = some (obs, e)) : PureR E a o w N ρ m e := by
  simp only [ret, Option.some.injEq, Prod.mk.injEq] at he
  obtain ⟨_, rfl⟩ := he
  exact ⟨v, hr, ⟨_, rfl, hc⟩, rfl⟩

theorem pure_one {o : Oper} {c : C} {v : Value} {ps obs : List Prop} {e : Eff} (hr : (execOp a.eval o).run E.P w = .ok (.value v) w) (hc : CR w N ρ m c v) (he : some (ps, (⟨one c, []⟩ : Eff)) = some (obs, e)) : PureR E a o w N ρ m e := by
  simp only [Option.some.injEq, Prod.mk.injEq] at he
  obtain ⟨_, rfl⟩ := he
  exact ⟨v, hr, ⟨_, rfl, hc⟩, rfl⟩

theorem move_ok (h : Rel E w0 X Z a w s ρ N) {o : Oper} {x : Operand} (ho : o.op = .move x ∨ o.op = .assign x) : PureR E a o w N ρ s.obj ⟨s.get x, []⟩ :=
  ⟨a.eval x, by rcases ho with ho | ho <;> simp [execOp, ho], h.get x, rfl⟩

theorem aInt_ok {op : BinOp} {k : IntKind} {x y : Int} {obs : List Prop} {e : Eff} (he : aInt op k x y = some (obs, e)) (hob : ∀ p ∈ obs, p) :
    ∃ v, (binOp op 0 (.int k x) (.int k y)).run E.P w = .ok v w ∧ SVR w N ρ m e.res v ∧ e.upd = [] := by
  cases op <;> simp only [aInt, ret, Option.some.injEq, Prod.mk.injEq, reduceCtorEq] at he
  case quo =>
    obtain ⟨rfl, rfl⟩ := he
    have hz : pNz y := hob _ (by simp)
    unfold pNz at hz
    exact ⟨_, by simp [binOp, Op.intDiv, hz, pQuo], ⟨_, rfl, rfl⟩, rfl⟩
  case rem =>
    obtain ⟨rfl, rfl⟩ := he
    have hz : pNz y := hob _ (by simp)
    unfold pNz at hz
    exact ⟨_, by simp [binOp, Op.intDiv, hz, pRem], ⟨_, rfl, rfl⟩, rfl⟩
  all_goals
    obtain ⟨_, rfl⟩ := he
    exact ⟨_, by simp [binOp, Op.intArith, Op.intBits, Op.intCmp, pAdd, pSubI, pMul, pAnd, pOr, pEq, pNe, pLt, pLe, pGt, pGe], ⟨_, rfl, rfl⟩, rfl⟩

theorem binOp_T (op : BinOp) (T T' : TypeId) (k : IntKind) (x y : Int) : binOp op T (.int k x) (.int k y) = binOp op T' (.int k x) (.int k y) := by
  unfold binOp
  cases op <;> rfl

theorem run_eqlB (T : TypeId) (a b : Bool) (w : World) (hu : E.P.underlying T = some .bool) : (binOp .eql T (.bool a) (.bool b)).run E.P w = .ok (.bool (a == b)) w := by
  show (do pure (.bool (← Op.equal T (.bool a) (.bool b))) : Sem Value).run E.P w = _
  simp [Op.equal, Op.maxDepth, run_equalIn_bool' w 9999 T a b hu]
theorem run_neqB (T : TypeId) (a b : Bool) (w : World) (hu : E.P.underlying T = some .bool) : (binOp .neq T (.bool a) (.bool b)).run E.P w = .ok (.bool (!(a == b))) w := by
  show (do pure (.bool (!(← Op.equal T (.bool a) (.bool b)))) : Sem Value).run E.P w = _
  simp [Op.equal, Op.maxDepth, run_equalIn_bool' w 9999 T a b hu]

theorem run_guard_int (op : BinOp) (T : TypeId) (x y : Operand) (k k' : IntKind) (n n' : Int) (w : World) : (eqGuard op T x y (.int k n) (.int k' n')).run E.P w = .ok () w := by
  unfold eqGuard; split <;> rfl
theorem run_guard_bool (op : BinOp) (T : TypeId) (x y : Operand) (n n' : Bool) (w : World) : (eqGuard op T x y (.bool n) (.bool n')).run E.P w = .ok () w := by
  unfold eqGuard; split <;> rfl
theorem run_guard_str (op : BinOp) (T : TypeId) (x y : Operand) (n n' : ByteArray) (w : World) : (eqGuard op T x y (.string n) (.string n')).run E.P w = .ok () w := by
  unfold eqGuard; split <;> rfl

theorem ifc_ok (h : Rel E w0 X Z a w s ρ N) {o : Oper} {op : BinOp} {T T' : TypeId} {x : Operand} {b : Bool} (ho : o.op = .binOp op T x (.const .nilIface) T') (hx : s.get x = .v false [.ifc b]) {obs : List Prop} {e : Eff}
    (he : aIfc E op T b = some (obs, e)) : PureR E a o w N ρ s.obj e := by
  have hv := h.get x
  rw [hx] at hv
  have hv : (b = true ∧ ∃ t p, a.eval x = .iface t p) ∨ (b = false ∧ a.eval x = .nilIface) := vr1 hv
  unfold aIfc at he
  cases hi : isIfc E.P T with
  | false => rw [hi] at he; cases he
  | true =>
    rw [hi, cond_true] at he
    have hu : E.P.underlying T = some (.interface (E.P.methodsAt T)) := by
      unfold isIfc at hi
      split at hi
      · rename_i ms hm
        rw [hm]; simp [Program.methodsAt, hm]
      · cases hi
    have hc : a.eval (.const .nilIface) = .nilIface := rfl
    split at he
    · rcases hv with ⟨rfl, t, p, hq⟩ | ⟨rfl, hq⟩
      · exact pure_ret (c := .bool (pNot true)) (v := .bool false) (by simp [execOp, ho, hq, hc, eqGuard_at_iface, run_eql_held_nil w T t p hu]) rfl he
      · exact pure_ret (c := .bool (pNot false)) (v := .bool true) (by simp [execOp, ho, hq, hc, eqGuard_nil_constR, run_eql_nil_nil w T hu]) rfl he
    · rcases hv with ⟨rfl, t, p, hq⟩ | ⟨rfl, hq⟩
      · exact pure_ret (c := .bool true) (v := .bool true) (by simp [execOp, ho, hq, hc, eqGuard_at_iface, run_neq_held_nil w T t p hu]) rfl he
      · exact pure_ret (c := .bool false) (v := .bool false) (by simp [execOp, ho, hq, hc, eqGuard_nil_constR, run_neq_nil_nil w T hu]) rfl he
    · cases he

theorem bin_ok (h : Rel E w0 X Z a w s ρ N) (hq : ∀ T, T ∈ E.eqs → EqT E.P T) {o : Oper} {op : BinOp} {T T' : TypeId} {x y : Operand} (ho : o.op = .binOp op T x y T') {obs : List Prop} {e : Eff}
    (he : aBin E op T (s.get x) (s.get y) = some (obs, e)) (hob : ∀ p ∈ obs, p) : PureR E a o w N ρ s.obj e := by
  have hx := h.get x
  have hy := h.get y
  unfold aBin at he
  split at he
  · rename_i k n k' n' hgx hgy
    rw [hgx] at hx; rw [hgy] at hy
    have hxv : _ = _ := vr1 hx
    have hyv : _ = _ := vr1 hy
    have hg := run_guard_int (E := E) op T x y k k' n n' w
    split at he
    · have hz : pGe0 n' := by
        simp only [Option.some.injEq, Prod.mk.injEq] at he
        exact hob _ (by rw [← he.1]; simp)
      unfold pGe0 at hz
      exact pure_one (c := .int k (pShl k n n')) (v := .int k (pShl k n n')) (by simp [execOp, ho, hxv, hyv, hg, binOp, Op.shift, pShl, show ¬ n' < 0 by omega]) rfl he
    · have hz : pGe0 n' := by
        simp only [Option.some.injEq, Prod.mk.injEq] at he
        exact hob _ (by rw [← he.1]; simp)
      unfold pGe0 at hz
      exact pure_one (c := .int k (pShr k n n')) (v := .int k (pShr k n n')) (by simp [execOp, ho, hxv, hyv, hg, binOp, Op.shift, pShr, show ¬ n' < 0 by omega]) rfl he
    · split at he
      · rename_i hk; subst hk
        obtain ⟨v, hr, hv, hu⟩ := aInt_ok (E := E) (w := w) (N := N) (ρ := ρ) (m := s.obj) he hob
        exact ⟨v, by rw [binOp_T op 0 T] at hr; simp [execOp, ho, hxv, hyv, hg, hr], hv, hu⟩
      · cases he
  · rename_i b b' hgx hgy
    rw [hgx] at hx; rw [hgy] at hy
    have hxv : _ = _ := vr1 hx
    have hyv : _ = _ := vr1 hy
    have hg := run_guard_bool (E := E) op T x y b b' w
    split at he
    · rename_i hu
      exact pure_ret (c := .bool (pBeq b b')) (v := .bool (pBeq b b')) (by simp only [execOp, ho, hxv, hyv, Sem.run_bind, hg, Result.andThen_ok, run_eqlB T b b' w hu, Sem.run_pure, pBeq]) rfl he
    · rename_i hu
      exact pure_ret (c := .bool (pNot (pBeq b b'))) (v := .bool (pNot (pBeq b b'))) (by simp only [execOp, ho, hxv, hyv, Sem.run_bind, hg, Result.andThen_ok, run_neqB T b b' w hu, Sem.run_pure, pBeq, pNot]) rfl he
    · cases he
  · rename_i b b' hgx hgy
    rw [hgx] at hx; rw [hgy] at hy
    have hxv : _ = _ := vr1 hx
    have hyv : _ = _ := vr1 hy
    have hg := run_guard_str (E := E) op T x y b b' w
    split at he
    · have hz : pStrFits b b' := by
        simp only [Option.some.injEq, Prod.mk.injEq] at he
        exact hob _ (by rw [← he.1]; simp)
      unfold pStrFits at hz
      have hz' : ¬ IntKind.i64.max < ((b.size + b'.size : Nat) : Int) := by omega
      exact pure_one (c := .str (pStrApp b b')) (v := .string (pStrApp b b')) (by
        simp only [execOp, ho, hxv, hyv, Sem.run_bind, hg, Result.andThen_ok, binOp, Op.stringOp, gt_iff_lt, if_neg hz', Sem.run_pure, pStrApp]) rfl he
    · exact pure_ret (c := .bool (pStrEq b b')) (v := .bool (pStrEq b b')) (by simp [execOp, ho, hxv, hyv, hg, binOp, Op.stringOp, pStrEq]) rfl he
    · exact pure_ret (c := .bool (pNot (pStrEq b b'))) (v := .bool (pNot (pStrEq b b'))) (by simp [execOp, ho, hxv, hyv, hg, binOp, Op.stringOp, pStrEq, pNot]) rfl he
    · exact pure_ret (c := .bool (pStrLt b b')) (v := .bool (pStrLt b b')) (by simp [execOp, ho, hxv, hyv, hg, binOp, Op.stringOp, pStrLt]) rfl he
    · exact pure_ret (c := .bool (pStrLe b b')) (v := .bool (pStrLe b b')) (by simp [execOp, ho, hxv, hyv, hg, binOp, Op.stringOp, pStrLe]) rfl he
    · exact pure_ret (c := .bool (pNot (pStrLe b b'))) (v := .bool (pNot (pStrLe b b'))) (by simp [execOp, ho, hxv, hyv, hg, binOp, Op.stringOp, pStrLe, pNot]) rfl he
    · exact pure_ret (c := .bool (pNot (pStrLt b b'))) (v := .bool (pNot (pStrLt b b'))) (by simp [execOp, ho, hxv, hyv, hg, binOp, Op.stringOp, pStrLt, pNot]) rfl he
    · cases he
  · rename_i as bs hgx hgy
    rw [hgx] at hx; rw [hgy] at hy
    obtain ⟨us, hxv, hus⟩ := hx
    obtain ⟨vs, hyv, hvs⟩ := hy
    split at he
    · rename_i hin
      simp only [Bool.and_eq_true] at hin
      obtain ⟨⟨hin, hfa⟩, hfb⟩ := hin
      obtain ⟨hgu, heq⟩ := hq T (by simpa using hin)
      have hg := run_eqGuard_agg (P := E.P) w op T x y us.toArray vs.toArray hgu
      split at he
      · rename_i b hc
        have hr := heq w N ρ s.obj as bs us vs b hfa hfb hus hvs hc
        exact pure_ret (c := .bool b) (v := .bool b) (by simp [execOp, ho, hxv, hyv, hg, run_eql_struct, hr]) rfl he
      · rename_i b hc
        have hr := heq w N ρ s.obj as bs us vs b hfa hfb hus hvs hc
        exact pure_ret (c := .bool (pNot b)) (v := .bool (pNot b)) (by simp [execOp, ho, hxv, hyv, hg, run_neq_struct, hr, pNot]) rfl he
      · cases he
    · cases he
  · cases he

theorem not_ok (h : Rel E w0 X Z a w s ρ N) {o : Oper} {T : TypeId} {x : Operand} {b : Bool} (ho : o.op = .unOp .not T x) (hg : s.get x = .v false [.bool b]) : PureR E a o w N ρ s.obj ⟨one (.bool (pNot b)), []⟩ := by
  have hx := h.get x
  rw [hg] at hx
  have hxv : _ = _ := vr1 hx
  exact ⟨.bool (pNot b), by simp [execOp, ho, hxv, Op.unary, pNot], ⟨_, rfl, rfl⟩, rfl⟩

theorem neg_ok (h : Rel E w0 X Z a w s ρ N) {o : Oper} {T : TypeId} {x : Operand} {k : IntKind} {n : Int} (ho : o.op = .unOp .neg T x) (hg : s.get x = .v false [.int k n]) : PureR E a o w N ρ s.obj ⟨one (.int k (pSubI k 0 n)), []⟩ := by
  have hx := h.get x
  rw [hg] at hx
  have hxv : _ = _ := vr1 hx
  exact ⟨.int k (pSubI k 0 n), by simp [execOp, ho, hxv, Op.unary, Op.intArith, pSubI], ⟨_, rfl, rfl⟩, rfl⟩

theorem convert_ok (h : Rel E w0 X Z a w s ρ N) {o : Oper} {S D : TypeId} {x : Operand} (ho : o.op = .convert S D x) {obs : List Prop} {e : Eff}
    (he : aConvert E S D (s.get x) = some (obs, e)) : PureR E a o w N ρ s.obj e := by
  have hx := h.get x
  unfold aConvert at he
  split at he
  · rename_i k k' k2 n hs hd hg
    rw [hg] at hx
    have hxv : _ = _ := vr1 hx
    exact pure_ret (c := .int k' (pWrap k' n)) (v := .int k' (pWrap k' n)) (by simp [execOp, ho, hxv, convert, run_underlying hs, run_underlying hd, Conv.intToInt, pWrap]) rfl he
  · rename_i b hs hd hg
    rw [hg] at hx
    have hxv : _ = _ := vr1 hx
    exact pure_ret (c := .str b) (v := .string b) (by simp [execOp, ho, hxv, convert, run_underlying hs, run_underlying hd]) rfl he
  · cases he

theorem nilCheck_ok (h : Rel E w0 X Z a w s ρ N) {o : Oper} {x : Operand} {c : C} (ho : o.op = .nilCheck x) (hg : s.get x = .v false [c]) (hp : ∀ v, CR w N ρ s.obj c v → ∃ ad, v = .pointer (some ad)) : PureR E a o w N ρ s.obj ⟨one c, []⟩ := by
  have hx := h.get x
  rw [hg] at hx
  obtain ⟨ad, hv⟩ := hp _ (vr1 hx)
  have hc := vr1 hx
  rw [hv] at hc
  exact ⟨_, by simp [execOp, ho, hv], ⟨_, rfl, hc⟩, rfl⟩

theorem capsOf_ok : ∀ {xs : List SV} {vs : List Value} {l : List (Nat × Nat)}, capsOf xs = some l → All2 (SVR w N ρ m) xs vs → All2 (fun (p : Nat × Nat) u => ∃ b, (ρ p.1).A = some ⟨b, 0, none⟩ ∧ u = .pointer (some ⟨b, p.2, none⟩)) l vs
  | [], _, l, he, h => by
    cases h
    simp only [capsOf, Option.some.injEq] at he
    subst he; exact .nil
  | x :: xs, _, l, he, h => by
    cases h with
    | cons h1 h2 =>
      unfold capsOf at he
      split at he
      · rename_i heq; cases heq
      · rename_i id off r heq
        simp only [List.cons.injEq] at heq
        obtain ⟨rfl, rfl⟩ := heq
        cases hr : capsOf xs with
        | none => simp [hr] at he
        | some l' =>
          simp only [hr, Option.map_some, Option.some.injEq] at he
          subst he
          exact .cons (vr1 h1) (capsOf_ok hr h2)
      · cases he

theorem Rel.gets (h : Rel E w0 X Z a w s ρ N) : ∀ (xs : List Operand), All2 (SVR w N ρ s.obj) (xs.map s.get) (xs.map a.eval)
  | [] => .nil
  | x :: xs => .cons (h.get x) (h.gets xs)

theorem makeFunc_ok (h : Rel E w0 X Z a w s ρ N) {o : Oper} {f : FuncId} {first cs : Array Operand} (ho : o.op = .makeFunc (.func f) first cs) (hf : first.toList = []) {l : List (Nat × Nat)} (hc : capsOf (cs.toList.map s.get) = some l) :
    PureR E a o w N ρ s.obj ⟨one (.fn f l), []⟩ := by
  obtain rfl : first = #[] := by simpa using hf
  refine ⟨.func (.func f) #[] (cs.map a.eval), by simp [execOp, ho, Instr.makeFunc], ⟨_, rfl, cs.toList.map a.eval, ?_, capsOf_ok hc (h.gets _)⟩, rfl⟩
  congr 1
  apply Array.ext'
  simp

theorem extract_ok (h : Rel E w0 X Z a w s ρ N) {o : Oper} {x : Operand} {i : Nat} {vs : List (Bool × List C)} {b : Bool} {cs : List C} (ho : o.op = .extract x i) (hg : s.get x = .tup vs) (hi : vs[i]? = some (b, cs)) : PureR E a o w N ρ s.obj ⟨.v b cs, []⟩ := by
  have hx := h.get x
  rw [hg] at hx
  obtain ⟨us, hv, ha⟩ := hx
  obtain ⟨u, hu, hr⟩ := ha.get i hi
  exact ⟨u, by simp [execOp, ho, hv, Instr.extract, hu], hr, rfl⟩

theorem index_ok (h : Rel E w0 X Z a w s ρ N) {o : Oper} {T : TypeId} {x i : Operand} (ho : o.op = .index T x i) {obs : List Prop} {e : Eff}
    (he : aIndex E T (s.get x) (s.get i) = some (obs, e)) (hob : ∀ p ∈ obs, p) : PureR E a o w N ρ s.obj e := by
  have hx := h.get x
  have hi := h.get i
  unfold aIndex at he
  split at he
  · rename_i b k n hu hgx hgi
    rw [hgx] at hx; rw [hgi] at hi
    have hxv : _ = _ := vr1 hx
    have hiv : _ = _ := vr1 hi
    have hb : pIn n (pStrLen b) := by
      simp only [Option.some.injEq, Prod.mk.injEq] at he
      exact hob _ (by rw [← he.1]; simp)
    unfold pIn pStrLen at hb
    have hlt : n.toNat < b.size := by omega
    have hget : b[n.toNat]? = some b[n.toNat] := by simp [hlt]
    exact pure_one (c := .int .u8 (pStrGet b (pNat n))) (v := .int .u8 (pStrGet b (pNat n))) (by
      simp only [execOp, ho, hxv, hiv, Instr.index, asIntOf, Sem.run_bind, Sem.run_pure, Result.andThen_ok, run_underlying hu, if_pos hb.1, pStrGet, pNat]
      rw [hget]; rfl) rfl he
  · cases he

theorem len_ok (h : Rel E w0 X Z a w s ρ N) (hm : ∀ id ob, m id = some ob → s.obj id = some ob) {o : Oper} {c : Call} {T : TypeId} {Ts : List TypeId} {x : Operand} (ho : o.op = .call c) (hc : c.callee = .builtin .len) (ha : c.args.toList = [x]) (hT : c.argTypes.toList = T :: Ts)
    {obs : List Prop} {e : Eff} (he : aLen E m T (s.get x) = some (obs, e)) : PureR E a o w N ρ s.obj e := by
  have hx := h.get x
  have hargs : c.args.map a.eval = #[a.eval x] := by apply Array.ext'; simp [ha]
  have hT' : c.argTypes[0]? = some T := by rw [← Array.getElem?_toList, hT]; rfl
  have run : ∀ {v u : Value}, a.eval x = v → (Builtin.len_ c.argTypes o.type #[v]).run E.P w = .ok u w → (execOp a.eval o).run E.P w = .ok (.value u) w := by
    intro v u hv hr
    simp [execOp, ho, resolve, hc, invoke, builtin, hargs, hv, hr]
  unfold aLen at he
  split at he
  · rename_i el hu hg
    rw [hg] at hx
    obtain ⟨A, hv⟩ := vr1 hx
    exact pure_ret (run (u := goInt 0) hv (by simp [Builtin.len_, hT', run_underlying hu])) (c := .int .i64 0) rfl he
  · rename_i el t xs hu hg
    rw [hg] at hx
    obtain ⟨A, n, cap, hv, hl, _⟩ := (vr1 hx : Rd _ _ _ _ _)
    simp only [List.cons.injEq, and_true] at hv
    exact pure_ret (run (u := goInt n) hv (by simp [Builtin.len_, hT', run_underlying hu])) (c := .int .i64 (pInt (pLen xs))) (by simp [CR, goInt, pInt, pLen, hl]) he
  · rename_i el id hu hg
    rw [hg] at hx
    split at he
    · rename_i t xs hmem
      have hv := (vr1 hx).hs_row (hm id _ hmem)
      exact pure_ret (run (u := goInt xs.length) hv (by simp [Builtin.len_, hT', run_underlying hu])) (c := .int .i64 (pInt (pLen xs))) rfl he
    · rename_i d hmem
      have hv : a.eval x = .slice (ρ id).A d.xs.length (ρ id).cap := (vr1 hx).2 _ _ (hm id _ hmem) rfl
      exact pure_ret (run (u := goInt d.xs.length) hv (by simp [Builtin.len_, hT', run_underlying hu])) (c := .int .i64 (pInt (pLen d.xs))) rfl he
    · cases he
  · rename_i b hu hg
    rw [hg] at hx
    have hv : _ = _ := vr1 hx
    exact pure_ret (run (u := goInt b.size) hv (by simp [Builtin.len_, hT', run_underlying hu])) (c := .int .i64 (pInt (pStrLen b))) rfl he
  · cases he

theorem cap_ok (h : Rel E w0 X Z a w s ρ N) {o : Oper} {c : Call} {T : TypeId} {Ts : List TypeId} {x : Operand} (ho : o.op = .call c) (hc : c.callee = .builtin .cap) (ha : c.args.toList = [x]) (hT : c.argTypes.toList = T :: Ts)
    {obs : List Prop} {e : Eff} (he : aCap E T (s.get x) = some (obs, e)) : PureR E a o w N ρ s.obj e := by
  have hx := h.get x
  have hargs : c.args.map a.eval = #[a.eval x] := by apply Array.ext'; simp [ha]
  have hT' : c.argTypes[0]? = some T := by rw [← Array.getElem?_toList, hT]; rfl
  unfold aCap at he
  split at he
  · rename_i el hu hg
    rw [hg] at hx
    obtain ⟨A, hv⟩ := vr1 hx
    exact pure_ret (c := .int .i64 0) (v := goInt 0) (by simp [execOp, ho, resolve, hc, invoke, builtin, hargs, hv, Builtin.cap_, hT', run_underlying hu]) rfl he
  · cases he

theorem min_ok (h : Rel E w0 X Z a w s ρ N) {o : Oper} {c : Call} {k k' : IntKind} {n n' : Int} (ho : o.op = .call c) (hc : c.callee = .builtin .min) (ha : c.args.toList.map s.get = [.v false [.int k n], .v false [.int k' n']]) : PureR E a o w N ρ s.obj ⟨one (.int k (pMin n n')), []⟩ := by
  have hx := h.gets c.args.toList
  rw [ha] at hx
  have hargs : c.args.map a.eval = (c.args.toList.map a.eval).toArray := by apply Array.ext'; simp
  generalize c.args.toList.map a.eval = l at hx hargs
  obtain _ | ⟨h1, _ | ⟨h2, _ | _⟩⟩ := hx
  have h1 : _ = _ := vr1 h1
  have h2 : _ = _ := vr1 h2
  subst h1 h2
  exact ⟨.int k (pMin n n'), by simp [execOp, ho, resolve, hc, invoke, builtin, hargs, Builtin.min_, Builtin.min2, pMin], ⟨_, rfl, rfl⟩, rfl⟩

theorem max_ok (h : Rel E w0 X Z a w s ρ N) {o : Oper} {c : Call} {k k' : IntKind} {n n' : Int} (ho : o.op = .call c) (hc : c.callee = .builtin .max) (ha : c.args.toList.map s.get = [.v false [.int k n], .v false [.int k' n']]) : PureR E a o w N ρ s.obj ⟨one (.int k (pMax n n')), []⟩ := by
  have hx := h.gets c.args.toList
  rw [ha] at hx
  have hargs : c.args.map a.eval = (c.args.toList.map a.eval).toArray := by apply Array.ext'; simp
  generalize c.args.toList.map a.eval = l at hx hargs
  obtain _ | ⟨h1, _ | ⟨h2, _ | _⟩⟩ := hx
  have h1 : _ = _ := vr1 h1
  have h2 : _ = _ := vr1 h2
  subst h1 h2
  exact ⟨.int k (pMax n n'), by simp [execOp, ho, resolve, hc, invoke, builtin, hargs, Builtin.max_, Builtin.max2, pMax], ⟨_, rfl, rfl⟩, rfl⟩

end
end Go.Proofs.YtedjlbcclhgfmaaDoor

/- THE MACHINE OF READINGS, part F: slices of slices and of strings; structs that are built. -/
namespace Go.Proofs.YtedjlbcclhgfmaaDoor
open Go.RowKit

section
variable {E : Env} {w0 : World} {X Z : Blk} {a : Act} {w : World} {s : St} {ρ : Nat → Pl} {N : Blk} {m : Mem}

theorem Rd.sub {t : Ty} {A : Option Addr} {n c : Nat} {xs : List t.den} (h : Rd (.sl t) w N [.slice A n c] xs) {l u : Nat} (hlu : l ≤ u) (hu : u ≤ xs.length) :
    Rd (.sl t) w N [.slice (if c = l then A else A.map (·.add (l * t.size))) (u - l) (c - l)] (pSub xs l u) := by
  obtain ⟨A', n', c', hv, hl, hc, hr⟩ := h
  simp only [List.cons.injEq, Value.slice.injEq, and_true] at hv
  obtain ⟨rfl, rfl, rfl⟩ := hv
  refine ⟨_, _, _, rfl, ?_, by omega, fun h0 => ?_⟩
  · unfold pSub; simp; omega
  · obtain ⟨b, off, rfl, hN, hk⟩ := hr (by omega)
    refine ⟨b, off + l * t.size, by rw [if_neg (by omega)]; simp [addr_add], hN, fun k hk' => ?_⟩
    have hk2 : k < u - l := by unfold pSub at hk'; simp at hk'; omega
    obtain ⟨us, h1, h2, h3⟩ := hk (l + k) (by omega)
    refine ⟨us, ?_, h2, fun j v hj => ?_⟩
    · have : (pSub xs l u)[k] = xs[l + k]'(by omega) := by
        apply Option.some.inj
        rw [← List.getElem?_eq_getElem, ← List.getElem?_eq_getElem]
        unfold pSub
        rw [List.getElem?_drop, List.getElem?_take, if_pos (by omega)]
      rw [this]; exact h1
    · have e : off + l * t.size + k * t.size + j = off + (l + k) * t.size + j := by rw [Nat.add_mul]; omega
      rw [e]; exact h3 j v hj

theorem slice_ok (h : Rel E w0 X Z a w s ρ N) {o : Oper} {T : TypeId} {x : Operand} {lo hi mx : Option Operand} (ho : o.op = .slice T x lo hi mx) {obs : List Prop} {e : Eff}
    (he : aSlice E T (s.get x) (lo.map s.get) (hi.map s.get) (mx.map s.get) = some (obs, e)) (hob : ∀ p ∈ obs, p) : PureR E a o w N ρ s.obj e := by
  have hx := h.get x
  have bnd : ∀ {y : Option Operand}, bound (y.map s.get) = some none → y.map a.eval = none := by
    intro y hy
    cases y with
    | none => rfl
    | some z =>
      exfalso
      simp only [Option.map_some] at hy
      unfold bound at hy
      split at hy
      · rename_i heq; cases heq
      · simp at hy
      · cases hy
  have bnd' : ∀ {y : Option Operand} {i : Int}, bound (y.map s.get) = some (some i) → ∃ k, y.map a.eval = some (.int k i) := by
    intro y i hy
    cases y with
    | none => simp [bound] at hy
    | some z =>
      simp only [Option.map_some] at hy ⊢
      unfold bound at hy
      split at hy
      · rename_i heq; cases heq
      · rename_i k n heq
        simp only [Option.some.injEq] at heq hy
        subst hy
        have hz := h.get z
        rw [heq] at hz
        exact ⟨k, by rw [(vr1 hz : _ = _)]⟩
      · cases hy
  unfold aSlice at he
  split at he
  · rename_i t xs hg hmx
    split at he
    · rename_i l u hlo hhi
      rw [hg] at hx
      have hrd : Rd (.sl t) w N [a.eval x] xs := vr1 hx
      have hrd' := hrd
      obtain ⟨A, n, c, hv, hl, hc, _⟩ := hrd'
      simp only [List.cons.injEq, and_true] at hv
      rw [hv] at hrd
      have e3 := bnd hmx
      split at he
      · rename_i hes
        obtain ⟨e', i, hu', hi', hz⟩ := esizeT_some hes
        have run : ∀ (l' u' : Nat), l' ≤ u' → u' ≤ n → (Instr.sliceBounds true n c (lo.map a.eval) (hi.map a.eval) none).run E.P w = .ok (l', u', c) w →
            (execOp a.eval o).run E.P w = .ok (.value (.slice (if c = l' then A else A.map (·.add (l' * t.size))) (u' - l') (c - l'))) w := by
          intro l' u' _ _ hb
          simp [execOp, ho, e3, hv, Instr.sliceAt, run_underlying hu', Instr.slice, hb, sizeOf, typeInfo, hi', hz]
        split at he
        · have e1 := bnd hlo
          have e2 := bnd hhi
          refine pure_ret (c := .sl t xs) (run 0 n (by omega) (by omega) (by simp [e1, e2, Instr.sliceBounds])) ?_ he
          have := hrd.sub (l := 0) (u := n) (by omega) (by omega)
          have es : pSub xs 0 n = xs := by unfold pSub; rw [List.drop_zero, List.take_of_length_le (by omega)]
          rw [es] at this
          exact this
        · rename_i i0
          obtain ⟨k1, e1⟩ := bnd' hlo
          have e2 := bnd hhi
          have hb : pTo i0 (pLen xs) := by
            simp only [Option.some.injEq, Prod.mk.injEq] at he
            exact hob _ (by rw [← he.1]; simp)
          unfold pTo pLen at hb
          refine pure_one (c := .sl t (pSub xs (pNat i0) (pLen xs))) (run i0.toNat n (by omega) (by omega) (by simp [e1, e2, Instr.sliceBounds, run_sliceBound w k1 i0 n _ hb.1 (by omega)])) ?_ he
          have := hrd.sub (l := i0.toNat) (u := n) (by omega) (by omega)
          rw [← hl] at this
          rw [← hl]
          exact this
        · rename_i i0
          have e1 := bnd hlo
          obtain ⟨k2, e2⟩ := bnd' hhi
          have hb : pTo i0 (pLen xs) := by
            simp only [Option.some.injEq, Prod.mk.injEq] at he
            exact hob _ (by rw [← he.1]; simp)
          unfold pTo pLen at hb
          exact pure_one (c := .sl t (pSub xs 0 (pNat i0))) (run 0 i0.toNat (by omega) (by omega) (by simp [e1, e2, Instr.sliceBounds, run_sliceBound w k2 i0 c _ hb.1 (by omega)])) (hrd.sub (l := 0) (u := i0.toNat) (by omega) (by omega)) he
        · rename_i i0 i1
          obtain ⟨k1, e1⟩ := bnd' hlo
          obtain ⟨k2, e2⟩ := bnd' hhi
          have hb : pTo i1 (pLen xs) ∧ pTo i0 (pNat i1) := by
            simp only [Option.some.injEq, Prod.mk.injEq] at he
            exact ⟨hob _ (by rw [← he.1]; simp), hob _ (by rw [← he.1]; simp)⟩
          unfold pTo pLen pNat at hb
          exact pure_one (c := .sl t (pSub xs (pNat i0) (pNat i1))) (run i0.toNat i1.toNat (by omega) (by omega) (by simp [e1, e2, Instr.sliceBounds, run_sliceBound w k2 i1 c _ hb.1.1 (by omega), run_sliceBound w k1 i0 i1.toNat _ hb.2.1 hb.2.2])) (hrd.sub (l := i0.toNat) (u := i1.toNat) (by omega) (by omega)) he
      · cases he
    · cases he
  · rename_i t xs m hg hmx
    split at he
    · rename_i u hlo hhi
      rw [hg] at hx
      have hrd : Rd (.sl t) w N [a.eval x] xs := vr1 hx
      have hrd' := hrd
      obtain ⟨A, n, c, hv, hl, hc, _⟩ := hrd'
      simp only [List.cons.injEq, and_true] at hv
      rw [hv] at hrd
      have e1 := bnd hlo
      obtain ⟨k2, e2⟩ := bnd' hhi
      obtain ⟨k3, e3⟩ := bnd' hmx
      split at he
      · rename_i hes
        obtain ⟨e', i, hu', hi', hz⟩ := esizeT_some hes
        have hb : pTo u (pLen xs) ∧ m = u := by
          simp only [Option.some.injEq, Prod.mk.injEq] at he
          exact ⟨hob _ (by rw [← he.1]; simp), hob _ (by rw [← he.1]; simp)⟩
        obtain ⟨hb, rfl⟩ := hb
        unfold pTo pLen at hb
        have run : (execOp a.eval o).run E.P w = .ok (.value (.slice (if m.toNat = 0 then A else A.map (·.add (0 * t.size))) (m.toNat - 0) (m.toNat - 0))) w := by
          simp [execOp, ho, e1, e2, e3, hv, Instr.sliceAt, run_underlying hu', Instr.slice, Instr.sliceBounds, run_sliceBound w k3 m c _ hb.1 (by omega), run_sliceBound w k2 m m.toNat _ hb.1 (by omega), sizeOf, typeInfo, hi']
        refine pure_one (c := .sl t (pSub xs 0 (pNat m))) run ?_ he
        have h1 := hrd.sub (l := 0) (u := m.toNat) (by omega) (by omega)
        obtain ⟨A', n', c', hv', hl', _, hr'⟩ := (h1 : Rd (.sl t) w N _ _)
        simp only [List.cons.injEq, and_true, Value.slice.injEq] at hv'
        refine ⟨_, _, _, rfl, ?_, Nat.le_refl _, fun h0 => ?_⟩
        · exact hl'.trans hv'.2.1.symm
        · obtain ⟨b, off, hA, hk⟩ := hr' (by omega)
          refine ⟨b, off, ?_, hk⟩
          rw [← hA, ← hv'.1]
          by_cases hm0 : m.toNat = 0
          · omega
          · by_cases hc0 : c = 0
            · omega
            · rw [if_neg hm0, if_neg hc0]
      · cases he
    · rename_i hlo hhi
      split at he
      · clear bnd
        rw [hg] at hx
        obtain ⟨A, n, c, hv, hl, hc, _⟩ := (vr1 hx : Rd _ _ _ _ _)
        simp only [List.cons.injEq, and_true] at hv
        obtain ⟨k1, e1⟩ := bnd' hlo
        obtain ⟨k2, e2⟩ := bnd' hhi
        obtain ⟨k3, e3⟩ := bnd' hmx
        cases hel : elemT E.P T with
        | none => simp [hel] at he
        | some el =>
          cases hes : esizeT E.P T with
          | none => simp [hes] at he
          | some z =>
            simp only [hel, hes, Option.isSome_some, Bool.and_self, cond_true] at he
            obtain ⟨e', i, hu, hi, hz⟩ := esizeT_some hes
            refine pure_ret (c := .nil) (v := .slice (if 0 = 0 then A else A.map (·.add (0 * i.size))) 0 0) ?_ ⟨_, rfl⟩ he
            simp [execOp, ho, e1, e2, e3, hv, Instr.sliceAt, run_underlying hu, Instr.slice, Instr.sliceBounds, run_sliceBound, sizeOf, typeInfo, hi]
      · cases he
    · cases he
  · rename_i b hg hmx
    split at he
    · rename_i l u hu hlo hhi
      rw [hg] at hx
      have hv : _ = _ := vr1 hx
      have e3 := bnd hmx
      have run : ∀ (l' u' : Nat), (Instr.sliceBounds false b.size b.size (lo.map a.eval) (hi.map a.eval) none).run E.P w = .ok (l', u', b.size) w →
          (execOp a.eval o).run E.P w = .ok (.value (.string (b.extract l' u'))) w := by
        intro l' u' hb
        simp [execOp, ho, e3, hv, Instr.sliceAt, run_underlying hu, Instr.slice, hb]
      split at he
      · have e1 := bnd hlo
        have e2 := bnd hhi
        have es : b.extract 0 b.size = b := by simp
        exact pure_ret (c := .str b) (run 0 b.size (by simp [e1, e2, Instr.sliceBounds])) (by rw [es]; rfl) he
      · rename_i i0
        obtain ⟨k1, e1⟩ := bnd' hlo
        have e2 := bnd hhi
        have hb : pTo i0 (pStrLen b) := by
          simp only [Option.some.injEq, Prod.mk.injEq] at he
          exact hob _ (by rw [← he.1]; simp)
        unfold pTo pStrLen at hb
        exact pure_one (c := .str (pStrSub b (pNat i0) (pStrLen b))) (run i0.toNat b.size (by simp [e1, e2, Instr.sliceBounds, run_sliceBound w k1 i0 b.size _ hb.1 hb.2])) rfl he
      · rename_i i0
        have e1 := bnd hlo
        obtain ⟨k2, e2⟩ := bnd' hhi
        have hb : pTo i0 (pStrLen b) := by
          simp only [Option.some.injEq, Prod.mk.injEq] at he
          exact hob _ (by rw [← he.1]; simp)
        unfold pTo pStrLen at hb
        exact pure_one (c := .str (pStrSub b 0 (pNat i0))) (run 0 i0.toNat (by simp [e1, e2, Instr.sliceBounds, run_sliceBound w k2 i0 b.size _ hb.1 hb.2])) rfl he
      · rename_i i0 i1
        obtain ⟨k1, e1⟩ := bnd' hlo
        obtain ⟨k2, e2⟩ := bnd' hhi
        have hb : pTo i1 (pStrLen b) ∧ pTo i0 (pNat i1) := by
          simp only [Option.some.injEq, Prod.mk.injEq] at he
          exact ⟨hob _ (by rw [← he.1]; simp), hob _ (by rw [← he.1]; simp)⟩
        unfold pTo pStrLen pNat at hb
        exact pure_one (c := .str (pStrSub b (pNat i0) (pNat i1))) (run i0.toNat i1.toNat (by simp [e1, e2, Instr.sliceBounds, run_sliceBound w k2 i1 b.size _ hb.1.1 hb.1.2, run_sliceBound w k1 i0 i1.toNat _ hb.2.1 hb.2.2])) rfl he
    · cases he
  · rename_i g hg hmx
    split at he
    · rename_i t xs len el l hgl hu hlo hhi
      split at he
      · rename_i hc
        obtain ⟨hsz, rfl⟩ := hc
        rw [hg] at hx
        have hv : _ = _ := vr1 hx
        obtain ⟨k1, e1⟩ := bnd' hlo
        have e2 := bnd hhi
        have e3 := bnd hmx
        have hb : pTo l xs.length := by
          simp only [Option.some.injEq, Prod.mk.injEq] at he
          exact hob _ (by rw [← he.1]; simp)
        unfold pTo at hb
        obtain ⟨i, hi, hz⟩ := sizeT_some hsz
        have run : (execOp a.eval o).run E.P w = .ok (.value (.slice (some (if xs.length = l.toNat then (⟨g, 0, none⟩ : Addr) else (⟨g, 0, none⟩ : Addr).add (l.toNat * t.size))) (xs.length - l.toNat) (xs.length - l.toNat))) w := by
          simp [execOp, ho, e1, e2, e3, hv, Instr.sliceAt, run_underlying hu, Instr.sureAddr, Instr.sliceBounds, run_sliceBound w k1 l xs.length _ hb.1 hb.2, sizeOf, typeInfo, hi, hz]
        obtain ⟨hN, hrow⟩ := h.glob g _ hgl
        refine pure_one (c := .sl t (pSub xs (pNat l) xs.length)) run ⟨_, _, _, rfl, ?_, Nat.le_refl _, fun h0 => ?_⟩ he
        · unfold pSub pNat; simp
        · refine ⟨g, l.toNat * t.size, ?_, hN, fun k hk => ?_⟩
          · rw [if_neg (by omega), addr_add]; simp
          · have hk2 : k < xs.length - l.toNat := by unfold pSub pNat at hk; simpa using hk
            obtain ⟨us, h1, h2⟩ := hrow (l.toNat + k) (by omega)
            refine ⟨us, ?_, h1.len, fun j v hj => ?_⟩
            · have : (pSub xs (pNat l) xs.length)[k] = xs[l.toNat + k]'(by omega) := by
                apply Option.some.inj
                rw [← List.getElem?_eq_getElem, ← List.getElem?_eq_getElem]
                unfold pSub pNat
                rw [List.getElem?_drop, List.getElem?_take, if_pos (by omega)]
              rw [this]; exact h1
            · have e : l.toNat * t.size + k * t.size + j = (l.toNat + k) * t.size + j := by rw [Nat.add_mul]
              rw [e]; exact h2 j v hj
      · cases he
    · cases he
  · cases he

theorem sliceNil_ok (h : Rel E w0 X Z a w s ρ N) {o : Oper} {T : TypeId} {x : Operand} {lo hi mx : Option Operand} (ho : o.op = .slice T x lo hi mx) (hg : s.get x = .v false [.nil]) {obs : List Prop} {e : Eff}
    (he : aSliceNil E T (lo.map s.get) (hi.map s.get) (mx.map s.get) = some (obs, e)) : PureR E a o w N ρ s.obj e := by
  have hx := h.get x
  rw [hg] at hx
  obtain ⟨A, hv⟩ := vr1 hx
  have bnd : ∀ {y : Option Operand} {l : Option Int}, bound (y.map s.get) = some l → okZ l = true → (y.map a.eval = none ∧ l = none) ∨ ((∃ k, y.map a.eval = some (.int k 0)) ∧ l ≠ none) := by
    intro y l hy hz
    cases y with
    | none => exact .inl ⟨rfl, by simpa [bound] using hy.symm⟩
    | some z =>
      refine .inr ?_
      simp only [Option.map_some] at hy ⊢
      unfold bound at hy
      split at hy
      · rename_i heq; cases heq
      · rename_i k n heq
        simp only [Option.some.injEq] at heq hy
        subst hy
        have hz' := h.get z
        rw [heq] at hz'
        have hn : n = 0 := by
          unfold okZ at hz
          split at hz
          · rename_i h'; cases h'
          · rename_i h'; exact Option.some.inj h'
          · cases hz
        subst hn
        exact ⟨⟨k, by rw [(vr1 hz' : _ = _)]⟩, by simp⟩
      · cases hy
  unfold aSliceNil at he
  split at he
  · rename_i l u m hlo hhi hmx
    cases h1 : okZ l with
    | false => simp [h1] at he
    | true =>
    cases h2 : okZ u with
    | false => simp [h2] at he
    | true =>
    cases h3 : okZ m with
    | false => simp [h3] at he
    | true =>
    cases hel : elemT E.P T with
    | none => simp [hel] at he
    | some el =>
    cases hes : esizeT E.P T with
    | none => simp [hes] at he
    | some z =>
    cases h4 : (m.isNone || u.isSome) with
    | false => simp [h4] at he
    | true =>
      simp only [h1, h2, h3, h4, hel, hes, Option.isSome_some, Bool.and_self, cond_true] at he
      obtain ⟨e', i, hu, hi, hz⟩ := esizeT_some hes
      refine pure_ret (c := .nil) (v := .slice (if 0 = 0 then A else A.map (·.add (0 * i.size))) 0 0) ?_ ⟨_, rfl⟩ he
      rcases bnd hlo h1 with ⟨e1, _⟩ | ⟨⟨k1, e1⟩, _⟩ <;> rcases bnd hhi h2 with ⟨e2, q2⟩ | ⟨⟨k2, e2⟩, q2⟩ <;> rcases bnd hmx h3 with ⟨e3, q3⟩ | ⟨⟨k3, e3⟩, q3⟩ <;>
        first | (exfalso; subst q2; cases m <;> simp_all; done) | simp [execOp, ho, e1, e2, e3, hv, Instr.sliceAt, run_underlying hu, Instr.slice, Instr.sliceBounds, run_sliceBound, sizeOf, typeInfo, hi]
  · cases he

end
end Go.Proofs.YtedjlbcclhgfmaaDoor

/- THE MACHINE OF READINGS, part G: what is built out of parts. -/
namespace Go.Proofs.YtedjlbcclhgfmaaDoor
open Go.RowKit

theorem foldl_put (off : Nat) : ∀ (vs : List Value) (k : Nat) (cells : Array Value), off + k + vs.length ≤ cells.size →
    ((vs.zipIdx k).foldl (fun (cs : Array Value) (p : Value × Nat) => cs.setIfInBounds (off + p.2) p.1) cells).toList = cells.toList.take (off + k) ++ vs ++ cells.toList.drop (off + k + vs.length)
  | [], k, cells, _ => by simp
  | v :: vs, k, cells, h => by
    simp only [List.zipIdx_cons, List.foldl_cons]
    rw [foldl_put off vs (k + 1) _ (by simp at h ⊢; omega)]
    have e := list_seg_step cells.toList (off + k) v vs (by simp at h ⊢; omega)
    simpa [Array.toList_setIfInBounds, Nat.add_assoc] using e

section
variable {E : Env} {w0 : World} {X Z : Blk} {a : Act} {w : World} {s : St} {ρ : Nat → Pl} {N : Blk} {m : Mem}

/-- the parts of a literal -/
def PartR (w : World) (N : Blk) (ρ : Nat → Pl) (m : Mem) (p : Nat × List C) (q : Nat × Value) : Prop := p.1 = q.1 ∧ All2 (CR w N ρ m) p.2 q.2.cells.toList

theorem putAt_some {cs vs r : List C} {off : Nat} (h : putAt cs off vs = some r) : off + vs.length ≤ cs.length ∧ r = cs.take off ++ vs ++ cs.drop (off + vs.length) := by
  unfold putAt at h
  split at h
  · rename_i hl; exact ⟨hl, by simpa using h.symm⟩
  · cases h

theorem fill_ok {place : Nat → Option (Nat × Nat)} : ∀ {ps : List (Nat × List C)} {qs : List (Nat × Value)} {cs r : List C} {cells : Array Value}, fillC place cs ps = some r → All2 (PartR w N ρ m) ps qs → All2 (CR w N ρ m) cs cells.toList →
    ∃ cells', Instr.fill place cells qs = some cells' ∧ All2 (CR w N ρ m) r cells'.toList
  | [], _, cs, r, cells, he, h, hc => by
    cases h
    simp only [fillC, Option.some.injEq] at he
    subst he
    exact ⟨cells, rfl, hc⟩
  | (i, c) :: ps, _, cs, r, cells, he, h, hc => by
    cases h with
    | @cons _ q _ qs h1 h2 =>
      obtain ⟨j, v⟩ := q
      obtain ⟨hij, hv⟩ := h1
      simp only at hij hv
      subst hij
      simp only [fillC] at he
      cases hp : place i with
      | none => simp [hp] at he
      | some os =>
        obtain ⟨off, size⟩ := os
        simp only [hp] at he
        split at he
        · rename_i hsz
          cases hput : putAt cs off c with
          | none => simp [hput] at he
          | some cs' =>
            simp only [hput] at he
            obtain ⟨hl, rfl⟩ := putAt_some hput
            have hvl : v.cells.size = size := by rw [← hsz, hv.len]; simp
            have hcl := hc.len
            simp only [Array.length_toList] at hcl
            have hvl' := hv.len
            simp only [Array.length_toList] at hvl'
            have hfit : off + v.cells.size ≤ cells.size := by omega
            have hfold : (v.cells.zipIdx.foldl (fun (cs : Array Value) (p : Value × Nat) => cs.setIfInBounds (off + p.2) p.1) cells).toList = cells.toList.take off ++ v.cells.toList ++ cells.toList.drop (off + v.cells.size) := by
              rw [← Array.foldl_toList, Array.toList_zipIdx]
              have := foldl_put off v.cells.toList 0 cells (by simpa using hfit)
              simpa using this
            have hnew : All2 (CR w N ρ m) (cs.take off ++ c ++ cs.drop (off + c.length)) (v.cells.zipIdx.foldl (fun (cs : Array Value) (p : Value × Nat) => cs.setIfInBounds (off + p.2) p.1) cells).toList := by
              rw [hfold]
              refine ((hc.take off).append hv).append ?_
              rw [show v.cells.size = c.length by omega]
              exact hc.drop _
            obtain ⟨cells', hf, hr⟩ := fill_ok he h2 hnew
            refine ⟨cells', ?_, hr⟩
            have hno : ¬ (v.cells.size ≠ size ∨ cells.size < off + v.cells.size) := by omega
            simp only [Instr.fill, hp]
            rw [if_neg (by simpa using hno)]
            exact hf
        · cases he

theorem zeroT_some {P : Program} {T : TypeId} {z : List C} (h : zeroT P T = some z) : ∃ i v, P.info? T = some i ∧ i.zero = some v ∧ ∀ (w : World) (N : Blk) (ρ : Nat → Pl) (m : Mem), All2 (CR w N ρ m) z v.cells.toList := by
  unfold zeroT at h
  split at h
  · rename_i v hv
    cases hi : P.info? T with
    | none => simp [hi] at hv
    | some i =>
      simp only [hi, Option.bind_some] at hv
      cases hall : v.cells.toList.all (·.oneCell') with
      | false => rw [hall] at h; cases h
      | true =>
        rw [hall] at h
        simp only [cond_true, Option.some.injEq] at h
        subst h
        exact ⟨i, v, rfl, hv, fun w N ρ m => cOfValues_ok _ hall⟩
  · cases h

theorem spOf_ok {w : World} {N : Blk} {ρ : Nat → Pl} {m : Mem} {p : Bool} {nx T : Nat} (hT : (ρ nx).cap = T) (v : Value) (h : v.oneCell' = true) : CR w N ρ m (spOf p nx T v) v := by
  unfold spOf
  split
  · exact ⟨hT, .inl rfl⟩
  · cases p with
    | true => exact rfl
    | false => exact ⟨_, rfl⟩
  · exact cOfValue_ok v h
theorem spOfs_ok {w : World} {N : Blk} {ρ : Nat → Pl} {m : Mem} {p : Bool} {nx T : Nat} (hT : (ρ nx).cap = T) : ∀ (vs : List Value), vs.all (·.oneCell') = true → All2 (CR w N ρ m) (vs.map (spOf p nx T)) vs
  | [], _ => .nil
  | v :: vs, h => by
    simp only [List.all_cons, Bool.and_eq_true] at h
    exact .cons (spOf_ok hT v h.1) (spOfs_ok hT vs h.2)
theorem zeroP_some {P : Program} {nx : Nat} {T : TypeId} {z : List C} (h : zeroP P nx T = some z) : ∃ i v, P.info? T = some i ∧ i.zero = some v ∧ ∀ (w : World) (N : Blk) (ρ : Nat → Pl) (m : Mem), (ρ nx).cap = T → All2 (CR w N ρ m) z v.cells.toList := by
  unfold zeroP at h
  split at h
  · rename_i v hv
    cases hi : P.info? T with
    | none => simp [hi] at hv
    | some i =>
      simp only [hi, Option.bind_some] at hv
      cases hall : v.cells.toList.all (·.oneCell') with
      | false => rw [hall] at h; cases h
      | true =>
        rw [hall] at h
        simp only [cond_true, Option.some.injEq] at h
        subst h
        exact ⟨i, v, rfl, hv, fun w N ρ m hT => spOfs_ok hT _ hall⟩
  · cases h

theorem run_zeroT {P : Program} {T : TypeId} {i : TypeInfo} {v : Value} (w : World) (hi : P.info? T = some i) (hv : i.zero = some v) : (zeroValue T).run P w = .ok v w := by
  simp [zeroValue, typeInfo, hi, hv]

theorem partsC_ok (h : Rel E w0 X Z a w s ρ N) : ∀ {ps : List (Nat × Operand)} {l : List (Nat × List C)}, partsC s.get ps = some l → All2 (PartR w N ρ s.obj) l (ps.map fun p => (p.1, a.eval p.2))
  | [], l, he => by
    simp only [partsC, Option.some.injEq] at he
    subst he; exact .nil
  | (i, x) :: ps, l, he => by
    simp only [partsC] at he
    split at he
    · rename_i b cs l' hg hl
      simp only [Option.some.injEq] at he
      subst he
      have hx := h.get x
      rw [hg] at hx
      exact .cons ⟨rfl, VR.cells hx⟩ (partsC_ok h hl)
    · cases he

theorem run_places {P : Program} {w : World} : ∀ {fs : List Field} {l : List (Nat × Nat)}, placesT P fs = some l → (fs.mapM (m := Sem) fun f => do pure (f.offset, ← sizeOf f.type)).run P w = .ok l w
  | [], l, h => by
    simp only [placesT, Option.some.injEq] at h
    subst h; simp
  | f :: fs, l, h => by
    simp only [placesT] at h
    split at h
    · rename_i n l' hn hl
      simp only [Option.some.injEq] at h
      subst h
      have ih := run_places (w := w) hl
      simp only [bind_pure_comp] at ih
      simp [List.mapM_cons, run_sizeT w hn, ih]
    · cases h

theorem build_ok (h : Rel E w0 X Z a w s ρ N) {o : Oper} {T : TypeId} {ps : Array (Nat × Operand)} (ho : o.op = .build T ps) {obs : List Prop} {e : Eff}
    (he : aBuild E T (partsC s.get ps.toList) = some (obs, e)) : PureR E a o w N ρ s.obj e := by
  have hparts : (ps.map fun (p : Nat × Operand) => (p.1, a.eval p.2)).toList = ps.toList.map fun p => (p.1, a.eval p.2) := by simp
  unfold aBuild at he
  split at he
  · rename_i fs z l hu hz hl
    obtain ⟨i, v, hi, hv, hzr⟩ := zeroT_some hz
    split at he
    · rename_i pl hpl
      cases hf : fillC (fun i => pl[i]?) z l with
      | none => simp [hf] at he
      | some cs =>
        simp only [hf, Option.map_some, Option.some.injEq, Prod.mk.injEq] at he
        obtain ⟨_, rfl⟩ := he
        obtain ⟨cells', hfl, hr⟩ := fill_ok hf (partsC_ok h hl) (hzr w N ρ s.obj)
        refine ⟨.agg cells', ?_, ⟨cells'.toList, by simp, hr⟩, rfl⟩
        have hm := run_places (w := w) hpl
        have hm2 : (fs.mapM (m := Sem) fun f => do pure (f.offset, ← sizeOf f.type)).run E.P w = .ok pl.toArray w := by
          rw [Array.mapM_eq_mapM_toList]
          simp only [Sem.run_map, hm]
          rfl
        have hfl' : Instr.fill (fun i => pl.toArray[i]?) v.cells (ps.map fun (p : Nat × Operand) => (p.1, a.eval p.2)).toList = some cells' := by
          rw [hparts]
          simpa using hfl
        simp only [execOp, ho, Instr.build, Sem.run_bind, run_zeroT w hi hv, Result.andThen_ok, run_underlying hu]
        rw [hm2]
        simp only [Result.andThen_ok, hfl']
        rfl
    · cases he
  · rename_i len el z l hu hz hl
    obtain ⟨i, v, hi, hv, hzr⟩ := zeroT_some hz
    split at he
    · rename_i n hn
      cases hf : fillC (fun i => some (i * n, n)) z l with
      | none => simp [hf] at he
      | some cs =>
        simp only [hf, Option.map_some, Option.some.injEq, Prod.mk.injEq] at he
        obtain ⟨_, rfl⟩ := he
        obtain ⟨cells', hfl, hr⟩ := fill_ok hf (partsC_ok h hl) (hzr w N ρ s.obj)
        refine ⟨.agg cells', ?_, ⟨cells'.toList, by simp, hr⟩, rfl⟩
        have hfl' : Instr.fill (fun i => some (i * n, n)) v.cells (ps.map fun (p : Nat × Operand) => (p.1, a.eval p.2)).toList = some cells' := by
          rw [hparts]; exact hfl
        simp only [execOp, ho, Instr.build, Sem.run_bind, run_zeroT w hi hv, Result.andThen_ok, run_underlying hu, run_sizeT w hn, hfl']
        rfl
    · cases he
  · cases he

end
end Go.Proofs.YtedjlbcclhgfmaaDoor

/- THE MACHINE OF READINGS, part H: how the relation of states goes on behind an effect. -/
namespace Go.Proofs.YtedjlbcclhgfmaaDoor
open Go.RowKit

theorem look_append {α : Type} : ∀ (l r : List (Nat × α)) (i : Nat), look (l ++ r) i = match look l i with
    | some x => some x
    | none => look r i
  | [], _, _ => rfl
  | (k, v) :: l, r, i => by
    simp only [List.cons_append, look]
    cases Nat.beq k i with
    | true => rfl
    | false => exact look_append l r i

theorem look_cons {α : Type} (k : Nat) (v : α) (r : List (Nat × α)) (i : Nat) : look ((k, v) :: r) i = if k = i then some v else look r i := by
  simp only [look]
  by_cases h : k = i
  · subst h; simp
  · have : Nat.beq k i = false := by
      cases hb : Nat.beq k i with
      | true => exact absurd (Nat.eq_of_beq_eq_true hb) h
      | false => rfl
    simp [this, h]

theorem St.obj_put (s : St) (dst : Option Tmp) (e : Eff) (id : Nat) : (s.put dst e).obj id = match look e.upd id with
    | some o => o
    | none => s.obj id := by
  show (look (e.upd ++ s.mem) id).getD none = _
  rw [look_append]
  cases look e.upd id <;> rfl

/-- a number that nothing names -/
def Fresh (s : St) (id : Nat) : Prop := (∀ t sv, look s.slots t = some sv → id ∉ idsS sv) ∧ (∀ id' o, s.obj id' = some o → id ∉ idsO o) ∧ s.obj id = none

section
variable {E : Env} {w0 : World} {X Z : Blk} {a : Act} {w w' : World} {s : St} {ρ ρ' : Nat → Pl} {N N' : Blk} {m m' : Mem} {F : Nat → Prop}

theorem GlobR.step {g : Nat} : ∀ {cs : Gl}, GlobR w N g cs → (∀ b, N b → N' b) → SameOn N w w' → GlobR w' N' g cs
  | .rows t xs, ⟨hg, h⟩, hN, hs => ⟨hN g hg, fun i hi => by
    obtain ⟨us, hr, hc⟩ := h i hi
    exact ⟨us, hr.mono hN hs, fun j u hj => (hs.cell hg).trans (hc j u hj)⟩⟩
  | .cells cs, h, hN, hs => by
    obtain ⟨hg, vals, T, fz, hh, ha, hi⟩ := h
    refine ⟨hN g hg, vals, T, fz, (hs g hg).trans hh, ?_, hi⟩
    exact ha.turn (F := fun _ => True) ⟨fun id hid => absurd trivial hid, fun id _ _ hid => absurd trivial hid⟩ hN hs (by rw [hi]; simp)

theorem act_put_get {d t : Nat} {v : Value} (hd : d < a.tmps.size) : (a.put (some d) v).tmps.getD t undef = if d = t then v else a.tmps.getD t undef := by
  simp only [Act.put, Array.getD_eq_getD_getElem?]
  by_cases h : d = t
  · subst h; simp [hd]
  · simp [h, Array.getElem?_setIfInBounds_ne h]

theorem Rel.put {dst : Option Tmp} {e : Eff} {v : Value} (h : Rel E w0 X Z a w s ρ N) (hd : ∀ d, dst = some d → d < a.tmps.size) (hf : ∀ id, F id → Fresh s id)
    (ht : Turn ρ s.obj ρ' (s.put dst e).obj F) (hN : ∀ b, N b → N' b) (hs : SameOn N w w') (hv : SVR w' N' ρ' (s.put dst e).obj e.res v)
    (hmr : MR w' N' ρ' (s.put dst e).obj) (hsince : Since w0 X w') (hown : ∀ b, Own ρ' (s.put dst e).obj b → X b ∨ w0.heap.size ≤ b) (hnn : ∀ b, N' b → Z b ∨ w0.heap.size ≤ b ∨ X b) :
    Rel E w0 X Z (a.put dst v) w' (s.put dst e) ρ' N' := by
  have old : ∀ t sv, look s.slots t = some sv → SVR w' N' ρ' (s.put dst e).obj sv (a.tmps.getD t undef) := fun t sv hl =>
    (h.slots t sv hl).turn ht hN hs fun id hid hF => (hf id hF).1 t sv hl hid
  refine ⟨fun t sv hl => ?_, hmr, ?_, hsince, hown, fun g cs hg => (h.glob g cs hg).step hN hs, hnn⟩
  · cases dst with
    | none => exact old t sv hl
    | some d =>
      rw [act_put_get (hd d rfl)]
      have hl' : look ((d, e.res) :: s.slots) t = some sv := hl
      rw [look_cons] at hl'
      split at hl'
      · rename_i hdt
        simp only [Option.some.injEq] at hl'
        subst hl' hdt
        simpa using hv
      · rename_i hdt
        rw [if_neg hdt]
        exact old t sv hl'
  · cases dst <;> exact h.defers

theorem Turn.same (hρ : ρ' = ρ) (hm : m' = m) : Turn ρ m ρ' m' F := ⟨fun _ _ => by rw [hρ], fun id o z _ h hz => ⟨o, by rw [← hm]; exact h, hz⟩⟩

theorem Rel.pure {dst : Option Tmp} {e : Eff} {v : Value} (h : Rel E w0 X Z a w s ρ N) (hd : ∀ d, dst = some d → d < a.tmps.size) (hu : e.upd = []) (hv : SVR w N ρ s.obj e.res v) :
    Rel E w0 X Z (a.put dst v) w (s.put dst e) ρ N := by
  have ho : (s.put dst e).obj = s.obj := funext fun id => by rw [St.obj_put, hu]; rfl
  exact h.put (F := fun _ => False) hd (fun _ hf => hf.elim) (.same rfl ho) (fun _ h => h) (fun _ _ => rfl) (by rw [ho]; exact hv) (by rw [ho]; exact h.mr) h.since (by rw [ho]; exact h.own) h.nn

theorem ObjR.turn {id : Nat} {o : Obj} (h : ObjR w N ρ m id o) (ht : Turn ρ m ρ' m' F) (hN : ∀ b, N b → N' b) (hs : SameOn N w w') (hid : ¬ F id) (hids : ∀ i ∈ idsO o, ¬ F i)
    (hb : ∀ b, Bl (ρ id) o b → w'.heap[b]? = w.heap[b]?) : ObjR w' N' ρ' m' id o := by
  have hp := ht.pl id hid
  cases o with
  | box cs =>
    obtain ⟨b, vals, T, hA, hh, ha, hT⟩ := h
    exact ⟨b, vals, T, by rw [hp]; exact hA, (hb b hA).trans hh, ha.turn ht hN hs hids, by rw [hp]; exact hT⟩
  | row t xs =>
    obtain ⟨⟨hl, hr⟩, hti⟩ := h
    refine ⟨⟨by rw [hp]; exact hl, fun hc => ?_⟩, by rw [hp]; exact hti.keep fun b h1 h2 => hb b ⟨h1, h2⟩⟩
    rw [hp] at hc ⊢
    obtain ⟨b, vals, T, hA, hh, hsz, hx⟩ := hr hc
    refine ⟨b, vals, T, hA, (hb b ⟨hc, hA⟩).trans hh, hsz, fun k hk => ?_⟩
    obtain ⟨us, h1, h2⟩ := hx k hk
    exact ⟨us, h1.mono hN hs, h2⟩
  | nest d =>
    obtain ⟨hl, hg, hr, hk, hd⟩ := h
    refine ⟨by rw [hp]; exact hl, hg, fun hc => ?_, fun k hk1 hk2 j hj => ?_, by rw [hp]; exact hd⟩
    · rw [hp] at hc ⊢
      obtain ⟨b, vals, T, hA, hh, hsz, hx⟩ := hr hc
      refine ⟨b, vals, T, hA, (hb b (.inl ⟨hc, hA⟩)).trans hh, hsz, fun k hk => ?_⟩
      obtain ⟨us, h1, h2, h3, h4⟩ := hx k hk
      refine ⟨us, h1, h2.turn ht hN hs fun i hi => ?_, h3, h4⟩
      rcases nestGo_ids hi with hi | hi
      · rw [cellsOf_ids] at hi; cases hi
      · exact hids i (Nst.oc_ids hi)
    · rw [hp]
      obtain ⟨t', ys, h1, h2⟩ := hk k hk1 hk2 j hj
      exact ⟨t', ys, h1, h2.mono hN hs fun b h0 hA => hb b (.inr ⟨k, j, hk1, hj, hk2, h0, hA⟩)⟩
  | opq z => trivial

/-- the blocks of objects that are let go -/
def Gone (ρ : Nat → Pl) (m : Mem) (D : List Nat) (b : Nat) : Prop := ∃ id ∈ D, ∃ o z, m id = some o ∧ o.rw = some z ∧ Bl (ρ id) o b

theorem own_lt (h : MR w N ρ m) {b : Nat} (ho : Own ρ m b) : b < w.heap.size := by
  obtain ⟨id, o, hm, hb⟩ := ho
  have := h.obj id _ hm
  cases o with
  | box cs =>
    obtain ⟨b', vals, T, hA', he, _⟩ := this
    have hb : (ρ id).A = some ⟨b, 0, none⟩ := hb
    rw [hb] at hA'
    simp only [Option.some.injEq, Addr.mk.injEq, and_true] at hA'
    subst hA'
    exact (Array.getElem?_eq_some_iff.1 he).1
  | row t xs =>
    obtain ⟨⟨_, hr⟩, _⟩ := this
    obtain ⟨hc, hA⟩ := hb
    obtain ⟨b', vals, T, hA', he, _⟩ := hr hc
    rw [hA] at hA'
    simp only [Option.some.injEq, Addr.mk.injEq, and_true] at hA'
    subst hA'
    exact (Array.getElem?_eq_some_iff.1 he).1
  | nest d =>
    obtain ⟨_, _, hr, hk, _⟩ := this
    rcases hb with ⟨hc, hA⟩ | ⟨k, j, hk1, hj, hk2, hc, hA⟩
    · obtain ⟨b', vals, T, hA', he, _⟩ := hr hc
      rw [hA] at hA'
      simp only [Option.some.injEq, Addr.mk.injEq, and_true] at hA'
      subst hA'
      exact (Array.getElem?_eq_some_iff.1 he).1
    · obtain ⟨t', ys, _, _, h2⟩ := hk k hk1 hk2 j hj
      obtain ⟨b', vals, T, hA', he, _⟩ := h2 hc
      rw [hA] at hA'
      simp only [Option.some.injEq, Addr.mk.injEq, and_true] at hA'
      subst hA'
      exact (Array.getElem?_eq_some_iff.1 he).1
  | opq z => exact hb.elim

theorem gone_own {D : List Nat} {b : Nat} (hg : Gone ρ m D b) : Own ρ m b := by
  obtain ⟨id, _, o, z, hm, _, hb⟩ := hg
  exact ⟨id, o, hm, hb⟩
theorem gone_lt (h : MR w N ρ m) {D : List Nat} {b : Nat} (hg : Gone ρ m D b) : b < w.heap.size := own_lt h (gone_own hg)

/-- An own row reads as its elements, once it is let go. -/
theorem rowAt_rd {A : Option Addr} {cap : Nat} {t : Ty} {xs : List t.den} (h : RowAt w N A cap t xs) (hN : ∀ b, N b → N' b) (hD : ∀ b, 0 < cap → A = some ⟨b, 0, none⟩ → N' b) :
    Rd (.sl t) w N' [.slice A xs.length cap] xs := by
  obtain ⟨hl, hr⟩ := h
  refine ⟨_, _, _, rfl, rfl, hl.1, fun h0 => ?_⟩
  obtain ⟨b, vals, T, hA, hh, _, hx⟩ := hr (by omega)
  refine ⟨b, 0, hA, hD b (by omega) hA, fun k hk => ?_⟩
  obtain ⟨us, h1, h2⟩ := hx k hk
  exact ⟨us, h1.mono hN (fun _ _ => rfl), h1.len, fun j u hj => by simp [World.cell?, hh]; simpa using h2 j u hj⟩
theorem row_rd (h : MR w N ρ m) {id : Nat} {t : Ty} {xs : List t.den} (hm : m id = some (.row t xs)) (hN : ∀ b, N b → N' b) (hD : ∀ b, 0 < (ρ id).cap → (ρ id).A = some ⟨b, 0, none⟩ → N' b) :
    Rd (.sl t) w N' [.slice (ρ id).A xs.length (ρ id).cap] xs := rowAt_rd (h.obj id _ hm).1 hN hD

/-- cells of an element whose own cells read as they are to -/
theorem cells_of_nest {ow : List Nat} : ∀ {cs : List C} {us : List Value} {j : Nat}, All2 (CR w N' ρ m) (nestGo ow [] j cs) us → (∀ i c u, ow.contains (j + i) = true → cs[i]? = some c → us[i]? = some u → CR w N' ρ m c u) → All2 (CR w N' ρ m) cs us
  | [], _, _, h, _ => by cases h; exact .nil
  | c :: r, _, j, h, hk => by
    simp only [nestGo] at h
    cases h with
    | @cons _ u _ us h1 h2 =>
      refine .cons ?_ (cells_of_nest h2 fun i c' u' hi hc hu => hk (i + 1) c' u' (by rw [show j + (i + 1) = j + 1 + i by omega]; exact hi) (by simpa using hc) (by simpa using hu))
      cases hc : ow.contains j with
      | false => rw [hc] at h1; exact h1
      | true => exact hk 0 c u (by simpa using hc) rfl rfl
/-- … and back to a datum -/
theorem rd_of_cells : ∀ {t : Ty} {x : t.den} {us : List Value}, All2 (CR w N ρ m) (cellsOf t x) us → Rd t w N us x
  | .unit, _, _, h => by cases h; rfl
  | .int _, _, _, h => by cases h with | cons h1 h2 => cases h2; have h1 : _ = _ := h1; subst h1; rfl
  | .bool, _, _, h => by cases h with | cons h1 h2 => cases h2; have h1 : _ = _ := h1; subst h1; rfl
  | .str, _, _, h => by cases h with | cons h1 h2 => cases h2; have h1 : _ = _ := h1; subst h1; rfl
  | .sl _, _, _, h => by cases h with | cons h1 h2 => cases h2; exact h1
  | .pair a b, x, _, h => by
    obtain ⟨u1, u2, rfl, h1, h2⟩ := All2.inv_append h
    exact ⟨u1, u2, rfl, rd_of_cells h1, rd_of_cells h2⟩
  | .mark _ t, x, _, h => rd_of_cells (t := t) h

/-- a closed row with own rows in it reads as its elements, once it is let go -/
theorem nest_rd {id : Nat} {d : Nst} (h : ObjR w N ρ m id (.nest d)) (hop : d.op = none) (hN : ∀ b, N b → N' b) (hD : ∀ b, Bl (ρ id) (.nest d) b → N' b) :
    Rd (.sl d.t) w N' [.slice (ρ id).A d.xs.length (ρ id).cap] d.xs := by
  obtain ⟨hl, _, hr, hk, _⟩ := h
  have hsh : ∀ k, d.shut k := fun k g oc e => by rw [hop] at e; cases e
  refine ⟨_, _, _, rfl, rfl, hl.1, fun h0 => ?_⟩
  obtain ⟨b, vals, T, hA, hh, _, hx⟩ := hr (by omega)
  refine ⟨b, 0, hA, hD b (.inl ⟨by omega, hA⟩), fun k hkl => ?_⟩
  obtain ⟨us, h1, h2, h3, h4⟩ := hx k hkl
  refine ⟨us, ?_, h1, fun j u hj => by simp [World.cell?, hh]; simpa using h3 j u hj⟩
  rw [← pGet_get hkl]
  have hoc : d.oc k = [] := by unfold Nst.oc; rw [hop]
  rw [hoc] at h2
  have h2' := h2.turn (w' := w) (N' := N') (ρ' := ρ) (m' := m) (F := fun _ => False) (.same rfl rfl) hN (fun _ _ => rfl) (fun _ _ h => h)
  refine rd_of_cells (cells_of_nest h2' fun i c u hi hc hu => ?_)
  have hj : i ∈ d.ow := by simpa using hi
  obtain ⟨t', ys, e1, e2⟩ := hk k hkl (hsh k) i hj
  rw [hc] at e1
  simp only [Option.some.injEq] at e1
  subst e1
  have e3 := h4 (hsh k) i t' ys hj hc
  rw [hu] at e3
  simp only [Option.some.injEq] at e3
  subst e3
  exact rowAt_rd e2 hN fun b hb1 hb2 => hD b (.inr ⟨k, i, hkl, hj, hsh k, hb1, hb2⟩)

theorem roCell_ok (h : MR w N ρ m) {c : C} {v : Value} (hc : CR w N ρ m c v) (hN : ∀ b, N b → N' b) {m1 : Mem} (h1 : ∀ id ob, m1 id = some ob → m id = some ob) (hD : ∀ id, c = .hs id → ∀ b, Gone ρ m [id] b → N' b) : CR w N' ρ m (roCell m1 c) v := by
  cases c with
  | hs id =>
    simp only [roCell]
    split
    · rename_i t xs hm
      have hm' := h1 id _ hm
      rw [hc.hs_row hm']
      exact row_rd h hm' hN fun b hcap hA => hD id rfl b ⟨id, by simp, _, _, hm', rfl, hcap, hA⟩
    · rename_i t ow xs hm
      have hm' := h1 id _ hm
      rw [hc.2 _ _ hm' rfl]
      exact nest_rd (d := ⟨t, ow, xs, none⟩) (h.obj id _ hm') rfl hN fun b hb => hD id rfl b ⟨id, by simp, _, _, hm', rfl, hb⟩
    · exact hc.one
  | _ => exact CR.turn (F := fun _ => False) (.same rfl rfl) hN (fun _ _ => rfl) (fun _ _ h => h) hc

theorem roCells_ok (h : MR w N ρ m) {cs : List C} {vs : List Value} (hc : All2 (CR w N ρ m) cs vs) (hN : ∀ b, N b → N' b) {m1 : Mem} (h1 : ∀ id ob, m1 id = some ob → m id = some ob) (hD : ∀ b, Gone ρ m (cs.flatMap hsC) b → N' b) : All2 (CR w N' ρ m) (roCells m1 cs) vs := by
  induction hc with
  | nil => exact .nil
  | @cons c v cs vs hcv _ ih =>
    refine .cons (roCell_ok h hcv hN h1 fun id hid b hb => hD b ?_) (ih fun b hb => hD b ?_)
    · subst hid
      obtain ⟨i, hi, r⟩ := hb
      simp only [List.mem_singleton] at hi
      subst hi
      exact ⟨i, by simp [hsC], r⟩
    · obtain ⟨i, hi, r⟩ := hb
      exact ⟨i, by simp only [List.flatMap_cons, List.mem_append]; exact Or.inr hi, r⟩

theorem Rel.nn' (h : Rel E w0 X Z a w s ρ N) {D : List Nat} : ∀ b, (N b ∨ Gone ρ s.obj D b) → Z b ∨ w0.heap.size ≤ b ∨ X b := by
  intro b hb
  rcases hb with hb | hb
  · exact h.nn b hb
  · rcases h.own b (gone_own hb) with h1 | h1
    · exact .inr (.inr h1)
    · exact .inr (.inl h1)

end
end Go.Proofs.YtedjlbcclhgfmaaDoor

