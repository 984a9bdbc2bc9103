/- THE MACHINE OF READINGS, part A: abstract values, abstract states, the evaluator. It names no program. -/
import Derived.Orders
import Derived.Laws.Sem
namespace Go.Proofs.Ytoalcmpjfnlkdaa

/-- Types of data that are read: what a cell holds, and rows of cells. -/
inductive Ty where
  | unit | int (k : IntKind) | bool | str | sl (t : Ty) | pair (a b : Ty)
  deriving DecidableEq

@[reducible] def Ty.den : Ty → Type
  | .unit => Unit
  | .int _ => Int
  | .bool => Bool
  | .str => ByteArray
  | .sl t => List t.den
  | .pair a b => a.den × b.den

/-- how many cells -/
def Ty.size : Ty → Nat
  | .unit => 0
  | .pair a b => a.size + b.size
  | _ => 1

def Ty.dflt : (t : Ty) → t.den
  | .unit => ()
  | .int _ => (0 : Int)
  | .bool => false
  | .str => ByteArray.empty
  | .sl t => ([] : List t.den)
  | .pair a b => (a.dflt, b.dflt)

/-- What one cell, or a slot, holds. -/
inductive C where
  | un
  | int (k : IntKind) (n : Int)
  | bool (b : Bool)
  | str (s : ByteArray)
  | nil
  | sl (t : Ty) (xs : List t.den)
  | hs (id : Nat)
  | pt (id off : Nat)
  | pe (t : Ty) (xs : List t.den) (i off : Nat)
  | pr (id i off : Nat)
  | gp (g off : Nat)
  | fn (f : FuncId) (caps : List (Nat × Nat))

/-- What a slot holds: a value of one cell (false), a struct or an array (true); several results. -/
inductive SV where
  | un
  | v (agg : Bool) (cs : List C)
  | tup (vs : List (Bool × List C))

inductive Obj where
  | box (cs : List C)
  | row (t : Ty) (xs : List t.den)

/- WORDS OF THE PLAIN SIDE: the evaluator leaves them as they stand. -/
def pGet (t : Ty) (xs : List t.den) (i : Nat) : t.den := xs.getD i t.dflt
def pLen {α : Type} (xs : List α) : Nat := xs.length
def pPlus (a b : Nat) : Nat := a + b
def pApp {α : Type} (xs ys : List α) : List α := xs ++ ys
def pSub {α : Type} (xs : List α) (l h : Nat) : List α := (xs.take h).drop l
def pSet {α : Type} (xs : List α) (i : Nat) (x : α) : List α := xs.set i x
def pNat (i : Int) : Nat := i.toNat
def pInt (n : Nat) : Int := (n : Int)
def pIn (i : Int) (n : Nat) : Prop := 0 ≤ i ∧ i < (n : Int)
def pTo (i : Int) (n : Nat) : Prop := 0 ≤ i ∧ i ≤ (n : Int)
def pNz (i : Int) : Prop := i ≠ 0
def pGe0 (i : Int) : Prop := 0 ≤ i
def pRoom (n bytes : Nat) : Prop := n * bytes ≤ 140737488351232
def pAdd (k : IntKind) (a b : Int) : Int := k.wrap (a + b)
def pSubI (k : IntKind) (a b : Int) : Int := k.wrap (a - b)
def pMul (k : IntKind) (a b : Int) : Int := k.wrap (a * b)
def pQuo (k : IntKind) (a b : Int) : Int := k.wrap (a.tdiv b)
def pRem (a b : Int) : Int := a.tmod b
def pAnd (k : IntKind) (a b : Int) : Int := k.wrap (BitVec.ofInt k.bits a &&& BitVec.ofInt k.bits b).toNat
def pOr (k : IntKind) (a b : Int) : Int := k.wrap (BitVec.ofInt k.bits a ||| BitVec.ofInt k.bits b).toNat
def pShl (k : IntKind) (a b : Int) : Int := k.wrap (a * 2 ^ (min b.toNat k.bits))
def pShr (k : IntKind) (a b : Int) : Int := a.fdiv (2 ^ (min b.toNat k.bits))
def pWrap (k : IntKind) (a : Int) : Int := k.wrap a
def pEq (a b : Int) : Bool := a == b
def pNe (a b : Int) : Bool := a != b
def pLt (a b : Int) : Bool := decide (a < b)
def pLe (a b : Int) : Bool := decide (a ≤ b)
def pGt (a b : Int) : Bool := decide (a > b)
def pGe (a b : Int) : Bool := decide (a ≥ b)
def pMin (a b : Int) : Int := if b < a then b else a
def pMax (a b : Int) : Int := if a < b then b else a
def pNot (a : Bool) : Bool := !a
def pAndB (a b : Bool) : Bool := a && b
def pBeq (a b : Bool) : Bool := a == b
def pStrEq (a b : ByteArray) : Bool := a.toList == b.toList
def pStrEq' (a b : ByteArray) : Bool := a == b
def pStrLen (s : ByteArray) : Nat := s.size
def pStrGet (s : ByteArray) (i : Nat) : Int := ((s[i]?).map fun b => (b.toNat : Int)).getD 0
def pStrSub (s : ByteArray) (l h : Nat) : ByteArray := s.extract l h
def pStrApp (a b : ByteArray) : ByteArray := a ++ b
def pStrFits (a b : ByteArray) : Prop := ((a.size + b.size : Nat) : Int) ≤ IntKind.i64.max

/- CELLS OF DATA -/
def cellsOf : (t : Ty) → t.den → List C
  | .unit, _ => []
  | .int k, n => [.int k n]
  | .bool, b => [.bool b]
  | .str, s => [.str s]
  | .sl t, xs => [.sl t xs]
  | .pair a b, x => cellsOf a x.1 ++ cellsOf b x.2

def ofCells : (t : Ty) → List C → Option (t.den × List C)
  | .unit, cs => some ((), cs)
  | .int k, .int k' n :: cs => if k = k' then some (n, cs) else none
  | .bool, .bool b :: cs => some (b, cs)
  | .str, .str s :: cs => some (s, cs)
  | .sl t, .sl t' xs :: cs => if h : t' = t then some (h ▸ xs, cs) else none
  | .sl _, .nil :: cs => some ([], cs)
  | .pair a b, cs =>
    match ofCells a cs with
    | none => none
    | some (x, cs') => match ofCells b cs' with
      | none => none
      | some (y, cs'') => some ((x, y), cs'')
  | _, _ => none

/-- the whole list of cells reads as one datum -/
def asD (t : Ty) (cs : List C) : Option t.den :=
  match ofCells t cs with
  | some (x, []) => some x
  | _ => none

def look {α : Type} : List (Nat × α) → Nat → Option α
  | [], _ => none
  | (k, v) :: r, i => bif Nat.beq k i then some v else look r i

structure St where
  slots : List (Nat × SV)
  mem : List (Nat × Option Obj)
  next : Nat
  tch : List Nat

def St.slot (s : St) (t : Nat) : SV := (look s.slots t).getD .un
abbrev Mem := Nat → Option Obj
def memOf (m : List (Nat × Option Obj)) : Mem := fun id => (look m id).getD none
def St.obj (s : St) : Mem := memOf s.mem

/-- An own row stands for what it reads as. -/
def roCell (m : Mem) : C → C
  | .hs id => match m id with
    | some (.row t xs) => .sl t xs
    | _ => .un
  | c => c
def roCells (m : Mem) (cs : List C) : List C := cs.map (roCell m)

/- OF VALUES, TYPES -/
def cOfValue : Value → C
  | .bool b => .bool b
  | .int k n => .int k n
  | .string s => .str s
  | .slice none 0 0 => .nil
  | .func (.func f) x y => match x.toList, y.toList with
    | [], [] => .fn f []
    | _, _ => .un
  | _ => .un
def svOfValue : Value → SV
  | .agg cs => bif cs.toList.all (·.oneCell') then .v true (cs.toList.map cOfValue) else .un
  | .tuple vs => match vs.toList with
    | [] => .tup []
    | _ => .un
  | v => .v false [cOfValue v]

def isAggD : TypeDesc → Bool
  | .struct _ => true
  | .array _ _ => true
  | _ => false
def sizeT (P : Program) (t : TypeId) : Option Nat := (P.info? t).map (·.size)
def zeroT (P : Program) (t : TypeId) : Option (List C) := match (P.info? t).bind (·.zero) with
  | some v => bif v.cells.toList.all (·.oneCell') then some (v.cells.toList.map cOfValue) else none
  | none => none
def elemT (P : Program) (t : TypeId) : Option TypeId := match P.underlying t with
  | some (.slice e) => some e
  | _ => none
def offT (P : Program) (t : TypeId) (f : Nat) : Option (Nat × TypeId) := match P.underlying t with
  | some (.struct fs) => match fs[f]? with
    | some x => match sizeT P x.type with
      | some (_ + 1) => some (x.offset, x.type)
      | _ => none
    | none => none
  | _ => none

/-- a row of cells' types, flat -/
def Ty.cat : Ty → Ty → Ty
  | .unit, r => r
  | .pair a b, r => .pair a (Ty.cat b r)
  | t, r => .pair t r

/-- the type of data that a type's values read as: flat -/
def tyT (P : Program) : Nat → TypeId → Ty
  | 0, _ => .unit
  | n + 1, t => match P.underlying t with
    | some .bool => .pair .bool .unit
    | some (.int k) => .pair (.int k) .unit
    | some .string => .pair .str .unit
    | some (.slice e) => .pair (.sl (tyT P n e)) .unit
    | some (.struct fs) => fs.toList.foldr (fun f r => Ty.cat (tyT P n f.type) r) .unit
    | _ => .unit

/-- numbers of objects in an effect: all below a bound -/
def idsC : C → List Nat
  | .hs id => [id]
  | .pt id _ => [id]
  | .pr id _ _ => [id]
  | .fn _ caps => caps.map (·.1)
  | _ => []
structure Eff where
  res : SV
  upd : List (Nat × Option Obj)

/-- what an operation may yield: what must hold, and its effect -/
abbrev Out := Option (List Prop × Eff)

/-- A contract: on the arguments, and what they lead to; numbers of objects: 0, 1, .. as they are met; answers: what must hold, the results, the objects as they are then. -/
abbrev Ctr := List SV → List (Nat × Option Obj) → Option (List Prop × SV × List (Nat × Option Obj))

def one (c : C) : SV := .v false [c]

structure Env where
  P : Program
  ctr : FuncId → Option (Bool × Ctr)
  glob : Nat → Option (List C)
  eqs : List TypeId

def ret (c : C) : Out := some ([], ⟨one c, []⟩)

def aInt (op : BinOp) (k : IntKind) (a b : Int) : Out :=
  match op with
  | .add => ret (.int k (pAdd k a b))
  | .sub => ret (.int k (pSubI k a b))
  | .mul => ret (.int k (pMul k a b))
  | .quo => some ([pNz b], ⟨one (.int k (pQuo k a b)), []⟩)
  | .rem => some ([pNz b], ⟨one (.int k (pRem a b)), []⟩)
  | .and => ret (.int k (pAnd k a b))
  | .or => ret (.int k (pOr k a b))
  | .eql => ret (.bool (pEq a b))
  | .neq => ret (.bool (pNe a b))
  | .lss => ret (.bool (pLt a b))
  | .leq => ret (.bool (pLe a b))
  | .gtr => ret (.bool (pGt a b))
  | .geq => ret (.bool (pGe a b))
  | _ => none

def eqCell : C → C → Option Bool
  | .int k a, .int k' b => if k = k' then some (pEq a b) else none
  | .bool a, .bool b => some (pBeq a b)
  | .str a, .str b => some (pStrEq' a b)
  | _, _ => none
def eqCells : List C → List C → Option Bool
  | [], [] => some true
  | [a], [b] => eqCell a b
  | a :: as, b :: bs => match eqCell a b, eqCells as bs with
    | some x, some y => some (pAndB x y)
    | _, _ => none
  | _, _ => none

/- structs that are compared: the kinds of their cells -/
inductive CK where
  | int | bool | str
def eqFs (P : Program) (g : TypeId → Option (List CK)) : List Field → Nat → Option (List CK)
  | [], _ => some []
  | f :: fs, off => if f.name ≠ "_" ∧ f.offset = off then
      match g f.type, sizeT P f.type with
      | some ks, some k' => if ks.length = k' then (eqFs P g fs (off + k')).map (ks ++ ·) else none
      | _, _ => none
    else none
def eqKs (P : Program) : Nat → TypeId → Option (List CK)
  | 0, _ => none
  | n + 1, T => match P.underlying T with
    | some (.int _) => some [.int]
    | some .bool => some [.bool]
    | some .string => some [.str]
    | some (.struct fs) => if P.stoodInHeld T = false then eqFs P (eqKs P n) fs.toList 0 else none
    | _ => none
def fitK : CK → C → Bool
  | .int, .int _ _ => true
  | .bool, .bool _ => true
  | .str, .str _ => true
  | _, _ => false
def fitKs : List CK → List C → Bool
  | [], [] => true
  | k :: ks, c :: cs => fitK k c && fitKs ks cs
  | _, _ => false

def aBin (E : Env) (op : BinOp) (T : TypeId) (x y : SV) : Out :=
  match x, y with
  | .v false [.int k a], .v false [.int k' b] =>
    match op with
    | .shl => some ([pGe0 b], ⟨one (.int k (pShl k a b)), []⟩)
    | .shr => some ([pGe0 b], ⟨one (.int k (pShr k a b)), []⟩)
    | _ => if k = k' then aInt op k a b else none
  | .v false [.bool a], .v false [.bool b] =>
    match op, E.P.underlying T with
    | .eql, some .bool => ret (.bool (pBeq a b))
    | .neq, some .bool => ret (.bool (pNot (pBeq a b)))
    | _, _ => none
  | .v false [.str a], .v false [.str b] =>
    match op with
    | .add => some ([pStrFits a b], ⟨one (.str (pStrApp a b)), []⟩)
    | .eql => ret (.bool (pStrEq a b))
    | .neq => ret (.bool (pNot (pStrEq a b)))
    | _ => none
  | .v true as, .v true bs =>
    if E.eqs.contains T && fitKs ((eqKs E.P 16 T).getD []) as && fitKs ((eqKs E.P 16 T).getD []) bs then
      match op, eqCells as bs with
      | .eql, some b => ret (.bool b)
      | .neq, some b => ret (.bool (pNot b))
      | _, _ => none
    else none
  | _, _ => none

/-- cells from off on, n of them -/
def cut (cs : List C) (off n : Nat) : Option (List C) := if off + n ≤ cs.length then some ((cs.drop off).take n) else none
def putAt (cs : List C) (off : Nat) (vs : List C) : Option (List C) := if off + vs.length ≤ cs.length then some (cs.take off ++ vs ++ cs.drop (off + vs.length)) else none

def part (E : Env) (T : TypeId) (cs : List C) (off : Nat) : Option SV :=
  match E.P.underlying T with
  | none => none
  | some d => bif isAggD d then match sizeT E.P T with
      | some n => (cut cs off n).map (.v true)
      | none => none
    else (cs[off]?).map one

def aLoad (E : Env) (m : Mem) (T : TypeId) : SV → Out
  | .v false [.pt id off] => match m id with
    | some (.box cs) => (part E T cs off).map fun s => ([], ⟨s, []⟩)
    | _ => none
  | .v false [.pe t xs i off] => (part E T (cellsOf t (pGet t xs i)) off).map fun s => ([], ⟨s, []⟩)
  | .v false [.pr id i off] => match m id with
    | some (.row t xs) => (part E T (cellsOf t (pGet t xs i)) off).map fun s => ([], ⟨s, []⟩)
    | _ => none
  | .v false [.gp g off] => match E.glob g with
    | some cs => (part E T cs off).map fun s => ([], ⟨s, []⟩)
    | none => none
  | _ => none

/-- own rows that a row takes in are its own no more -/
def hsC : C → List Nat
  | .hs id => [id]
  | _ => []
def deads (cs : List C) : List (Nat × Option Obj) := (cs.flatMap hsC).map fun id => (id, none)
def distinct : List Nat → Bool
  | [] => true
  | a :: r => !r.contains a && distinct r

def aStore (E : Env) (m : Mem) (T : TypeId) (x : SV) : SV → Out
  | .v false [.pt id off] => match m id, x with
    | some (.box cs), .v _ vs => if sizeT E.P T = some vs.length then (putAt cs off vs).map fun cs' => ([], ⟨.tup [], [(id, some (.box cs'))]⟩) else none
    | _, _ => none
  | .v false [.pr id i off] => match m id, x with
    | some (.row t xs), .v _ vs =>
      if sizeT E.P T = some vs.length then
        match putAt (cellsOf t (pGet t xs i)) off (roCells m vs) with
        | some cs' => bif (vs.flatMap hsC).contains id then none else (asD t cs').map fun y => ([], ⟨.tup [], (id, some (.row t (pSet xs i y))) :: deads vs⟩)
        | none => none
      else none
    | _, _ => none
  | _ => none

def fillC (place : Nat → Option (Nat × Nat)) : List C → List (Nat × List C) → Option (List C)
  | cs, [] => some cs
  | cs, (i, v) :: rest => match place i with
    | none => none
    | some (off, size) => if v.length = size then
        match putAt cs off v with
        | some cs' => fillC place cs' rest
        | none => none
      else none

def partsC (get : Operand → SV) : List (Nat × Operand) → Option (List (Nat × List C))
  | [] => some []
  | (i, x) :: r => match get x, partsC get r with
    | .v _ cs, some l => some ((i, cs) :: l)
    | _, _ => none

/-- the fields' places: offset, size -/
def placesT (P : Program) : List Field → Option (List (Nat × Nat))
  | [] => some []
  | f :: r => match sizeT P f.type, placesT P r with
    | some n, some l => some ((f.offset, n) :: l)
    | _, _ => none

def aBuild (E : Env) (T : TypeId) (parts : Option (List (Nat × List C))) : Out :=
  match E.P.underlying T, zeroT E.P T, parts with
  | some (.struct fs), some z, some ps => match placesT E.P fs.toList with
    | some pl => (fillC (fun i => pl[i]?) z ps).map fun cs => ([], ⟨.v true cs, []⟩)
    | none => none
  | some (.array _ e), some z, some ps => match sizeT E.P e with
    | some n => (fillC (fun i => some (i * n, n)) z ps).map fun cs => ([], ⟨.v true cs, []⟩)
    | none => none
  | _, _, _ => none

/-- cells as a row of elements -/
def rowOf (t : Ty) : Nat → List C → Option (List t.den)
  | 0, [] => some []
  | n + 1, cs => match ofCells t cs with
    | some (x, cs') => (rowOf t n cs').map (x :: ·)
    | none => none
  | _, _ => none

def repC (z : List C) : Nat → List C
  | 0 => []
  | n + 1 => z ++ repC z n

def aBuildSlice (E : Env) (m : Mem) (nx : Nat) (T : TypeId) (len : Nat) (parts : Option (List (Nat × List C))) : Out :=
  match elemT E.P T, parts with
  | some e, some ps => match zeroT E.P e, sizeT E.P e with
    | some z, some n =>
      if z.length = n ∧ (tyT E.P 8 e).size = n ∧ 0 < n ∧ 0 < len ∧ len * n ≤ 16777216 then
        match fillC (fun i => some (i * n, n)) (repC z len) ps with
        | some cs => (rowOf (tyT E.P 8 e) len (roCells m cs)).map fun xs => ([], ⟨one (.hs nx), (nx, some (.row (tyT E.P 8 e) xs)) :: deads cs⟩)
        | none => none
      else none
    | _, _ => none
  | _, _ => none

/-- a slice literal without elements -/
def aEmpty (E : Env) (nx : Nat) (T : TypeId) (ps : Array (Nat × Operand)) : Out :=
  match elemT E.P T, ps.toList with
  | some e, [] => match sizeT E.P e with
    | some _ => some ([], ⟨one (.hs nx), [(nx, some (.row (tyT E.P 8 e) []))]⟩)
    | none => none
  | _, _ => none

/-- what a slice's elements are, for reading -/
def aElems (m : Mem) (t : Ty) : C → Option (List t.den)
  | .nil => some []
  | .sl t' xs => if h : t' = t then some (h ▸ xs) else none
  | .hs id => match m id with
    | some (.row t' xs) => if h : t' = t then some (h ▸ xs) else none
    | _ => none
  | _ => none

/-- what is appended to: nothing, or an own row -/
def aBase (m : Mem) (t : Ty) : C → Option (List t.den)
  | .nil => some []
  | .hs id => aElems m t (.hs id)
  | _ => none

def aAppend (E : Env) (m : Mem) (nx : Nat) (T : TypeId) : SV → SV → Out
  | .v false [s], .v false [x] =>
    match elemT E.P T with
    | some e => match E.P.info? e with
      | some i =>
        if (tyT E.P 8 e).size = i.size ∧ 0 < i.size ∧ 0 < i.bytes ∧ (i.zero.map (·.cells.size)) = some i.size then
          match aBase m (tyT E.P 8 e) s, aElems m (tyT E.P 8 e) x with
          | some xs, some ys => some ([pRoom (pPlus (pLen xs) (pLen ys)) i.bytes], ⟨one (.hs nx), (nx, some (.row (tyT E.P 8 e) (pApp xs ys))) :: deads [s]⟩)
          | _, _ => none
        else none
      | none => none
    | none => none
  | _, _ => none

def aLen (E : Env) (m : Mem) (T : TypeId) (x : SV) : Out :=
  match E.P.underlying T, x with
  | some (.slice _), .v false [.nil] => ret (.int .i64 0)
  | some (.slice _), .v false [.sl _ xs] => ret (.int .i64 (pInt (pLen xs)))
  | some (.slice _), .v false [.hs id] => match m id with
    | some (.row _ xs) => ret (.int .i64 (pInt (pLen xs)))
    | _ => none
  | some .string, .v false [.str s] => ret (.int .i64 (pInt (pStrLen s)))
  | _, _ => none

/-- the size of a slice type's elements -/
def esizeT (P : Program) (T : TypeId) : Option Nat := (elemT P T).bind (sizeT P)

def aIndexAddr (E : Env) (m : Mem) (T : TypeId) (x i : SV) : Out :=
  match x, i with
  | .v false [.sl t xs], .v false [.int _ n] => if esizeT E.P T = some t.size then some ([pIn n (pLen xs)], ⟨one (.pe t xs (pNat n) 0), []⟩) else none
  | .v false [.hs id], .v false [.int _ n] => match m id with
    | some (.row t xs) => if esizeT E.P T = some t.size then some ([pIn n (pLen xs)], ⟨one (.pr id (pNat n) 0), []⟩) else none
    | _ => none
  | .v false [.nil], .v false [.int _ _] => some ([False], ⟨.un, []⟩)
  | .v false [.gp g off], .v false [.int _ (.ofNat n)] => match E.P.underlying T with
    | some (.array len e) => match sizeT E.P e with
      | some z => if n < len then ret (.gp g (off + n * z)) else none
      | none => none
    | _ => none
  | .v false [.pt id off], .v false [.int _ (.ofNat n)] => match E.P.underlying T with
    | some (.array len e) => match sizeT E.P e with
      | some z => if n < len then ret (.pt id (off + n * z)) else none
      | none => none
    | _ => none
  | _, _ => none

def aFieldAddr (E : Env) (T : TypeId) (f : Nat) : SV → Out
  | .v false [.pt id off] => (offT E.P T f).bind fun p => ret (.pt id (off + p.1))
  | .v false [.pe t xs i off] => (offT E.P T f).bind fun p => ret (.pe t xs i (off + p.1))
  | .v false [.pr id i off] => (offT E.P T f).bind fun p => ret (.pr id i (off + p.1))
  | .v false [.gp g off] => (offT E.P T f).bind fun p => ret (.gp g (off + p.1))
  | _ => none

def aField (E : Env) (T : TypeId) (f : Nat) : SV → Out
  | .v true cs => (offT E.P T f).bind fun p => (part E p.2 cs p.1).map fun s => ([], ⟨s, []⟩)
  | _ => none

def bound : Option SV → Option (Option Int)
  | none => some none
  | some (.v false [.int _ n]) => some (some n)
  | _ => none

def aSlice (E : Env) (T : TypeId) (x : SV) (lo hi mx : Option SV) : Out :=
  match x, bound lo, bound hi, bound mx with
  | .v false [.sl _ _], some (some (.ofNat 0)), some (some (.ofNat 0)), some (some (.ofNat 0)) => bif (elemT E.P T).isSome && (esizeT E.P T).isSome then ret .nil else none
  | .v false [.nil], some (some (.ofNat 0)), some (some (.ofNat 0)), some (some (.ofNat 0)) => bif (elemT E.P T).isSome && (esizeT E.P T).isSome then ret .nil else none
  | .v false [.sl t xs], some l, some h, some none =>
    if esizeT E.P T = some t.size then match l, h with
    | none, none => ret (.sl t xs)
    | some l, none => some ([pTo l (pLen xs)], ⟨one (.sl t (pSub xs (pNat l) (pLen xs))), []⟩)
    | none, some h => some ([pTo h (pLen xs)], ⟨one (.sl t (pSub xs 0 (pNat h))), []⟩)
    | some l, some h => some ([pTo h (pLen xs), pTo l (pNat h)], ⟨one (.sl t (pSub xs (pNat l) (pNat h))), []⟩)
    else none
  | .v false [.str s], some l, some h, some none =>
    match E.P.underlying T with
    | some .string => match l, h with
      | none, none => ret (.str s)
      | some l, none => some ([pTo l (pStrLen s)], ⟨one (.str (pStrSub s (pNat l) (pStrLen s))), []⟩)
      | none, some h => some ([pTo h (pStrLen s)], ⟨one (.str (pStrSub s 0 (pNat h))), []⟩)
      | some l, some h => some ([pTo h (pStrLen s), pTo l (pNat h)], ⟨one (.str (pStrSub s (pNat l) (pNat h))), []⟩)
    | _ => none
  | _, _, _, _ => none

def aIndex (E : Env) (T : TypeId) (x i : SV) : Out :=
  match E.P.underlying T, x, i with
  | some .string, .v false [.str s], .v false [.int _ n] => some ([pIn n (pStrLen s)], ⟨one (.int .u8 (pStrGet s (pNat n))), []⟩)
  | _, _, _ => none

def aConvert (E : Env) (S D : TypeId) (x : SV) : Out :=
  match E.P.underlying S, E.P.underlying D, x with
  | some (.int _), some (.int k), .v false [.int _ n] => ret (.int k (pWrap k n))
  | some .string, some .string, .v false [.str s] => ret (.str s)
  | _, _, _ => none

def capsOf : List SV → Option (List (Nat × Nat))
  | [] => some []
  | .v false [.pt id off] :: r => (capsOf r).map ((id, off) :: ·)
  | _ => none

/- CALLS: what the arguments lead to, by new numbers -/
/-- the numbers met so far: (old, new) -/
abbrev Ren := List (Nat × Nat)
def Ren.to (r : Ren) (id : Nat) : Option Nat := look r id
def metC (keep : Bool) : C → List Nat
  | .hs id => if keep then [id] else []
  | .pt id _ => [id]
  | .pr id _ _ => [id]
  | .fn _ caps => caps.map (·.1)
  | _ => []
def metS (keep : Bool) : SV → List Nat
  | .v _ cs => cs.flatMap (metC keep)
  | _ => []
def metO : Obj → List Nat
  | .box cs => cs.flatMap (metC true)
  | .row _ _ => []
def addNew (l : List Nat) : List Nat → List Nat
  | [] => l
  | a :: r => if l.contains a then addNew l r else addNew (l ++ [a]) r
/-- all that is reached, in the order in which it is met -/
def reach (m : Mem) : Nat → List Nat → List Nat
  | 0, l => l
  | n + 1, l => reach m n (addNew l (l.flatMap fun id => match m id with
    | some o => metO o
    | none => []))
def numAt (id : Nat) : Nat → List Nat → Option Nat
  | _, [] => none
  | n, a :: r => bif Nat.beq a id then some n else numAt id (n + 1) r
def renCaps (f : Nat → Option Nat) : List (Nat × Nat) → Option (List (Nat × Nat))
  | [] => some []
  | (id, off) :: r => match f id, renCaps f r with
    | some i, some l => some ((i, off) :: l)
    | _, _ => none
def renC (f : Nat → Option Nat) : C → Option C
  | .hs id => (f id).map .hs
  | .pt id off => (f id).map (.pt · off)
  | .pr id i off => (f id).map (.pr · i off)
  | .fn g caps => (renCaps f caps).map (.fn g)
  | c => some c
def renCs (f : Nat → Option Nat) : List C → Option (List C)
  | [] => some []
  | c :: r => match renC f c, renCs f r with
    | some c', some r' => some (c' :: r')
    | _, _ => none
def renO (f : Nat → Option Nat) : Obj → Option Obj
  | .box cs => (renCs f cs).map .box
  | o => some o
def renVs (f : Nat → Option Nat) : List (Bool × List C) → Option (List (Bool × List C))
  | [] => some []
  | (a, cs) :: r => match renCs f cs, renVs f r with
    | some cs', some r' => some ((a, cs') :: r')
    | _, _ => none
def renS (f : Nat → Option Nat) : SV → Option SV
  | .v a cs => (renCs f cs).map (.v a)
  | .tup vs => (renVs f vs).map .tup
  | .un => some .un
def renSs (f : Nat → Option Nat) : List SV → Option (List SV)
  | [] => some []
  | s :: r => match renS f s, renSs f r with
    | some s', some r' => some (s' :: r')
    | _, _ => none
def roS (m : Mem) : SV → SV
  | .v a cs => .v a (roCells m cs)
  | s => s
def memFor (m : Mem) (f : Nat → Option Nat) : List Nat → Nat → Option (List (Nat × Option Obj))
  | [], _ => some []
  | id :: r, n => match m id, memFor m f r (n + 1) with
    | some o, some l => match renO f o with
      | some o' => some ((n, some o') :: l)
      | none => none
    | _, _ => none
/-- the objects behind a call, by the caller's numbers -/
def memBack (f : Nat → Option Nat) : List (Nat × Option Obj) → Option (List (Nat × Option Obj))
  | [] => some []
  | (n, o) :: r => match f n, memBack f r with
    | some id, some l => match o with
      | none => some ((id, none) :: l)
      | some o => match renO f o with
        | some o' => some ((id, some o') :: l)
        | none => none
    | _, _ => none
def back (ids : List Nat) (nx : Nat) (n : Nat) : Option Nat :=
  if n < ids.length then ids[n]? else if n < ids.length + 8 then some (nx + (n - ids.length)) else none

/- what names no block: it reads so whatever is stable -/
def flatT : Ty → Bool
  | .sl _ => false
  | .pair a b => flatT a && flatT b
  | _ => true
def flatC : C → Bool
  | .sl _ _ => false
  | .pe _ _ _ _ => false
  | _ => true
def flatO : Option Obj → Bool
  | some (.box cs) => cs.all flatC
  | some (.row t _) => flatT t
  | none => true
def flatS : SV → Bool
  | .v _ cs => cs.all flatC
  | .tup vs => vs.all fun p => p.2.all flatC
  | .un => true
def turnO : Obj → Option Obj → Option (List Prop)
  | _, none => some []
  | .box _, some (.box _) => some []
  | .row t xs, some (.row t' ys) => if t = t' then some [pLen ys = pLen xs] else none
  | _, _ => none
/-- objects that went in and are not told of are as they were; rows that stay keep their length -/
def turnAll (m1 : List (Nat × Option Obj)) : List (Nat × Option Obj) → Option (List Prop)
  | [] => some []
  | (n, some o) :: r => match turnAll m1 r with
    | some l => match look m1 n with
      | none => some l
      | some o' => match turnO o o' with
        | some l' => some (l' ++ l)
        | none => none
    | none => none
  | (_, none) :: _ => none
def hsS : SV → List Nat
  | .v _ cs => cs.flatMap hsC
  | _ => []

def aCall (E : Env) (m : Mem) (nx : Nat) (f : FuncId) (args : List SV) : Out :=
  match E.ctr f with
  | none => none
  | some (keep, c) =>
    let lent := if keep then [] else args.flatMap hsS
    let args1 := if keep then args else args.map (roS m)
    let ids := reach m 3 (addNew [] (args1.flatMap (metS true)))
    match renSs (fun id => numAt id 0 ids) args1, memFor m (fun id => numAt id 0 ids) ids 0 with
    | some args', some m0 =>
      match c args' m0 with
      | some (obs, r, m1) => match turnAll m1 m0, renS (back ids nx) r, memBack (back ids nx) m1 with
        | some obs', some r', some u =>
          bif distinct ids && lent.all (fun id => !ids.contains id) && (lent.isEmpty || (flatS r && (m1.all (fun x => flatO x.2) && m0.all fun x => flatO x.2))) then some (obs ++ obs', ⟨r', u⟩) else none
        | _, _, _ => none
      | none => none
    | _, _ => none

def aop (E : Env) (m : Mem) (nx : Nat) (get : Operand → SV) (o : Op) : Out :=
  match o with
  | .move x => some ([], ⟨get x, []⟩)
  | .assign x => some ([], ⟨get x, []⟩)
  | .alloc T => (zeroT E.P T).map fun cs => ([], ⟨one (.pt nx 0), [(nx, some (.box cs))]⟩)
  | .box _ x => match get x with
    | .v _ cs => some ([], ⟨one (.pt nx 0), [(nx, some (.box cs))]⟩)
    | _ => none
  | .build T ps => aBuild E T (partsC get ps.toList)
  | .buildSlice T n ps => bif Nat.beq n 0 then aEmpty E nx T ps else aBuildSlice E m nx T n (partsC get ps.toList)
  | .load T x => aLoad E m T (get x)
  | .store T x y => aStore E m T (get y) (get x)
  | .nilCheck x => match get x with
    | .v false [.pt id off] => ret (.pt id off)
    | .v false [.pe t xs i off] => ret (.pe t xs i off)
    | .v false [.pr id i off] => ret (.pr id i off)
    | .v false [.gp g off] => ret (.gp g off)
    | _ => none
  | .binOp op T x y _ => aBin E op T (get x) (get y)
  | .unOp .not _ x => match get x with
    | .v false [.bool b] => ret (.bool (pNot b))
    | _ => none
  | .unOp .neg _ x => match get x with
    | .v false [.int k n] => ret (.int k (pSubI k 0 n))
    | _ => none
  | .convert S D x => aConvert E S D (get x)
  | .makeFunc (.func f) first cs => match first.toList with
    | [] => (capsOf (cs.toList.map get)).map fun l => ([], ⟨one (.fn f l), []⟩)
    | _ => none
  | .slice T x lo hi mx => aSlice E T (get x) (lo.map get) (hi.map get) (mx.map get)
  | .fieldAddr T x f => aFieldAddr E T f (get x)
  | .field T x f => aField E T f (get x)
  | .indexAddr T x i => aIndexAddr E m T (get x) (get i)
  | .index T x i => aIndex E T (get x) (get i)
  | .extract x i => match get x with
    | .tup vs => match vs[i]? with
      | some (a, cs) => some ([], ⟨.v a cs, []⟩)
      | none => none
    | _ => none
  | .call c => match c.callee with
    | .builtin .len => match c.args.toList, c.argTypes.toList with
      | [x], T :: _ => aLen E m T (get x)
      | _, _ => none
    | .builtin .append => match c.args.toList, c.argTypes.toList with
      | [x, y], [T, T'] => if T = T' then aAppend E m nx T (get x) (get y) else none
      | _, _ => none
    | .builtin .min => match c.args.toList.map get with
      | [.v false [.int k a], .v false [.int _ b]] => ret (.int k (pMin a b))
      | _ => none
    | .builtin .max => match c.args.toList.map get with
      | [.v false [.int k a], .v false [.int _ b]] => ret (.int k (pMax a b))
      | _ => none
    | .value g => match get g with
      | .v false [.fn f caps] => aCall E m nx f (c.args.toList.map get ++ caps.map fun (p : Nat × Nat) => one (.pt p.1 p.2))
      | _ => none
    | _ => none
  | _ => none

/- REGIONS -/
structure Step where
  at_ : Nat
  lo : Nat
  ids : List Nat
  upd : List Nat

def St.get (s : St) : Operand → SV
  | .tmp t => s.slot t
  | .const v => svOfValue v
  | .global g => one (.gp g 0)
  | .func f => one (.fn f [])

def idsS' : SV → List Nat
  | .un => []
  | .v _ cs => cs.flatMap idsC
  | .tup vs => vs.flatMap fun p => p.2.flatMap idsC
def maxIds : Nat := 8
def St.put (s : St) (dst : Option Tmp) (e : Eff) : St :=
  { s with
    slots := match dst with
      | some d => (d, e.res) :: s.slots
      | none => s.slots
    mem := e.upd ++ s.mem
    tch := e.upd.map (·.1) ++ s.tch }
def St.lit (s : St) (t : Nat) (b : Bool) : St := { s with slots := (t, one (.bool b)) :: s.slots }

def allP : List Prop → Prop → Prop
  | [], K => K
  | p :: ps, K => p ∧ allP ps K

def belowC (n : Nat) (cs : List C) : Bool := cs.all fun c => (idsC c).all (Nat.blt · n)
def belowS (n : Nat) : SV → Bool
  | .un => true
  | .v _ cs => belowC n cs
  | .tup vs => vs.all fun x => belowC n x.2
def belowO (n : Nat) : Option Obj → Bool
  | some (.box cs) => belowC n cs
  | _ => true
def belowE (n : Nat) (e : Eff) : Bool := belowS n e.res && e.upd.all fun x => Nat.blt x.1 n && belowO n x.2

/-- the objects that an operation may look at -/
def opIds (m : Mem) (get : Operand → SV) (o : Op) : List Nat :=
  let d := addNew [] (o.operands.toList.flatMap fun x => metS true (get x))
  match o with
  | .nilCheck _ => d
  | .fieldAddr _ _ _ => d
  | .move _ => d
  | .assign _ => d
  | .indexAddr _ _ _ => d
  | _ => reach m 3 d
def only (ids : List Nat) (m : Mem) : Mem := fun id => if ids.contains id then m id else none

/-- an effect names what it was told of, and what it makes -/
def idsE (e : Eff) : List Nat := (match e.res with
  | .un => []
  | .v _ cs => cs.flatMap idsC
  | .tup vs => vs.flatMap fun p => p.2.flatMap idsC) ++ e.upd.flatMap fun x => match x.2 with
    | some (.box cs) => cs.flatMap idsC
    | _ => []
def effIn (ids : List Nat) (e : Eff) : Bool := (idsE e).all fun id => ids.contains id || (e.upd.map (·.1)).contains id

/- a slice against nil: one that is empty may be either -/
def isNilO : Operand → Bool
  | .const (.slice none 0 0) => true
  | _ => false
def slLen (m : Mem) : SV → Option Nat
  | .v false [.nil] => some 0
  | .v false [.sl _ xs] => some (pLen xs)
  | .v false [.hs id] => match m id with
    | some (.row _ xs) => some (pLen xs)
    | _ => none
  | _ => none
def nilTest (P : Program) (s : St) : Op → Option (Bool × Nat)
  | .binOp .eql T x y _ => bif isNilO y && (elemT P T).isSome then (slLen s.obj (s.get x)).map fun n => (true, n) else none
  | .binOp .neq T x y _ => bif isNilO y && (elemT P T).isSome then (slLen s.obj (s.get x)).map fun n => (false, n) else none
  | _ => none

/-- one operation that is wanted -/
def aStep (E : Env) (draw : Bool) (i : Nat) (o : Oper) (s : St) (tr : List Step) (K : St → List Step → Prop) : Prop :=
  let ids := if draw then opIds s.obj s.get o.op else []
  let m := if draw then only ids s.obj else s.obj
  match nilTest E.P s o.op with
  | some (b, n) => cond draw False ((n = 0 → K (s.put o.dst ⟨one (.bool b), []⟩) (⟨i, s.next + i * maxIds, [], []⟩ :: tr)) ∧ K (s.put o.dst ⟨one (.bool (!b)), []⟩) (⟨i, s.next + i * maxIds, [], []⟩ :: tr))
  | none =>
  match o.op with
  | .pick (.tmp c) a b => match s.slot c with
    | .v false [.bool t] => cond t
        (cond (belowE (s.next + (i + 1) * maxIds) ⟨s.get a, []⟩ && (!draw || effIn (idsS' (s.get a)) ⟨s.get a, []⟩)) (K (s.put o.dst ⟨s.get a, []⟩) (⟨i, s.next + i * maxIds, idsS' (s.get a), []⟩ :: tr)) False)
        (cond (belowE (s.next + (i + 1) * maxIds) ⟨s.get b, []⟩ && (!draw || effIn (idsS' (s.get b)) ⟨s.get b, []⟩)) (K (s.put o.dst ⟨s.get b, []⟩) (⟨i, s.next + i * maxIds, idsS' (s.get b), []⟩ :: tr)) False)
    | _ => False
  | _ => match aop E m (s.next + i * maxIds) s.get o.op with
    | some (obs, e) => cond (belowE (s.next + (i + 1) * maxIds) e && (!draw || effIn ids e)) (allP obs (K (s.put o.dst e) (⟨i, s.next + i * maxIds, ids, e.upd.map (·.1)⟩ :: tr))) False
    | none => False

def undefE : Eff := ⟨.tup [], []⟩

def aRegion (E : Env) (ops : Array Oper) (draw : Bool) (K : St → List Step → Prop) : List (Oper × Nat) → St → List Step → Prop
  | [], s, tr => K s tr
  | (o, i) :: r, s, tr =>
    match o.guard with
    | none => aStep E draw i o s tr (aRegion E ops draw K r)
    | some (g, want) => match (ops[g]?).bind (·.dst) with
      | none => False
      | some c => match s.slot c with
        | .v false [.bool t] => cond t
            (cond want (aStep E draw i o (s.lit c true) tr (aRegion E ops draw K r)) (aRegion E ops draw K r ((s.lit c true).put o.dst undefE) (⟨i, s.next + i * maxIds, [], []⟩ :: tr)))
            (cond want (aRegion E ops draw K r ((s.lit c false).put o.dst undefE) (⟨i, s.next + i * maxIds, [], []⟩ :: tr)) (aStep E draw i o (s.lit c false) tr (aRegion E ops draw K r)))
        | .tup [] => aRegion E ops draw K r (s.put o.dst undefE) (⟨i, s.next + i * maxIds, [], []⟩ :: tr)
        | _ => False

/-- two operations of a region that draws, the later one first: may they stand in either order? -/
def apartS (a b : List Nat) : Bool := a.all fun x => !b.contains x
def offS (lo : Nat) (a : List Nat) : Bool := a.all fun x => Nat.blt x lo || Nat.ble (lo + maxIds) x
/-- by a chain of edges -/
def ordN (ops : Array Oper) : Nat → Oper → Nat → Bool
  | 0, _, _ => false
  | n + 1, o, i => o.after.any fun e => Region.binds .any e && (Nat.beq e.on i || (Nat.blt i e.on && match ops[e.on]? with
    | some o' => ordN ops n o' i
    | none => false))
def apartSteps (ops : Array Oper) (x y : Step) : Bool :=
  match ops[x.at_]?, ops[y.at_]? with
  | some ox, some oy =>
    ordN ops 1 ox y.at_ ||
      ((ox.apart ops oy && apartS x.upd y.ids && apartS y.upd x.ids && apartS x.upd y.upd && offS y.lo x.ids && offS y.lo x.upd) || ordN ops 6 ox y.at_)
  | _, _ => false
def fine (ops : Array Oper) : List Step → Bool
  | [] => true
  | x :: r => r.all (apartSteps ops x) && fine ops r
/-- the edges lead to earlier operations -/
def edgesOk (ops : Array Oper) : Bool := ops.toList.zipIdx.all fun x => x.1.after.all fun e => !Region.binds .any e || Nat.blt e.on x.2

/- CODE -/
inductive Ex where
  | normal | exit (id : Nat) | ret

/-- what changes from round to round: a slot of one cell, or an own box; (own, type): data, or an own row -/
inductive Var where
  | slot (s : Nat) (own : Bool) (t : Ty)
  | agg (s : Nat) (ks : List (Bool × Ty))
  | box (id : Nat) (ks : List (Bool × Ty))
@[reducible] def kden : Bool → Ty → Type
  | true, t => List t.den
  | false, t => t.den
@[reducible] def denCells : List (Bool × Ty) → Type
  | [] => Unit
  | (own, t) :: r => kden own t × denCells r
@[reducible] def denVars : List Var → Type
  | [] => Unit
  | .slot _ own t :: r => kden own t × denVars r
  | .agg _ ks :: r => denCells ks × denVars r
  | .box _ ks :: r => denCells ks × denVars r

structure Ann where
  vars : List Var
  inv : denVars vars → Prop
  mu : denVars vars → Nat

/-- what a slot holds, for annotations -/
def slotI (s : St) (t : Nat) : Int := match s.slot t with
  | .v false [.int _ n] => n
  | _ => 0

/-- the datum of one cell -/
def cell1 : (t : Ty) → t.den → C
  | .int k, n => .int k n
  | .bool, b => .bool b
  | .str, s => .str s
  | .sl t, xs => .sl t xs
  | _, _ => .un
def uncell1 : (t : Ty) → C → Option t.den
  | .int k, .int k' n => if k = k' then some n else none
  | .bool, .bool b => some b
  | .str, .str s => some s
  | .sl t, .sl t' xs => if h : t' = t then some (h ▸ xs) else none
  | .sl _, .nil => some []
  | _, _ => none

def kRead (m : Mem) : (own : Bool) → (t : Ty) → C → Option (kden own t)
  | false, t, c => uncell1 t c
  | true, t, c => match c with
    | .sl _ _ => none
    | c => aElems m t c
/-- the number of the row that is read, if it is one -/
def kId : Bool → C → List Nat
  | true, .hs id => [id]
  | _, _ => []
def readCells (m : Mem) : (ks : List (Bool × Ty)) → List C → Option (denCells ks)
  | [], [] => some ()
  | (own, t) :: r, c :: cs => match kRead m own t c, readCells m r cs with
    | some x, some y => some (x, y)
    | _, _ => none
  | _, _ => none
def idsCells : List (Bool × Ty) → List C → List Nat
  | (own, _) :: r, c :: cs => kId own c ++ idsCells r cs
  | _, _ => []
def readVars (s : St) : (vs : List Var) → Option (denVars vs)
  | [] => some ()
  | .slot n own t :: r => match s.slot n with
    | .v false [c] => match kRead s.obj own t c, readVars s r with
      | some x, some y => some (x, y)
      | _, _ => none
    | _ => none
  | .agg n ks :: r => match s.slot n with
    | .v true cs => match readCells s.obj ks cs, readVars s r with
      | some x, some y => some (x, y)
      | _, _ => none
    | _ => none
  | .box id ks :: r => match s.obj id with
    | some (.box cs) => match readCells s.obj ks cs, readVars s r with
      | some x, some y => some (x, y)
      | _, _ => none
    | _ => none
def idsVars (s : St) : List Var → List Nat
  | [] => []
  | .slot n own _ :: r => (match s.slot n with
    | .v false [c] => kId own c
    | _ => []) ++ idsVars s r
  | .agg n ks :: r => (match s.slot n with
    | .v true cs => idsCells ks cs
    | _ => []) ++ idsVars s r
  | .box id ks :: r => (match s.obj id with
    | some (.box cs) => idsCells ks cs
    | _ => []) ++ idsVars s r
/-- the state at a round's head: slots, objects, the next number -/
structure Head where
  slots : List (Nat × SV)
  mem : List (Nat × Option Obj)
  next : Nat
def kPut : (own : Bool) → (t : Ty) → kden own t → Nat → C
  | false, t, x, _ => cell1 t x
  | true, _, _, n => .hs n
def kMem : (own : Bool) → (t : Ty) → kden own t → Nat → List (Nat × Option Obj)
  | false, _, _, _ => []
  | true, t, x, n => [(n, some (.row t x))]
def kNext : Bool → Nat → Nat
  | true, n => n + 1
  | false, n => n
def putCells : (ks : List (Bool × Ty)) → denCells ks → Nat → List C × List (Nat × Option Obj) × Nat
  | [], _, n => ([], [], n)
  | (own, t) :: r, x, n =>
    let z := putCells r x.2 (kNext own n)
    (kPut own t x.1 n :: z.1, kMem own t x.1 n ++ z.2.1, z.2.2)
def putVars : (vs : List Var) → denVars vs → Nat → Head
  | [], _, n => ⟨[], [], n⟩
  | .slot s own t :: r, x, n =>
    let z := putVars r x.2 (kNext own n)
    ⟨(s, one (kPut own t x.1 n)) :: z.slots, kMem own t x.1 n ++ z.mem, z.next⟩
  | .agg s ks :: r, x, n =>
    let y := putCells ks x.1 n
    let z := putVars r x.2 y.2.2
    ⟨(s, .v true y.1) :: z.slots, y.2.1 ++ z.mem, z.next⟩
  | .box id ks :: r, x, n =>
    let y := putCells ks x.1 n
    let z := putVars r x.2 y.2.2
    ⟨z.slots, y.2.1 ++ (id, some (.box y.1)) :: z.mem, z.next⟩
def boxVars : List Var → List Nat
  | [] => []
  | .slot _ _ _ :: r => boxVars r
  | .agg _ _ :: r => boxVars r
  | .box id _ :: r => id :: boxVars r
def slotVars : List Var → List Nat
  | [] => []
  | .slot s _ _ :: r => s :: slotVars r
  | .agg s _ :: r => s :: slotVars r
  | .box _ _ :: r => slotVars r
def Code.dsts : Code → List Nat
  | .region _ ops _ => ops.toList.filterMap (·.dst)
  | .seq a b => Code.dsts a ++ Code.dsts b
  | .cond _ a b => Code.dsts a ++ Code.dsts b
  | .block _ b => Code.dsts b
  | .loop b => Code.dsts b
  | .scope b => Code.dsts b
  | _ => []
def Code.key : Code → Nat
  | .region id _ _ => id
  | .seq a _ => Code.key a
  | .cond _ a _ => Code.key a
  | .block _ b => Code.key b
  | .loop b => Code.key b
  | _ => 0
def loopHead (s : St) (ds dead : List Nat) (vs : List Var) (x : denVars vs) : St :=
  let h := putVars vs x s.next
  { slots := h.slots ++ s.slots.filter (fun p => !(ds.contains p.1) && !((slotVars vs).contains p.1))
    mem := h.mem ++ (dead.map fun id => (id, none)) ++ s.mem
    next := h.next
    tch := [] }

/-- what an entry, or a round, must come to: the variables read, rows that are each one's own, nothing else touched -/
def loopIn (ok : Nat → Bool) (s : St) (vs : List Var) (K : denVars vs → Prop) : Prop :=
  match readVars s vs with
  | some x => cond (distinct (idsVars s vs) && (idsVars s vs).all ok) (K x) False
  | none => False

def dstBelow (n : Nat) (o : Oper) : Bool := match o.dst with
  | some t => Nat.blt t n
  | none => true

def awp (E : Env) (A : Nat → St → Option Ann) (n : Nat) : Code → (Ex → St → Prop) → St → Prop
  | .skip, Q, s => Q .normal s
  | .region _ ops d, Q, s => cond (ops.toList.all (dstBelow n)) (aRegion E ops d (fun s' tr =>
      cond (!d || (fine ops tr && edgesOk ops && E.P.follows .mixedOrders)) (Q .normal { s' with next := s'.next + ops.size * maxIds }) False) ops.toList.zipIdx s []) False
  | .seq a b, Q, s => awp E A n a (fun e s' => match e with
      | .normal => awp E A n b Q s'
      | e => Q e s') s
  | .cond c a b, Q, s => match s.get c with
      | .v false [.bool t] => cond t (awp E A n a Q s) (awp E A n b Q s)
      | _ => False
  | .block id b, Q, s => awp E A n b (fun e s' => match e with
      | .exit id' => bif Nat.beq id' id then Q .normal s' else Q e s'
      | e => Q e s') s
  | .loop b, Q, s => match A (Code.key b) s with
      | none => False
      | some L => cond ((slotVars L.vars).all fun t => (Code.dsts b).contains t) (loopIn (fun _ => true) s L.vars (fun x => L.inv x ∧ ∀ y, L.inv y →
          awp E A n b (fun e s' => match e with
            | .normal => cond (s'.tch.all fun id => Nat.ble s.next id || (boxVars L.vars).contains id)
                (loopIn (fun id => Nat.ble s.next id) s' L.vars (fun z => L.inv z ∧ L.mu z < L.mu y)) False
            | e => Q e { s' with tch := s'.tch ++ boxVars L.vars ++ idsVars s L.vars ++ s.tch })
            (loopHead s (Code.dsts b) (idsVars s L.vars) L.vars y))) False
  | .exit id, Q, s => Q (.exit id) s
  | .ret, Q, s => Q .ret s
  | _, _, _ => False

/- FUNCTIONS -/
def resOf (E : Env) (s : St) : ResultVar → Option (Bool × List C)
  | .tmp t => match s.slot t with
    | .v a cs => some (a, cs)
    | _ => none
  | .cell a T => match aLoad E s.obj T (s.slot a) with
    | some (_, ⟨.v b cs, _⟩) => some (b, cs)
    | _ => none
def resAll (E : Env) (s : St) : List ResultVar → Option (List (Bool × List C))
  | [] => some []
  | r :: rs => match resOf E s r, resAll E s rs with
    | some x, some l => some (x :: l)
    | _, _ => none
def resSV : List (Bool × List C) → SV
  | [(a, cs)] => .v a cs
  | l => .tup l

def startSt (args : List SV) (m0 : List (Nat × Option Obj)) : St :=
  { slots := (args.zipIdx.map fun x => (x.2, x.1)), mem := m0, next := m0.length, tch := [] }

/-- the results, as a state's first slots -/
def endSt (s : St) (l : List (Bool × List C)) : St := { s with slots := (l.zipIdx.map fun x => (x.2, .v x.1.1 x.1.2)) }

/-- A function on arguments and objects: what its results, and boxes, are in the end (vs; in order: slots 0, 1, .. are the results); objects that it may let go (dead). -/
def afn (E : Env) (A : Nat → St → Option Ann) (f : Func) (args : List SV) (m0 : List (Nat × Option Obj)) (dead : List Nat) (vs : List Var) (Q : denVars vs → Prop) : Prop :=
  match f.body with
  | none => False
  | some c => cond (Nat.ble args.length f.ntmps && (slotVars vs == List.range f.results.size) && (boxVars vs).all (Nat.blt · m0.length)) (awp E A f.ntmps c (fun e s => match e with
      | .exit _ => False
      | _ => match resAll E s f.results.toList with
        | some l => cond (s.tch.all fun id => Nat.ble m0.length id || (boxVars vs).contains id || dead.contains id)
            (loopIn (fun id => Nat.ble m0.length id || dead.contains id) (endSt s l) vs Q) False
        | none => False) (startSt args m0)) False

/-- the answer of a contract: results, objects -/
def outOf (vs : List Var) (dead : List Nat) (x : denVars vs) (m0 : List (Nat × Option Obj)) : SV × List (Nat × Option Obj) :=
  let h := putVars vs x m0.length
  (resSV ((slotVars vs).map fun t => match look h.slots t with
    | some (.v a cs) => (a, cs)
    | _ => (false, [])), h.mem ++ dead.map fun id => (id, none))

end Go.Proofs.Ytoalcmpjfnlkdaa
