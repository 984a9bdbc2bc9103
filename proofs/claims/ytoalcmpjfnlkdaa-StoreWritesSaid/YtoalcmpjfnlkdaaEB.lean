/- THE MACHINE OF READINGS, part B: what it means that a world's values read as abstract ones. -/
import Derived.Test.YtoalcmpjfnlkdaaEA
import Derived.RowKit
import Derived.Below
import Derived.Laws.AppendOwn
import Derived.Laws.StructEq
namespace Go.Proofs.Ytoalcmpjfnlkdaa
open Go.RowKit

inductive All2 {α β : Type} (R : α → β → Prop) : List α → List β → Prop where
  | nil : All2 R [] []
  | cons {a : α} {b : β} {as : List α} {bs : List β} : R a b → All2 R as bs → All2 R (a :: as) (b :: bs)

section
variable {α β : Type} {R S : α → β → Prop}
theorem All2.len : ∀ {as : List α} {bs : List β}, All2 R as bs → as.length = bs.length
  | _, _, .nil => rfl
  | _, _, .cons _ h => by simp [h.len]
theorem All2.mono (h : ∀ a b, R a b → S a b) : ∀ {as : List α} {bs : List β}, All2 R as bs → All2 S as bs
  | _, _, .nil => .nil
  | _, _, .cons a b => .cons (h _ _ a) (b.mono h)
theorem All2.mono' : ∀ {as : List α} {bs : List β}, All2 R as bs → (∀ a ∈ as, ∀ b, R a b → S a b) → All2 S as bs
  | _, _, .nil, _ => .nil
  | _, _, .cons a b, h => .cons (h _ (by simp) _ a) (b.mono' fun x hx => h x (by simp [hx]))
theorem All2.append : ∀ {as : List α} {bs : List β} {cs : List α} {ds : List β}, All2 R as bs → All2 R cs ds → All2 R (as ++ cs) (bs ++ ds)
  | _, _, _, _, .nil, h => h
  | _, _, _, _, .cons a b, h => .cons a (b.append h)
theorem All2.take : ∀ {as : List α} {bs : List β} (n : Nat), All2 R as bs → All2 R (as.take n) (bs.take n)
  | _, _, _, .nil => by simp; exact .nil
  | _, _, 0, .cons _ _ => .nil
  | _, _, n + 1, .cons a b => by simpa using All2.cons a (b.take n)
theorem All2.drop : ∀ {as : List α} {bs : List β} (n : Nat), All2 R as bs → All2 R (as.drop n) (bs.drop n)
  | _, _, _, .nil => by simp; exact .nil
  | _, _, 0, .cons a b => .cons a b
  | _, _, n + 1, .cons _ b => by simpa using b.drop n
theorem All2.get : ∀ {as : List α} {bs : List β} (i : Nat) {a : α}, All2 R as bs → as[i]? = some a → ∃ b, bs[i]? = some b ∧ R a b
  | _, _, _, _, .nil, h => by simp at h
  | _, _, 0, _, .cons a _, h => by simp at h; subst h; exact ⟨_, rfl, a⟩
  | _, _, n + 1, _, .cons _ b, h => by simp at h ⊢; exact b.get n h
theorem All2.getR : ∀ {as : List α} {bs : List β} (i : Nat) {b : β}, All2 R as bs → bs[i]? = some b → ∃ a, as[i]? = some a ∧ R a b
  | _, _, _, _, .nil, h => by simp at h
  | _, _, 0, _, .cons a _, h => by simp at h; subst h; exact ⟨_, rfl, a⟩
  | _, _, n + 1, _, .cons _ b, h => by simp at h ⊢; exact b.getR n h
theorem All2.inv_append : ∀ {as cs : List α} {bs : List β}, All2 R (as ++ cs) bs → ∃ b1 b2, bs = b1 ++ b2 ∧ All2 R as b1 ∧ All2 R cs b2
  | [], _, _, h => ⟨[], _, rfl, .nil, h⟩
  | _ :: _, _, _, .cons h1 h2 => by
    obtain ⟨b1, b2, rfl, h3, h4⟩ := h2.inv_append
    exact ⟨_ :: b1, b2, rfl, .cons h1 h3, h4⟩
end

/-- blocks that stay as they are -/
abbrev Blk := Nat → Prop

/-- The cells vs, in the world w, read as x; what they lead to lies in blocks of N. -/
def Rd : (t : Ty) → World → Blk → List Value → t.den → Prop
  | .unit, _, _, vs, _ => vs = []
  | .int k, _, _, vs, n => vs = [.int k n]
  | .bool, _, _, vs, b => vs = [.bool b]
  | .str, _, _, vs, s => vs = [.string s]
  | .sl t, w, N, vs, xs => ∃ A n c, vs = [.slice A n c] ∧ xs.length = n ∧ n ≤ c ∧
      (0 < n → ∃ b off, A = some ⟨b, off, none⟩ ∧ N b ∧ ∀ (k : Nat) (h : k < xs.length), ∃ us : List Value, Rd t w N us xs[k] ∧ us.length = t.size ∧
        ∀ (j : Nat) (u : Value), us[j]? = some u → w.cell? ⟨b, off + k * t.size + j, none⟩ = some u)
  | .pair a b, w, N, vs, x => ∃ v1 v2, vs = v1 ++ v2 ∧ Rd a w N v1 x.1 ∧ Rd b w N v2 x.2

theorem Rd.len : ∀ {t : Ty} {w : World} {N : Blk} {vs : List Value} {x : t.den}, Rd t w N vs x → vs.length = t.size
  | .unit, _, _, _, _, h => by have h : _ = _ := h; subst h; rfl
  | .int _, _, _, _, _, h => by have h : _ = _ := h; subst h; rfl
  | .bool, _, _, _, _, h => by have h : _ = _ := h; subst h; rfl
  | .str, _, _, _, _, h => by have h : _ = _ := h; subst h; rfl
  | .sl _, _, _, _, _, h => by obtain ⟨A, n, c, rfl, _⟩ := h; rfl
  | .pair _ _, _, _, _, _, h => by
    obtain ⟨v1, v2, rfl, h1, h2⟩ := h
    simp [Ty.size, h1.len, h2.len]

theorem Rd.one : ∀ {t : Ty} {w : World} {N : Blk} {vs : List Value} {x : t.den}, Rd t w N vs x → ∀ u ∈ vs, u.oneCell' = true
  | .unit, _, _, _, _, h => by have h : _ = _ := h; subst h; simp
  | .int _, _, _, _, _, h => by have h : _ = _ := h; subst h; simp [Value.oneCell']
  | .bool, _, _, _, _, h => by have h : _ = _ := h; subst h; simp [Value.oneCell']
  | .str, _, _, _, _, h => by have h : _ = _ := h; subst h; simp [Value.oneCell']
  | .sl _, _, _, _, _, h => by obtain ⟨A, n, c, rfl, _⟩ := h; simp [Value.oneCell']
  | .pair _ _, _, _, _, _, h => by
    obtain ⟨v1, v2, rfl, h1, h2⟩ := h
    intro u hu
    rcases List.mem_append.1 hu with hu | hu
    · exact h1.one u hu
    · exact h2.one u hu

/-- w' is as w in the blocks of N -/
def SameOn (N : Blk) (w w' : World) : Prop := ∀ b, N b → w'.heap[b]? = w.heap[b]?
theorem SameOn.cell {N : Blk} {w w' : World} (h : SameOn N w w') {b off : Nat} (hb : N b) : w'.cell? ⟨b, off, none⟩ = w.cell? ⟨b, off, none⟩ := by
  simp [World.cell?, h b hb]

theorem Rd.mono : ∀ {t : Ty} {w w' : World} {N N' : Blk} {vs : List Value} {x : t.den}, Rd t w N vs x → (∀ b, N b → N' b) → SameOn N w w' → Rd t w' N' vs x
  | .unit, _, _, _, _, _, _, h, _, _ => h
  | .int _, _, _, _, _, _, _, h, _, _ => h
  | .bool, _, _, _, _, _, _, h, _, _ => h
  | .str, _, _, _, _, _, _, h, _, _ => h
  | .sl _, _, _, _, _, _, _, h, hN, hs => by
    obtain ⟨A, n, c, hv, hl, hc, hx⟩ := h
    refine ⟨A, n, c, hv, hl, hc, fun h0 => ?_⟩
    obtain ⟨b, off, hA, hb, hk⟩ := hx h0
    refine ⟨b, off, hA, hN b hb, fun k h => ?_⟩
    obtain ⟨us, hr, hlen, hcell⟩ := hk k h
    exact ⟨us, hr.mono hN hs, hlen, fun j u hj => (hs.cell hb).trans (hcell j u hj)⟩
  | .pair _ _, _, _, _, _, _, _, h, hN, hs => by
    obtain ⟨v1, v2, rfl, h1, h2⟩ := h
    exact ⟨v1, v2, rfl, h1.mono hN hs, h2.mono hN hs⟩

/-- where an object lies: a box or a row: its address; a row's capacity -/
structure Pl where
  A : Option Addr
  cap : Nat

/-- One cell. -/
def CR (w : World) (N : Blk) (ρ : Nat → Pl) (m : Mem) : C → Value → Prop
  | .un, v => v.oneCell' = true
  | .int k n, v => v = .int k n
  | .bool b, v => v = .bool b
  | .str s, v => v = .string s
  | .nil, v => ∃ A, v = .slice A 0 0
  | .sl t xs, v => Rd (.sl t) w N [v] xs
  | .hs id, v => (∃ A n c, v = .slice A n c) ∧ ∀ t xs, m id = some (.row t xs) → v = .slice (ρ id).A xs.length (ρ id).cap
  | .pt id off, v => ∃ b, (ρ id).A = some ⟨b, 0, none⟩ ∧ v = .pointer (some ⟨b, off, none⟩)
  | .pe t xs i off, v => ∃ b o, v = .pointer (some ⟨b, o + off, none⟩) ∧ N b ∧ i < xs.length ∧
      ∃ us : List Value, Rd t w N us (pGet t xs i) ∧ ∀ (j : Nat) (u : Value), us[j]? = some u → w.cell? ⟨b, o + j, none⟩ = some u
  | .pr id i off, v => (∃ a, v = .pointer (some a)) ∧ ∀ t xs, m id = some (.row t xs) → i < xs.length ∧ ∃ b, (ρ id).A = some ⟨b, 0, none⟩ ∧ v = .pointer (some ⟨b, i * t.size + off, none⟩)
  | .gp g off, v => v = .pointer (some ⟨g, off, none⟩)
  | .fn f caps, v => ∃ vs : List Value, v = .func (.func f) #[] vs.toArray ∧ All2 (fun (p : Nat × Nat) u => ∃ b, (ρ p.1).A = some ⟨b, 0, none⟩ ∧ u = .pointer (some ⟨b, p.2, none⟩)) caps vs

theorem CR.one {w : World} {N : Blk} {ρ : Nat → Pl} {m : Mem} : ∀ {c : C} {v : Value}, CR w N ρ m c v → v.oneCell' = true
  | .un, _, h => h
  | .int _ _, _, h => by have h : _ = _ := h; subst h; rfl
  | .bool _, _, h => by have h : _ = _ := h; subst h; rfl
  | .str _, _, h => by have h : _ = _ := h; subst h; rfl
  | .nil, _, h => by obtain ⟨A, rfl⟩ := h; rfl
  | .sl _ _, _, h => Rd.one h _ (by simp)
  | .hs _, _, h => by obtain ⟨⟨A, n, c, rfl⟩, _⟩ := h; rfl
  | .pt _ _, _, h => by obtain ⟨b, _, rfl⟩ := h; rfl
  | .pe _ _ _ _, _, h => by obtain ⟨b, o, rfl, _⟩ := h; rfl
  | .pr _ _ _, _, h => by obtain ⟨⟨a, rfl⟩, _⟩ := h; rfl
  | .gp _ _, _, h => by have h : _ = _ := h; subst h; rfl
  | .fn _ _, _, h => by obtain ⟨vs, rfl, _⟩ := h; rfl

/-- A value of one cell, or a struct. -/
def VR (w : World) (N : Blk) (ρ : Nat → Pl) (m : Mem) (agg : Bool) (cs : List C) (v : Value) : Prop :=
  match agg with
  | false => ∃ c, cs = [c] ∧ CR w N ρ m c v
  | true => ∃ vs : List Value, v = .agg vs.toArray ∧ All2 (CR w N ρ m) cs vs

def SVR (w : World) (N : Blk) (ρ : Nat → Pl) (m : Mem) : SV → Value → Prop
  | .un, _ => True
  | .v agg cs, v => VR w N ρ m agg cs v
  | .tup l, v => ∃ vs : List Value, v = .tuple vs.toArray ∧ All2 (fun (p : Bool × List C) u => VR w N ρ m p.1 p.2 u) l vs

theorem VR.cells {w : World} {N : Blk} {ρ : Nat → Pl} {m : Mem} {agg : Bool} {cs : List C} {v : Value} (h : VR w N ρ m agg cs v) : All2 (CR w N ρ m) cs v.cells.toList := by
  cases agg with
  | true => obtain ⟨vs, rfl, h⟩ := h; simpa [Value.cells] using h
  | false =>
    obtain ⟨c, rfl, h⟩ := h
    have h1 := h.one
    have : v.cells = #[v] := by cases v <;> first | rfl | simp [Value.oneCell'] at h1
    rw [this]
    exact .cons h .nil

/-- does an object hold its block? -/
def Holds (p : Pl) : Obj → Prop
  | .box _ => True
  | .row _ _ => 0 < p.cap

/-- An object, in its place. -/
def ObjR (w : World) (N : Blk) (ρ : Nat → Pl) (m : Mem) (id : Nat) : Obj → Prop
  | .box cs => ∃ b vals T, (ρ id).A = some ⟨b, 0, none⟩ ∧ w.heap[b]? = some (.cells vals T (0, 0)) ∧ All2 (CR w N ρ m) cs vals.toList
  | .row t xs => xs.length ≤ (ρ id).cap ∧ (0 < (ρ id).cap → ∃ b vals T, (ρ id).A = some ⟨b, 0, none⟩ ∧ w.heap[b]? = some (.cells vals T (0, 0)) ∧
      vals.size = (ρ id).cap * t.size ∧ ∀ (k : Nat) (h : k < xs.length), ∃ us : List Value, Rd t w N us xs[k] ∧ ∀ (j : Nat) (u : Value), us[j]? = some u → vals[k * t.size + j]? = some u)

/-- the blocks that objects hold -/
def Own (ρ : Nat → Pl) (m : Mem) (b : Nat) : Prop := ∃ id o, m id = some o ∧ Holds (ρ id) o ∧ (ρ id).A = some ⟨b, 0, none⟩

structure MR (w : World) (N : Blk) (ρ : Nat → Pl) (m : Mem) : Prop where
  obj : ∀ id o, m id = some o → ObjR w N ρ m id o
  inj : ∀ id id' o o', m id = some o → m id' = some o' → Holds (ρ id) o → Holds (ρ id') o' → (ρ id).A = (ρ id').A → id = id'
  nown : ∀ b, N b → ¬ Own ρ m b
  nlt : ∀ b, N b → b < w.heap.size

/-- what has happened since a call began: nothing that was there and is not its own has turned -/
structure Since (w0 : World) (X : Blk) (w : World) : Prop where
  os : w.os = w0.os
  tape : w.tape = w0.tape
  output : w.output = w0.output
  size : w0.heap.size ≤ w.heap.size
  keep : ∀ b, b < w0.heap.size → ¬ X b → w.heap[b]? = w0.heap[b]?

theorem Since.refl (w : World) (X : Blk) : Since w X w := ⟨rfl, rfl, rfl, Nat.le_refl _, fun _ _ _ => rfl⟩

/-- An effect on objects: what is new, what is other than it was. -/
structure Turn (ρ : Nat → Pl) (m : Mem) (ρ' : Nat → Pl) (m' : Mem) (F : Nat → Prop) : Prop where
  pl : ∀ id, ¬ F id → ρ' id = ρ id
  row : ∀ id t xs, ¬ F id → m' id = some (.row t xs) → ∃ ys, m id = some (.row t ys) ∧ ys.length = xs.length

theorem CR.turn {w w' : World} {N N' : Blk} {ρ ρ' : Nat → Pl} {m m' : Mem} {F : Nat → Prop} (ht : Turn ρ m ρ' m' F) (hN : ∀ b, N b → N' b) (hs : SameOn N w w') :
    ∀ {c : C} {v : Value}, (∀ id ∈ idsC c, ¬ F id) → CR w N ρ m c v → CR w' N' ρ' m' c v
  | .un, _, _, h => h
  | .int _ _, _, _, h => h
  | .bool _, _, _, h => h
  | .str _, _, _, h => h
  | .nil, _, _, h => h
  | .sl _ _, _, _, h => Rd.mono (t := .sl _) h hN hs
  | .hs id, _, hf, h => by
    have hid : ¬ F id := hf id (by simp [idsC])
    refine ⟨h.1, fun t xs hm => ?_⟩
    obtain ⟨ys, hy, hl⟩ := ht.row id t xs hid hm
    rw [h.2 t ys hy, ht.pl id hid, hl]
  | .pt id _, _, hf, h => by
    obtain ⟨b, hb, hv⟩ := h
    exact ⟨b, by rw [ht.pl id (hf id (by simp [idsC]))]; exact hb, hv⟩
  | .pe _ _ _ _, _, _, h => by
    obtain ⟨b, o, hv, hb, hi, us, hr, hc⟩ := h
    exact ⟨b, o, hv, hN b hb, hi, us, hr.mono hN hs, fun j u hj => (hs.cell hb).trans (hc j u hj)⟩
  | .pr id _ _, _, hf, h => by
    have hid : ¬ F id := hf id (by simp [idsC])
    refine ⟨h.1, fun t xs hm => ?_⟩
    obtain ⟨ys, hy, hl⟩ := ht.row id t xs hid hm
    obtain ⟨h1, b, hb, hv⟩ := h.2 t ys hy
    exact ⟨by omega, b, by rw [ht.pl id hid]; exact hb, hv⟩
  | .gp _ _, _, _, h => h
  | .fn _ caps, _, hf, h => by
    obtain ⟨vs, hv, ha⟩ := h
    refine ⟨vs, hv, ha.mono' fun p hp u hu => ?_⟩
    obtain ⟨b, hb, e⟩ := hu
    exact ⟨b, by rw [ht.pl p.1 (hf p.1 (by simp only [idsC, List.mem_map]; exact ⟨p, hp, rfl⟩))]; exact hb, e⟩

def idsCs (cs : List C) : List Nat := cs.flatMap idsC
def idsS : SV → List Nat
  | .un => []
  | .v _ cs => idsCs cs
  | .tup vs => vs.flatMap fun p => idsCs p.2
def idsO : Obj → List Nat
  | .box cs => idsCs cs
  | .row _ _ => []

theorem All2.turn {w w' : World} {N N' : Blk} {ρ ρ' : Nat → Pl} {m m' : Mem} {F : Nat → Prop} (ht : Turn ρ m ρ' m' F) (hN : ∀ b, N b → N' b) (hs : SameOn N w w')
    {cs : List C} {vs : List Value} (hf : ∀ id ∈ idsCs cs, ¬ F id) (h : All2 (CR w N ρ m) cs vs) : All2 (CR w' N' ρ' m') cs vs :=
  h.mono' fun c hc _ hv => hv.turn ht hN hs fun id hid => hf id (List.mem_flatMap.2 ⟨c, hc, hid⟩)

theorem VR.turn {w w' : World} {N N' : Blk} {ρ ρ' : Nat → Pl} {m m' : Mem} {F : Nat → Prop} (ht : Turn ρ m ρ' m' F) (hN : ∀ b, N b → N' b) (hs : SameOn N w w')
    {agg : Bool} {cs : List C} {v : Value} (hf : ∀ id ∈ idsCs cs, ¬ F id) (h : VR w N ρ m agg cs v) : VR w' N' ρ' m' agg cs v := by
  cases agg with
  | true => obtain ⟨vs, hv, h⟩ := h; exact ⟨vs, hv, h.turn ht hN hs hf⟩
  | false =>
    obtain ⟨c, rfl, h⟩ := h
    exact ⟨c, rfl, h.turn ht hN hs fun id hid => hf id (by simp [idsCs, hid])⟩

theorem SVR.turn {w w' : World} {N N' : Blk} {ρ ρ' : Nat → Pl} {m m' : Mem} {F : Nat → Prop} (ht : Turn ρ m ρ' m' F) (hN : ∀ b, N b → N' b) (hs : SameOn N w w') :
    ∀ {sv : SV} {v : Value}, (∀ id ∈ idsS sv, ¬ F id) → SVR w N ρ m sv v → SVR w' N' ρ' m' sv v
  | .un, _, _, _ => trivial
  | .v _ _, _, hf, h => VR.turn ht hN hs hf h
  | .tup vs, _, hf, h => by
    obtain ⟨us, hv, ha⟩ := h
    exact ⟨us, hv, ha.mono' fun p hp u hu => VR.turn ht hN hs (fun id hid => hf id (List.mem_flatMap.2 ⟨p, hp, hid⟩)) hu⟩

end Go.Proofs.Ytoalcmpjfnlkdaa
