/- Messages as plain values; worlds that differ by draws alone. -/
import Derived.Test.YtdldmlekjhmaaaaOwn
import Derived.Deep.QuietTactic
import Derived.BigQuiet
namespace Go.Proofs.Ytdldmlekjhmaaaa
open Go.RowKit Go.ChangeShapes Go.WideShapes Go.Deep

structure Msg where
  kind : Int
  from_ : Int
  to : Int
  site : Int
  num : Int
  label : Int
  key : Int
  value : Int
  version : Int
  ask : Int
  yes : Bool
  code : Int
  deriving DecidableEq
def msg0 : Msg := ⟨0, 0, 0, 0, 0, 0, 0, 0, 0, 0, false, 0⟩
instance : Inhabited Msg := ⟨msg0⟩
def encMsg (m : Msg) : List Value := [.int .i64 m.kind, .int .i64 m.from_, .int .i64 m.to, .int .i64 m.site, .int .i64 m.num, .int .i64 m.label, .int .i64 m.key, .int .i64 m.value, .int .i64 m.version, .int .i64 m.ask, .bool m.yes, .int .i64 m.code]
theorem goodMsg : Good (Flat encMsg) 12 := Flat.good (fun _ => rfl) (fun _ u hu => by simp [encMsg] at hu; rcases hu with rfl | rfl | rfl | rfl | rfl | rfl | rfl | rfl | rfl | rfl | rfl | rfl <;> rfl)
abbrev MsgsAt (w : World) (B : Nat) (A : Option Addr) (n c : Nat) (xs : List Msg) : Prop := SlR (Flat encMsg) 12 96 w B A n c xs

theorem MsgsAt.cells {w : World} {B : Nat} {A : Option Addr} {n c : Nat} {xs : List Msg} (h : MsgsAt w B A n c xs) {k : Nat} (hk : k < n) :
    ∃ b off, A = some ⟨b, off, none⟩ ∧ b < B ∧ ∀ j, j < n → w.cell? ⟨b, off + j * 12, none⟩ = some (.int .i64 (xs.getD j msg0).kind) ∧ w.cell? ⟨b, off + j * 12 + 1, none⟩ = some (.int .i64 (xs.getD j msg0).from_) ∧ w.cell? ⟨b, off + j * 12 + 2, none⟩ = some (.int .i64 (xs.getD j msg0).to) ∧ w.cell? ⟨b, off + j * 12 + 3, none⟩ = some (.int .i64 (xs.getD j msg0).site) ∧ w.cell? ⟨b, off + j * 12 + 4, none⟩ = some (.int .i64 (xs.getD j msg0).num) ∧ w.cell? ⟨b, off + j * 12 + 5, none⟩ = some (.int .i64 (xs.getD j msg0).label) ∧ w.cell? ⟨b, off + j * 12 + 6, none⟩ = some (.int .i64 (xs.getD j msg0).key) ∧ w.cell? ⟨b, off + j * 12 + 7, none⟩ = some (.int .i64 (xs.getD j msg0).value) ∧ w.cell? ⟨b, off + j * 12 + 8, none⟩ = some (.int .i64 (xs.getD j msg0).version) ∧ w.cell? ⟨b, off + j * 12 + 9, none⟩ = some (.int .i64 (xs.getD j msg0).ask) ∧ w.cell? ⟨b, off + j * 12 + 10, none⟩ = some (.bool (xs.getD j msg0).yes) ∧ w.cell? ⟨b, off + j * 12 + 11, none⟩ = some (.int .i64 (xs.getD j msg0).code) := by
  obtain ⟨b, off, hA, hb, hc⟩ := SlR.flat h hk
  refine ⟨b, off, hA, hb, fun j hj => ?_⟩
  have hl : j < xs.length := by have := h.1; omega
  have := (hc j xs[j] (List.getElem?_eq_getElem hl)).2
  rw [List.getD_eq_getElem?_getD, List.getElem?_eq_getElem hl]
  exact ⟨this 0 _ rfl, this 1 _ rfl, this 2 _ rfl, this 3 _ rfl, this 4 _ rfl, this 5 _ rfl, this 6 _ rfl, this 7 _ rfl, this 8 _ rfl, this 9 _ rfl, this 10 _ rfl, this 11 _ rfl⟩

/-- only draws -/
def Drew (w w' : World) : Prop := ∃ m, w' = w.drewN m
theorem Drew.refl (w : World) : Drew w w := ⟨0, rfl⟩
theorem Drew.more {w w' : World} (h : Drew w w') (n : Nat) : Drew w (w'.drewN n) := by
  obtain ⟨m, rfl⟩ := h
  exact ⟨m + n, by rw [World.drewN_drewN]⟩
theorem Drew.trans {a b c : World} (h : Drew a b) (h' : Drew b c) : Drew a c := by
  obtain ⟨m, rfl⟩ := h'
  exact h.more m
theorem Drew.cell {w w' : World} (h : Drew w w') (a : Addr) : w'.cell? a = w.cell? a := by obtain ⟨m, rfl⟩ := h; rfl
theorem Drew.size {w w' : World} (h : Drew w w') : w'.heap.size = w.heap.size := by obtain ⟨m, rfl⟩ := h; rfl
theorem Drew.below {w w' : World} (h : Drew w w') (B : Nat) : Below B w w' := by obtain ⟨m, rfl⟩ := h; exact below_drewN (Below.refl _ _) m
theorem SlR.drew {α : Type} {R : ER α} (hR : Stable R) {sz bytes : Nat} {w w' : World} {A : Option Addr} {n c : Nat} {xs : List α} (h : SlR R sz bytes w w.heap.size A n c xs) (hd : Drew w w') : SlR R sz bytes w' w'.heap.size A n c xs :=
  h.below hR (hd.below _) (Nat.le_of_eq hd.size.symm)

/-- a quiet call inside a quiet region -/
theorem quiet_in {P : Program} {f : FuncId} {args : Array Value} {w : World} {n : Nat} {v : Value} (h : Calls P f args (w.drewN n) fun e w' => e = .returned v ∧ Drew (w.drewN n) w') :
    Calls P f args (w.drewN n) fun e w'' => e = .returned v ∧ ∃ m, w'' = w.drewN m :=
  h.mono fun _ _ ⟨he, m, hm⟩ => ⟨he, n + m, by rw [hm, World.drewN_drewN]⟩

end Go.Proofs.Ytdldmlekjhmaaaa
