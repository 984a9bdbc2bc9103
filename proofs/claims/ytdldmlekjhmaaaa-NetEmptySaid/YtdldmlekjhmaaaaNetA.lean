/- Messages; sameMessages and sameFlying at equal lists. -/
import Derived.Test.YtdldmlekjhmaaaaOwn
import Derived.Deep.QuietTactic
import Derived.BigQuiet
namespace Go.Proofs.Ytdldmlekjhmaaaa
open Go.RowKit Go.ChangeShapes Go.WideShapes Go.Deep

structure Msg where
  kind : Int
  from_ : Int
  to : Int
  site : Int
  num : Int
  label : Int
  key : Int
  value : Int
  version : Int
  ask : Int
  yes : Bool
  code : Int
  deriving DecidableEq
def msg0 : Msg := ⟨0, 0, 0, 0, 0, 0, 0, 0, 0, 0, false, 0⟩
instance : Inhabited Msg := ⟨msg0⟩
def encMsg (m : Msg) : List Value := [.int .i64 m.kind, .int .i64 m.from_, .int .i64 m.to, .int .i64 m.site, .int .i64 m.num, .int .i64 m.label, .int .i64 m.key, .int .i64 m.value, .int .i64 m.version, .int .i64 m.ask, .bool m.yes, .int .i64 m.code]
theorem goodMsg : Good (Flat encMsg) 12 := Flat.good (fun _ => rfl) (fun _ u hu => by simp [encMsg] at hu; rcases hu with rfl | rfl | rfl | rfl | rfl | rfl | rfl | rfl | rfl | rfl | rfl | rfl <;> rfl)
abbrev MsgsAt (w : World) (B : Nat) (A : Option Addr) (n c : Nat) (xs : List Msg) : Prop := SlR (Flat encMsg) 12 96 w B A n c xs

theorem MsgsAt.cells {w : World} {B : Nat} {A : Option Addr} {n c : Nat} {xs : List Msg} (h : MsgsAt w B A n c xs) {k : Nat} (hk : k < n) :
    ∃ b off, A = some ⟨b, off, none⟩ ∧ b < B ∧ ∀ j, j < n → w.cell? ⟨b, off + j * 12, none⟩ = some (.int .i64 (xs.getD j msg0).kind) ∧ w.cell? ⟨b, off + j * 12 + 1, none⟩ = some (.int .i64 (xs.getD j msg0).from_) ∧ w.cell? ⟨b, off + j * 12 + 2, none⟩ = some (.int .i64 (xs.getD j msg0).to) ∧ w.cell? ⟨b, off + j * 12 + 3, none⟩ = some (.int .i64 (xs.getD j msg0).site) ∧ w.cell? ⟨b, off + j * 12 + 4, none⟩ = some (.int .i64 (xs.getD j msg0).num) ∧ w.cell? ⟨b, off + j * 12 + 5, none⟩ = some (.int .i64 (xs.getD j msg0).label) ∧ w.cell? ⟨b, off + j * 12 + 6, none⟩ = some (.int .i64 (xs.getD j msg0).key) ∧ w.cell? ⟨b, off + j * 12 + 7, none⟩ = some (.int .i64 (xs.getD j msg0).value) ∧ w.cell? ⟨b, off + j * 12 + 8, none⟩ = some (.int .i64 (xs.getD j msg0).version) ∧ w.cell? ⟨b, off + j * 12 + 9, none⟩ = some (.int .i64 (xs.getD j msg0).ask) ∧ w.cell? ⟨b, off + j * 12 + 10, none⟩ = some (.bool (xs.getD j msg0).yes) ∧ w.cell? ⟨b, off + j * 12 + 11, none⟩ = some (.int .i64 (xs.getD j msg0).code) := by
  obtain ⟨b, off, hA, hb, hc⟩ := SlR.flat h hk
  refine ⟨b, off, hA, hb, fun j hj => ?_⟩
  have hl : j < xs.length := by have := h.1; omega
  have := (hc j xs[j] (List.getElem?_eq_getElem hl)).2
  rw [List.getD_eq_getElem?_getD, List.getElem?_eq_getElem hl]
  exact ⟨this 0 _ rfl, this 1 _ rfl, this 2 _ rfl, this 3 _ rfl, this 4 _ rfl, this 5 _ rfl, this 6 _ rfl, this 7 _ rfl, this 8 _ rfl, this 9 _ rfl, this 10 _ rfl, this 11 _ rfl⟩

/-- only draws -/
def Drew (w w' : World) : Prop := ∃ m, w' = w.drewN m
theorem Drew.refl (w : World) : Drew w w := ⟨0, rfl⟩
theorem Drew.more {w w' : World} (h : Drew w w') (n : Nat) : Drew w (w'.drewN n) := by
  obtain ⟨m, rfl⟩ := h
  exact ⟨m + n, by rw [World.drewN_drewN]⟩
theorem Drew.trans {a b c : World} (h : Drew a b) (h' : Drew b c) : Drew a c := by
  obtain ⟨m, rfl⟩ := h'
  exact h.more m
theorem Drew.cell {w w' : World} (h : Drew w w') (a : Addr) : w'.cell? a = w.cell? a := by obtain ⟨m, rfl⟩ := h; rfl
theorem Drew.size {w w' : World} (h : Drew w w') : w'.heap.size = w.heap.size := by obtain ⟨m, rfl⟩ := h; rfl
theorem Drew.below {w w' : World} (h : Drew w w') (B : Nat) : Below B w w' := by obtain ⟨m, rfl⟩ := h; exact below_drewN (Below.refl _ _) m
theorem SlR.drew {α : Type} {R : ER α} (hR : Stable R) {sz bytes : Nat} {w w' : World} {A : Option Addr} {n c : Nat} {xs : List α} (h : SlR R sz bytes w w.heap.size A n c xs) (hd : Drew w w') : SlR R sz bytes w' w'.heap.size A n c xs :=
  h.below hR (hd.below _) (Nat.le_of_eq hd.size.symm)

/-- a quiet call inside a quiet region -/
theorem quiet_in {P : Program} {f : FuncId} {args : Array Value} {w : World} {n : Nat} {v : Value} (h : Calls P f args (w.drewN n) fun e w' => e = .returned v ∧ Drew (w.drewN n) w') :
    Calls P f args (w.drewN n) fun e w'' => e = .returned v ∧ ∃ m, w'' = w.drewN m :=
  h.mono fun _ _ ⟨he, m, hm⟩ => ⟨he, n + m, by rw [hm, World.drewN_drewN]⟩

set_option maxHeartbeats 1000000 in
theorem sameMessages_refl (A A' : Option Addr) (n c c' : Nat) (xs : List Msg) (w : World) (h : MsgsAt w w.heap.size A n c xs) (h' : MsgsAt w w.heap.size A' n c' xs) :
    Calls Try.prog 47 #[.slice A n c, .slice A' n c'] w fun e w' => e = .returned (.bool true) ∧ Drew w w' := by
  have hn : n ≤ 9223372036854775807 := by have := h.2.1; have := h.2.2.1; unfold maxLen at this; omega
  have hnc := h.2.1
  have hnc' := h'.2.1
  go_enter Try.func47, Try.ntmps47
  go_wp2_with fail
  go_loopw [5] (fun i wr => ∃ k : Nat, k ≤ n ∧ i = .int .i64 k ∧ Drew w wr) (fun i _ => n - (intOf i).toNat)
  case atStart => exact ⟨0, Nat.zero_le _, rfl, Drew.refl _⟩
  case round =>
    obtain ⟨k, hk, rfl, hd⟩ := hrel
    have hcell := hd.cell
    by_cases hlt : k < n
    · obtain ⟨b, off, rfl, hbB, hx⟩ := MsgsAt.cells h hlt
      obtain ⟨b', off', rfl, hbB', hx'⟩ := MsgsAt.cells h' hlt
      have hk1 : (k : Int) < n := by omega
      go_wp2_with fail
      go_quiet (fail)
      go_wp2_with fail
      go_roundw
      case rel => exact ⟨k + 1, by omega, by go_num, hd.more _⟩
      case measure => simp [intOf]; omega
    · obtain rfl : k = n := by omega
      go_wp2
      go_ret
      exact ⟨rfl, hd⟩

theorem SlR.cell1' {α : Type} {R : ER α} {bytes : Nat} {w : World} {B : Nat} {A : Option Addr} {n c : Nat} {xs : List α} (h : SlR R 1 bytes w B A n c xs) {k : Nat} (hk : k < n) :
    ∃ b off u x, A = some ⟨b, off, none⟩ ∧ b < B ∧ w.cell? ⟨b, off + k, none⟩ = some u ∧ xs[k]? = some x ∧ R w B [u] x := by
  obtain ⟨b, off, hA, hb, hc⟩ := h.2.2.2.2 (by omega)
  have hl : k < xs.length := by have := h.1; omega
  obtain ⟨cs, h1, h2, h3⟩ := hc k _ (List.getElem?_eq_getElem hl)
  match cs, h1 with
  | [u], _ => exact ⟨b, off, u, xs[k], hA, hb, by have := h3 0 u rfl; rw [Nat.mul_one, Nat.add_zero] at this; exact this, List.getElem?_eq_getElem hl, h2⟩

abbrev RMsgs : ER (List Msg) := RSlice (Flat encMsg) 12 96
abbrev FlyAt (w : World) (B : Nat) (A : Option Addr) (n c : Nat) (xs : List (List Msg)) : Prop := SlR RMsgs 1 24 w B A n c xs

set_option maxHeartbeats 1000000 in
theorem sameFlying_refl (A A' : Option Addr) (n c c' : Nat) (xs : List (List Msg)) (w : World) (h : FlyAt w w.heap.size A n c xs) (h' : FlyAt w w.heap.size A' n c' xs) :
    Calls Try.prog 33 #[.slice A n c, .slice A' n c'] w fun e w' => e = .returned (.bool true) ∧ Drew w w' := by
  have hn : n ≤ 9223372036854775807 := by have := h.2.1; have := h.2.2.1; unfold maxLen at this; omega
  have hnc := h.2.1
  have hnc' := h'.2.1
  go_enter Try.func33, Try.ntmps33
  go_wp2_with fail
  go_loopw [5] (fun i wr => ∃ k : Nat, k ≤ n ∧ i = .int .i64 k ∧ Drew w wr) (fun i _ => n - (intOf i).toNat)
  case atStart => exact ⟨0, Nat.zero_le _, rfl, Drew.refl _⟩
  case round =>
    obtain ⟨k, hk, rfl, hd⟩ := hrel
    have hcell := hd.cell
    by_cases hlt : k < n
    · obtain ⟨b, off, u, x, rfl, hbB, hu, hx, A1, n1, c1, hu1, h1⟩ := SlR.cell1' h hlt
      obtain ⟨b', off', u', x', rfl, hbB', hu', hx', A1', n1', c1', hu1', h1'⟩ := SlR.cell1' h' hlt
      rw [hx] at hx'
      injection hx' with hx'
      subst hx'
      injection hu1 with hu1 _
      injection hu1' with hu1' _
      subst hu1
      subst hu1'
      obtain rfl : n1' = n1 := by rw [← h1'.1, ← h1.1]
      clear hx
      have hk1 : (k : Int) < n := by omega
      go_wp2_with fail
      go_quiet ((go_at_call 47; exact quiet_in (sameMessages_refl _ _ _ _ _ x _ (h1.drew (Flat.stable _) (hd.more _)) (h1'.drew (Flat.stable _) (hd.more _)))))
      go_wp2_with fail
      go_roundw
      case rel => exact ⟨k + 1, by omega, by go_num, hd.more _⟩
      case measure => simp [intOf]; omega
    · obtain rfl : k = n := by omega
      go_wp2
      go_ret
      exact ⟨rfl, hd⟩

end Go.Proofs.Ytdldmlekjhmaaaa
