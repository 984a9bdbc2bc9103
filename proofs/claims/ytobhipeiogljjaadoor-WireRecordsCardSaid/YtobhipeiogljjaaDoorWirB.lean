/- wire.CheckMessage: what it computes. -/
import Derived.Test.YtobhipeiogljjaaDoorWirA
import Derived.Deep.Light
import Derived.BigGuardPart
namespace Go.Proofs.YtobhipeiogljjaaDoor
open Go.RowKit Go.ChangeShapes Go.WideShapes Go.Deep

def msgTab : List (List Bool) := [[false, false, false, false, false, false, false, false], [true, true, false, false, true, false, false, false], [false, true, true, false, true, false, false, false], [true, true, false, true, false, false, false, false], [false, false, false, false, false, true, false, false], [true, true, true, true, true, false, true, false], [false, true, false, false, true, false, true, false], [true, true, false, true, false, true, false, false], [false, false, false, false, false, false, false, false], [false, false, false, false, false, false, false, false]]
/-- the cells of the table 'messages' -/
def MsgTab (w : World) : Prop := ∀ i j r b, msgTab[i]? = some r → r[j]? = some b → w.cell? ⟨0, i * 8 + j, none⟩ = some (.bool b)

def msgRange (s : Int) (n : Nat) (m : Msg) : Bool :=
  inB m.from_ 0 (s - 1) && inB m.to 0 (s - 1) && txnB s m.site m.num && inB m.label 0 ((n : Int) - 1) && inB m.key 0 7 && inB m.value 0 1073741824 && inB m.version 0 1048576 && inB m.ask 0 1048576 && codeB m.code
def flagB (k : Int) (j : Nat) : Bool := (msgTab.getD k.toNat []).getD j false
def msgForm (m : Msg) : Bool :=
  (flagB m.kind 0 || m.label == 0) && (flagB m.kind 1 || m.key == 0) && (flagB m.kind 2 || m.value == 0) && (flagB m.kind 3 || m.version == 0) && (flagB m.kind 4 || m.ask == 0) && (flagB m.kind 5 || !m.yes) && (flagB m.kind 6 || m.code == 0) && (m.code == 0 || m.value + m.version == 0)
def msgF (s p : Int) (ls : List (Int × Int)) (m : Msg) : Int :=
  if checkF s p ls ≠ 0 then checkF s p ls else if inB m.kind 1 9 = false then 3 else if msgRange s ls.length m = false then 2 else if msgForm m = false then 4 else 0
theorem msgF_ok {s p : Int} {ls : List (Int × Int)} {m : Msg} (h : msgF s p ls m = 0) : checkF s p ls = 0 ∧ inB m.kind 1 9 = true ∧ msgRange s ls.length m = true ∧ msgForm m = true := by
  unfold msgF at h
  split at h
  · rename_i h1; exact absurd h h1
  split at h
  · cases h
  split at h
  · cases h
  split at h
  · cases h
  rename_i h1 h2 h3 h4
  exact ⟨by simpa using h1, by simpa using h2, by simpa using h3, by simpa using h4⟩

set_option maxRecDepth 100000 in
set_option maxHeartbeats 2000000 in
theorem checkMessage_cfg (s p : Int) (A : Option Addr) (n c : Nat) (ls : List (Int × Int)) (m : Msg) (w : World) (hls : LabelsAt w w.heap.size A n c ls) (hC : checkF s p ls ≠ 0) :
    Calls Tryd.prog 21 #[.agg #[.int .i64 s, .slice A n c, .int .i64 p], .agg #[.int .i64 m.kind, .int .i64 m.from_, .int .i64 m.to, .int .i64 m.site, .int .i64 m.num, .int .i64 m.label, .int .i64 m.key, .int .i64 m.value, .int .i64 m.version, .int .i64 m.ask, .bool m.yes, .int .i64 m.code]] w fun e w' => e = .returned (.int .i64 (msgF s p ls m)) ∧ Below w.heap.size w w' := by
  have hf : msgF s p ls m = checkF s p ls := by unfold msgF; rw [if_pos hC]
  rw [hf]
  go_enter Tryd.func21, Tryd.ntmps21
  (try simp only [List.append_eq, List.cons_append, List.nil_append])
  go_wp2_with (first | (go_at_call 72; refine (check_any _ _ _ _ _ ls _ (hls.below (Flat.stable _) (by (repeat (first | exact Below.refl _ _ | assumption | refine Below.alloc ?_ (by first | omega | (simp; done) | (simp; omega)) _ | refine below_drewN ?_ _ | refine Below.drew ?_ | refine Below.setCell ?_ (by first | omega | (simp; done) | (simp; omega)) _))) (by first | omega | (simp; done) | (simp; omega)))).mono ?_; rintro e w1 ⟨rfl, hb1⟩; obtain ⟨hc1, hf1⟩ := bcell hb1; have hbb1 : Below w.heap.size w w1 := (by refine Below.trans ?_ (hb1.mono ?_); rotate_left; (focus (first | omega | (simp; done) | (simp; omega))); (repeat (first | exact Below.refl _ _ | assumption | refine Below.alloc ?_ (by first | omega | (simp; done) | (simp; omega)) _ | refine below_drewN ?_ _ | refine Below.drew ?_ | refine Below.setCell ?_ (by first | omega | (simp; done) | (simp; omega)) _))); have hsz1 := hb1.size; (try simp at hsz1); have z_w_w1_0 : w.heap.size < w1.heap.size := (by omega); have z_w_w1_1 : w.heap.size + 1 < w1.heap.size := (by omega)) | (go_at_call 73; refine (txn_any _ _ _ _ _ _ _ _).mono ?_; rintro e w2 ⟨rfl, rfl⟩) | (go_at_call 74; refine (key_any _ _).mono ?_; rintro e w3 ⟨rfl, rfl⟩) | (go_at_call 75; refine (value_any _ _).mono ?_; rintro e w3 ⟨rfl, rfl⟩) | (go_at_call 76; refine (ask_any _ _).mono ?_; rintro e w3 ⟨rfl, rfl⟩) | (go_at_call 77; refine (code_any _ _).mono ?_; rintro e w3 ⟨rfl, rfl⟩))
  go_ret
  exact ⟨rfl, by (repeat (first | exact Below.refl _ _ | assumption | refine Below.alloc ?_ (by first | omega | (simp; done) | (simp; omega)) _ | refine below_drewN ?_ _ | refine Below.drew ?_ | refine Below.setCell ?_ (by first | omega | (simp; done) | (simp; omega)) _))⟩

set_option maxRecDepth 100000 in
set_option maxHeartbeats 2000000 in
theorem checkMessage_kind (s p : Int) (A : Option Addr) (n c : Nat) (ls : List (Int × Int)) (m : Msg) (w : World) (hls : LabelsAt w w.heap.size A n c ls) (hC : checkF s p ls = 0) (hk : inB m.kind 1 9 = false) :
    Calls Tryd.prog 21 #[.agg #[.int .i64 s, .slice A n c, .int .i64 p], .agg #[.int .i64 m.kind, .int .i64 m.from_, .int .i64 m.to, .int .i64 m.site, .int .i64 m.num, .int .i64 m.label, .int .i64 m.key, .int .i64 m.value, .int .i64 m.version, .int .i64 m.ask, .bool m.yes, .int .i64 m.code]] w fun e w' => e = .returned (.int .i64 (msgF s p ls m)) ∧ Below w.heap.size w w' := by
  have hf : msgF s p ls m = 3 := by unfold msgF; rw [if_neg (by simpa using hC), if_pos hk]
  rw [hf]
  have hk' := inB_false hk
  go_enter Tryd.func21, Tryd.ntmps21
  (try simp only [List.append_eq, List.cons_append, List.nil_append])
  rcases hk' with hk1 | hk1
  all_goals
    go_wp2_with (first | (go_at_call 72; refine (check_any _ _ _ _ _ ls _ (hls.below (Flat.stable _) (by (repeat (first | exact Below.refl _ _ | assumption | refine Below.alloc ?_ (by first | omega | (simp; done) | (simp; omega)) _ | refine below_drewN ?_ _ | refine Below.drew ?_ | refine Below.setCell ?_ (by first | omega | (simp; done) | (simp; omega)) _))) (by first | omega | (simp; done) | (simp; omega)))).mono ?_; rintro e w1 ⟨rfl, hb1⟩; obtain ⟨hc1, hf1⟩ := bcell hb1; have hbb1 : Below w.heap.size w w1 := (by refine Below.trans ?_ (hb1.mono ?_); rotate_left; (focus (first | omega | (simp; done) | (simp; omega))); (repeat (first | exact Below.refl _ _ | assumption | refine Below.alloc ?_ (by first | omega | (simp; done) | (simp; omega)) _ | refine below_drewN ?_ _ | refine Below.drew ?_ | refine Below.setCell ?_ (by first | omega | (simp; done) | (simp; omega)) _))); have hsz1 := hb1.size; (try simp at hsz1); have z_w_w1_0 : w.heap.size < w1.heap.size := (by omega); have z_w_w1_1 : w.heap.size + 1 < w1.heap.size := (by omega)) | (go_at_call 73; refine (txn_any _ _ _ _ _ _ _ _).mono ?_; rintro e w2 ⟨rfl, rfl⟩) | (go_at_call 74; refine (key_any _ _).mono ?_; rintro e w3 ⟨rfl, rfl⟩) | (go_at_call 75; refine (value_any _ _).mono ?_; rintro e w3 ⟨rfl, rfl⟩) | (go_at_call 76; refine (ask_any _ _).mono ?_; rintro e w3 ⟨rfl, rfl⟩) | (go_at_call 77; refine (code_any _ _).mono ?_; rintro e w3 ⟨rfl, rfl⟩))
    go_ret
    exact ⟨rfl, by (repeat (first | exact Below.refl _ _ | assumption | refine Below.alloc ?_ (by first | omega | (simp; done) | (simp; omega)) _ | refine below_drewN ?_ _ | refine Below.drew ?_ | refine Below.setCell ?_ (by first | omega | (simp; done) | (simp; omega)) _))⟩

theorem range_absurd {s : Int} {n : Nat} {m : Msg} (H : RowKit.Hid (msgRange s n m = false)) (a1 : 0 ≤ m.from_) (a2 : m.from_ < s) (a3 : 0 ≤ m.to) (a4 : m.to < s) (a5 : txnB s m.site m.num = true) (a6 : 0 ≤ m.label) (a7 : m.label < n) (a8 : inB m.key 0 7 = true) (a9 : inB m.value 0 1073741824 = true) (a10 : 0 ≤ m.version) (a11 : m.version ≤ 1048576) (a12 : inB m.ask 0 1048576 = true) (a13' : (!codeB m.code) = false) : False := by
  have a13 : codeB m.code = true := by simpa using a13'
  have h := H.out
  rw [show msgRange s n m = true by
    simp only [msgRange, a5, a8, a9, a12, a13, inB_mk (show 0 ≤ m.from_ ∧ m.from_ ≤ s - 1 by omega), inB_mk (show 0 ≤ m.to ∧ m.to ≤ s - 1 by omega), inB_mk (show 0 ≤ m.label ∧ m.label ≤ (n : Int) - 1 by omega), inB_mk (show 0 ≤ m.version ∧ m.version ≤ 1048576 by omega)]; rfl] at h
  cases h

set_option maxRecDepth 100000 in
set_option maxHeartbeats 4000000 in
theorem checkMessage_range (s p : Int) (A : Option Addr) (n c : Nat) (ls : List (Int × Int)) (m : Msg) (w : World) (hls : LabelsAt w w.heap.size A n c ls) (hC : checkF s p ls = 0) (hk : inB m.kind 1 9 = true) (hR : msgRange s ls.length m = false) :
    Calls Tryd.prog 21 #[.agg #[.int .i64 s, .slice A n c, .int .i64 p], .agg #[.int .i64 m.kind, .int .i64 m.from_, .int .i64 m.to, .int .i64 m.site, .int .i64 m.num, .int .i64 m.label, .int .i64 m.key, .int .i64 m.value, .int .i64 m.version, .int .i64 m.ask, .bool m.yes, .int .i64 m.code]] w fun e w' => e = .returned (.int .i64 (msgF s p ls m)) ∧ Below w.heap.size w w' := by
  have hf : msgF s p ls m = 2 := by unfold msgF; rw [if_neg (by simpa using hC), if_neg (by rw [hk]; simp), if_pos hR]
  rw [hf]
  obtain ⟨hk1, hk2⟩ := inB_true hk
  rw [hls.1] at hR
  have HR := Lib.hid hR
  clear hR hk hf
  go_enter Tryd.func21, Tryd.ntmps21
  (try simp only [List.append_eq, List.cons_append, List.nil_append])
  go_wp2_with (first | (go_at_call 72; refine (check_any _ _ _ _ _ ls _ (hls.below (Flat.stable _) (by (repeat (first | exact Below.refl _ _ | assumption | refine Below.alloc ?_ (by first | omega | (simp; done) | (simp; omega)) _ | refine below_drewN ?_ _ | refine Below.drew ?_ | refine Below.setCell ?_ (by first | omega | (simp; done) | (simp; omega)) _))) (by first | omega | (simp; done) | (simp; omega)))).mono ?_; rintro e w1 ⟨rfl, hb1⟩; obtain ⟨hc1, hf1⟩ := bcell hb1; have hbb1 : Below w.heap.size w w1 := (by refine Below.trans ?_ (hb1.mono ?_); rotate_left; (focus (first | omega | (simp; done) | (simp; omega))); (repeat (first | exact Below.refl _ _ | assumption | refine Below.alloc ?_ (by first | omega | (simp; done) | (simp; omega)) _ | refine below_drewN ?_ _ | refine Below.drew ?_ | refine Below.setCell ?_ (by first | omega | (simp; done) | (simp; omega)) _))); have hsz1 := hb1.size; (try simp at hsz1); have z_w_w1_0 : w.heap.size < w1.heap.size := (by omega); have z_w_w1_1 : w.heap.size + 1 < w1.heap.size := (by omega)) | (go_at_call 73; refine (txn_any _ _ _ _ _ _ _ _).mono ?_; rintro e w2 ⟨rfl, rfl⟩) | (go_at_call 74; refine (key_any _ _).mono ?_; rintro e w3 ⟨rfl, rfl⟩) | (go_at_call 75; refine (value_any _ _).mono ?_; rintro e w3 ⟨rfl, rfl⟩) | (go_at_call 76; refine (ask_any _ _).mono ?_; rintro e w3 ⟨rfl, rfl⟩) | (go_at_call 77; refine (code_any _ _).mono ?_; rintro e w3 ⟨rfl, rfl⟩))
  all_goals first
    | (go_ret; exact ⟨rfl, by (repeat (first | exact Below.refl _ _ | assumption | refine Below.alloc ?_ (by first | omega | (simp; done) | (simp; omega)) _ | refine below_drewN ?_ _ | refine Below.drew ?_ | refine Below.setCell ?_ (by first | omega | (simp; done) | (simp; omega)) _))⟩)
    | exact (range_absurd HR ‹_› ‹_› ‹_› ‹_› ‹_› ‹_› ‹_› ‹_› ‹_› ‹_› ‹_› ‹_› ‹_›).elim

theorem range_facts {s : Int} {n : Nat} {m : Msg} (h : msgRange s n m = true) : 0 ≤ m.from_ ∧ m.from_ < s ∧ 0 ≤ m.to ∧ m.to < s ∧ txnB s m.site m.num = true ∧ 0 ≤ m.label ∧ m.label < n ∧ inB m.key 0 7 = true ∧ inB m.value 0 1073741824 = true ∧ 0 ≤ m.version ∧ m.version ≤ 1048576 ∧ inB m.ask 0 1048576 = true ∧ codeB m.code = true := by
  simp only [msgRange, Bool.and_eq_true] at h
  obtain ⟨⟨⟨⟨⟨⟨⟨⟨a, b⟩, c⟩, d⟩, e⟩, f⟩, g⟩, i⟩, j⟩ := h
  have a := inB_true a
  have b := inB_true b
  have d := inB_true d
  have g := inB_true g
  exact ⟨a.1, by omega, b.1, by omega, c, d.1, by omega, e, f, g.1, g.2, i, j⟩

theorem MsgTab.row {w : World} (h : MsgTab w) (k : Nat) (hk : k < 10) : ∀ j, j < 8 → w.cell? ⟨0, k * 8 + j, none⟩ = some (.bool (flagB k j)) := by
  intro j hj
  have h1 : ∃ r, msgTab[k]? = some r ∧ ∃ b, r[j]? = some b ∧ flagB k j = b := by
    have : ∀ k : Fin 10, ∀ j : Fin 8, ∃ r, msgTab[k.1]? = some r ∧ ∃ b, r[j.1]? = some b ∧ flagB k.1 j.1 = b := by decide
    exact this ⟨k, hk⟩ ⟨j, hj⟩
  obtain ⟨r, hr, b, hb, he⟩ := h1
  rw [he]
  exact h k j r b hr hb

end Go.Proofs.YtobhipeiogljjaaDoor
