/- store.lock, busy; lockOf, others. -/
import Derived.Test.YtoalcmpjfnlkdaaStoE
namespace Go.Proofs.Ytoalcmpjfnlkdaa
open Go.RowKit Go.ChangeShapes Go.WideShapes Go.Deep

def lockP (l : List SLock) (a b key : Int) (k : Nat) : Bool := eqT (l.getD k sLock0).site (l.getD k sLock0).num a b && decide ((l.getD k sLock0).key = key)
def lockIx (l : List SLock) (a b key : Int) : Int := ixN (lockP l a b key) l.length
def busyX (x : SLock) (a b key : Int) (all : Bool) : Bool := decide (x.key = key) && !eqT x.site x.num a b && (all || x.write)
def busyB (l : List SLock) (a b key : Int) (all : Bool) : Bool := decide (0 ≤ ixN (fun k => busyX (l.getD k sLock0) a b key all) l.length)
theorem eg_lock1 : ∀ args w, (callFunc 71 args).run Try.prog w = .ok (.enter 71 args) w := enters_of Try.func71 (by kernel_rfl) rfl
theorem eg_busy1 : ∀ args w, (callFunc 72 args).run Try.prog w = .ok (.enter 72 args) w := enters_of Try.func72 (by kernel_rfl) rfl

set_option maxRecDepth 100000 in
set_option maxHeartbeats 1000000 in
theorem lock1_any (x : SLock) (p q : Nat) (a b key : Int) (w : World) (hp : p < w.heap.size) (hq : q < w.heap.size) (h0 : w.cell? ⟨p, 0, none⟩ = some (.int .i64 a)) (h1 : w.cell? ⟨p, 1, none⟩ = some (.int .i64 b)) (h2 : w.cell? ⟨q, 0, none⟩ = some (.int .i64 key)) :
    Calls Try.prog 71 #[.agg #[.int .i64 x.site, .int .i64 x.num, .int .i64 x.key, .bool x.write, .int .i64 x.value, .int .i64 x.ask], .pointer (some ⟨p, 0, none⟩), .pointer (some ⟨q, 0, none⟩)] w fun e w' => e = .returned (.bool (eqT x.site x.num a b && decide (x.key = key))) ∧ Below w.heap.size w w' := by
  have hne : p ≠ w.heap.size := by omega
  have hne2 : q ≠ w.heap.size := by omega
  go_enter Try.func71, Try.ntmps71
  go_wp2_with fail
  all_goals
    go_ret
    refine ⟨ret_bool ?_, by (repeat (first | exact Below.refl _ _ | assumption | refine Below.alloc ?_ (by first | omega | (simp; done) | (simp; omega)) _ | refine below_drewN ?_ _ | refine Below.drew ?_ | refine Below.setCell ?_ (by first | omega | (simp; done) | (simp; omega)) _))⟩
    first | (simp [eqT, *]; done) | (rw [Bool.eq_iff_iff]; simp [eqT]; done) | (simp_all [eqT]; done) | (rw [Bool.eq_iff_iff]; simp [eqT]; simp_all; done)

set_option maxRecDepth 100000 in
set_option maxHeartbeats 1000000 in
theorem busy1_any (x : SLock) (p q r : Nat) (a b key : Int) (all : Bool) (w : World) (hp : p < w.heap.size) (hq : q < w.heap.size) (hr : r < w.heap.size) (h0 : w.cell? ⟨p, 0, none⟩ = some (.int .i64 a)) (h1 : w.cell? ⟨p, 1, none⟩ = some (.int .i64 b)) (h2 : w.cell? ⟨q, 0, none⟩ = some (.int .i64 key)) (h3 : w.cell? ⟨r, 0, none⟩ = some (.bool all)) :
    Calls Try.prog 72 #[.agg #[.int .i64 x.site, .int .i64 x.num, .int .i64 x.key, .bool x.write, .int .i64 x.value, .int .i64 x.ask], .pointer (some ⟨q, 0, none⟩), .pointer (some ⟨p, 0, none⟩), .pointer (some ⟨r, 0, none⟩)] w fun e w' => e = .returned (.bool (busyX x a b key all)) ∧ Below w.heap.size w w' := by
  have hne : p ≠ w.heap.size := by omega
  have hne2 : q ≠ w.heap.size := by omega
  have hne3 : r ≠ w.heap.size := by omega
  go_enter Try.func72, Try.ntmps72
  go_wp2_with fail
  all_goals
    go_ret
    refine ⟨ret_bool ?_, by (repeat (first | exact Below.refl _ _ | assumption | refine Below.alloc ?_ (by first | omega | (simp; done) | (simp; omega)) _ | refine below_drewN ?_ _ | refine Below.drew ?_ | refine Below.setCell ?_ (by first | omega | (simp; done) | (simp; omega)) _))⟩
    first | (simp [busyX, eqT, *]; done) | (rw [Bool.eq_iff_iff]; simp [busyX, eqT]; done) | (simp_all [busyX, eqT]; done) | (rw [Bool.eq_iff_iff]; simp [busyX, eqT]; simp_all; done)

set_option maxRecDepth 100000 in
set_option maxHeartbeats 1000000 in
theorem lock_any (A1 : Option Addr) (n1 c1 : Nat) (A2 : Option Addr) (n2 c2 : Nat) (A3 : Option Addr) (n3 c3 : Nat) (A4 : Option Addr) (n4 c4 : Nat) (s : Sto) (a b key : Int) (w : World) (hs : StoAt w w.heap.size A1 n1 c1 A2 n2 c2 A3 n3 c3 A4 n4 c4 s) :
    Calls Try.prog 49 #[.agg #[.slice A1 n1 c1, .slice A2 n2 c2, .slice A3 n3 c3, .slice A4 n4 c4], .agg #[.int .i64 a, .int .i64 b], .int .i64 key] w fun e w' => e = .returned (.int .i64 (lockIx s.locks a b key)) ∧ Below w.heap.size w w' := by
  have hcon := indexFuncSLock_any 71 #[.pointer (some ⟨w.heap.size + 1, 0, none⟩), .pointer (some ⟨w.heap.size + 1 + 1, 0, none⟩)] (fun x => eqT x.site x.num a b && decide (x.key = key)) eg_lock1 A2 n2 c2 s.locks (((w.alloc (.cells #[.slice A1 n1 c1, .slice A2 n2 c2, .slice A3 n3 c3, .slice A4 n4 c4] 27)).alloc (.cells #[.int .i64 a, .int .i64 b] 32)).alloc (.cells #[.int .i64 key] 3))
    (hs.2.1.below (Flat.stable _) (by (repeat (first | exact Below.refl _ _ | assumption | refine Below.alloc ?_ (by first | omega | (simp; done) | (simp; omega)) _ | refine below_drewN ?_ _ | refine Below.drew ?_ | refine Below.setCell ?_ (by first | omega | (simp; done) | (simp; omega)) _))) (by first | omega | (simp; done) | (simp; omega))) (fun W x hb => lock1_any x (w.heap.size + 1) (w.heap.size + 1 + 1) a b key W (by have := hb.size; simp at this; omega) (by have := hb.size; simp at this; omega) ((hb.cell (p := ⟨w.heap.size + 1, 0, none⟩) (by simp; try omega)).trans (by go_simp)) ((hb.cell (p := ⟨w.heap.size + 1, 1, none⟩) (by simp; try omega)).trans (by go_simp)) ((hb.cell (p := ⟨w.heap.size + 1 + 1, 0, none⟩) (by simp)).trans (by go_simp)))
  have hL : ixN (fun k => eqT (s.locks.getD k sLock0).site (s.locks.getD k sLock0).num a b && decide ((s.locks.getD k sLock0).key = key)) n2 = lockIx s.locks a b key := by unfold lockIx; rw [hs.2.1.1]; rfl
  rw [hL] at hcon
  clear hL
  obtain ⟨R, hR⟩ : ∃ R, R = lockIx s.locks a b key := ⟨_, rfl⟩
  rw [← hR] at hcon ⊢
  clear hR
  go_enter Try.func49, Try.ntmps49
  go_wp2_with (go_at_call 69; refine hcon.mono ?_; rintro e w1 ⟨rfl, hb1⟩)
  go_ret
  exact ⟨rfl, Below.trans (by (repeat (first | exact Below.refl _ _ | assumption | refine Below.alloc ?_ (by first | omega | (simp; done) | (simp; omega)) _ | refine below_drewN ?_ _ | refine Below.drew ?_ | refine Below.setCell ?_ (by first | omega | (simp; done) | (simp; omega)) _))) (hb1.mono (by first | omega | (simp; done) | (simp; omega)))⟩

set_option maxRecDepth 100000 in
set_option maxHeartbeats 1000000 in
theorem busy_any (A1 : Option Addr) (n1 c1 : Nat) (A2 : Option Addr) (n2 c2 : Nat) (A3 : Option Addr) (n3 c3 : Nat) (A4 : Option Addr) (n4 c4 : Nat) (s : Sto) (a b key : Int) (all : Bool) (w : World) (hs : StoAt w w.heap.size A1 n1 c1 A2 n2 c2 A3 n3 c3 A4 n4 c4 s) :
    Calls Try.prog 53 #[.agg #[.slice A1 n1 c1, .slice A2 n2 c2, .slice A3 n3 c3, .slice A4 n4 c4], .agg #[.int .i64 a, .int .i64 b], .int .i64 key, .bool all] w fun e w' => e = .returned (.bool (busyB s.locks a b key all)) ∧ Below w.heap.size w w' := by
  have hcon := containsFuncSLock_any 72 #[.pointer (some ⟨w.heap.size + 1 + 1, 0, none⟩), .pointer (some ⟨w.heap.size + 1, 0, none⟩), .pointer (some ⟨w.heap.size + 1 + 1 + 1, 0, none⟩)] (fun x => busyX x a b key all) eg_busy1 A2 n2 c2 s.locks ((((w.alloc (.cells #[.slice A1 n1 c1, .slice A2 n2 c2, .slice A3 n3 c3, .slice A4 n4 c4] 27)).alloc (.cells #[.int .i64 a, .int .i64 b] 32)).alloc (.cells #[.int .i64 key] 3)).alloc (.cells #[.bool all] 4))
    (hs.2.1.below (Flat.stable _) (by (repeat (first | exact Below.refl _ _ | assumption | refine Below.alloc ?_ (by first | omega | (simp; done) | (simp; omega)) _ | refine below_drewN ?_ _ | refine Below.drew ?_ | refine Below.setCell ?_ (by first | omega | (simp; done) | (simp; omega)) _))) (by first | omega | (simp; done) | (simp; omega))) (fun W x hb => busy1_any x (w.heap.size + 1) (w.heap.size + 1 + 1) (w.heap.size + 1 + 1 + 1) a b key all W (by have := hb.size; simp at this; omega) (by have := hb.size; simp at this; omega) (by have := hb.size; simp at this; omega) ((hb.cell (p := ⟨w.heap.size + 1, 0, none⟩) (by simp; try omega)).trans (by go_simp)) ((hb.cell (p := ⟨w.heap.size + 1, 1, none⟩) (by simp; try omega)).trans (by go_simp)) ((hb.cell (p := ⟨w.heap.size + 1 + 1, 0, none⟩) (by simp; try omega)).trans (by go_simp)) ((hb.cell (p := ⟨w.heap.size + 1 + 1 + 1, 0, none⟩) (by simp)).trans (by go_simp)))
  have hL : decide (0 ≤ ixN (fun k => busyX (s.locks.getD k sLock0) a b key all) n2) = busyB s.locks a b key all := by unfold busyB; rw [hs.2.1.1]
  rw [hL] at hcon
  clear hL
  obtain ⟨R, hR⟩ : ∃ R, R = busyB s.locks a b key all := ⟨_, rfl⟩
  rw [← hR] at hcon ⊢
  clear hR
  go_enter Try.func53, Try.ntmps53
  go_wp2_with (go_at_call 47; refine hcon.mono ?_; rintro e w1 ⟨rfl, hb1⟩)
  go_ret
  exact ⟨rfl, Below.trans (by (repeat (first | exact Below.refl _ _ | assumption | refine Below.alloc ?_ (by first | omega | (simp; done) | (simp; omega)) _ | refine below_drewN ?_ _ | refine Below.drew ?_ | refine Below.setCell ?_ (by first | omega | (simp; done) | (simp; omega)) _))) (hb1.mono (by first | omega | (simp; done) | (simp; omega)))⟩

set_option maxRecDepth 100000 in
set_option maxHeartbeats 1000000 in
theorem lockOf_any (A1 : Option Addr) (n1 c1 : Nat) (A2 : Option Addr) (n2 c2 : Nat) (A3 : Option Addr) (n3 c3 : Nat) (A4 : Option Addr) (n4 c4 : Nat) (s : Sto) (a b key : Int) (w : World) (hs : StoAt w w.heap.size A1 n1 c1 A2 n2 c2 A3 n3 c3 A4 n4 c4 s) :
    Calls Try.prog 51 #[.agg #[.slice A1 n1 c1, .slice A2 n2 c2, .slice A3 n3 c3, .slice A4 n4 c4], .agg #[.int .i64 a, .int .i64 b], .int .i64 key] w fun e w' => e = .returned (.int .i64 (lockIx s.locks a b key)) ∧ Below w.heap.size w w' := by
  have h := hs.2.1
  obtain ⟨hn, hnc⟩ := h.max63
  have HL := Lib.hid h.1
  obtain ⟨R, hR⟩ : ∃ R, R = lockIx s.locks a b key := ⟨_, rfl⟩
  rw [← hR]
  have HR := Lib.hid hR
  clear hR
  go_enter Try.func51, Try.ntmps51
  go_wp2_with fail
  go_loopw [7] (fun i wr => ∃ k m : Nat, k ≤ n2 ∧ i = .int .i64 k ∧ Hid (∀ j, j < k → lockP s.locks a b key j = false) ∧ wr = ((w.alloc (.cells #[.slice A1 n1 c1, .slice A2 n2 c2, .slice A3 n3 c3, .slice A4 n4 c4] 27)).alloc (.cells #[.int .i64 a, .int .i64 b] 32)).drewN m) (fun i _ => n2 - (intOf i).toNat)
  case atStart => exact ⟨0, 0, Nat.zero_le _, rfl, fun j hj => absurd hj (Nat.not_lt_zero _), rfl⟩
  case round =>
    obtain ⟨k, m, hk, rfl, HS, rfl⟩ := hrel
    by_cases hlt : k < n2
    · obtain ⟨bb, off, rfl, hbB, hcell⟩ := h.cells hlt
      have z1 : bb ≠ w.heap.size := by omega
      have z2 : bb ≠ w.heap.size + 1 := by omega
      have z3 : bb < w.heap.size + 1 := by omega
      have x0 := hcell k hlt
      have hlk : k < s.locks.length := by have := HL.out; omega
      clear hcell
      have hk1 : (k : Int) < n2 := by omega
      obtain ⟨y, hy⟩ : ∃ y, y = s.locks.getD k sLock0 := ⟨_, rfl⟩
      rw [← hy] at x0
      have HY := Lib.hid hy
      clear hy
      obtain ⟨x00, x01, x02, x03, x04, x05⟩ := x0
      by_cases e1 : y.site = a
      · by_cases e2 : y.num = b
        · by_cases e3 : y.key = key
          · have HQ := Lib.hid (show (eqT y.site y.num a b && decide (y.key = key)) = true by rw [eqT_mk e1 e2]; simp [e3])
            go_wp2_with fail
            go_quiet (fail)
            go_wp2_with fail
            go_ret
            refine ⟨ret_int (HR.out.trans ?_).symm, by (repeat (first | exact Below.refl _ _ | assumption | refine Below.alloc ?_ (by first | omega | (simp; done) | (simp; omega)) _ | refine below_drewN ?_ _ | refine Below.drew ?_ | refine Below.setCell ?_ (by first | omega | (simp; done) | (simp; omega)) _))⟩
            exact ixN_hit hlk (by unfold lockP; rw [← HY.out]; exact HQ.out) HS.out
          · have HQ := Lib.hid (show (eqT y.site y.num a b && decide (y.key = key)) = false by simp [e3])
            go_wp2_with fail
            go_quiet (fail)
            go_wp2_with fail
            go_roundw
            case rel => exact ⟨k + 1, _, by omega, by go_num, (fun j hj => by rcases Nat.lt_or_ge j k with h1 | h1; exact HS.out j h1; obtain rfl : j = k := (by omega); unfold lockP; rw [← HY.out]; exact HQ.out), rfl⟩
            case measure => simp [intOf]; omega
        · have HQ := Lib.hid (show (eqT y.site y.num a b && decide (y.key = key)) = false by rw [eqT_no (by omega)]; rfl)
          go_wp2_with fail
          go_quiet (fail)
          go_wp2_with fail
          go_roundw
          case rel => exact ⟨k + 1, _, by omega, by go_num, (fun j hj => by rcases Nat.lt_or_ge j k with h1 | h1; exact HS.out j h1; obtain rfl : j = k := (by omega); unfold lockP; rw [← HY.out]; exact HQ.out), rfl⟩
          case measure => simp [intOf]; omega
      · have HQ := Lib.hid (show (eqT y.site y.num a b && decide (y.key = key)) = false by rw [eqT_no (by omega)]; rfl)
        go_wp2_with fail
        go_quiet (fail)
        go_wp2_with fail
        go_roundw
        case rel => exact ⟨k + 1, _, by omega, by go_num, (fun j hj => by rcases Nat.lt_or_ge j k with h1 | h1; exact HS.out j h1; obtain rfl : j = k := (by omega); unfold lockP; rw [← HY.out]; exact HQ.out), rfl⟩
        case measure => simp [intOf]; omega
    · obtain rfl : n2 = k := by omega
      go_wp2_with fail
      go_ret
      refine ⟨ret_int (HR.out.trans ?_).symm, by (repeat (first | exact Below.refl _ _ | assumption | refine Below.alloc ?_ (by first | omega | (simp; done) | (simp; omega)) _ | refine below_drewN ?_ _ | refine Below.drew ?_ | refine Below.setCell ?_ (by first | omega | (simp; done) | (simp; omega)) _))⟩
      exact ixN_miss (fun j hj => HS.out j (by have := HL.out; omega))

def cntN (f : Nat → Bool) : Nat → Nat
  | 0 => 0
  | n + 1 => cntN f n + if f n then 1 else 0
theorem cntN_le (f : Nat → Bool) : ∀ n, cntN f n ≤ n
  | 0 => Nat.le_refl _
  | n + 1 => by
    have := cntN_le f n
    unfold cntN
    split <;> omega
theorem cntN_hit {f : Nat → Bool} {n : Nat} (h : f n = true) : cntN f (n + 1) = cntN f n + 1 := by rw [cntN, h]; rfl
theorem cntN_miss {f : Nat → Bool} {n : Nat} (h : f n = false) : cntN f (n + 1) = cntN f n := by rw [cntN, h]; rfl
theorem cntN_pos (f : Nat → Bool) : ∀ n, 0 < cntN f n ↔ ∃ k, k < n ∧ f k = true
  | 0 => ⟨fun h => absurd h (by simp [cntN]), fun ⟨k, hk, _⟩ => absurd hk (Nat.not_lt_zero _)⟩
  | n + 1 => by
    have ih := cntN_pos f n
    cases hf : f n
    · rw [cntN_miss hf, ih]
      refine ⟨fun ⟨k, hk, h⟩ => ⟨k, by omega, h⟩, fun ⟨k, hk, h⟩ => ⟨k, ?_, h⟩⟩
      rcases Nat.lt_or_ge k n with h1 | h1
      · exact h1
      · obtain rfl : k = n := by omega
        rw [hf] at h; cases h
    · rw [cntN_hit hf]
      exact ⟨fun _ => ⟨n, by omega, hf⟩, fun _ => by omega⟩
def othP (l : List SLock) (a b key : Int) (k : Nat) : Bool := busyX (l.getD k sLock0) a b key true
def othW (l : List SLock) (a b key : Int) (k : Nat) : Bool := busyX (l.getD k sLock0) a b key false
theorem busyB_all (l : List SLock) (a b key : Int) : busyB l a b key true = decide (0 < cntN (othP l a b key) l.length) := by
  unfold busyB
  rw [Bool.eq_iff_iff, decide_eq_true_eq, decide_eq_true_eq, cntN_pos]
  rcases ixN_or (fun k => busyX (l.getD k sLock0) a b key true) l.length with ⟨h1, h2⟩ | ⟨m, h1, h2, h3, h4⟩
  · rw [h1]; refine ⟨fun h => absurd h (by decide), fun ⟨k, hk, h⟩ => ?_⟩
    have := h2 k hk
    unfold othP at h
    rw [h] at this; cases this
  · rw [h1]; exact ⟨fun _ => ⟨m, h2, h3⟩, fun _ => by omega⟩
theorem busyB_write (l : List SLock) (a b key : Int) : busyB l a b key false = decide (0 < cntN (othW l a b key) l.length) := by
  unfold busyB
  rw [Bool.eq_iff_iff, decide_eq_true_eq, decide_eq_true_eq, cntN_pos]
  rcases ixN_or (fun k => busyX (l.getD k sLock0) a b key false) l.length with ⟨h1, h2⟩ | ⟨m, h1, h2, h3, h4⟩
  · rw [h1]; refine ⟨fun h => absurd h (by decide), fun ⟨k, hk, h⟩ => ?_⟩
    have := h2 k hk
    unfold othW at h
    rw [h] at this; cases this
  · rw [h1]; exact ⟨fun _ => ⟨m, h2, h3⟩, fun _ => by omega⟩

set_option maxRecDepth 100000 in
set_option maxHeartbeats 2000000 in
theorem others_any (A1 : Option Addr) (n1 c1 : Nat) (A2 : Option Addr) (n2 c2 : Nat) (A3 : Option Addr) (n3 c3 : Nat) (A4 : Option Addr) (n4 c4 : Nat) (s : Sto) (a b key : Int) (w : World) (hs : StoAt w w.heap.size A1 n1 c1 A2 n2 c2 A3 n3 c3 A4 n4 c4 s) :
    Calls Try.prog 54 #[.agg #[.slice A1 n1 c1, .slice A2 n2 c2, .slice A3 n3 c3, .slice A4 n4 c4], .agg #[.int .i64 a, .int .i64 b], .int .i64 key] w fun e w' => e = .returned (.tuple #[.int .i64 (cntN (othP s.locks a b key) s.locks.length : Nat), .int .i64 (cntN (othW s.locks a b key) s.locks.length : Nat)]) ∧ Below w.heap.size w w' := by
  have h := hs.2.1
  obtain ⟨hn, hnc⟩ := h.max63
  have HL := Lib.hid h.1
  go_enter Try.func54, Try.ntmps54
  go_wp2_with fail
  go_loopw [8, 9, 10] (fun u v i wr => ∃ k m : Nat, k ≤ n2 ∧ i = .int .i64 k ∧ u = .int .i64 (cntN (othP s.locks a b key) k : Nat) ∧ v = .int .i64 (cntN (othW s.locks a b key) k : Nat) ∧ wr = ((w.alloc (.cells #[.slice A1 n1 c1, .slice A2 n2 c2, .slice A3 n3 c3, .slice A4 n4 c4] 27)).alloc (.cells #[.int .i64 a, .int .i64 b] 32)).drewN m) (fun _ _ i _ => n2 - (intOf i).toNat)
  case atStart => exact ⟨0, 0, Nat.zero_le _, rfl, rfl, rfl, rfl⟩
  case round =>
    obtain ⟨k, m, hk, rfl, rfl, rfl, rfl⟩ := hrel
    have c1 := cntN_le (othP s.locks a b key) k
    have c2 := cntN_le (othW s.locks a b key) k
    by_cases hlt : k < n2
    · obtain ⟨bb, off, rfl, hbB, hcell⟩ := h.cells hlt
      have z1 : bb ≠ w.heap.size := by omega
      have z2 : bb ≠ w.heap.size + 1 := by omega
      have z3 : bb < w.heap.size + 1 := by omega
      have x0 := hcell k hlt
      have hlk : k < s.locks.length := by have := HL.out; omega
      clear hcell
      have hk1 : (k : Int) < n2 := by omega
      obtain ⟨y, hy⟩ : ∃ y, y = s.locks.getD k sLock0 := ⟨_, rfl⟩
      rw [← hy] at x0
      have HY := Lib.hid hy
      clear hy
      obtain ⟨x00, x01, x02, x03, x04, x05⟩ := x0
      by_cases e3 : y.key = key
      · cases eT : eqT y.site y.num a b
        · have eT' := eqT_false eT
          cases hw : y.write
          · have HP := Lib.hid (show busyX y a b key true = true by unfold busyX; rw [eT, hw]; simp [e3])
            have HQ := Lib.hid (show busyX y a b key false = false by unfold busyX; rw [eT, hw]; simp [e3])
            rw [hw] at x03
            clear eT hw
            by_cases e1 : y.site = a
            · have e2 : ¬ y.num = b := fun h => eT' ⟨e1, h⟩
              clear eT'
              go_wp2_with fail
              go_quiet (fail)
              go_wp2_with fail
              go_roundw
              case rel => exact ⟨k + 1, _, by omega, by go_num, (by first | (rw [cntN_hit (by unfold othP; rw [← HY.out]; exact HP.out)]; done) | (rw [cntN_hit (by unfold othP; rw [← HY.out]; exact HP.out)]; go_num)), (by first | (rw [cntN_miss (by unfold othW; rw [← HY.out]; exact HQ.out)]; done) | (rw [cntN_miss (by unfold othW; rw [← HY.out]; exact HQ.out)]; go_num)), rfl⟩
              case measure => simp [intOf]; omega
              
            · clear eT'
              go_wp2_with fail
              go_quiet (fail)
              go_wp2_with fail
              go_roundw
              case rel => exact ⟨k + 1, _, by omega, by go_num, (by first | (rw [cntN_hit (by unfold othP; rw [← HY.out]; exact HP.out)]; done) | (rw [cntN_hit (by unfold othP; rw [← HY.out]; exact HP.out)]; go_num)), (by first | (rw [cntN_miss (by unfold othW; rw [← HY.out]; exact HQ.out)]; done) | (rw [cntN_miss (by unfold othW; rw [← HY.out]; exact HQ.out)]; go_num)), rfl⟩
              case measure => simp [intOf]; omega
              
          · have HP := Lib.hid (show busyX y a b key true = true by unfold busyX; rw [eT, hw]; simp [e3])
            have HQ := Lib.hid (show busyX y a b key false = true by unfold busyX; rw [eT, hw]; simp [e3])
            rw [hw] at x03
            clear eT hw
            by_cases e1 : y.site = a
            · have e2 : ¬ y.num = b := fun h => eT' ⟨e1, h⟩
              clear eT'
              go_wp2_with fail
              go_quiet (fail)
              go_wp2_with fail
              go_roundw
              case rel => exact ⟨k + 1, _, by omega, by go_num, (by first | (rw [cntN_hit (by unfold othP; rw [← HY.out]; exact HP.out)]; done) | (rw [cntN_hit (by unfold othP; rw [← HY.out]; exact HP.out)]; go_num)), (by first | (rw [cntN_hit (by unfold othW; rw [← HY.out]; exact HQ.out)]; done) | (rw [cntN_hit (by unfold othW; rw [← HY.out]; exact HQ.out)]; go_num)), rfl⟩
              case measure => simp [intOf]; omega
              
            · clear eT'
              go_wp2_with fail
              go_quiet (fail)
              go_wp2_with fail
              go_roundw
              case rel => exact ⟨k + 1, _, by omega, by go_num, (by first | (rw [cntN_hit (by unfold othP; rw [← HY.out]; exact HP.out)]; done) | (rw [cntN_hit (by unfold othP; rw [← HY.out]; exact HP.out)]; go_num)), (by first | (rw [cntN_hit (by unfold othW; rw [← HY.out]; exact HQ.out)]; done) | (rw [cntN_hit (by unfold othW; rw [← HY.out]; exact HQ.out)]; go_num)), rfl⟩
              case measure => simp [intOf]; omega
              
        · obtain ⟨e1, e2⟩ := eqT_true eT
          have HP := Lib.hid (show busyX y a b key true = false by unfold busyX; rw [eT]; simp)
          have HQ := Lib.hid (show busyX y a b key false = false by unfold busyX; rw [eT]; simp)
          clear eT
          go_wp2_with fail
          go_quiet (fail)
          go_wp2_with fail
          go_roundw
          case rel => exact ⟨k + 1, _, by omega, by go_num, (by first | (rw [cntN_miss (by unfold othP; rw [← HY.out]; exact HP.out)]; done) | (rw [cntN_miss (by unfold othP; rw [← HY.out]; exact HP.out)]; go_num)), (by first | (rw [cntN_miss (by unfold othW; rw [← HY.out]; exact HQ.out)]; done) | (rw [cntN_miss (by unfold othW; rw [← HY.out]; exact HQ.out)]; go_num)), rfl⟩
          case measure => simp [intOf]; omega
          
      · have HP := Lib.hid (show busyX y a b key true = false by simp [busyX, e3])
        have HQ := Lib.hid (show busyX y a b key false = false by simp [busyX, e3])
        go_wp2_with fail
        go_quiet (fail)
        go_wp2_with fail
        go_roundw
        case rel => exact ⟨k + 1, _, by omega, by go_num, (by first | (rw [cntN_miss (by unfold othP; rw [← HY.out]; exact HP.out)]; done) | (rw [cntN_miss (by unfold othP; rw [← HY.out]; exact HP.out)]; go_num)), (by first | (rw [cntN_miss (by unfold othW; rw [← HY.out]; exact HQ.out)]; done) | (rw [cntN_miss (by unfold othW; rw [← HY.out]; exact HQ.out)]; go_num)), rfl⟩
        case measure => simp [intOf]; omega
        
    · obtain rfl : n2 = k := by omega
      have HE := Lib.hid h.1
      go_wp2_with fail
      go_ret2
      exact ⟨by rw [HE.out]; rfl, by (repeat (first | exact Below.refl _ _ | assumption | refine Below.alloc ?_ (by first | omega | (simp; done) | (simp; omega)) _ | refine below_drewN ?_ _ | refine Below.drew ?_ | refine Below.setCell ?_ (by first | omega | (simp; done) | (simp; omega)) _))⟩

end Go.Proofs.Ytoalcmpjfnlkdaa
