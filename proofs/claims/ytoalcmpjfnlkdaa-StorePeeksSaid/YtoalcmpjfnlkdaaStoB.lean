/- the library's IndexFunc, ContainsFunc, Index, Contains at a store's elements. -/
import Derived.Test.YtoalcmpjfnlkdaaStoA
namespace Go.Proofs.Ytoalcmpjfnlkdaa
open Go.RowKit Go.ChangeShapes Go.WideShapes Go.Deep

set_option maxRecDepth 100000 in
set_option maxHeartbeats 1000000 in
theorem indexFuncSLock_any (g : Nat) (lb : Array Value) (p : SLock → Bool) (eg : ∀ args w, (callFunc g args).run Try.prog w = .ok (.enter g args) w) (A : Option Addr) (n c : Nat) (xs : List SLock) (w : World) (h : LocksAt w w.heap.size A n c xs)
    (hp : ∀ (W : World) (x : SLock), Below w.heap.size w W → Calls Try.prog g (#[.agg #[.int .i64 x.site, .int .i64 x.num, .int .i64 x.key, .bool x.write, .int .i64 x.value, .int .i64 x.ask]] ++ lb) W fun e w' => e = .returned (.bool (p x)) ∧ Below W.heap.size W w') :
    Calls Try.prog 69 #[.slice A n c, .func (.func g) #[] lb] w fun e w' => e = .returned (.int .i64 (ixN (fun k => p (xs.getD k sLock0)) n)) ∧ Below w.heap.size w w' := by
  obtain ⟨hn, hnc⟩ := h.max63
  obtain ⟨R, hR⟩ : ∃ R, R = ixN (fun k => p (xs.getD k sLock0)) n := ⟨_, rfl⟩
  rw [← hR]
  have HR := Lib.hid hR
  clear hR
  go_enter Try.func69, Try.ntmps69
  go_wp2_with fail
  go_loopw [8] (fun i wr => ∃ k : Nat, k ≤ n ∧ i = .int .i64 k ∧ Hid (∀ j, j < k → p (xs.getD j sLock0) = false) ∧ Below w.heap.size w wr) (fun i _ => n - (intOf i).toNat)
  case atStart => exact ⟨0, Nat.zero_le _, rfl, fun j hj => absurd hj (Nat.not_lt_zero _), Below.refl _ _⟩
  case round =>
    obtain ⟨k, hk, rfl, HS, hb⟩ := hrel
    obtain ⟨hc, hf⟩ := bcell hb
    have hsz := hb.size
    by_cases hlt : k < n
    · obtain ⟨b, off, rfl, hbB, hcell⟩ := h.cells hlt
      have z1 : b < wr.heap.size := by omega
      have x0 := hcell k hlt
      clear hcell
      obtain ⟨y, hy⟩ : ∃ y, y = xs.getD k sLock0 := ⟨_, rfl⟩
      rw [← hy] at x0
      have HY := Lib.hid hy
      clear hy
      obtain ⟨x00, x01, x02, x03, x04, x05⟩ := x0
      have hcall := hp wr y hb
      clear hp
      cases hq : p y
      · rw [hq] at hcall
        have HQ := Lib.hid hq
        clear hq
        go_wp2_with (go_at_fn g; refine hcall.mono ?_; rintro e w1 ⟨rfl, hb1⟩)
        go_roundw
        case rel => exact ⟨k + 1, by omega, by go_num, (fun j hj => by rcases Nat.lt_or_ge j k with h1 | h1; exact HS.out j h1; obtain rfl : j = k := (by omega); rw [← HY.out]; exact HQ.out), hb.trans (hb1.mono hsz)⟩
        case measure => simp [intOf]; omega
      · rw [hq] at hcall
        have HQ := Lib.hid hq
        clear hq
        go_wp2_with (go_at_fn g; refine hcall.mono ?_; rintro e w1 ⟨rfl, hb1⟩)
        go_ret
        refine ⟨ret_int (HR.out.trans ?_).symm, hb.trans (hb1.mono hsz)⟩
        exact ixN_hit hlt (by show p (xs.getD k sLock0) = true; rw [← HY.out]; exact HQ.out) HS.out
    · obtain rfl : k = n := by omega
      go_wp2_with fail
      go_ret
      exact ⟨ret_int (HR.out.trans (ixN_miss HS.out)).symm, hb⟩

set_option maxRecDepth 100000 in
set_option maxHeartbeats 1000000 in
theorem containsFuncSLock_any (g : Nat) (lb : Array Value) (p : SLock → Bool) (eg : ∀ args w, (callFunc g args).run Try.prog w = .ok (.enter g args) w) (A : Option Addr) (n c : Nat) (xs : List SLock) (w : World) (h : LocksAt w w.heap.size A n c xs)
    (hp : ∀ (W : World) (x : SLock), Below w.heap.size w W → Calls Try.prog g (#[.agg #[.int .i64 x.site, .int .i64 x.num, .int .i64 x.key, .bool x.write, .int .i64 x.value, .int .i64 x.ask]] ++ lb) W fun e w' => e = .returned (.bool (p x)) ∧ Below W.heap.size W w') :
    Calls Try.prog 47 #[.slice A n c, .func (.func g) #[] lb] w fun e w' => e = .returned (.bool (decide (0 ≤ ixN (fun k => p (xs.getD k sLock0)) n))) ∧ Below w.heap.size w w' := by
  have hI := indexFuncSLock_any g lb p eg A n c xs w h hp
  obtain ⟨R, hR⟩ : ∃ R, R = ixN (fun k => p (xs.getD k sLock0)) n := ⟨_, rfl⟩
  rw [← hR] at hI ⊢
  clear hR
  go_enter Try.func47, Try.ntmps47
  go_wp2_with (go_at_call 69; refine hI.mono ?_; rintro e w1 ⟨rfl, hb1⟩)
  go_ret
  exact ⟨rfl, hb1⟩

set_option maxRecDepth 100000 in
set_option maxHeartbeats 1000000 in
theorem indexFuncSDoubt_any (g : Nat) (lb : Array Value) (p : SDoubt → Bool) (eg : ∀ args w, (callFunc g args).run Try.prog w = .ok (.enter g args) w) (A : Option Addr) (n c : Nat) (xs : List SDoubt) (w : World) (h : DoubtsAt w w.heap.size A n c xs)
    (hp : ∀ (W : World) (x : SDoubt), Below w.heap.size w W → Calls Try.prog g (#[.agg #[.int .i64 x.site, .int .i64 x.num, .int .i64 x.age]] ++ lb) W fun e w' => e = .returned (.bool (p x)) ∧ Below W.heap.size W w') :
    Calls Try.prog 70 #[.slice A n c, .func (.func g) #[] lb] w fun e w' => e = .returned (.int .i64 (ixN (fun k => p (xs.getD k sDoubt0)) n)) ∧ Below w.heap.size w w' := by
  obtain ⟨hn, hnc⟩ := h.max63
  obtain ⟨R, hR⟩ : ∃ R, R = ixN (fun k => p (xs.getD k sDoubt0)) n := ⟨_, rfl⟩
  rw [← hR]
  have HR := Lib.hid hR
  clear hR
  go_enter Try.func70, Try.ntmps70
  go_wp2_with fail
  go_loopw [8] (fun i wr => ∃ k : Nat, k ≤ n ∧ i = .int .i64 k ∧ Hid (∀ j, j < k → p (xs.getD j sDoubt0) = false) ∧ Below w.heap.size w wr) (fun i _ => n - (intOf i).toNat)
  case atStart => exact ⟨0, Nat.zero_le _, rfl, fun j hj => absurd hj (Nat.not_lt_zero _), Below.refl _ _⟩
  case round =>
    obtain ⟨k, hk, rfl, HS, hb⟩ := hrel
    obtain ⟨hc, hf⟩ := bcell hb
    have hsz := hb.size
    by_cases hlt : k < n
    · obtain ⟨b, off, rfl, hbB, hcell⟩ := h.cells hlt
      have z1 : b < wr.heap.size := by omega
      have x0 := hcell k hlt
      clear hcell
      obtain ⟨y, hy⟩ : ∃ y, y = xs.getD k sDoubt0 := ⟨_, rfl⟩
      rw [← hy] at x0
      have HY := Lib.hid hy
      clear hy
      obtain ⟨x00, x01, x02⟩ := x0
      have hcall := hp wr y hb
      clear hp
      cases hq : p y
      · rw [hq] at hcall
        have HQ := Lib.hid hq
        clear hq
        go_wp2_with (go_at_fn g; refine hcall.mono ?_; rintro e w1 ⟨rfl, hb1⟩)
        go_roundw
        case rel => exact ⟨k + 1, by omega, by go_num, (fun j hj => by rcases Nat.lt_or_ge j k with h1 | h1; exact HS.out j h1; obtain rfl : j = k := (by omega); rw [← HY.out]; exact HQ.out), hb.trans (hb1.mono hsz)⟩
        case measure => simp [intOf]; omega
      · rw [hq] at hcall
        have HQ := Lib.hid hq
        clear hq
        go_wp2_with (go_at_fn g; refine hcall.mono ?_; rintro e w1 ⟨rfl, hb1⟩)
        go_ret
        refine ⟨ret_int (HR.out.trans ?_).symm, hb.trans (hb1.mono hsz)⟩
        exact ixN_hit hlt (by show p (xs.getD k sDoubt0) = true; rw [← HY.out]; exact HQ.out) HS.out
    · obtain rfl : k = n := by omega
      go_wp2_with fail
      go_ret
      exact ⟨ret_int (HR.out.trans (ixN_miss HS.out)).symm, hb⟩

set_option maxRecDepth 100000 in
set_option maxHeartbeats 1000000 in
theorem containsFuncSDoubt_any (g : Nat) (lb : Array Value) (p : SDoubt → Bool) (eg : ∀ args w, (callFunc g args).run Try.prog w = .ok (.enter g args) w) (A : Option Addr) (n c : Nat) (xs : List SDoubt) (w : World) (h : DoubtsAt w w.heap.size A n c xs)
    (hp : ∀ (W : World) (x : SDoubt), Below w.heap.size w W → Calls Try.prog g (#[.agg #[.int .i64 x.site, .int .i64 x.num, .int .i64 x.age]] ++ lb) W fun e w' => e = .returned (.bool (p x)) ∧ Below W.heap.size W w') :
    Calls Try.prog 79 #[.slice A n c, .func (.func g) #[] lb] w fun e w' => e = .returned (.bool (decide (0 ≤ ixN (fun k => p (xs.getD k sDoubt0)) n))) ∧ Below w.heap.size w w' := by
  have hI := indexFuncSDoubt_any g lb p eg A n c xs w h hp
  obtain ⟨R, hR⟩ : ∃ R, R = ixN (fun k => p (xs.getD k sDoubt0)) n := ⟨_, rfl⟩
  rw [← hR] at hI ⊢
  clear hR
  go_enter Try.func79, Try.ntmps79
  go_wp2_with (go_at_call 70; refine hI.mono ?_; rintro e w1 ⟨rfl, hb1⟩)
  go_ret
  exact ⟨rfl, hb1⟩

set_option maxRecDepth 100000 in
set_option maxHeartbeats 1000000 in
theorem indexTxn_any (A : Option Addr) (n c : Nat) (xs : List (Int × Int)) (a b : Int) (w : World) (h : LabelsAt w w.heap.size A n c xs) :
    Calls Try.prog 73 #[.slice A n c, .agg #[.int .i64 a, .int .i64 b]] w fun e w' => e = .returned (.int .i64 (ixN (fun k => eqT (xs.getD k (0, 0)).1 (xs.getD k (0, 0)).2 a b) n)) ∧ Below w.heap.size w w' := by
  obtain ⟨hn, hnc⟩ := h.max63
  obtain ⟨R, hR⟩ : ∃ R, R = ixN (fun k => eqT (xs.getD k (0, 0)).1 (xs.getD k (0, 0)).2 a b) n := ⟨_, rfl⟩
  rw [← hR]
  have HR := Lib.hid hR
  clear hR
  go_enter Try.func73, Try.ntmps73
  go_wp2_with fail
  go_loopw [8] (fun i wr => ∃ k m : Nat, k ≤ n ∧ i = .int .i64 k ∧ Hid (∀ j, j < k → eqT (xs.getD j (0, 0)).1 (xs.getD j (0, 0)).2 a b = false) ∧ wr = (w.alloc (.cells #[.int .i64 a, .int .i64 b] 32)).drewN m) (fun i _ => n - (intOf i).toNat)
  case atStart => exact ⟨0, 0, Nat.zero_le _, rfl, fun j hj => absurd hj (Nat.not_lt_zero _), rfl⟩
  case round =>
    obtain ⟨k, m, hk, rfl, HS, rfl⟩ := hrel
    by_cases hlt : k < n
    · obtain ⟨bb, off, rfl, hbB, hcell⟩ := h.cells hlt
      have z1 : bb ≠ w.heap.size := by omega
      have x0 := hcell k hlt
      clear hcell
      obtain ⟨y, hy⟩ : ∃ y, y = xs.getD k (0, 0) := ⟨_, rfl⟩
      rw [← hy] at x0
      have HY := Lib.hid hy
      clear hy
      obtain ⟨x00, x01⟩ := x0
      by_cases e1 : y.1 = a
      · by_cases e2 : y.2 = b
        · have HQ := Lib.hid (eqT_mk e1 e2)
          go_wp2_with fail
          go_quiet (fail)
          go_wp2_with fail
          go_ret
          refine ⟨ret_int (HR.out.trans ?_).symm, by (repeat (first | exact Below.refl _ _ | assumption | refine Below.alloc ?_ (by first | omega | (simp; done) | (simp; omega)) _ | refine below_drewN ?_ _ | refine Below.drew ?_ | refine Below.setCell ?_ (by first | omega | (simp; done) | (simp; omega)) _))⟩
          exact ixN_hit hlt (by show eqT (xs.getD k (0, 0)).1 (xs.getD k (0, 0)).2 a b = true; rw [← HY.out]; exact HQ.out) HS.out
        · have HQ := Lib.hid (eqT_no (a := y.1) (b := y.2) (c := a) (d := b) (by omega))
          go_wp2_with fail
          go_quiet (fail)
          go_wp2_with fail
          go_roundw
          case rel => exact ⟨k + 1, _, by omega, by go_num, (fun j hj => by rcases Nat.lt_or_ge j k with h1 | h1; exact HS.out j h1; obtain rfl : j = k := (by omega); rw [← HY.out]; exact HQ.out), rfl⟩
          case measure => simp [intOf]; omega
      · have HQ := Lib.hid (eqT_no (a := y.1) (b := y.2) (c := a) (d := b) (by omega))
        go_wp2_with fail
        go_quiet (fail)
        go_wp2_with fail
        go_roundw
        case rel => exact ⟨k + 1, _, by omega, by go_num, (fun j hj => by rcases Nat.lt_or_ge j k with h1 | h1; exact HS.out j h1; obtain rfl : j = k := (by omega); rw [← HY.out]; exact HQ.out), rfl⟩
        case measure => simp [intOf]; omega
    · obtain rfl : k = n := by omega
      go_wp2_with fail
      go_ret
      exact ⟨ret_int (HR.out.trans (ixN_miss HS.out)).symm, by (repeat (first | exact Below.refl _ _ | assumption | refine Below.alloc ?_ (by first | omega | (simp; done) | (simp; omega)) _ | refine below_drewN ?_ _ | refine Below.drew ?_ | refine Below.setCell ?_ (by first | omega | (simp; done) | (simp; omega)) _))⟩

set_option maxRecDepth 100000 in
set_option maxHeartbeats 1000000 in
theorem containsTxn_any (A : Option Addr) (n c : Nat) (xs : List (Int × Int)) (a b : Int) (w : World) (h : LabelsAt w w.heap.size A n c xs) :
    Calls Try.prog 55 #[.slice A n c, .agg #[.int .i64 a, .int .i64 b]] w fun e w' => e = .returned (.bool (decide (0 ≤ overIx xs a b))) ∧ Below w.heap.size w w' := by
  have hI := indexTxn_any A n c xs a b (w.alloc (.cells #[.int .i64 a, .int .i64 b] 32)) (h.below (Flat.stable _) ((Below.refl _ _).alloc (Nat.le_refl _) _) (by simp))
  have hL : overIx xs a b = ixN (fun k => eqT (xs.getD k (0, 0)).1 (xs.getD k (0, 0)).2 a b) n := by unfold overIx; rw [h.1]
  rw [← hL] at hI
  clear hL
  obtain ⟨R, hR⟩ : ∃ R, R = overIx xs a b := ⟨_, rfl⟩
  rw [← hR] at hI ⊢
  clear hR
  go_enter Try.func55, Try.ntmps55
  go_wp2_with (go_at_call 73; refine hI.mono ?_; rintro e w1 ⟨rfl, hb1⟩)
  go_ret
  exact ⟨rfl, ((Below.refl _ _).alloc (Nat.le_refl _) _).trans (hb1.mono (by simp))⟩

set_option maxRecDepth 100000 in
set_option maxHeartbeats 1000000 in
theorem doubted1_any (x : SDoubt) (p : Nat) (a b : Int) (w : World) (hp : p < w.heap.size) (h0 : w.cell? ⟨p, 0, none⟩ = some (.int .i64 a)) (h1 : w.cell? ⟨p, 1, none⟩ = some (.int .i64 b)) :
    Calls Try.prog 80 #[.agg #[.int .i64 x.site, .int .i64 x.num, .int .i64 x.age], .pointer (some ⟨p, 0, none⟩)] w fun e w' => e = .returned (.bool (eqT x.site x.num a b)) ∧ Below w.heap.size w w' := by
  have hne : p ≠ w.heap.size := by omega
  go_enter Try.func80, Try.ntmps80
  go_wp2_with fail
  all_goals
    go_ret
    refine ⟨ret_bool ?_, by (repeat (first | exact Below.refl _ _ | assumption | refine Below.alloc ?_ (by first | omega | (simp; done) | (simp; omega)) _ | refine below_drewN ?_ _ | refine Below.drew ?_ | refine Below.setCell ?_ (by first | omega | (simp; done) | (simp; omega)) _))⟩
    first | (simp [eqT, *]; done) | (rw [Bool.eq_iff_iff]; simp [eqT]; done)

end Go.Proofs.Ytoalcmpjfnlkdaa
