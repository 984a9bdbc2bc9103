/- store.txn, items; plainTxn. -/
import Derived.Test.YtoalcmpjfnlkdaaSto
import Derived.IntWalk
import Derived.Deep.LoopGhost
import Derived.Shelf.RegionOpenPlain
import Derived.Shelf.Abstract
namespace Go.Proofs.Ytoalcmpjfnlkdaa
open Go.RowKit Go.ChangeShapes Go.WideShapes Go.Deep

set_option maxRecDepth 100000 in
set_option maxHeartbeats 1000000 in
theorem stxn_any (a b : Int) (w : World) :
    Calls Try.prog 62 #[.agg #[.int .i64 a, .int .i64 b]] w fun e w' => e = .returned (.bool (txnOk a b)) ∧ w' = w.alloc (.cells #[.int .i64 a, .int .i64 b] 32) := by
  cases h1 : inB a 0 3
  all_goals
    go_enter Try.func62, Try.ntmps62
    go_wp2_with fail
    all_goals
      go_ret
      refine ⟨ret_bool ?_, rfl⟩
      first | (simp [txnOk, h1]; done) | (have h2 := inB_true h1; rw [Bool.eq_iff_iff]; simp [txnOk, inB]; omega) | (have h2 := inB_false h1; rw [Bool.eq_iff_iff]; simp [txnOk, inB]; omega)

set_option maxRecDepth 100000 in
set_option maxHeartbeats 1000000 in
theorem plainTxn_any (a b : Int) (w : World) :
    Calls Try.prog 38 #[.agg #[.int .i64 a, .int .i64 b]] w fun e w' => e = .returned (.bool (txnOk a b)) ∧ w' = w.alloc (.cells #[.int .i64 a, .int .i64 b] 32) := by
  cases h1 : inB a 0 3
  all_goals
    go_enter Try.func38, Try.ntmps38
    go_wp2_with (go_at_call 36; refine (in_any _ _ _ _).mono ?_; rintro e w1 ⟨rfl, rfl⟩)
    all_goals
      go_ret
      refine ⟨ret_bool ?_, rfl⟩
      first | (simp [txnOk, h1]; done) | (have h2 := inB_true h1; rw [Bool.eq_iff_iff]; simp [txnOk, inB]; omega) | (have h2 := inB_false h1; rw [Bool.eq_iff_iff]; simp [txnOk, inB]; omega)

theorem itemB_true {x : SItem} (h : itemB x = true) : 0 ≤ x.key ∧ x.key ≤ 7 ∧ 0 ≤ x.value ∧ x.value ≤ 1073741824 ∧ 1 ≤ x.version ∧ x.version ≤ 1048576 := by
  simp only [itemB, Bool.and_eq_true] at h
  obtain ⟨⟨h1, h2⟩, h3⟩ := h
  have h1 := inB_true h1
  have h2 := inB_true h2
  have h3 := inB_true h3
  omega
theorem itemB_mk {x : SItem} (h1 : 0 ≤ x.key) (h2 : x.key < 8) (h3 : 0 ≤ x.value) (h4 : x.value ≤ 1073741824) (h5 : 1 ≤ x.version) (h6 : x.version ≤ 1048576) : itemB x = true := by
  simp only [itemB, Bool.and_eq_true]
  exact ⟨⟨inB_mk (by omega), inB_mk (by omega)⟩, inB_mk (by omega)⟩
theorem items_no {xs : List SItem} {n k : Nat} (hl : xs.length = n) (hk : k < n) (h : itemAt xs k = false) : false = itemsB xs := (allB_no (by omega) h).symm
theorem items_yes {xs : List SItem} {n : Nat} (hl : xs.length = n) (h : ∀ j, j < n → itemAt xs j = true) : true = itemsB xs := (allB_mk (by rw [hl]; exact h)).symm
theorem itemAt_no1 {xs : List SItem} {k : Nat} {y : SItem} (hy : y = xs.getD k sItem0) (h : itemB y = false) : itemAt xs k = false := by unfold itemAt; rw [← hy, h]; rfl
theorem itemAt_no2 {xs : List SItem} {k : Nat} {y z : SItem} (hy : y = xs.getD k sItem0) (hz : z = xs.getD (k - 1) sItem0) (hk : 0 < k) (h : y.key ≤ z.key) : itemAt xs k = false := by
  unfold itemAt
  rw [← hy, ← hz, show (k == 0) = false by simp; omega, show decide (z.key < y.key) = false by simp; omega]
  simp
theorem itemAt_yes {xs : List SItem} {k : Nat} {y z : SItem} (hy : y = xs.getD k sItem0) (hz : z = xs.getD (k - 1) sItem0) (h : itemB y = true) (h2 : k = 0 ∨ z.key < y.key) : itemAt xs k = true := by
  unfold itemAt
  rw [← hy, ← hz, h]
  rcases h2 with h2 | h2
  · simp [h2]
  · simp [h2]

set_option maxRecDepth 100000 in
set_option maxHeartbeats 1000000 in
theorem items_any (A : Option Addr) (n c : Nat) (xs : List SItem) (w : World) (h : ItemsAt w w.heap.size A n c xs) :
    Calls Try.prog 33 #[.slice A n c] w fun e w' => e = .returned (.bool (itemsB xs)) ∧ Below w.heap.size w w' := by
  obtain ⟨hn, hnc⟩ := h.max63
  have HL := Lib.hid h.1
  go_enter Try.func33, Try.ntmps33
  go_wp2_with fail
  go_loopw [7] (fun i wr => ∃ k : Nat, k ≤ n ∧ i = .int .i64 k ∧ Hid (∀ j, j < k → itemAt xs j = true) ∧ Below w.heap.size w wr) (fun i _ => n - (intOf i).toNat)
  case atStart => exact ⟨0, Nat.zero_le _, rfl, fun j hj => absurd hj (Nat.not_lt_zero _), Below.refl _ _⟩
  case round =>
    obtain ⟨k, hk, rfl, HS, hb⟩ := hrel
    obtain ⟨hc, hf⟩ := bcell hb
    have hsz := hb.size
    by_cases hlt : k < n
    · obtain ⟨b, off, rfl, hbB, hcell⟩ := h.cells hlt
      have z1 : b < wr.heap.size := by omega
      have x0 := hcell k hlt
      have x1 := hcell (k - 1) (by omega)
      clear hcell
      obtain ⟨y, hy⟩ : ∃ y, y = xs.getD k sItem0 := ⟨_, rfl⟩
      obtain ⟨z, hz⟩ : ∃ z, z = xs.getD (k - 1) sItem0 := ⟨_, rfl⟩
      rw [← hy] at x0
      rw [← hz] at x1
      have HY := Lib.hid hy
      have HZ := Lib.hid hz
      clear hy hz
      obtain ⟨x00, x01, x02⟩ := x0
      obtain ⟨x10, -, -⟩ := x1
      cases hI : itemB y
      · have HI := Lib.hid hI
        clear hI
        go_wp2_with fail
        all_goals first
          | (go_ret; exact ⟨ret_bool (items_no HL.out hlt (itemAt_no1 HY.out HI.out)), by (repeat (first | exact Below.refl _ _ | assumption | refine Below.alloc ?_ (by first | omega | (simp; done) | (simp; omega)) _ | refine below_drewN ?_ _ | refine Below.drew ?_ | refine Below.setCell ?_ (by first | omega | (simp; done) | (simp; omega)) _))⟩)
          | (exfalso; have h1 := itemB_mk (x := y) (by omega) (by omega) (by omega) (by omega) (by omega) (by omega); rw [HI.out] at h1; cases h1)
      · obtain ⟨i1, i2, i3, i4, i5, i6⟩ := itemB_true hI
        have HI := Lib.hid hI
        clear hI
        rcases Nat.eq_zero_or_pos k with hk0 | hk0
        · subst hk0
          simp only [Nat.zero_mul, Nat.add_zero] at x00 x01 x02
          go_wp2_with fail
          go_quiet (fail)
          go_wp2_with fail
          go_roundw
          case rel => exact ⟨1, by omega, by go_num, (fun j hj => by obtain rfl : j = 0 := (by omega); exact itemAt_yes HY.out HZ.out HI.out (.inl rfl)), by (repeat (first | exact Below.refl _ _ | assumption | refine Below.alloc ?_ (by first | omega | (simp; done) | (simp; omega)) _ | refine below_drewN ?_ _ | refine Below.drew ?_ | refine Below.setCell ?_ (by first | omega | (simp; done) | (simp; omega)) _))⟩
          case measure => simp [intOf]; omega
        · have hk1 : (0 : Int) < k := by omega
          have hk2 : (0 : Int) ≤ (k : Int) - 1 := by omega
          have hk3 : (k : Int) - 1 < n := by omega
          have hw1 : IntKind.i64.wrap ((k : Int) - 1) = (k : Int) - 1 := IntWalk.i64_in _ (by omega)
          have hw2 : ((k : Int) - 1).toNat = k - 1 := by omega
          by_cases hO : z.key < y.key
          · go_wp2_with fail
            go_quiet (fail)
            go_wp2_with fail
            go_roundw
            case rel => exact ⟨k + 1, by omega, by go_num, (fun j hj => by rcases Nat.lt_or_ge j k with h1 | h1; exact HS.out j h1; obtain rfl : j = k := (by omega); exact itemAt_yes HY.out HZ.out HI.out (.inr hO)), by (repeat (first | exact Below.refl _ _ | assumption | refine Below.alloc ?_ (by first | omega | (simp; done) | (simp; omega)) _ | refine below_drewN ?_ _ | refine Below.drew ?_ | refine Below.setCell ?_ (by first | omega | (simp; done) | (simp; omega)) _))⟩
            case measure => simp [intOf]; omega
          · have hO' : y.key ≤ z.key := by omega
            clear hO
            go_wp2_with fail
            go_quiet (fail)
            go_wp2_with fail
            go_ret
            exact ⟨ret_bool (items_no HL.out hlt (itemAt_no2 HY.out HZ.out hk0 hO')), by (repeat (first | exact Below.refl _ _ | assumption | refine Below.alloc ?_ (by first | omega | (simp; done) | (simp; omega)) _ | refine below_drewN ?_ _ | refine Below.drew ?_ | refine Below.setCell ?_ (by first | omega | (simp; done) | (simp; omega)) _))⟩
    · obtain rfl : k = n := by omega
      go_wp2_with fail
      go_ret
      exact ⟨ret_bool (items_yes HL.out HS.out), hb⟩

end Go.Proofs.Ytoalcmpjfnlkdaa
