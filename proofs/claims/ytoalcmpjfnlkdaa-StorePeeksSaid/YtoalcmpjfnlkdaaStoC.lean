/- store.doubted, locks. -/
import Derived.Test.YtoalcmpjfnlkdaaStoB
namespace Go.Proofs.Ytoalcmpjfnlkdaa
open Go.RowKit Go.ChangeShapes Go.WideShapes Go.Deep

set_option maxRecDepth 100000 in
set_option maxHeartbeats 1000000 in
theorem doubts1_any (x : SLock) (p : Nat) (a b : Int) (w : World) (hp : p < w.heap.size) (h0 : w.cell? ⟨p, 0, none⟩ = some (.int .i64 a)) (h1 : w.cell? ⟨p, 1, none⟩ = some (.int .i64 b)) :
    Calls Try.prog 63 #[.agg #[.int .i64 x.site, .int .i64 x.num, .int .i64 x.key, .bool x.write, .int .i64 x.value, .int .i64 x.ask], .pointer (some ⟨p, 0, none⟩)] w fun e w' => e = .returned (.bool (eqT x.site x.num a b)) ∧ Below w.heap.size w w' := by
  have hne : p ≠ w.heap.size := by omega
  go_enter Try.func63, Try.ntmps63
  go_wp2_with fail
  all_goals
    go_ret
    refine ⟨ret_bool ?_, by (repeat (first | exact Below.refl _ _ | assumption | refine Below.alloc ?_ (by first | omega | (simp; done) | (simp; omega)) _ | refine below_drewN ?_ _ | refine Below.drew ?_ | refine Below.setCell ?_ (by first | omega | (simp; done) | (simp; omega)) _))⟩
    first | (simp [eqT, *]; done) | (rw [Bool.eq_iff_iff]; simp [eqT]; done)

theorem eg_doubted1 : ∀ args w, (callFunc 80 args).run Try.prog w = .ok (.enter 80 args) w := enters_of Try.func80 (by kernel_rfl) rfl
theorem eg_doubts1 : ∀ args w, (callFunc 63 args).run Try.prog w = .ok (.enter 63 args) w := enters_of Try.func63 (by kernel_rfl) rfl

set_option maxRecDepth 100000 in
set_option maxHeartbeats 1000000 in
theorem doubted_any (A1 : Option Addr) (n1 c1 : Nat) (A2 : Option Addr) (n2 c2 : Nat) (A3 : Option Addr) (n3 c3 : Nat) (A4 : Option Addr) (n4 c4 : Nat) (s : Sto) (a b : Int) (w : World) (hs : StoAt w w.heap.size A1 n1 c1 A2 n2 c2 A3 n3 c3 A4 n4 c4 s) :
    Calls Try.prog 64 #[.agg #[.slice A1 n1 c1, .slice A2 n2 c2, .slice A3 n3 c3, .slice A4 n4 c4], .agg #[.int .i64 a, .int .i64 b]] w fun e w' => e = .returned (.bool (decide (0 ≤ doubtIx s.doubts a b))) ∧ Below w.heap.size w w' := by
  have hcon := containsFuncSDoubt_any 80 #[.pointer (some ⟨w.heap.size + 1, 0, none⟩)] (fun d => eqT d.site d.num a b) eg_doubted1 A3 n3 c3 s.doubts ((w.alloc (.cells #[.slice A1 n1 c1, .slice A2 n2 c2, .slice A3 n3 c3, .slice A4 n4 c4] 27)).alloc (.cells #[.int .i64 a, .int .i64 b] 32))
    (hs.2.2.1.below (Flat.stable _) (by (repeat (first | exact Below.refl _ _ | assumption | refine Below.alloc ?_ (by first | omega | (simp; done) | (simp; omega)) _ | refine below_drewN ?_ _ | refine Below.drew ?_ | refine Below.setCell ?_ (by first | omega | (simp; done) | (simp; omega)) _))) (by first | omega | (simp; done) | (simp; omega))) (fun W x hb => doubted1_any x (w.heap.size + 1) a b W (by have := hb.size; simp at this; omega) ((hb.cell (p := ⟨w.heap.size + 1, 0, none⟩) (by simp)).trans (by go_simp)) ((hb.cell (p := ⟨w.heap.size + 1, 1, none⟩) (by simp)).trans (by go_simp)))
  have hL : ixN (fun k => eqT (s.doubts.getD k sDoubt0).site (s.doubts.getD k sDoubt0).num a b) n3 = doubtIx s.doubts a b := by unfold doubtIx; rw [hs.2.2.1.1]
  rw [hL] at hcon
  clear hL
  obtain ⟨R, hR⟩ : ∃ R, R = doubtIx s.doubts a b := ⟨_, rfl⟩
  rw [← hR] at hcon ⊢
  clear hR
  go_enter Try.func64, Try.ntmps64
  go_wp2_with (go_at_call 79; refine hcon.mono ?_; rintro e w1 ⟨rfl, hb1⟩)
  go_ret
  exact ⟨rfl, Below.trans (by (repeat (first | exact Below.refl _ _ | assumption | refine Below.alloc ?_ (by first | omega | (simp; done) | (simp; omega)) _ | refine below_drewN ?_ _ | refine Below.drew ?_ | refine Below.setCell ?_ (by first | omega | (simp; done) | (simp; omega)) _))) (hb1.mono (by first | omega | (simp; done) | (simp; omega)))⟩

theorem lockB_true {x : SLock} (h : lockB x = true) : 0 ≤ x.key ∧ x.key ≤ 7 ∧ 0 ≤ x.value ∧ x.value ≤ 1073741824 ∧ 0 ≤ x.ask ∧ x.ask ≤ 1048576 ∧ (x.write = true ∨ x.value + x.ask = 0) := by
  simp only [lockB, Bool.and_eq_true, Bool.or_eq_true, beq_iff_eq] at h
  obtain ⟨⟨⟨h1, h2⟩, h3⟩, h4⟩ := h
  have h1 := inB_true h1
  have h2 := inB_true h2
  have h3 := inB_true h3
  exact ⟨h1.1, h1.2, h2.1, h2.2, h3.1, h3.2, h4⟩
theorem lockB_mk {x : SLock} (h1 : 0 ≤ x.key) (h2 : x.key < 8) (h3 : 0 ≤ x.value) (h4 : x.value ≤ 1073741824) (h5 : 0 ≤ x.ask) (h6 : x.ask ≤ 1048576) (h7 : x.write = true ∨ x.value + x.ask = 0) : lockB x = true := by
  simp only [lockB, Bool.and_eq_true, Bool.or_eq_true, beq_iff_eq]
  exact ⟨⟨⟨inB_mk (by omega), inB_mk (by omega)⟩, inB_mk (by omega)⟩, h7⟩
theorem locks_no {ds : List SDoubt} {ls : List SLock} {n k : Nat} (hl : ls.length = n) (hk : k < n) (h : lockAt ds ls k = false) : false = locksB ds ls := by
  unfold locksB
  rw [allB_no (by omega) h]
  rfl
theorem locks_end {ds : List SDoubt} {ls : List SLock} {n : Nat} (hl : ls.length = n) (h : ∀ j, j < n → lockAt ds ls j = true) : decide ((n : Int) ≤ 24) = locksB ds ls := by
  unfold locksB
  rw [hl, allB_mk h, Bool.true_and, Bool.eq_iff_iff]
  simp
  omega
theorem lockAt_no1 {ds : List SDoubt} {ls : List SLock} {k : Nat} {y : SLock} (hy : y = ls.getD k sLock0) (h : decide (0 ≤ doubtIx ds y.site y.num) = false) : lockAt ds ls k = false := by unfold lockAt; rw [← hy, h]; rfl
theorem lockAt_no2 {ds : List SDoubt} {ls : List SLock} {k : Nat} {y : SLock} (hy : y = ls.getD k sLock0) (h : lockB y = false) : lockAt ds ls k = false := by unfold lockAt; rw [← hy, h]; simp
theorem lockAt_no3 {ds : List SDoubt} {ls : List SLock} {k j : Nat} {y z : SLock} (hy : y = ls.getD k sLock0) (hz : z = ls.getD j sLock0) (hj : j < k) (h : clash y z = true) : lockAt ds ls k = false := by
  unfold lockAt
  rw [allB_no hj (by rw [← hy, ← hz, h]; rfl)]
  simp
theorem lockAt_yes {ds : List SDoubt} {ls : List SLock} {k : Nat} {y : SLock} (hy : y = ls.getD k sLock0) (h1 : decide (0 ≤ doubtIx ds y.site y.num) = true) (h2 : lockB y = true) (h3 : ∀ j, j < k → clash (ls.getD k sLock0) (ls.getD j sLock0) = false) : lockAt ds ls k = true := by
  unfold lockAt
  rw [allB_mk (fun j hj => by rw [h3 j hj]; rfl), ← hy, h1, h2]
  rfl

set_option maxRecDepth 100000 in
set_option maxHeartbeats 2000000 in
theorem locks_any (A1 : Option Addr) (n1 c1 : Nat) (A2 : Option Addr) (n2 c2 : Nat) (A3 : Option Addr) (n3 c3 : Nat) (A4 : Option Addr) (n4 c4 : Nat) (s : Sto) (w : World) (hs : StoAt w w.heap.size A1 n1 c1 A2 n2 c2 A3 n3 c3 A4 n4 c4 s) :
    Calls Try.prog 35 #[.agg #[.slice A1 n1 c1, .slice A2 n2 c2, .slice A3 n3 c3, .slice A4 n4 c4]] w fun e w' => e = .returned (.bool (locksB s.doubts s.locks)) ∧ Below w.heap.size w w' := by
  have h := hs.2.1
  obtain ⟨hn, hnc⟩ := h.max63
  have HL := Lib.hid h.1
  go_enter Try.func35, Try.ntmps35
  go_wp2_with fail
  go_loopw [10] (fun i wr => ∃ k : Nat, k ≤ n2 ∧ i = .int .i64 k ∧ Hid (∀ j, j < k → lockAt s.doubts s.locks j = true) ∧ Below (w.heap.size + 1) (w.alloc (.cells #[.slice A1 n1 c1, .slice A2 n2 c2, .slice A3 n3 c3, .slice A4 n4 c4] 27)) wr) (fun i _ => n2 - (intOf i).toNat)
  case atStart => exact ⟨0, Nat.zero_le _, rfl, fun j hj => absurd hj (Nat.not_lt_zero _), Below.refl _ _⟩
  case round =>
    obtain ⟨wo, rfl⟩ : ∃ wo : World, wo = wr := ⟨_, rfl⟩
    obtain ⟨k, hk, rfl, HS, hb⟩ := hrel
    obtain ⟨hc, hf⟩ := bcell hb
    have hsz := hb.size
    simp at hsz
    have z0 : w.heap.size < wo.heap.size := by omega
    have hbw : Below w.heap.size w wo := Below.trans (by (repeat (first | exact Below.refl _ _ | assumption | refine Below.alloc ?_ (by first | omega | (simp; done) | (simp; omega)) _ | refine below_drewN ?_ _ | refine Below.drew ?_ | refine Below.setCell ?_ (by first | omega | (simp; done) | (simp; omega)) _))) (hb.mono (by first | omega | (simp; done) | (simp; omega)))
    by_cases hlt : k < n2
    · obtain ⟨b, off, rfl, hbB, hcell0⟩ := h.cells hlt
      have z1 : b < wo.heap.size := by omega
      have x0 := hcell0 k hlt
      obtain ⟨y, hy⟩ : ∃ y, y = s.locks.getD k sLock0 := ⟨_, rfl⟩
      rw [← hy] at x0
      have HY := Lib.hid hy
      clear hy
      have HC := Lib.hid hcell0
      clear hcell0
      obtain ⟨x00, x01, x02, x03, x04, x05⟩ := x0
      cases hD : decide (0 ≤ doubtIx s.doubts y.site y.num)
      · have HQ := Lib.hid (locks_no HL.out hlt (lockAt_no1 HY.out hD))
        go_wp2_with (go_at_call 64; refine (doubted_any _ _ _ _ _ _ _ _ _ _ _ _ s _ _ _ (hs.below (by (repeat (first | exact Below.refl _ _ | assumption | refine Below.alloc ?_ (by first | omega | (simp; done) | (simp; omega)) _ | refine below_drewN ?_ _ | refine Below.drew ?_ | refine Below.setCell ?_ (by first | omega | (simp; done) | (simp; omega)) _))) (by first | omega | (simp; done) | (simp; omega)))).mono ?_; rintro e w1 ⟨rfl, hb1⟩; obtain ⟨hc1, hf1⟩ := bcell hb1; have hbb1 : Below w.heap.size w w1 := (by refine Below.trans ?_ (hb1.mono ?_); rotate_left; (focus (first | omega | (simp; done) | (simp; omega))); (repeat (first | exact Below.refl _ _ | assumption | refine Below.alloc ?_ (by first | omega | (simp; done) | (simp; omega)) _ | refine below_drewN ?_ _ | refine Below.drew ?_ | refine Below.setCell ?_ (by first | omega | (simp; done) | (simp; omega)) _))); have hsz1 := hb1.size; (try simp at hsz1); have z_wo_w1_0 : wo.heap.size < w1.heap.size := (by omega); have z_w_w1_0 : w.heap.size < w1.heap.size := (by omega))
        go_ret
        exact ⟨ret_bool HQ.out, hbb1⟩
      cases hI : lockB y
      · have HI := Lib.hid hI
        have HQ := Lib.hid (locks_no (ds := s.doubts) HL.out hlt (lockAt_no2 HY.out hI))
        clear hI
        cases hw : y.write
        all_goals
          have HW := Lib.hid hw
          rw [hw] at x03
          clear hw
          go_wp2_with (go_at_call 64; refine (doubted_any _ _ _ _ _ _ _ _ _ _ _ _ s _ _ _ (hs.below (by (repeat (first | exact Below.refl _ _ | assumption | refine Below.alloc ?_ (by first | omega | (simp; done) | (simp; omega)) _ | refine below_drewN ?_ _ | refine Below.drew ?_ | refine Below.setCell ?_ (by first | omega | (simp; done) | (simp; omega)) _))) (by first | omega | (simp; done) | (simp; omega)))).mono ?_; rintro e w1 ⟨rfl, hb1⟩; obtain ⟨hc1, hf1⟩ := bcell hb1; have hbb1 : Below w.heap.size w w1 := (by refine Below.trans ?_ (hb1.mono ?_); rotate_left; (focus (first | omega | (simp; done) | (simp; omega))); (repeat (first | exact Below.refl _ _ | assumption | refine Below.alloc ?_ (by first | omega | (simp; done) | (simp; omega)) _ | refine below_drewN ?_ _ | refine Below.drew ?_ | refine Below.setCell ?_ (by first | omega | (simp; done) | (simp; omega)) _))); have hsz1 := hb1.size; (try simp at hsz1); have z_wo_w1_0 : wo.heap.size < w1.heap.size := (by omega); have z_w_w1_0 : w.heap.size < w1.heap.size := (by omega))
          all_goals first
            | (go_ret; exact ⟨ret_bool HQ.out, hbb1⟩)
            | (exfalso; have h1 := lockB_mk (x := y) (by omega) (by omega) (by omega) (by omega) (by omega) (by omega) (by first | (left; exact HW.out) | (right; omega) | (right; have h9 := (by assumption : _ ∧ (y.value + y.ask != 0) = false); simpa using h9.2) | (right; have h9 := (by assumption : (y.value + y.ask != 0) = false); simpa using h9)); rw [HI.out] at h1; cases h1)
      · obtain ⟨i1, i2, i3, i4, i5, i6, i7⟩ := lockB_true hI
        have HI := Lib.hid hI
        have HD := Lib.hid hD
        clear hI
        rcases i7 with i7 | i7
        all_goals
          go_wp2_with (go_at_call 64; refine (doubted_any _ _ _ _ _ _ _ _ _ _ _ _ s _ _ _ (hs.below (by (repeat (first | exact Below.refl _ _ | assumption | refine Below.alloc ?_ (by first | omega | (simp; done) | (simp; omega)) _ | refine below_drewN ?_ _ | refine Below.drew ?_ | refine Below.setCell ?_ (by first | omega | (simp; done) | (simp; omega)) _))) (by first | omega | (simp; done) | (simp; omega)))).mono ?_; rintro e w1 ⟨rfl, hb1⟩; obtain ⟨hc1, hf1⟩ := bcell hb1; have hbb1 : Below w.heap.size w w1 := (by refine Below.trans ?_ (hb1.mono ?_); rotate_left; (focus (first | omega | (simp; done) | (simp; omega))); (repeat (first | exact Below.refl _ _ | assumption | refine Below.alloc ?_ (by first | omega | (simp; done) | (simp; omega)) _ | refine below_drewN ?_ _ | refine Below.drew ?_ | refine Below.setCell ?_ (by first | omega | (simp; done) | (simp; omega)) _))); have hsz1 := hb1.size; (try simp at hsz1); have z_wo_w1_0 : wo.heap.size < w1.heap.size := (by omega); have z_w_w1_0 : w.heap.size < w1.heap.size := (by omega))
        all_goals
          go_loopw [68] (fun i wi => ∃ j : Nat, j ≤ k ∧ i = .int .i64 j ∧ Hid (∀ m, m < j → clash (s.locks.getD k sLock0) (s.locks.getD m sLock0) = false) ∧ Below w1.heap.size w1 wi) (fun i _ => k - (intOf i).toNat)
          case atStart => exact ⟨0, Nat.zero_le _, rfl, fun j hj => absurd hj (Nat.not_lt_zero _), Below.refl _ _⟩
          case round =>
            obtain ⟨wi, rfl⟩ : ∃ wi : World, wi = wr := ⟨_, rfl⟩
            obtain ⟨j, hj, rfl, HJ, hbi⟩ := hrel
            obtain ⟨hci, hfi⟩ := bcell hbi
            have hszi := hbi.size
            have z3 : wo.heap.size < wi.heap.size := by omega
            have z4 : w.heap.size < wi.heap.size := by omega
            have z5 : b < wi.heap.size := by omega
            have z6 : b < w1.heap.size := by omega
            have hbwi : Below w.heap.size w wi := hbb1.trans (hbi.mono (by first | omega | (simp; done) | (simp; omega)))
            by_cases hjk : j < k
            · have x1 := HC.out j (by omega)
              obtain ⟨z, hz⟩ : ∃ z, z = s.locks.getD j sLock0 := ⟨_, rfl⟩
              rw [← hz] at x1
              have HZ := Lib.hid hz
              clear hz
              obtain ⟨x10, x11, x12, x13, x14, x15⟩ := x1
              go_wp2_with fail
              all_goals first
                | (go_ret
                   refine ⟨ret_bool (locks_no (ds := s.doubts) HL.out hlt (lockAt_no3 HY.out HZ.out hjk ?_)), by (repeat (first | exact Below.refl _ _ | assumption | refine Below.alloc ?_ (by first | omega | (simp; done) | (simp; omega)) _ | refine below_drewN ?_ _ | refine Below.drew ?_ | refine Below.setCell ?_ (by first | omega | (simp; done) | (simp; omega)) _))⟩
                   simp [clash, eqT, *]
                   done)
                | (go_roundw
                   case rel =>
                     refine ⟨j + 1, by omega, by go_num, ?_, by (repeat (first | exact Below.refl _ _ | assumption | refine Below.alloc ?_ (by first | omega | (simp; done) | (simp; omega)) _ | refine below_drewN ?_ _ | refine Below.drew ?_ | refine Below.setCell ?_ (by first | omega | (simp; done) | (simp; omega)) _))⟩
                     intro m hm
                     rcases Nat.lt_or_ge m j with h1 | h1
                     · exact HJ.out m h1
                     · obtain rfl : m = j := by omega
                       rw [← HY.out, ← HZ.out]
                       simp_all [clash, eqT]
                       done
                   case measure => simp [intOf]; omega)
            · obtain rfl : j = k := by omega
              go_wp2_with fail
              go_roundw
              case rel =>
                refine ⟨j + 1, by omega, by go_num, ?_, Below.trans hb ?_⟩
                · intro m hm
                  rcases Nat.lt_or_ge m j with h1 | h1
                  · exact HS.out m h1
                  · obtain rfl : m = j := by omega
                    exact lockAt_yes HY.out HD.out HI.out HJ.out
                · exact Below.trans (Below.trans (by (repeat (first | exact Below.refl _ _ | assumption | refine Below.alloc ?_ (by first | omega | (simp; done) | (simp; omega)) _ | refine below_drewN ?_ _ | refine Below.drew ?_ | refine Below.setCell ?_ (by first | omega | (simp; done) | (simp; omega)) _))) (hb1.mono (by first | omega | (simp; done) | (simp; omega)))) (hbi.mono (by first | omega | (simp; done) | (simp; omega)))
              case measure => simp [intOf]; omega
    · obtain rfl : k = n2 := by omega
      go_wp2_with fail
      go_ret
      exact ⟨ret_bool (locks_end HL.out HS.out), hbw⟩

end Go.Proofs.Ytoalcmpjfnlkdaa
