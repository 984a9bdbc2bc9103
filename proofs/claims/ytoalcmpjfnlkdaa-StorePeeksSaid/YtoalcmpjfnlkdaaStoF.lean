/- the reference's StoreMay. -/
import Derived.Test.YtoalcmpjfnlkdaaStoE
import Derived.Deep.RegionWith
import Derived.Deep.RegionHeld3
import Derived.Test.YtoalcmpjfnlkdaaMsg
namespace Go.Proofs.Ytoalcmpjfnlkdaa
open Go.RowKit Go.ChangeShapes Go.WideShapes Go.Deep

theorem may_no {s : Sto} (h : 24 < s.locks.length ∨ itemsB s.items = false ∨ (∃ k, k < s.locks.length ∧ lockAt s.doubts s.locks k = false) ∨ (∃ k, k < s.doubts.length ∧ doubtAt s.locks s.over s.doubts k = false) ∨ (∃ k, k < s.over.length ∧ overAt s.over k = false)) : mayB s = false := by
  unfold mayB locksB doubtsB
  rcases h with h | h | ⟨k, hk, h⟩ | ⟨k, hk, h⟩ | ⟨k, hk, h⟩
  · rw [show decide (s.locks.length ≤ 24) = false by simp; omega]; simp
  · rw [h]; rfl
  · rw [allB_no hk h]; simp
  · rw [allB_no hk h]; simp
  · rw [allB_no (n := s.over.length) hk h]; simp
theorem may_yes {s : Sto} (h0 : s.locks.length ≤ 24) (h1 : ∀ k, k < s.items.length → itemAt s.items k = true) (h2 : ∀ k, k < s.locks.length → lockAt s.doubts s.locks k = true) (h3 : ∀ k, k < s.doubts.length → doubtAt s.locks s.over s.doubts k = true) (h4 : ∀ k, k < s.over.length → overAt s.over k = true) : mayB s = true := by
  unfold mayB locksB doubtsB itemsB
  rw [allB_mk h1, allB_mk h2, allB_mk h3, allB_mk h4, decide_eq_true h0]
  rfl

theorem in_q (a b c : Int) (v : Bool) (h : inB a b c = v) (w : World) (n : Nat) : Calls Try.prog 36 #[.int .i64 a, .int .i64 b, .int .i64 c] (w.drewN n) fun e w'' => e = .returned (.bool v) ∧ ∃ m, w'' = w.drewN m :=
  quiet_in ((in_any a b c (w.drewN n)).mono (by rintro e w5 ⟨rfl, rfl⟩; subst h; exact ⟨rfl, Drew.refl _⟩))
theorem itemB_eq (y : SItem) : itemB y = (inB y.key 0 7 && inB y.value 0 1073741824 && inB y.version 1 1048576) := rfl
theorem clash_eq (x y : SLock) : clash x y = (decide (x.key = y.key) && ((decide (x.site = y.site) && decide (x.num = y.num)) || x.write || y.write)) := by
  unfold clash eqT
  rw [Bool.eq_iff_iff]
  simp only [Bool.and_eq_true, Bool.or_eq_true, decide_eq_true_eq]
  constructor
  · rintro ⟨h1, (h2 | h2) | h2⟩
    · exact ⟨h1.symm, .inl (.inl ⟨h2.1.symm, h2.2.symm⟩)⟩
    · exact ⟨h1.symm, .inr h2⟩
    · exact ⟨h1.symm, .inl (.inr h2)⟩
  · rintro ⟨h1, (h2 | h2) | h2⟩
    · exact ⟨h1.symm, .inl (.inl ⟨h2.1.symm, h2.2.symm⟩)⟩
    · exact ⟨h1.symm, .inr h2⟩
    · exact ⟨h1.symm, .inl (.inr h2)⟩
theorem lockB_eq (y : SLock) : lockB y = (inB y.key 0 7 && inB y.value 0 1073741824 && inB y.ask 0 1048576 && (y.write || y.value + y.ask == 0)) := rfl
theorem lockB_w {y : SLock} (h1 : inB y.key 0 7 = true) (h2 : inB y.value 0 1073741824 = true) (h3 : inB y.ask 0 1048576 = true) (h : y.write = true ∨ (y.value = 0 ∧ y.ask = 0)) : lockB y = true := by
  rw [lockB_eq, h1, h2, h3]
  rcases h with h | ⟨h, h'⟩
  · simp [h]
  · simp [h, h']
theorem lockB_n {y : SLock} (h2 : 0 ≤ y.value) (h3 : 0 ≤ y.ask) (h : y.write = false) (h' : ¬ (y.value = 0 ∧ y.ask = 0)) : lockB y = false := by
  rw [lockB_eq, h, show (y.value + y.ask == 0) = false by simp; omega]
  simp
theorem doubtIx_at {ds : List SDoubt} {k : Nat} {y : SDoubt} (hy : y = ds.getD k sDoubt0) (hk : k < ds.length) : (doubtIx ds y.site y.num = k) ↔ ∀ j, j < k → eqT (ds.getD j sDoubt0).site (ds.getD j sDoubt0).num (ds.getD k sDoubt0).site (ds.getD k sDoubt0).num = false := by
  subst hy
  constructor
  · intro h j hj
    rcases ixN_or (fun i => eqT (ds.getD i sDoubt0).site (ds.getD i sDoubt0).num (ds.getD k sDoubt0).site (ds.getD k sDoubt0).num) ds.length with ⟨h1, h2⟩ | ⟨m, h1, h2, h3, h4⟩
    · exact h2 j (by omega)
    · have : (m : Int) = k := h1.symm.trans h
      exact h4 j (by omega)
  · intro h
    exact ixN_hit hk (eqT_mk rfl rfl) h
theorem anyB_succ (f : Nat → Bool) (n : Nat) : anyB f (n + 1) = (anyB f n || f n) := by
  simp [anyB, List.range_succ]
theorem anyB_hand (ls : List SLock) (a b : Int) : anyB (fun m => eqT (ls.getD m sLock0).site (ls.getD m sLock0).num a b) ls.length = decide (0 ≤ handIx ls a b) := by
  rcases ixN_or (fun m => eqT (ls.getD m sLock0).site (ls.getD m sLock0).num a b) ls.length with ⟨h1, h2⟩ | ⟨m, h1, h2, h3, h4⟩
  · rw [anyB_no h2, show handIx ls a b = -1 from h1]; rfl
  · rw [anyB_mk h2 h3, show handIx ls a b = m from h1]; simp

theorem doubtAt_no6 {ls : List SLock} {os : List (Int × Int)} {l : List SDoubt} {k : Nat} {y : SDoubt} (hy : y = l.getD k sDoubt0) (hk : k < l.length) (h : ¬ doubtIx l y.site y.num = k) : doubtAt ls os l k = false := by
  cases hd : doubtAt ls os l k
  · rfl
  · exfalso
    apply h
    rw [doubtIx_at hy hk]
    intro j hj
    unfold doubtAt at hd
    rw [Bool.and_eq_true] at hd
    have := allB_get hd.2 j hj
    simpa using this

set_option maxRecDepth 100000 in
set_option maxHeartbeats 4000000 in
theorem storeMay_any (A1 : Option Addr) (n1 c1 : Nat) (A2 : Option Addr) (n2 c2 : Nat) (A3 : Option Addr) (n3 c3 : Nat) (A4 : Option Addr) (n4 c4 : Nat) (s : Sto) (w : World) (hs : StoAt w w.heap.size A1 n1 c1 A2 n2 c2 A3 n3 c3 A4 n4 c4 s) :
    Calls Try.prog 13 #[.agg #[.slice A1 n1 c1, .slice A2 n2 c2, .slice A3 n3 c3, .slice A4 n4 c4]] w fun e w' => e = .returned (.bool (mayB s)) ∧ Below w.heap.size w w' := by
  have h1 := hs.1
  have h2 := hs.2.1
  have h3 := hs.2.2.1
  have h4 := hs.2.2.2
  obtain ⟨m1, mc1⟩ := h1.max63
  obtain ⟨m2, mc2⟩ := h2.max63
  obtain ⟨m3, mc3⟩ := h3.max63
  obtain ⟨m4, mc4⟩ := h4.max63
  have L1 := Lib.hid h1.1
  have L2 := Lib.hid h2.1
  have L3 := Lib.hid h3.1
  have L4 := Lib.hid h4.1
  obtain ⟨R, hR⟩ : ∃ R, R = mayB s := ⟨_, rfl⟩
  rw [← hR]
  have HR := Lib.hid hR
  clear hR
  by_cases hlen : 24 < n2
  · have HQ := Lib.hid (may_no (s := s) (.inl (by have := L2.out; omega)))
    go_enter Try.func13, Try.ntmps13
    go_wp2_with fail
    go_ret
    exact ⟨ret_bool (HR.out.trans HQ.out).symm, by (repeat (first | exact Below.refl _ _ | assumption | refine Below.alloc ?_ (by first | omega | (simp; done) | (simp; omega)) _ | refine below_drewN ?_ _ | refine Below.drew ?_ | refine Below.setCell ?_ (by first | omega | (simp; done) | (simp; omega)) _))⟩
  have hlen' : n2 ≤ 24 := by omega
  clear hlen
  go_enter Try.func13, Try.ntmps13
  go_wp2_with fail
  go_loopw [3] (fun i wr => ∃ k : Nat, k ≤ n1 ∧ i = .int .i64 k ∧ Hid (∀ j, j < k → itemAt s.items j = true) ∧ Below (w.heap.size + 1) (w.alloc (.cells #[.slice A1 n1 c1, .slice A2 n2 c2, .slice A3 n3 c3, .slice A4 n4 c4] 27)) wr) (fun i _ => n1 - (intOf i).toNat)
  case atStart => exact ⟨0, Nat.zero_le _, rfl, fun j hj => absurd hj (Nat.not_lt_zero _), Below.refl _ _⟩
  case round =>
    obtain ⟨wo, rfl⟩ : ∃ wo : World, wo = wr := ⟨_, rfl⟩
    obtain ⟨k, hk, rfl, HS, hb⟩ := hrel
    obtain ⟨hc, hf⟩ := bcell hb
    have hsz := hb.size
    simp at hsz
    have z0 : w.heap.size < wo.heap.size := by omega
    have z01 : w.heap.size < wo.heap.size + 1 := by omega
    have z02 : w.heap.size < wo.heap.size + 2 := by omega
    have hbw : Below w.heap.size w wo := Below.trans (by (repeat (first | exact Below.refl _ _ | assumption | refine Below.alloc ?_ (by first | omega | (simp; done) | (simp; omega)) _ | refine below_drewN ?_ _ | refine Below.drew ?_ | refine Below.setCell ?_ (by first | omega | (simp; done) | (simp; omega)) _))) (hb.mono (by first | omega | (simp; done) | (simp; omega)))
    by_cases hlt : k < n1
    · obtain ⟨b, off, rfl, hbB, hcell⟩ := h1.cells hlt
      have z1 : b < wo.heap.size := by omega
      have z11 : b < wo.heap.size + 1 := by omega
      have x0 := hcell k hlt
      have x1 := hcell (k - 1) (by omega)
      have hlk : k < s.items.length := by have := L1.out; omega
      have hk1 : (k : Int) < n1 := by omega
      clear hcell
      obtain ⟨y, hy⟩ : ∃ y, y = s.items.getD k sItem0 := ⟨_, rfl⟩
      obtain ⟨z, hz⟩ : ∃ z, z = s.items.getD (k - 1) sItem0 := ⟨_, rfl⟩
      rw [← hy] at x0
      rw [← hz] at x1
      have HY := Lib.hid hy
      have HZ := Lib.hid hz
      clear hy hz
      obtain ⟨x00, x01, x02⟩ := x0
      obtain ⟨x10, -, -⟩ := x1
      cases e1 : inB y.key 0 7
      · have HQ := Lib.hid (may_no (s := s) (.inr (.inl (items_no rfl hlk (itemAt_no1 HY.out (by rw [itemB_eq, e1]; rfl))).symm)))
        go_wp2_with fail
        go_quiet ((go_at_call 36; exact in_q _ _ _ _ (by assumption) _ _))
        go_wp2_with fail
        go_ret
        exact ⟨ret_bool (HR.out.trans HQ.out).symm, by (repeat (first | exact Below.refl _ _ | assumption | refine Below.alloc ?_ (by first | omega | (simp; done) | (simp; omega)) _ | refine below_drewN ?_ _ | refine Below.drew ?_ | refine Below.setCell ?_ (by first | omega | (simp; done) | (simp; omega)) _))⟩
      cases e2 : inB y.value 0 1073741824
      · have HQ := Lib.hid (may_no (s := s) (.inr (.inl (items_no rfl hlk (itemAt_no1 HY.out (by rw [itemB_eq, e1, e2]; rfl))).symm)))
        go_wp2_with fail
        go_quiet ((go_at_call 36; exact in_q _ _ _ _ (by assumption) _ _))
        go_wp2_with fail
        go_ret
        exact ⟨ret_bool (HR.out.trans HQ.out).symm, by (repeat (first | exact Below.refl _ _ | assumption | refine Below.alloc ?_ (by first | omega | (simp; done) | (simp; omega)) _ | refine below_drewN ?_ _ | refine Below.drew ?_ | refine Below.setCell ?_ (by first | omega | (simp; done) | (simp; omega)) _))⟩
      cases e3 : inB y.version 1 1048576
      · have HQ := Lib.hid (may_no (s := s) (.inr (.inl (items_no rfl hlk (itemAt_no1 HY.out (by rw [itemB_eq, e1, e2, e3]; rfl))).symm)))
        go_wp2_with fail
        go_quiet ((go_at_call 36; exact in_q _ _ _ _ (by assumption) _ _))
        go_wp2_with fail
        go_ret
        exact ⟨ret_bool (HR.out.trans HQ.out).symm, by (repeat (first | exact Below.refl _ _ | assumption | refine Below.alloc ?_ (by first | omega | (simp; done) | (simp; omega)) _ | refine below_drewN ?_ _ | refine Below.drew ?_ | refine Below.setCell ?_ (by first | omega | (simp; done) | (simp; omega)) _))⟩
      have HI := Lib.hid (show itemB y = true by rw [itemB_eq, e1, e2, e3]; rfl)
      rcases Nat.eq_zero_or_pos k with hk0 | hk0
      · subst hk0
        simp only [Nat.zero_mul, Nat.add_zero] at x00 x01 x02
        go_wp2_with fail
        go_quiet ((go_at_call 36; exact in_q _ _ _ _ (by assumption) _ _))
        go_wp2_with fail
        go_roundw
        case rel => exact ⟨1, by omega, by go_num, (fun j hj => by obtain rfl : j = 0 := (by omega); exact itemAt_yes HY.out HZ.out HI.out (.inl rfl)), by (repeat (first | exact Below.refl _ _ | assumption | refine Below.alloc ?_ (by first | omega | (simp; done) | (simp; omega)) _ | refine below_drewN ?_ _ | refine Below.drew ?_ | refine Below.setCell ?_ (by first | omega | (simp; done) | (simp; omega)) _))⟩
        case measure => simp [intOf]; omega
      · have hk1 : (0 : Int) < k := by omega
        have hk2 : (0 : Int) ≤ (k : Int) - 1 := by omega
        have hk3 : (k : Int) - 1 < n1 := by omega
        have hw1 : IntKind.i64.wrap ((k : Int) - 1) = (k : Int) - 1 := IntWalk.i64_in _ (by omega)
        have hw2 : ((k : Int) - 1).toNat = k - 1 := by omega
        by_cases hO : z.key < y.key
        · go_wp2_with fail
          go_quiet ((go_at_call 36; exact in_q _ _ _ _ (by assumption) _ _))
          go_wp2_with fail
          go_roundw
          case rel => exact ⟨k + 1, by omega, by go_num, (fun j hj => by rcases Nat.lt_or_ge j k with h1 | h1; exact HS.out j h1; obtain rfl : j = k := (by omega); exact itemAt_yes HY.out HZ.out HI.out (.inr hO)), by (repeat (first | exact Below.refl _ _ | assumption | refine Below.alloc ?_ (by first | omega | (simp; done) | (simp; omega)) _ | refine below_drewN ?_ _ | refine Below.drew ?_ | refine Below.setCell ?_ (by first | omega | (simp; done) | (simp; omega)) _))⟩
          case measure => simp [intOf]; omega
        · have hO' : y.key ≤ z.key := by omega
          clear hO
          have HQ := Lib.hid (may_no (s := s) (.inr (.inl (items_no rfl hlk (itemAt_no2 HY.out HZ.out hk0 hO')).symm)))
          go_wp2_with fail
          go_quiet ((go_at_call 36; exact in_q _ _ _ _ (by assumption) _ _))
          go_wp2_with fail
          go_ret
          exact ⟨ret_bool (HR.out.trans HQ.out).symm, by (repeat (first | exact Below.refl _ _ | assumption | refine Below.alloc ?_ (by first | omega | (simp; done) | (simp; omega)) _ | refine below_drewN ?_ _ | refine Below.drew ?_ | refine Below.setCell ?_ (by first | omega | (simp; done) | (simp; omega)) _))⟩
    obtain rfl : n1 = k := by omega
    have S1 := Lib.hid HS.out
    clear HS hlt hk
    have hk0 : ¬ ((n1 : Int) < (n1 : Int)) := by omega
    go_wp2_with fail
    clear hk0
    go_loopw [5] (fun i wr => ∃ k : Nat, k ≤ n2 ∧ i = .int .i64 k ∧ Hid (∀ j, j < k → lockAt s.doubts s.locks j = true) ∧ Below (w.heap.size + 1) (w.alloc (.cells #[.slice A1 n1 c1, .slice A2 n2 c2, .slice A3 n3 c3, .slice A4 n4 c4] 27)) wr) (fun i _ => n2 - (intOf i).toNat)
    case atStart => exact ⟨0, Nat.zero_le _, rfl, fun j hj => absurd hj (Nat.not_lt_zero _), hb⟩
    case round =>
      clear hc hf hsz z0 z01 z02 hbw hb
      obtain ⟨wq, rfl⟩ : ∃ wq : World, wq = wr := ⟨_, rfl⟩
      obtain ⟨k, hk, rfl, HS, hb⟩ := hrel
      obtain ⟨hc, hf⟩ := bcell hb
      have hsz := hb.size
      simp at hsz
      have z0 : w.heap.size < wq.heap.size := by omega
      have z01 : w.heap.size < wq.heap.size + 1 := by omega
      have z02 : w.heap.size < wq.heap.size + 2 := by omega
      have hbw : Below w.heap.size w wq := Below.trans (by (repeat (first | exact Below.refl _ _ | assumption | refine Below.alloc ?_ (by first | omega | (simp; done) | (simp; omega)) _ | refine below_drewN ?_ _ | refine Below.drew ?_ | refine Below.setCell ?_ (by first | omega | (simp; done) | (simp; omega)) _))) (hb.mono (by first | omega | (simp; done) | (simp; omega)))
      by_cases hlt : k < n2
      · obtain ⟨b, off, rfl, hbB, hcell0⟩ := h2.cells hlt
        have z1 : b < wq.heap.size := by omega
        have z11 : b < wq.heap.size + 1 := by omega
        have x0 := hcell0 k hlt
        have hlk : k < s.locks.length := by have := L2.out; omega
        have hk1 : (k : Int) < n2 := by omega
        obtain ⟨y, hy⟩ : ∃ y, y = s.locks.getD k sLock0 := ⟨_, rfl⟩
        rw [← hy] at x0
        have HY := Lib.hid hy
        have HC := Lib.hid hcell0
        clear hy hcell0
        obtain ⟨x00, x01, x02, x03, x04, x05⟩ := x0
        by_cases hD : doubtIx s.doubts y.site y.num < 0
        · have HQ := Lib.hid (may_no (s := s) (.inr (.inr (.inl ⟨k, hlk, lockAt_no1 HY.out (by simp; omega)⟩))))
          go_wp2_with (first | (go_at_call 37; refine (doubtOf_any _ _ _ _ _ _ _ _ _ _ _ _ s _ _ _ (hs.below (by (repeat (first | exact Below.refl _ _ | assumption | refine Below.alloc ?_ (by first | omega | (simp; done) | (simp; omega)) _ | refine below_drewN ?_ _ | refine Below.drew ?_ | refine Below.setCell ?_ (by first | omega | (simp; done) | (simp; omega)) _))) (by first | omega | (simp; done) | (simp; omega)))).mono ?_; rintro e w1 ⟨rfl, hb1⟩; obtain ⟨hc1, hf1⟩ := bcell hb1; have hbb1 : Below w.heap.size w w1 := (by refine Below.trans ?_ (hb1.mono ?_); rotate_left; (focus (first | omega | (simp; done) | (simp; omega))); (repeat (first | exact Below.refl _ _ | assumption | refine Below.alloc ?_ (by first | omega | (simp; done) | (simp; omega)) _ | refine below_drewN ?_ _ | refine Below.drew ?_ | refine Below.setCell ?_ (by first | omega | (simp; done) | (simp; omega)) _))); have hsz1 := hb1.size; (try simp at hsz1); have z_wq_w1_0 : wq.heap.size < w1.heap.size := (by omega); have z_w_w1_0 : w.heap.size < w1.heap.size := (by omega)) | (go_at_call 36; refine (in_any _ _ _ _).mono ?_; rintro e w9 ⟨rfl, rfl⟩))
          go_ret
          exact ⟨ret_bool (HR.out.trans HQ.out).symm, hbb1⟩
        cases e1 : inB y.key 0 7
        · have HQ := Lib.hid (may_no (s := s) (.inr (.inr (.inl ⟨k, hlk, lockAt_no2 HY.out (by rw [lockB_eq, e1]; rfl)⟩))))
          go_wp2_with (first | (go_at_call 37; refine (doubtOf_any _ _ _ _ _ _ _ _ _ _ _ _ s _ _ _ (hs.below (by (repeat (first | exact Below.refl _ _ | assumption | refine Below.alloc ?_ (by first | omega | (simp; done) | (simp; omega)) _ | refine below_drewN ?_ _ | refine Below.drew ?_ | refine Below.setCell ?_ (by first | omega | (simp; done) | (simp; omega)) _))) (by first | omega | (simp; done) | (simp; omega)))).mono ?_; rintro e w1 ⟨rfl, hb1⟩; obtain ⟨hc1, hf1⟩ := bcell hb1; have hbb1 : Below w.heap.size w w1 := (by refine Below.trans ?_ (hb1.mono ?_); rotate_left; (focus (first | omega | (simp; done) | (simp; omega))); (repeat (first | exact Below.refl _ _ | assumption | refine Below.alloc ?_ (by first | omega | (simp; done) | (simp; omega)) _ | refine below_drewN ?_ _ | refine Below.drew ?_ | refine Below.setCell ?_ (by first | omega | (simp; done) | (simp; omega)) _))); have hsz1 := hb1.size; (try simp at hsz1); have z_wq_w1_0 : wq.heap.size < w1.heap.size := (by omega); have z_w_w1_0 : w.heap.size < w1.heap.size := (by omega)) | (go_at_call 36; refine (in_any _ _ _ _).mono ?_; rintro e w9 ⟨rfl, rfl⟩))
          go_ret
          exact ⟨ret_bool (HR.out.trans HQ.out).symm, hbb1⟩
        cases e2 : inB y.value 0 1073741824
        · have HQ := Lib.hid (may_no (s := s) (.inr (.inr (.inl ⟨k, hlk, lockAt_no2 HY.out (by rw [lockB_eq, e1, e2]; rfl)⟩))))
          go_wp2_with (first | (go_at_call 37; refine (doubtOf_any _ _ _ _ _ _ _ _ _ _ _ _ s _ _ _ (hs.below (by (repeat (first | exact Below.refl _ _ | assumption | refine Below.alloc ?_ (by first | omega | (simp; done) | (simp; omega)) _ | refine below_drewN ?_ _ | refine Below.drew ?_ | refine Below.setCell ?_ (by first | omega | (simp; done) | (simp; omega)) _))) (by first | omega | (simp; done) | (simp; omega)))).mono ?_; rintro e w1 ⟨rfl, hb1⟩; obtain ⟨hc1, hf1⟩ := bcell hb1; have hbb1 : Below w.heap.size w w1 := (by refine Below.trans ?_ (hb1.mono ?_); rotate_left; (focus (first | omega | (simp; done) | (simp; omega))); (repeat (first | exact Below.refl _ _ | assumption | refine Below.alloc ?_ (by first | omega | (simp; done) | (simp; omega)) _ | refine below_drewN ?_ _ | refine Below.drew ?_ | refine Below.setCell ?_ (by first | omega | (simp; done) | (simp; omega)) _))); have hsz1 := hb1.size; (try simp at hsz1); have z_wq_w1_0 : wq.heap.size < w1.heap.size := (by omega); have z_w_w1_0 : w.heap.size < w1.heap.size := (by omega)) | (go_at_call 36; refine (in_any _ _ _ _).mono ?_; rintro e w9 ⟨rfl, rfl⟩))
          go_ret
          exact ⟨ret_bool (HR.out.trans HQ.out).symm, hbb1⟩
        cases e3 : inB y.ask 0 1048576
        · have HQ := Lib.hid (may_no (s := s) (.inr (.inr (.inl ⟨k, hlk, lockAt_no2 HY.out (by rw [lockB_eq, e1, e2, e3]; rfl)⟩))))
          go_wp2_with (first | (go_at_call 37; refine (doubtOf_any _ _ _ _ _ _ _ _ _ _ _ _ s _ _ _ (hs.below (by (repeat (first | exact Below.refl _ _ | assumption | refine Below.alloc ?_ (by first | omega | (simp; done) | (simp; omega)) _ | refine below_drewN ?_ _ | refine Below.drew ?_ | refine Below.setCell ?_ (by first | omega | (simp; done) | (simp; omega)) _))) (by first | omega | (simp; done) | (simp; omega)))).mono ?_; rintro e w1 ⟨rfl, hb1⟩; obtain ⟨hc1, hf1⟩ := bcell hb1; have hbb1 : Below w.heap.size w w1 := (by refine Below.trans ?_ (hb1.mono ?_); rotate_left; (focus (first | omega | (simp; done) | (simp; omega))); (repeat (first | exact Below.refl _ _ | assumption | refine Below.alloc ?_ (by first | omega | (simp; done) | (simp; omega)) _ | refine below_drewN ?_ _ | refine Below.drew ?_ | refine Below.setCell ?_ (by first | omega | (simp; done) | (simp; omega)) _))); have hsz1 := hb1.size; (try simp at hsz1); have z_wq_w1_0 : wq.heap.size < w1.heap.size := (by omega); have z_w_w1_0 : w.heap.size < w1.heap.size := (by omega)) | (go_at_call 36; refine (in_any _ _ _ _).mono ?_; rintro e w9 ⟨rfl, rfl⟩))
          go_ret
          exact ⟨ret_bool (HR.out.trans HQ.out).symm, hbb1⟩
        have HD := Lib.hid (show decide (0 ≤ doubtIx s.doubts y.site y.num) = true by simp; omega)
        have hD' : decide (doubtIx s.doubts y.site y.num < 0) = false := by simp; omega
        clear hD
        by_cases hW : y.write = true ∨ (y.value = 0 ∧ y.ask = 0)
        rotate_left
        · have hw : y.write = false := by cases hw : y.write; rfl; exact absurd (.inl hw) hW
          have hva : ¬ (y.value = 0 ∧ y.ask = 0) := fun h => hW (.inr h)
          have HQ := Lib.hid (may_no (s := s) (.inr (.inr (.inl ⟨k, hlk, lockAt_no2 HY.out (lockB_n (inB_true e2).1 (inB_true e3).1 hw hva)⟩))))
          rw [hw] at x03
          clear hW hw
          by_cases hv : y.value = 0
          · have hv1 : (y.value != 0) = false := by simp [hv]
            have ha1 : (y.ask != 0) = true := by simp; exact fun h => hva ⟨hv, h⟩
            clear hv hva
            go_wp2_with (first | (go_at_call 37; refine (doubtOf_any _ _ _ _ _ _ _ _ _ _ _ _ s _ _ _ (hs.below (by (repeat (first | exact Below.refl _ _ | assumption | refine Below.alloc ?_ (by first | omega | (simp; done) | (simp; omega)) _ | refine below_drewN ?_ _ | refine Below.drew ?_ | refine Below.setCell ?_ (by first | omega | (simp; done) | (simp; omega)) _))) (by first | omega | (simp; done) | (simp; omega)))).mono ?_; rintro e w1 ⟨rfl, hb1⟩; obtain ⟨hc1, hf1⟩ := bcell hb1; have hbb1 : Below w.heap.size w w1 := (by refine Below.trans ?_ (hb1.mono ?_); rotate_left; (focus (first | omega | (simp; done) | (simp; omega))); (repeat (first | exact Below.refl _ _ | assumption | refine Below.alloc ?_ (by first | omega | (simp; done) | (simp; omega)) _ | refine below_drewN ?_ _ | refine Below.drew ?_ | refine Below.setCell ?_ (by first | omega | (simp; done) | (simp; omega)) _))); have hsz1 := hb1.size; (try simp at hsz1); have z_wq_w1_0 : wq.heap.size < w1.heap.size := (by omega); have z_w_w1_0 : w.heap.size < w1.heap.size := (by omega)) | (go_at_call 36; refine (in_any _ _ _ _).mono ?_; rintro e w9 ⟨rfl, rfl⟩))
            go_ret
            exact ⟨ret_bool (HR.out.trans HQ.out).symm, hbb1⟩
          · have hv1 : (y.value != 0) = true := by simpa using hv
            clear hv hva
            go_wp2_with (first | (go_at_call 37; refine (doubtOf_any _ _ _ _ _ _ _ _ _ _ _ _ s _ _ _ (hs.below (by (repeat (first | exact Below.refl _ _ | assumption | refine Below.alloc ?_ (by first | omega | (simp; done) | (simp; omega)) _ | refine below_drewN ?_ _ | refine Below.drew ?_ | refine Below.setCell ?_ (by first | omega | (simp; done) | (simp; omega)) _))) (by first | omega | (simp; done) | (simp; omega)))).mono ?_; rintro e w1 ⟨rfl, hb1⟩; obtain ⟨hc1, hf1⟩ := bcell hb1; have hbb1 : Below w.heap.size w w1 := (by refine Below.trans ?_ (hb1.mono ?_); rotate_left; (focus (first | omega | (simp; done) | (simp; omega))); (repeat (first | exact Below.refl _ _ | assumption | refine Below.alloc ?_ (by first | omega | (simp; done) | (simp; omega)) _ | refine below_drewN ?_ _ | refine Below.drew ?_ | refine Below.setCell ?_ (by first | omega | (simp; done) | (simp; omega)) _))); have hsz1 := hb1.size; (try simp at hsz1); have z_wq_w1_0 : wq.heap.size < w1.heap.size := (by omega); have z_w_w1_0 : w.heap.size < w1.heap.size := (by omega)) | (go_at_call 36; refine (in_any _ _ _ _).mono ?_; rintro e w9 ⟨rfl, rfl⟩))
            go_ret
            exact ⟨ret_bool (HR.out.trans HQ.out).symm, hbb1⟩
        have HI := Lib.hid (lockB_w e1 e2 e3 hW)
        have hW' : y.write = true ∨ (y.write = false ∧ y.value = 0 ∧ y.ask = 0) := by
          cases hw : y.write
          · rcases hW with h | h
            · rw [hw] at h; cases h
            · exact .inr ⟨rfl, h⟩
          · exact .inl rfl
        clear hW
        rcases hW' with hw | ⟨hw, hv, ha⟩
        · rw [hw] at x03
          have HW := Lib.hid hw
          clear hw
          go_wp2_with (first | (go_at_call 37; refine (doubtOf_any _ _ _ _ _ _ _ _ _ _ _ _ s _ _ _ (hs.below (by (repeat (first | exact Below.refl _ _ | assumption | refine Below.alloc ?_ (by first | omega | (simp; done) | (simp; omega)) _ | refine below_drewN ?_ _ | refine Below.drew ?_ | refine Below.setCell ?_ (by first | omega | (simp; done) | (simp; omega)) _))) (by first | omega | (simp; done) | (simp; omega)))).mono ?_; rintro e w1 ⟨rfl, hb1⟩; obtain ⟨hc1, hf1⟩ := bcell hb1; have hbb1 : Below w.heap.size w w1 := (by refine Below.trans ?_ (hb1.mono ?_); rotate_left; (focus (first | omega | (simp; done) | (simp; omega))); (repeat (first | exact Below.refl _ _ | assumption | refine Below.alloc ?_ (by first | omega | (simp; done) | (simp; omega)) _ | refine below_drewN ?_ _ | refine Below.drew ?_ | refine Below.setCell ?_ (by first | omega | (simp; done) | (simp; omega)) _))); have hsz1 := hb1.size; (try simp at hsz1); have z_wq_w1_0 : wq.heap.size < w1.heap.size := (by omega); have z_w_w1_0 : w.heap.size < w1.heap.size := (by omega)) | (go_at_call 36; refine (in_any _ _ _ _).mono ?_; rintro e w9 ⟨rfl, rfl⟩))
          go_loopw [7] (fun i wi => ∃ j : Nat, j ≤ k ∧ i = .int .i64 j ∧ Hid (∀ m, m < j → clash (s.locks.getD k sLock0) (s.locks.getD m sLock0) = false) ∧ Below w1.heap.size w1 wi) (fun i _ => k - (intOf i).toNat)
          case atStart => exact ⟨0, Nat.zero_le _, rfl, fun j hj => absurd hj (Nat.not_lt_zero _), Below.refl _ _⟩
          case round =>
            obtain ⟨wi, rfl⟩ : ∃ wi : World, wi = wr := ⟨_, rfl⟩
            obtain ⟨j, hj, rfl, HJ, hbi⟩ := hrel
            obtain ⟨hci, hfi⟩ := bcell hbi
            have hszi := hbi.size
            have z3 : wq.heap.size < wi.heap.size := by omega
            have z4 : w.heap.size < wi.heap.size := by omega
            have z5 : b < wi.heap.size := by omega
            have z6 : b < w1.heap.size := by omega
            have hbwi : Below w.heap.size w wi := hbb1.trans (hbi.mono (by first | omega | (simp; done) | (simp; omega)))
            by_cases hjk : j < k
            · have x1 := HC.out j (by omega)
              have hj1 : (j : Int) < n2 := by omega
              have hj2 : (j : Int) < k := by omega
              obtain ⟨z, hz⟩ : ∃ z, z = s.locks.getD j sLock0 := ⟨_, rfl⟩
              rw [← hz] at x1
              have HZ := Lib.hid hz
              clear hz
              obtain ⟨x10, x11, x12, x13, x14, x15⟩ := x1
              obtain ⟨zs, zn, zk, zw, zv, za⟩ := z
              simp only at x10 x11 x12 x13 x14 x15
              go_wp2_with fail
              all_goals (try (rename y.key = zk => hq1; subst hq1))
              all_goals (try (rename y.site = zs => hq2; subst hq2))
              all_goals (try (rename y.num = zn => hq3; subst hq3))
              all_goals first
                | (go_ret
                   refine ⟨ret_bool (HR.out.trans (may_no (s := s) (.inr (.inr (.inl ⟨k, hlk, lockAt_no3 HY.out HZ.out hjk ?_⟩))))).symm, by (repeat (first | exact Below.refl _ _ | assumption | refine Below.alloc ?_ (by first | omega | (simp; done) | (simp; omega)) _ | refine below_drewN ?_ _ | refine Below.drew ?_ | refine Below.setCell ?_ (by first | omega | (simp; done) | (simp; omega)) _))⟩
                   rw [clash_eq, HW.out]
                   simp [*]
                   done)
                | (go_roundw
                   case rel =>
                     refine ⟨j + 1, by omega, by go_num, ?_, by (repeat (first | exact Below.refl _ _ | assumption | refine Below.alloc ?_ (by first | omega | (simp; done) | (simp; omega)) _ | refine below_drewN ?_ _ | refine Below.drew ?_ | refine Below.setCell ?_ (by first | omega | (simp; done) | (simp; omega)) _))⟩
                     intro m hm
                     rcases Nat.lt_or_ge m j with h1 | h1
                     · exact HJ.out m h1
                     · obtain rfl : m = j := by omega
                       rw [← HY.out, ← HZ.out, clash_eq, HW.out]
                       simp_all
                       done
                   case measure => simp [intOf]; omega)
            · obtain rfl : j = k := by omega
              go_wp2_with fail
              go_roundw
              case rel =>
                refine ⟨j + 1, by omega, by go_num, ?_, Below.trans hb ?_⟩
                · intro m hm
                  rcases Nat.lt_or_ge m j with h1 | h1
                  · exact HS.out m h1
                  · obtain rfl : m = j := by omega
                    exact lockAt_yes HY.out HD.out HI.out HJ.out
                · exact Below.trans (Below.trans (by (repeat (first | exact Below.refl _ _ | assumption | refine Below.alloc ?_ (by first | omega | (simp; done) | (simp; omega)) _ | refine below_drewN ?_ _ | refine Below.drew ?_ | refine Below.setCell ?_ (by first | omega | (simp; done) | (simp; omega)) _))) (hb1.mono (by first | omega | (simp; done) | (simp; omega)))) (hbi.mono (by first | omega | (simp; done) | (simp; omega)))
              case measure => simp [intOf]; omega
        · rw [hw] at x03
          have HW := Lib.hid hw
          have hv1 : (y.value != 0) = false := by simp [hv]
          have ha1 : (y.ask != 0) = false := by simp [ha]
          clear hw hv ha
          go_wp2_with (first | (go_at_call 37; refine (doubtOf_any _ _ _ _ _ _ _ _ _ _ _ _ s _ _ _ (hs.below (by (repeat (first | exact Below.refl _ _ | assumption | refine Below.alloc ?_ (by first | omega | (simp; done) | (simp; omega)) _ | refine below_drewN ?_ _ | refine Below.drew ?_ | refine Below.setCell ?_ (by first | omega | (simp; done) | (simp; omega)) _))) (by first | omega | (simp; done) | (simp; omega)))).mono ?_; rintro e w1 ⟨rfl, hb1⟩; obtain ⟨hc1, hf1⟩ := bcell hb1; have hbb1 : Below w.heap.size w w1 := (by refine Below.trans ?_ (hb1.mono ?_); rotate_left; (focus (first | omega | (simp; done) | (simp; omega))); (repeat (first | exact Below.refl _ _ | assumption | refine Below.alloc ?_ (by first | omega | (simp; done) | (simp; omega)) _ | refine below_drewN ?_ _ | refine Below.drew ?_ | refine Below.setCell ?_ (by first | omega | (simp; done) | (simp; omega)) _))); have hsz1 := hb1.size; (try simp at hsz1); have z_wq_w1_0 : wq.heap.size < w1.heap.size := (by omega); have z_w_w1_0 : w.heap.size < w1.heap.size := (by omega)) | (go_at_call 36; refine (in_any _ _ _ _).mono ?_; rintro e w9 ⟨rfl, rfl⟩))
          go_loopw [7] (fun i wi => ∃ j : Nat, j ≤ k ∧ i = .int .i64 j ∧ Hid (∀ m, m < j → clash (s.locks.getD k sLock0) (s.locks.getD m sLock0) = false) ∧ Below w1.heap.size w1 wi) (fun i _ => k - (intOf i).toNat)
          case atStart => exact ⟨0, Nat.zero_le _, rfl, fun j hj => absurd hj (Nat.not_lt_zero _), Below.refl _ _⟩
          case round =>
            obtain ⟨wi, rfl⟩ : ∃ wi : World, wi = wr := ⟨_, rfl⟩
            obtain ⟨j, hj, rfl, HJ, hbi⟩ := hrel
            obtain ⟨hci, hfi⟩ := bcell hbi
            have hszi := hbi.size
            have z3 : wq.heap.size < wi.heap.size := by omega
            have z4 : w.heap.size < wi.heap.size := by omega
            have z5 : b < wi.heap.size := by omega
            have z6 : b < w1.heap.size := by omega
            have hbwi : Below w.heap.size w wi := hbb1.trans (hbi.mono (by first | omega | (simp; done) | (simp; omega)))
            by_cases hjk : j < k
            · have x1 := HC.out j (by omega)
              have hj1 : (j : Int) < n2 := by omega
              have hj2 : (j : Int) < k := by omega
              obtain ⟨z, hz⟩ : ∃ z, z = s.locks.getD j sLock0 := ⟨_, rfl⟩
              rw [← hz] at x1
              have HZ := Lib.hid hz
              clear hz
              obtain ⟨x10, x11, x12, x13, x14, x15⟩ := x1
              obtain ⟨zs, zn, zk, zw, zv, za⟩ := z
              simp only at x10 x11 x12 x13 x14 x15
              go_wp2_with fail
              all_goals (try (rename y.key = zk => hq1; subst hq1))
              all_goals (try (rename y.site = zs => hq2; subst hq2))
              all_goals (try (rename y.num = zn => hq3; subst hq3))
              all_goals first
                | (go_ret
                   refine ⟨ret_bool (HR.out.trans (may_no (s := s) (.inr (.inr (.inl ⟨k, hlk, lockAt_no3 HY.out HZ.out hjk ?_⟩))))).symm, by (repeat (first | exact Below.refl _ _ | assumption | refine Below.alloc ?_ (by first | omega | (simp; done) | (simp; omega)) _ | refine below_drewN ?_ _ | refine Below.drew ?_ | refine Below.setCell ?_ (by first | omega | (simp; done) | (simp; omega)) _))⟩
                   rw [clash_eq, HW.out]
                   simp [*]
                   done)
                | (go_roundw
                   case rel =>
                     refine ⟨j + 1, by omega, by go_num, ?_, by (repeat (first | exact Below.refl _ _ | assumption | refine Below.alloc ?_ (by first | omega | (simp; done) | (simp; omega)) _ | refine below_drewN ?_ _ | refine Below.drew ?_ | refine Below.setCell ?_ (by first | omega | (simp; done) | (simp; omega)) _))⟩
                     intro m hm
                     rcases Nat.lt_or_ge m j with h1 | h1
                     · exact HJ.out m h1
                     · obtain rfl : m = j := by omega
                       rw [← HY.out, ← HZ.out, clash_eq, HW.out]
                       simp_all
                       done
                   case measure => simp [intOf]; omega)
            · obtain rfl : j = k := by omega
              go_wp2_with fail
              go_roundw
              case rel =>
                refine ⟨j + 1, by omega, by go_num, ?_, Below.trans hb ?_⟩
                · intro m hm
                  rcases Nat.lt_or_ge m j with h1 | h1
                  · exact HS.out m h1
                  · obtain rfl : m = j := by omega
                    exact lockAt_yes HY.out HD.out HI.out HJ.out
                · exact Below.trans (Below.trans (by (repeat (first | exact Below.refl _ _ | assumption | refine Below.alloc ?_ (by first | omega | (simp; done) | (simp; omega)) _ | refine below_drewN ?_ _ | refine Below.drew ?_ | refine Below.setCell ?_ (by first | omega | (simp; done) | (simp; omega)) _))) (hb1.mono (by first | omega | (simp; done) | (simp; omega)))) (hbi.mono (by first | omega | (simp; done) | (simp; omega)))
              case measure => simp [intOf]; omega
      obtain rfl : n2 = k := by omega
      have S2 := Lib.hid HS.out
      clear HS hlt hk
      have hk0 : ¬ ((n2 : Int) < (n2 : Int)) := by omega
      go_wp2_with fail
      clear hk0
      go_loopw [9] (fun i wr => ∃ k : Nat, k ≤ n3 ∧ i = .int .i64 k ∧ Hid (∀ j, j < k → doubtAt s.locks s.over s.doubts j = true) ∧ Below (w.heap.size + 1) (w.alloc (.cells #[.slice A1 n1 c1, .slice A2 n2 c2, .slice A3 n3 c3, .slice A4 n4 c4] 27)) wr) (fun i _ => n3 - (intOf i).toNat)
      case atStart => exact ⟨0, Nat.zero_le _, rfl, fun j hj => absurd hj (Nat.not_lt_zero _), hb⟩
      case round =>
        clear hc hf hsz z0 z01 z02 hbw hb
        obtain ⟨wq, rfl⟩ : ∃ wq : World, wq = wr := ⟨_, rfl⟩
        obtain ⟨k, hk, rfl, HS, hb⟩ := hrel
        obtain ⟨hc, hf⟩ := bcell hb
        have hsz := hb.size
        simp at hsz
        have z0 : w.heap.size < wq.heap.size := by omega
        have z01 : w.heap.size < wq.heap.size + 1 := by omega
        have z02 : w.heap.size < wq.heap.size + 2 := by omega
        have hbw : Below w.heap.size w wq := Below.trans (by (repeat (first | exact Below.refl _ _ | assumption | refine Below.alloc ?_ (by first | omega | (simp; done) | (simp; omega)) _ | refine below_drewN ?_ _ | refine Below.drew ?_ | refine Below.setCell ?_ (by first | omega | (simp; done) | (simp; omega)) _))) (hb.mono (by first | omega | (simp; done) | (simp; omega)))
        by_cases hlt : k < n3
        · obtain ⟨b, off, rfl, hbB, hcell0⟩ := h3.cells hlt
          have z1 : b < wq.heap.size := by omega
          have z11 : b < wq.heap.size + 1 := by omega
          have x0 := hcell0 k hlt
          have hlk : k < s.doubts.length := by have := L3.out; omega
          have hk1 : (k : Int) < n3 := by omega
          obtain ⟨y, hy⟩ : ∃ y, y = s.doubts.getD k sDoubt0 := ⟨_, rfl⟩
          rw [← hy] at x0
          have HY := Lib.hid hy
          clear hy hcell0
          obtain ⟨x00, x01, x02⟩ := x0
          go_wp2_with fail
          go_loopw [11, 12] (fun u i wi => ∃ j : Nat, j ≤ n2 ∧ i = .int .i64 j ∧ u = .bool (anyB (fun m => eqT (s.locks.getD m sLock0).site (s.locks.getD m sLock0).num y.site y.num) j) ∧ Below (wq.heap.size + 1) (wq.alloc (.cells #[.int .i64 y.site, .int .i64 y.num, .int .i64 y.age] 64)) wi) (fun _ i _ => n2 - (intOf i).toNat)
          case atStart => exact ⟨0, Nat.zero_le _, rfl, rfl, Below.refl _ _⟩
          case round =>
            obtain ⟨wi, rfl⟩ : ∃ wi : World, wi = wr := ⟨_, rfl⟩
            obtain ⟨j, hj, rfl, rfl, hbi⟩ := hrel
            obtain ⟨hci, hfi⟩ := bcell hbi
            have hszi := hbi.size
            simp at hszi
            have z3 : wq.heap.size < wi.heap.size := by omega
            have z4 : w.heap.size < wi.heap.size := by omega
            have z5 : b < wi.heap.size := by omega
            have hbwi : Below w.heap.size w wi := Below.trans (Below.trans hbw (by (repeat (first | exact Below.refl _ _ | assumption | refine Below.alloc ?_ (by first | omega | (simp; done) | (simp; omega)) _ | refine below_drewN ?_ _ | refine Below.drew ?_ | refine Below.setCell ?_ (by first | omega | (simp; done) | (simp; omega)) _)))) (hbi.mono (by first | omega | (simp; done) | (simp; omega)))
            by_cases hjk : j < n2
            · obtain ⟨b2, off2, rfl, hbB2, hcell2⟩ := h2.cells hjk
              have z6 : b2 < wi.heap.size := by omega
              have z7 : b2 < wq.heap.size := by omega
              have z8 : b2 < wq.heap.size + 1 := by omega
              have x1 := hcell2 j hjk
              have hj1 : (j : Int) < n2 := by omega
              clear hcell2
              obtain ⟨z, hz⟩ : ∃ z, z = s.locks.getD j sLock0 := ⟨_, rfl⟩
              rw [← hz] at x1
              have HZ := Lib.hid hz
              clear hz
              obtain ⟨x10, x11, x12, x13, x14, x15⟩ := x1
              have HN := Lib.hid (anyB_succ (fun m => eqT (s.locks.getD m sLock0).site (s.locks.getD m sLock0).num y.site y.num) j)
              cases hA : anyB (fun m => eqT (s.locks.getD m sLock0).site (s.locks.getD m sLock0).num y.site y.num) j
              rotate_left
              · have HA := Lib.hid hA
                clear hA
                go_wp2_with fail
                go_quiet (fail)
                go_wp2_with fail
                go_roundw
                case rel => exact ⟨j + 1, by omega, by go_num, by rw [HN.out, HA.out]; rfl, by (repeat (first | exact Below.refl _ _ | assumption | refine Below.alloc ?_ (by first | omega | (simp; done) | (simp; omega)) _ | refine below_drewN ?_ _ | refine Below.drew ?_ | refine Below.setCell ?_ (by first | omega | (simp; done) | (simp; omega)) _))⟩
                case measure => simp [intOf]; omega
              · have HA := Lib.hid hA
                clear hA
                by_cases e1 : z.site = y.site
                · by_cases e2 : z.num = y.num
                  · have HQ := Lib.hid (eqT_mk e1 e2)
                    go_wp2_with fail
                    go_quiet (fail)
                    go_wp2_with fail
                    go_roundw
                    case rel => exact ⟨j + 1, by omega, by go_num, by rw [HN.out, HA.out, ← HZ.out, HQ.out]; rfl, by (repeat (first | exact Below.refl _ _ | assumption | refine Below.alloc ?_ (by first | omega | (simp; done) | (simp; omega)) _ | refine below_drewN ?_ _ | refine Below.drew ?_ | refine Below.setCell ?_ (by first | omega | (simp; done) | (simp; omega)) _))⟩
                    case measure => simp [intOf]; omega
                  · have HQ := Lib.hid (eqT_no (a := z.site) (b := z.num) (c := y.site) (d := y.num) (by omega))
                    go_wp2_with fail
                    go_quiet (fail)
                    go_wp2_with fail
                    go_roundw
                    case rel => exact ⟨j + 1, by omega, by go_num, by rw [HN.out, HA.out, ← HZ.out, HQ.out]; rfl, by (repeat (first | exact Below.refl _ _ | assumption | refine Below.alloc ?_ (by first | omega | (simp; done) | (simp; omega)) _ | refine below_drewN ?_ _ | refine Below.drew ?_ | refine Below.setCell ?_ (by first | omega | (simp; done) | (simp; omega)) _))⟩
                    case measure => simp [intOf]; omega
                · have HQ := Lib.hid (eqT_no (a := z.site) (b := z.num) (c := y.site) (d := y.num) (by omega))
                  go_wp2_with fail
                  go_quiet (fail)
                  go_wp2_with fail
                  go_roundw
                  case rel => exact ⟨j + 1, by omega, by go_num, by rw [HN.out, HA.out, ← HZ.out, HQ.out]; rfl, by (repeat (first | exact Below.refl _ _ | assumption | refine Below.alloc ?_ (by first | omega | (simp; done) | (simp; omega)) _ | refine below_drewN ?_ _ | refine Below.drew ?_ | refine Below.setCell ?_ (by first | omega | (simp; done) | (simp; omega)) _))⟩
                  case measure => simp [intOf]; omega
            · have hj2 : j = s.locks.length := by have := L2.out; omega
              have HJ := Lib.hid (show anyB (fun m => eqT (s.locks.getD m sLock0).site (s.locks.getD m sLock0).num y.site y.num) j = decide (0 ≤ handIx s.locks y.site y.num) by rw [hj2]; exact anyB_hand _ _ _)
              have hj3 : ¬ ((j : Int) < n2) := by omega
              rw [HJ.out]
              clear hj2
              have z41 : w.heap.size < wi.heap.size + 1 := by omega
              have z31 : wq.heap.size < wi.heap.size + 1 := by omega
              cases hT : txnOk y.site y.num
              · have HQ := Lib.hid (may_no (s := s) (.inr (.inr (.inr (.inl ⟨k, hlk, doubtAt_no1 HY.out hT⟩)))))
                go_wp2_with (first | (go_at_call 38; refine (plainTxn_any _ _ _).mono ?_; rintro e w0 ⟨rfl, rfl⟩) | (go_at_call 36; refine (in_any _ _ _ _).mono ?_; rintro e w9 ⟨rfl, rfl⟩) | (go_at_call 37; refine (doubtOf_any _ _ _ _ _ _ _ _ _ _ _ _ s _ _ _ (hs.below (by (repeat (first | exact Below.refl _ _ | assumption | refine Below.alloc ?_ (by first | omega | (simp; done) | (simp; omega)) _ | refine below_drewN ?_ _ | refine Below.drew ?_ | refine Below.setCell ?_ (by first | omega | (simp; done) | (simp; omega)) _))) (by first | omega | (simp; done) | (simp; omega)))).mono ?_; rintro e w1 ⟨rfl, hb1⟩; obtain ⟨hc1, hf1⟩ := bcell hb1; have hbb1 : Below w.heap.size w w1 := (by refine Below.trans ?_ (hb1.mono ?_); rotate_left; (focus (first | omega | (simp; done) | (simp; omega))); (repeat (first | exact Below.refl _ _ | assumption | refine Below.alloc ?_ (by first | omega | (simp; done) | (simp; omega)) _ | refine below_drewN ?_ _ | refine Below.drew ?_ | refine Below.setCell ?_ (by first | omega | (simp; done) | (simp; omega)) _))); have hsz1 := hb1.size; (try simp at hsz1); have z_wq_w1_0 : wq.heap.size < w1.heap.size := (by omega); have z_w_w1_0 : w.heap.size < w1.heap.size := (by omega)) | (go_at_call 39; refine (isOver_any _ _ _ _ _ _ _ _ _ _ _ _ s _ _ _ (hs.below (by (repeat (first | exact Below.refl _ _ | assumption | refine Below.alloc ?_ (by first | omega | (simp; done) | (simp; omega)) _ | refine below_drewN ?_ _ | refine Below.drew ?_ | refine Below.setCell ?_ (by first | omega | (simp; done) | (simp; omega)) _))) (by first | omega | (simp; done) | (simp; omega)))).mono ?_; rintro e w2 ⟨rfl, hb2⟩; obtain ⟨hc2, hf2⟩ := bcell hb2; have hbb2 : Below w.heap.size w w2 := (by refine Below.trans ?_ (hb2.mono ?_); rotate_left; (focus (first | omega | (simp; done) | (simp; omega))); (repeat (first | exact Below.refl _ _ | assumption | refine Below.alloc ?_ (by first | omega | (simp; done) | (simp; omega)) _ | refine below_drewN ?_ _ | refine Below.drew ?_ | refine Below.setCell ?_ (by first | omega | (simp; done) | (simp; omega)) _))); have hsz2 := hb2.size; (try simp at hsz2); have z_wq_w2_0 : wq.heap.size < w2.heap.size := (by omega); have z_w_w2_0 : w.heap.size < w2.heap.size := (by omega)))
                go_ret
                exact ⟨ret_bool (HR.out.trans HQ.out).symm, by (repeat (first | exact Below.refl _ _ | assumption | refine Below.alloc ?_ (by first | omega | (simp; done) | (simp; omega)) _ | refine below_drewN ?_ _ | refine Below.drew ?_ | refine Below.setCell ?_ (by first | omega | (simp; done) | (simp; omega)) _))⟩
              cases hA : inB y.age 0 1048576
              · have HQ := Lib.hid (may_no (s := s) (.inr (.inr (.inr (.inl ⟨k, hlk, doubtAt_no2 HY.out hA⟩)))))
                go_wp2_with (first | (go_at_call 38; refine (plainTxn_any _ _ _).mono ?_; rintro e w0 ⟨rfl, rfl⟩) | (go_at_call 36; refine (in_any _ _ _ _).mono ?_; rintro e w9 ⟨rfl, rfl⟩) | (go_at_call 37; refine (doubtOf_any _ _ _ _ _ _ _ _ _ _ _ _ s _ _ _ (hs.below (by (repeat (first | exact Below.refl _ _ | assumption | refine Below.alloc ?_ (by first | omega | (simp; done) | (simp; omega)) _ | refine below_drewN ?_ _ | refine Below.drew ?_ | refine Below.setCell ?_ (by first | omega | (simp; done) | (simp; omega)) _))) (by first | omega | (simp; done) | (simp; omega)))).mono ?_; rintro e w1 ⟨rfl, hb1⟩; obtain ⟨hc1, hf1⟩ := bcell hb1; have hbb1 : Below w.heap.size w w1 := (by refine Below.trans ?_ (hb1.mono ?_); rotate_left; (focus (first | omega | (simp; done) | (simp; omega))); (repeat (first | exact Below.refl _ _ | assumption | refine Below.alloc ?_ (by first | omega | (simp; done) | (simp; omega)) _ | refine below_drewN ?_ _ | refine Below.drew ?_ | refine Below.setCell ?_ (by first | omega | (simp; done) | (simp; omega)) _))); have hsz1 := hb1.size; (try simp at hsz1); have z_wq_w1_0 : wq.heap.size < w1.heap.size := (by omega); have z_w_w1_0 : w.heap.size < w1.heap.size := (by omega)) | (go_at_call 39; refine (isOver_any _ _ _ _ _ _ _ _ _ _ _ _ s _ _ _ (hs.below (by (repeat (first | exact Below.refl _ _ | assumption | refine Below.alloc ?_ (by first | omega | (simp; done) | (simp; omega)) _ | refine below_drewN ?_ _ | refine Below.drew ?_ | refine Below.setCell ?_ (by first | omega | (simp; done) | (simp; omega)) _))) (by first | omega | (simp; done) | (simp; omega)))).mono ?_; rintro e w2 ⟨rfl, hb2⟩; obtain ⟨hc2, hf2⟩ := bcell hb2; have hbb2 : Below w.heap.size w w2 := (by refine Below.trans ?_ (hb2.mono ?_); rotate_left; (focus (first | omega | (simp; done) | (simp; omega))); (repeat (first | exact Below.refl _ _ | assumption | refine Below.alloc ?_ (by first | omega | (simp; done) | (simp; omega)) _ | refine below_drewN ?_ _ | refine Below.drew ?_ | refine Below.setCell ?_ (by first | omega | (simp; done) | (simp; omega)) _))); have hsz2 := hb2.size; (try simp at hsz2); have z_wq_w2_0 : wq.heap.size < w2.heap.size := (by omega); have z_w_w2_0 : w.heap.size < w2.heap.size := (by omega)))
                go_ret
                exact ⟨ret_bool (HR.out.trans HQ.out).symm, by (repeat (first | exact Below.refl _ _ | assumption | refine Below.alloc ?_ (by first | omega | (simp; done) | (simp; omega)) _ | refine below_drewN ?_ _ | refine Below.drew ?_ | refine Below.setCell ?_ (by first | omega | (simp; done) | (simp; omega)) _))⟩
              cases hH : decide (0 ≤ handIx s.locks y.site y.num)
              · have HQ := Lib.hid (may_no (s := s) (.inr (.inr (.inr (.inl ⟨k, hlk, doubtAt_no4 HY.out hH⟩)))))
                go_wp2_with (first | (go_at_call 38; refine (plainTxn_any _ _ _).mono ?_; rintro e w0 ⟨rfl, rfl⟩) | (go_at_call 36; refine (in_any _ _ _ _).mono ?_; rintro e w9 ⟨rfl, rfl⟩) | (go_at_call 37; refine (doubtOf_any _ _ _ _ _ _ _ _ _ _ _ _ s _ _ _ (hs.below (by (repeat (first | exact Below.refl _ _ | assumption | refine Below.alloc ?_ (by first | omega | (simp; done) | (simp; omega)) _ | refine below_drewN ?_ _ | refine Below.drew ?_ | refine Below.setCell ?_ (by first | omega | (simp; done) | (simp; omega)) _))) (by first | omega | (simp; done) | (simp; omega)))).mono ?_; rintro e w1 ⟨rfl, hb1⟩; obtain ⟨hc1, hf1⟩ := bcell hb1; have hbb1 : Below w.heap.size w w1 := (by refine Below.trans ?_ (hb1.mono ?_); rotate_left; (focus (first | omega | (simp; done) | (simp; omega))); (repeat (first | exact Below.refl _ _ | assumption | refine Below.alloc ?_ (by first | omega | (simp; done) | (simp; omega)) _ | refine below_drewN ?_ _ | refine Below.drew ?_ | refine Below.setCell ?_ (by first | omega | (simp; done) | (simp; omega)) _))); have hsz1 := hb1.size; (try simp at hsz1); have z_wq_w1_0 : wq.heap.size < w1.heap.size := (by omega); have z_w_w1_0 : w.heap.size < w1.heap.size := (by omega)) | (go_at_call 39; refine (isOver_any _ _ _ _ _ _ _ _ _ _ _ _ s _ _ _ (hs.below (by (repeat (first | exact Below.refl _ _ | assumption | refine Below.alloc ?_ (by first | omega | (simp; done) | (simp; omega)) _ | refine below_drewN ?_ _ | refine Below.drew ?_ | refine Below.setCell ?_ (by first | omega | (simp; done) | (simp; omega)) _))) (by first | omega | (simp; done) | (simp; omega)))).mono ?_; rintro e w2 ⟨rfl, hb2⟩; obtain ⟨hc2, hf2⟩ := bcell hb2; have hbb2 : Below w.heap.size w w2 := (by refine Below.trans ?_ (hb2.mono ?_); rotate_left; (focus (first | omega | (simp; done) | (simp; omega))); (repeat (first | exact Below.refl _ _ | assumption | refine Below.alloc ?_ (by first | omega | (simp; done) | (simp; omega)) _ | refine below_drewN ?_ _ | refine Below.drew ?_ | refine Below.setCell ?_ (by first | omega | (simp; done) | (simp; omega)) _))); have hsz2 := hb2.size; (try simp at hsz2); have z_wq_w2_0 : wq.heap.size < w2.heap.size := (by omega); have z_w_w2_0 : w.heap.size < w2.heap.size := (by omega)))
                go_ret
                exact ⟨ret_bool (HR.out.trans HQ.out).symm, by (repeat (first | exact Below.refl _ _ | assumption | refine Below.alloc ?_ (by first | omega | (simp; done) | (simp; omega)) _ | refine below_drewN ?_ _ | refine Below.drew ?_ | refine Below.setCell ?_ (by first | omega | (simp; done) | (simp; omega)) _))⟩
              by_cases hI : doubtIx s.doubts y.site y.num = k
              rotate_left
              · have HQ := Lib.hid (may_no (s := s) (.inr (.inr (.inr (.inl ⟨k, hlk, doubtAt_no6 HY.out hlk hI⟩)))))
                have hI' : (doubtIx s.doubts y.site y.num != (k : Int)) = true := by simpa using hI
                clear hI
                go_wp2_with (first | (go_at_call 38; refine (plainTxn_any _ _ _).mono ?_; rintro e w0 ⟨rfl, rfl⟩) | (go_at_call 36; refine (in_any _ _ _ _).mono ?_; rintro e w9 ⟨rfl, rfl⟩) | (go_at_call 37; refine (doubtOf_any _ _ _ _ _ _ _ _ _ _ _ _ s _ _ _ (hs.below (by (repeat (first | exact Below.refl _ _ | assumption | refine Below.alloc ?_ (by first | omega | (simp; done) | (simp; omega)) _ | refine below_drewN ?_ _ | refine Below.drew ?_ | refine Below.setCell ?_ (by first | omega | (simp; done) | (simp; omega)) _))) (by first | omega | (simp; done) | (simp; omega)))).mono ?_; rintro e w1 ⟨rfl, hb1⟩; obtain ⟨hc1, hf1⟩ := bcell hb1; have hbb1 : Below w.heap.size w w1 := (by refine Below.trans ?_ (hb1.mono ?_); rotate_left; (focus (first | omega | (simp; done) | (simp; omega))); (repeat (first | exact Below.refl _ _ | assumption | refine Below.alloc ?_ (by first | omega | (simp; done) | (simp; omega)) _ | refine below_drewN ?_ _ | refine Below.drew ?_ | refine Below.setCell ?_ (by first | omega | (simp; done) | (simp; omega)) _))); have hsz1 := hb1.size; (try simp at hsz1); have z_wq_w1_0 : wq.heap.size < w1.heap.size := (by omega); have z_w_w1_0 : w.heap.size < w1.heap.size := (by omega)) | (go_at_call 39; refine (isOver_any _ _ _ _ _ _ _ _ _ _ _ _ s _ _ _ (hs.below (by (repeat (first | exact Below.refl _ _ | assumption | refine Below.alloc ?_ (by first | omega | (simp; done) | (simp; omega)) _ | refine below_drewN ?_ _ | refine Below.drew ?_ | refine Below.setCell ?_ (by first | omega | (simp; done) | (simp; omega)) _))) (by first | omega | (simp; done) | (simp; omega)))).mono ?_; rintro e w2 ⟨rfl, hb2⟩; obtain ⟨hc2, hf2⟩ := bcell hb2; have hbb2 : Below w.heap.size w w2 := (by refine Below.trans ?_ (hb2.mono ?_); rotate_left; (focus (first | omega | (simp; done) | (simp; omega))); (repeat (first | exact Below.refl _ _ | assumption | refine Below.alloc ?_ (by first | omega | (simp; done) | (simp; omega)) _ | refine below_drewN ?_ _ | refine Below.drew ?_ | refine Below.setCell ?_ (by first | omega | (simp; done) | (simp; omega)) _))); have hsz2 := hb2.size; (try simp at hsz2); have z_wq_w2_0 : wq.heap.size < w2.heap.size := (by omega); have z_w_w2_0 : w.heap.size < w2.heap.size := (by omega)))
                go_ret
                exact ⟨ret_bool (HR.out.trans HQ.out).symm, hbb1⟩
              have hI' : (doubtIx s.doubts y.site y.num != (k : Int)) = false := by simp [hI]
              have HI := Lib.hid hI
              clear hI
              cases hO : decide (0 ≤ overIx s.over y.site y.num)
              rotate_left
              · have HQ := Lib.hid (may_no (s := s) (.inr (.inr (.inr (.inl ⟨k, hlk, doubtAt_no3 HY.out hO⟩)))))
                go_wp2_with (first | (go_at_call 38; refine (plainTxn_any _ _ _).mono ?_; rintro e w0 ⟨rfl, rfl⟩) | (go_at_call 36; refine (in_any _ _ _ _).mono ?_; rintro e w9 ⟨rfl, rfl⟩) | (go_at_call 37; refine (doubtOf_any _ _ _ _ _ _ _ _ _ _ _ _ s _ _ _ (hs.below (by (repeat (first | exact Below.refl _ _ | assumption | refine Below.alloc ?_ (by first | omega | (simp; done) | (simp; omega)) _ | refine below_drewN ?_ _ | refine Below.drew ?_ | refine Below.setCell ?_ (by first | omega | (simp; done) | (simp; omega)) _))) (by first | omega | (simp; done) | (simp; omega)))).mono ?_; rintro e w1 ⟨rfl, hb1⟩; obtain ⟨hc1, hf1⟩ := bcell hb1; have hbb1 : Below w.heap.size w w1 := (by refine Below.trans ?_ (hb1.mono ?_); rotate_left; (focus (first | omega | (simp; done) | (simp; omega))); (repeat (first | exact Below.refl _ _ | assumption | refine Below.alloc ?_ (by first | omega | (simp; done) | (simp; omega)) _ | refine below_drewN ?_ _ | refine Below.drew ?_ | refine Below.setCell ?_ (by first | omega | (simp; done) | (simp; omega)) _))); have hsz1 := hb1.size; (try simp at hsz1); have z_wq_w1_0 : wq.heap.size < w1.heap.size := (by omega); have z_w_w1_0 : w.heap.size < w1.heap.size := (by omega)) | (go_at_call 39; refine (isOver_any _ _ _ _ _ _ _ _ _ _ _ _ s _ _ _ (hs.below (by (repeat (first | exact Below.refl _ _ | assumption | refine Below.alloc ?_ (by first | omega | (simp; done) | (simp; omega)) _ | refine below_drewN ?_ _ | refine Below.drew ?_ | refine Below.setCell ?_ (by first | omega | (simp; done) | (simp; omega)) _))) (by first | omega | (simp; done) | (simp; omega)))).mono ?_; rintro e w2 ⟨rfl, hb2⟩; obtain ⟨hc2, hf2⟩ := bcell hb2; have hbb2 : Below w.heap.size w w2 := (by refine Below.trans ?_ (hb2.mono ?_); rotate_left; (focus (first | omega | (simp; done) | (simp; omega))); (repeat (first | exact Below.refl _ _ | assumption | refine Below.alloc ?_ (by first | omega | (simp; done) | (simp; omega)) _ | refine below_drewN ?_ _ | refine Below.drew ?_ | refine Below.setCell ?_ (by first | omega | (simp; done) | (simp; omega)) _))); have hsz2 := hb2.size; (try simp at hsz2); have z_wq_w2_0 : wq.heap.size < w2.heap.size := (by omega); have z_w_w2_0 : w.heap.size < w2.heap.size := (by omega)))
                go_ret
                exact ⟨ret_bool (HR.out.trans HQ.out).symm, hbb2⟩
              have HO := Lib.hid hO
              have HT := Lib.hid hT
              have HA := Lib.hid hA
              have HH := Lib.hid hH
              go_wp2_with (first | (go_at_call 38; refine (plainTxn_any _ _ _).mono ?_; rintro e w0 ⟨rfl, rfl⟩) | (go_at_call 36; refine (in_any _ _ _ _).mono ?_; rintro e w9 ⟨rfl, rfl⟩) | (go_at_call 37; refine (doubtOf_any _ _ _ _ _ _ _ _ _ _ _ _ s _ _ _ (hs.below (by (repeat (first | exact Below.refl _ _ | assumption | refine Below.alloc ?_ (by first | omega | (simp; done) | (simp; omega)) _ | refine below_drewN ?_ _ | refine Below.drew ?_ | refine Below.setCell ?_ (by first | omega | (simp; done) | (simp; omega)) _))) (by first | omega | (simp; done) | (simp; omega)))).mono ?_; rintro e w1 ⟨rfl, hb1⟩; obtain ⟨hc1, hf1⟩ := bcell hb1; have hbb1 : Below w.heap.size w w1 := (by refine Below.trans ?_ (hb1.mono ?_); rotate_left; (focus (first | omega | (simp; done) | (simp; omega))); (repeat (first | exact Below.refl _ _ | assumption | refine Below.alloc ?_ (by first | omega | (simp; done) | (simp; omega)) _ | refine below_drewN ?_ _ | refine Below.drew ?_ | refine Below.setCell ?_ (by first | omega | (simp; done) | (simp; omega)) _))); have hsz1 := hb1.size; (try simp at hsz1); have z_wq_w1_0 : wq.heap.size < w1.heap.size := (by omega); have z_w_w1_0 : w.heap.size < w1.heap.size := (by omega)) | (go_at_call 39; refine (isOver_any _ _ _ _ _ _ _ _ _ _ _ _ s _ _ _ (hs.below (by (repeat (first | exact Below.refl _ _ | assumption | refine Below.alloc ?_ (by first | omega | (simp; done) | (simp; omega)) _ | refine below_drewN ?_ _ | refine Below.drew ?_ | refine Below.setCell ?_ (by first | omega | (simp; done) | (simp; omega)) _))) (by first | omega | (simp; done) | (simp; omega)))).mono ?_; rintro e w2 ⟨rfl, hb2⟩; obtain ⟨hc2, hf2⟩ := bcell hb2; have hbb2 : Below w.heap.size w w2 := (by refine Below.trans ?_ (hb2.mono ?_); rotate_left; (focus (first | omega | (simp; done) | (simp; omega))); (repeat (first | exact Below.refl _ _ | assumption | refine Below.alloc ?_ (by first | omega | (simp; done) | (simp; omega)) _ | refine below_drewN ?_ _ | refine Below.drew ?_ | refine Below.setCell ?_ (by first | omega | (simp; done) | (simp; omega)) _))); have hsz2 := hb2.size; (try simp at hsz2); have z_wq_w2_0 : wq.heap.size < w2.heap.size := (by omega); have z_w_w2_0 : w.heap.size < w2.heap.size := (by omega)))
              go_roundw
              case rel =>
                refine ⟨k + 1, by omega, by go_num, ?_, Below.trans hb ?_⟩
                · intro m hm
                  rcases Nat.lt_or_ge m k with h1 | h1
                  · exact HS.out m h1
                  · obtain rfl : m = k := by omega
                    exact doubtAt_yes HY.out HT.out HA.out HO.out HH.out ((doubtIx_at HY.out hlk).1 HI.out)
                · exact Below.trans (Below.trans (Below.trans (Below.trans (by (repeat (first | exact Below.refl _ _ | assumption | refine Below.alloc ?_ (by first | omega | (simp; done) | (simp; omega)) _ | refine below_drewN ?_ _ | refine Below.drew ?_ | refine Below.setCell ?_ (by first | omega | (simp; done) | (simp; omega)) _))) (hbi.mono (by first | omega | (simp; done) | (simp; omega)))) (by (repeat (first | exact Below.refl _ _ | assumption | refine Below.alloc ?_ (by first | omega | (simp; done) | (simp; omega)) _ | refine below_drewN ?_ _ | refine Below.drew ?_ | refine Below.setCell ?_ (by first | omega | (simp; done) | (simp; omega)) _)))) (hb1.mono (by first | omega | (simp; done) | (simp; omega)))) (hb2.mono (by first | omega | (simp; done) | (simp; omega)))
              case measure => simp [intOf]; omega
        obtain rfl : n3 = k := by omega
        have S3 := Lib.hid HS.out
        clear HS hlt hk
        have hk0 : ¬ ((n3 : Int) < (n3 : Int)) := by omega
        go_wp2_with fail
        clear hk0
        go_loopw [13] (fun i wr => ∃ k : Nat, k ≤ n4 ∧ i = .int .i64 k ∧ Hid (∀ j, j < k → overAt s.over j = true) ∧ Below (w.heap.size + 1) (w.alloc (.cells #[.slice A1 n1 c1, .slice A2 n2 c2, .slice A3 n3 c3, .slice A4 n4 c4] 27)) wr) (fun i _ => n4 - (intOf i).toNat)
        case atStart => exact ⟨0, Nat.zero_le _, rfl, fun j hj => absurd hj (Nat.not_lt_zero _), hb⟩
        case round =>
          clear hc hf hsz z0 z01 z02 hbw hb
          obtain ⟨wq, rfl⟩ : ∃ wq : World, wq = wr := ⟨_, rfl⟩
          obtain ⟨k, hk, rfl, HS, hb⟩ := hrel
          obtain ⟨hc, hf⟩ := bcell hb
          have hsz := hb.size
          simp at hsz
          have z0 : w.heap.size < wq.heap.size := by omega
          have z01 : w.heap.size < wq.heap.size + 1 := by omega
          have z02 : w.heap.size < wq.heap.size + 2 := by omega
          have hbw : Below w.heap.size w wq := Below.trans (by (repeat (first | exact Below.refl _ _ | assumption | refine Below.alloc ?_ (by first | omega | (simp; done) | (simp; omega)) _ | refine below_drewN ?_ _ | refine Below.drew ?_ | refine Below.setCell ?_ (by first | omega | (simp; done) | (simp; omega)) _))) (hb.mono (by first | omega | (simp; done) | (simp; omega)))
          by_cases hlt : k < n4
          · obtain ⟨b, off, rfl, hbB, hcell0⟩ := h4.cells hlt
            have z1 : b < wq.heap.size := by omega
            have x0 := hcell0 k hlt
            have hlk : k < s.over.length := by have := L4.out; omega
            have hk1 : (k : Int) < n4 := by omega
            obtain ⟨y, hy⟩ : ∃ y, y = s.over.getD k (0, 0) := ⟨_, rfl⟩
            rw [← hy] at x0
            have HY := Lib.hid hy
            have HC := Lib.hid hcell0
            clear hy hcell0
            obtain ⟨x00, x01⟩ := x0
            go_wp2_with fail
            go_loopw [14] (fun i wi => ∃ j : Nat, j ≤ k ∧ i = .int .i64 j ∧ Hid (∀ m, m < j → eqT (s.over.getD m (0, 0)).1 (s.over.getD m (0, 0)).2 (s.over.getD k (0, 0)).1 (s.over.getD k (0, 0)).2 = false) ∧ Below wq.heap.size wq wi) (fun i _ => k - (intOf i).toNat)
            case atStart => exact ⟨0, Nat.zero_le _, rfl, fun j hj => absurd hj (Nat.not_lt_zero _), Below.refl _ _⟩
            case round =>
              obtain ⟨wi, rfl⟩ : ∃ wi : World, wi = wr := ⟨_, rfl⟩
              obtain ⟨j, hj, rfl, HJ, hbi⟩ := hrel
              obtain ⟨hci, hfi⟩ := bcell hbi
              have hszi := hbi.size
              have z4 : w.heap.size < wi.heap.size := by omega
              have z5 : b < wi.heap.size := by omega
              have hbwi : Below w.heap.size w wi := hbw.trans (hbi.mono (by first | omega | (simp; done) | (simp; omega)))
              by_cases hjk : j < k
              · have x1 := HC.out j (by omega)
                have hj1 : (j : Int) < n4 := by omega
                have hj2 : (j : Int) < k := by omega
                obtain ⟨z, hz⟩ : ∃ z, z = s.over.getD j (0, 0) := ⟨_, rfl⟩
                rw [← hz] at x1
                have HZ := Lib.hid hz
                clear hz
                obtain ⟨x10, x11⟩ := x1
                by_cases e1 : z.1 = y.1
                · by_cases e2 : z.2 = y.2
                  · have HQ := Lib.hid (may_no (s := s) (.inr (.inr (.inr (.inr ⟨k, hlk, overAt_no2 HY.out HZ.out hjk (eqT_mk e1 e2)⟩)))))
                    go_wp2_with fail
                    go_quiet (fail)
                    go_wp2_with fail
                    go_ret
                    exact ⟨ret_bool (HR.out.trans HQ.out).symm, by (repeat (first | exact Below.refl _ _ | assumption | refine Below.alloc ?_ (by first | omega | (simp; done) | (simp; omega)) _ | refine below_drewN ?_ _ | refine Below.drew ?_ | refine Below.setCell ?_ (by first | omega | (simp; done) | (simp; omega)) _))⟩
                  · have HQ := Lib.hid (eqT_no (a := z.1) (b := z.2) (c := y.1) (d := y.2) (by omega))
                    go_wp2_with fail
                    go_quiet (fail)
                    go_wp2_with fail
                    go_roundw
                    case rel => exact ⟨j + 1, by omega, by go_num, (fun m hm => by rcases Nat.lt_or_ge m j with h1 | h1; exact HJ.out m h1; obtain rfl : m = j := (by omega); rw [← HY.out, ← HZ.out]; exact HQ.out), by (repeat (first | exact Below.refl _ _ | assumption | refine Below.alloc ?_ (by first | omega | (simp; done) | (simp; omega)) _ | refine below_drewN ?_ _ | refine Below.drew ?_ | refine Below.setCell ?_ (by first | omega | (simp; done) | (simp; omega)) _))⟩
                    case measure => simp [intOf]; omega
                · have HQ := Lib.hid (eqT_no (a := z.1) (b := z.2) (c := y.1) (d := y.2) (by omega))
                  go_wp2_with fail
                  go_quiet (fail)
                  go_wp2_with fail
                  go_roundw
                  case rel => exact ⟨j + 1, by omega, by go_num, (fun m hm => by rcases Nat.lt_or_ge m j with h1 | h1; exact HJ.out m h1; obtain rfl : m = j := (by omega); rw [← HY.out, ← HZ.out]; exact HQ.out), by (repeat (first | exact Below.refl _ _ | assumption | refine Below.alloc ?_ (by first | omega | (simp; done) | (simp; omega)) _ | refine below_drewN ?_ _ | refine Below.drew ?_ | refine Below.setCell ?_ (by first | omega | (simp; done) | (simp; omega)) _))⟩
                  case measure => simp [intOf]; omega
              · obtain rfl : j = k := by omega
                have hj3 : ¬ ((j : Int) < (j : Int)) := by omega
                cases hT : txnOk y.1 y.2
                · have HQ := Lib.hid (may_no (s := s) (.inr (.inr (.inr (.inr ⟨j, hlk, overAt_no1 HY.out hT⟩)))))
                  go_wp2_with (go_at_call 38; refine (plainTxn_any _ _ _).mono ?_; rintro e w0 ⟨rfl, rfl⟩)
                  go_ret
                  exact ⟨ret_bool (HR.out.trans HQ.out).symm, by (repeat (first | exact Below.refl _ _ | assumption | refine Below.alloc ?_ (by first | omega | (simp; done) | (simp; omega)) _ | refine below_drewN ?_ _ | refine Below.drew ?_ | refine Below.setCell ?_ (by first | omega | (simp; done) | (simp; omega)) _))⟩
                · have HT := Lib.hid hT
                  go_wp2_with (go_at_call 38; refine (plainTxn_any _ _ _).mono ?_; rintro e w0 ⟨rfl, rfl⟩)
                  go_roundw
                  case rel =>
                    refine ⟨j + 1, by omega, by go_num, ?_, Below.trans hb (Below.trans (hbi.mono (by first | omega | (simp; done) | (simp; omega))) (by (repeat (first | exact Below.refl _ _ | assumption | refine Below.alloc ?_ (by first | omega | (simp; done) | (simp; omega)) _ | refine below_drewN ?_ _ | refine Below.drew ?_ | refine Below.setCell ?_ (by first | omega | (simp; done) | (simp; omega)) _))))⟩
                    intro m hm
                    rcases Nat.lt_or_ge m j with h1 | h1
                    · exact HS.out m h1
                    · obtain rfl : m = j := by omega
                      exact overAt_yes HY.out HT.out HJ.out
                  case measure => simp [intOf]; omega
          obtain rfl : n4 = k := by omega
          go_wp2_with fail
          go_ret
          exact ⟨ret_bool (HR.out.trans (may_yes (by have := L2.out; omega) (fun j hj => S1.out j (by have := L1.out; omega)) (fun j hj => S2.out j (by have := L2.out; omega)) (fun j hj => S3.out j (by have := L3.out; omega)) (fun j hj => HS.out j (by have := L4.out; omega)))).symm, hbw⟩

end Go.Proofs.Ytoalcmpjfnlkdaa
