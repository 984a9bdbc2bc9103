/- store.Check; doubtOf, isOver. -/
import Derived.Test.YtoalcmpjfnlkdaaStoD
namespace Go.Proofs.Ytoalcmpjfnlkdaa
open Go.RowKit Go.ChangeShapes Go.WideShapes Go.Deep

def chkF (s : Sto) : Int := if mayB s then 0 else 9
theorem chkF_no {s : Sto} (h : mayB s = false) : chkF s = 9 := by unfold chkF; rw [h]; rfl
theorem chkF_yes {s : Sto} (h : mayB s = true) : chkF s = 0 := by unfold chkF; rw [h]; rfl
set_option maxRecDepth 100000 in
set_option maxHeartbeats 1000000 in
theorem check_any_s (A1 : Option Addr) (n1 c1 : Nat) (A2 : Option Addr) (n2 c2 : Nat) (A3 : Option Addr) (n3 c3 : Nat) (A4 : Option Addr) (n4 c4 : Nat) (s : Sto) (w : World) (hs : StoAt w w.heap.size A1 n1 c1 A2 n2 c2 A3 n3 c3 A4 n4 c4 s) :
    Calls Try.prog 12 #[.agg #[.slice A1 n1 c1, .slice A2 n2 c2, .slice A3 n3 c3, .slice A4 n4 c4]] w fun e w' => e = .returned (.int .i64 (chkF s)) ∧ Below w.heap.size w w' := by
  have hm : mayB s = (itemsB s.items && doubtsB s && locksB s.doubts s.locks) := rfl
  cases h1 : itemsB s.items
  · rw [chkF_no (by rw [hm, h1]; rfl)]
    clear hm
    go_enter Try.func12, Try.ntmps12
    go_wp2_with (first | (go_at_call 33; refine (items_any _ _ _ s.items _ (hs.1.below (Flat.stable _) (by (repeat (first | exact Below.refl _ _ | assumption | refine Below.alloc ?_ (by first | omega | (simp; done) | (simp; omega)) _ | refine below_drewN ?_ _ | refine Below.drew ?_ | refine Below.setCell ?_ (by first | omega | (simp; done) | (simp; omega)) _))) (by first | omega | (simp; done) | (simp; omega)))).mono ?_; rintro e w1 ⟨rfl, hb1⟩; obtain ⟨hc1, hf1⟩ := bcell hb1; have hbb1 : Below w.heap.size w w1 := (by refine Below.trans ?_ (hb1.mono ?_); rotate_left; (focus (first | omega | (simp; done) | (simp; omega))); (repeat (first | exact Below.refl _ _ | assumption | refine Below.alloc ?_ (by first | omega | (simp; done) | (simp; omega)) _ | refine below_drewN ?_ _ | refine Below.drew ?_ | refine Below.setCell ?_ (by first | omega | (simp; done) | (simp; omega)) _))); have hsz1 := hb1.size; (try simp at hsz1); have z_w_w1_0 : w.heap.size < w1.heap.size := (by omega)) | (go_at_call 34; refine (doubts_any _ _ _ _ _ _ _ _ _ _ _ _ s _ (hs.below (by (repeat (first | exact Below.refl _ _ | assumption | refine Below.alloc ?_ (by first | omega | (simp; done) | (simp; omega)) _ | refine below_drewN ?_ _ | refine Below.drew ?_ | refine Below.setCell ?_ (by first | omega | (simp; done) | (simp; omega)) _))) (by first | omega | (simp; done) | (simp; omega)))).mono ?_; rintro e w2 ⟨rfl, hb2⟩; obtain ⟨hc2, hf2⟩ := bcell hb2; have hbb2 : Below w.heap.size w w2 := (by refine Below.trans ?_ (hb2.mono ?_); rotate_left; (focus (first | omega | (simp; done) | (simp; omega))); (repeat (first | exact Below.refl _ _ | assumption | refine Below.alloc ?_ (by first | omega | (simp; done) | (simp; omega)) _ | refine below_drewN ?_ _ | refine Below.drew ?_ | refine Below.setCell ?_ (by first | omega | (simp; done) | (simp; omega)) _))); have hsz2 := hb2.size; (try simp at hsz2); have z_w_w2_0 : w.heap.size < w2.heap.size := (by omega)) | (go_at_call 35; refine (locks_any _ _ _ _ _ _ _ _ _ _ _ _ s _ (hs.below (by (repeat (first | exact Below.refl _ _ | assumption | refine Below.alloc ?_ (by first | omega | (simp; done) | (simp; omega)) _ | refine below_drewN ?_ _ | refine Below.drew ?_ | refine Below.setCell ?_ (by first | omega | (simp; done) | (simp; omega)) _))) (by first | omega | (simp; done) | (simp; omega)))).mono ?_; rintro e w3 ⟨rfl, hb3⟩; obtain ⟨hc3, hf3⟩ := bcell hb3; have hbb3 : Below w.heap.size w w3 := (by refine Below.trans ?_ (hb3.mono ?_); rotate_left; (focus (first | omega | (simp; done) | (simp; omega))); (repeat (first | exact Below.refl _ _ | assumption | refine Below.alloc ?_ (by first | omega | (simp; done) | (simp; omega)) _ | refine below_drewN ?_ _ | refine Below.drew ?_ | refine Below.setCell ?_ (by first | omega | (simp; done) | (simp; omega)) _))); have hsz3 := hb3.size; (try simp at hsz3); have z_w_w3_0 : w.heap.size < w3.heap.size := (by omega)))
    go_ret
    exact ⟨rfl, hbb1⟩
  cases h2 : doubtsB s
  · rw [chkF_no (by rw [hm, h1, h2]; rfl)]
    clear hm
    go_enter Try.func12, Try.ntmps12
    go_wp2_with (first | (go_at_call 33; refine (items_any _ _ _ s.items _ (hs.1.below (Flat.stable _) (by (repeat (first | exact Below.refl _ _ | assumption | refine Below.alloc ?_ (by first | omega | (simp; done) | (simp; omega)) _ | refine below_drewN ?_ _ | refine Below.drew ?_ | refine Below.setCell ?_ (by first | omega | (simp; done) | (simp; omega)) _))) (by first | omega | (simp; done) | (simp; omega)))).mono ?_; rintro e w1 ⟨rfl, hb1⟩; obtain ⟨hc1, hf1⟩ := bcell hb1; have hbb1 : Below w.heap.size w w1 := (by refine Below.trans ?_ (hb1.mono ?_); rotate_left; (focus (first | omega | (simp; done) | (simp; omega))); (repeat (first | exact Below.refl _ _ | assumption | refine Below.alloc ?_ (by first | omega | (simp; done) | (simp; omega)) _ | refine below_drewN ?_ _ | refine Below.drew ?_ | refine Below.setCell ?_ (by first | omega | (simp; done) | (simp; omega)) _))); have hsz1 := hb1.size; (try simp at hsz1); have z_w_w1_0 : w.heap.size < w1.heap.size := (by omega)) | (go_at_call 34; refine (doubts_any _ _ _ _ _ _ _ _ _ _ _ _ s _ (hs.below (by (repeat (first | exact Below.refl _ _ | assumption | refine Below.alloc ?_ (by first | omega | (simp; done) | (simp; omega)) _ | refine below_drewN ?_ _ | refine Below.drew ?_ | refine Below.setCell ?_ (by first | omega | (simp; done) | (simp; omega)) _))) (by first | omega | (simp; done) | (simp; omega)))).mono ?_; rintro e w2 ⟨rfl, hb2⟩; obtain ⟨hc2, hf2⟩ := bcell hb2; have hbb2 : Below w.heap.size w w2 := (by refine Below.trans ?_ (hb2.mono ?_); rotate_left; (focus (first | omega | (simp; done) | (simp; omega))); (repeat (first | exact Below.refl _ _ | assumption | refine Below.alloc ?_ (by first | omega | (simp; done) | (simp; omega)) _ | refine below_drewN ?_ _ | refine Below.drew ?_ | refine Below.setCell ?_ (by first | omega | (simp; done) | (simp; omega)) _))); have hsz2 := hb2.size; (try simp at hsz2); have z_w_w2_0 : w.heap.size < w2.heap.size := (by omega)) | (go_at_call 35; refine (locks_any _ _ _ _ _ _ _ _ _ _ _ _ s _ (hs.below (by (repeat (first | exact Below.refl _ _ | assumption | refine Below.alloc ?_ (by first | omega | (simp; done) | (simp; omega)) _ | refine below_drewN ?_ _ | refine Below.drew ?_ | refine Below.setCell ?_ (by first | omega | (simp; done) | (simp; omega)) _))) (by first | omega | (simp; done) | (simp; omega)))).mono ?_; rintro e w3 ⟨rfl, hb3⟩; obtain ⟨hc3, hf3⟩ := bcell hb3; have hbb3 : Below w.heap.size w w3 := (by refine Below.trans ?_ (hb3.mono ?_); rotate_left; (focus (first | omega | (simp; done) | (simp; omega))); (repeat (first | exact Below.refl _ _ | assumption | refine Below.alloc ?_ (by first | omega | (simp; done) | (simp; omega)) _ | refine below_drewN ?_ _ | refine Below.drew ?_ | refine Below.setCell ?_ (by first | omega | (simp; done) | (simp; omega)) _))); have hsz3 := hb3.size; (try simp at hsz3); have z_w_w3_0 : w.heap.size < w3.heap.size := (by omega)))
    go_ret
    exact ⟨rfl, hbb2⟩
  cases h3 : locksB s.doubts s.locks
  · rw [chkF_no (by rw [hm, h1, h2, h3]; rfl)]
    clear hm
    go_enter Try.func12, Try.ntmps12
    go_wp2_with (first | (go_at_call 33; refine (items_any _ _ _ s.items _ (hs.1.below (Flat.stable _) (by (repeat (first | exact Below.refl _ _ | assumption | refine Below.alloc ?_ (by first | omega | (simp; done) | (simp; omega)) _ | refine below_drewN ?_ _ | refine Below.drew ?_ | refine Below.setCell ?_ (by first | omega | (simp; done) | (simp; omega)) _))) (by first | omega | (simp; done) | (simp; omega)))).mono ?_; rintro e w1 ⟨rfl, hb1⟩; obtain ⟨hc1, hf1⟩ := bcell hb1; have hbb1 : Below w.heap.size w w1 := (by refine Below.trans ?_ (hb1.mono ?_); rotate_left; (focus (first | omega | (simp; done) | (simp; omega))); (repeat (first | exact Below.refl _ _ | assumption | refine Below.alloc ?_ (by first | omega | (simp; done) | (simp; omega)) _ | refine below_drewN ?_ _ | refine Below.drew ?_ | refine Below.setCell ?_ (by first | omega | (simp; done) | (simp; omega)) _))); have hsz1 := hb1.size; (try simp at hsz1); have z_w_w1_0 : w.heap.size < w1.heap.size := (by omega)) | (go_at_call 34; refine (doubts_any _ _ _ _ _ _ _ _ _ _ _ _ s _ (hs.below (by (repeat (first | exact Below.refl _ _ | assumption | refine Below.alloc ?_ (by first | omega | (simp; done) | (simp; omega)) _ | refine below_drewN ?_ _ | refine Below.drew ?_ | refine Below.setCell ?_ (by first | omega | (simp; done) | (simp; omega)) _))) (by first | omega | (simp; done) | (simp; omega)))).mono ?_; rintro e w2 ⟨rfl, hb2⟩; obtain ⟨hc2, hf2⟩ := bcell hb2; have hbb2 : Below w.heap.size w w2 := (by refine Below.trans ?_ (hb2.mono ?_); rotate_left; (focus (first | omega | (simp; done) | (simp; omega))); (repeat (first | exact Below.refl _ _ | assumption | refine Below.alloc ?_ (by first | omega | (simp; done) | (simp; omega)) _ | refine below_drewN ?_ _ | refine Below.drew ?_ | refine Below.setCell ?_ (by first | omega | (simp; done) | (simp; omega)) _))); have hsz2 := hb2.size; (try simp at hsz2); have z_w_w2_0 : w.heap.size < w2.heap.size := (by omega)) | (go_at_call 35; refine (locks_any _ _ _ _ _ _ _ _ _ _ _ _ s _ (hs.below (by (repeat (first | exact Below.refl _ _ | assumption | refine Below.alloc ?_ (by first | omega | (simp; done) | (simp; omega)) _ | refine below_drewN ?_ _ | refine Below.drew ?_ | refine Below.setCell ?_ (by first | omega | (simp; done) | (simp; omega)) _))) (by first | omega | (simp; done) | (simp; omega)))).mono ?_; rintro e w3 ⟨rfl, hb3⟩; obtain ⟨hc3, hf3⟩ := bcell hb3; have hbb3 : Below w.heap.size w w3 := (by refine Below.trans ?_ (hb3.mono ?_); rotate_left; (focus (first | omega | (simp; done) | (simp; omega))); (repeat (first | exact Below.refl _ _ | assumption | refine Below.alloc ?_ (by first | omega | (simp; done) | (simp; omega)) _ | refine below_drewN ?_ _ | refine Below.drew ?_ | refine Below.setCell ?_ (by first | omega | (simp; done) | (simp; omega)) _))); have hsz3 := hb3.size; (try simp at hsz3); have z_w_w3_0 : w.heap.size < w3.heap.size := (by omega)))
    go_ret
    exact ⟨rfl, hbb3⟩
  · rw [chkF_yes (by rw [hm, h1, h2, h3]; rfl)]
    clear hm
    go_enter Try.func12, Try.ntmps12
    go_wp2_with (first | (go_at_call 33; refine (items_any _ _ _ s.items _ (hs.1.below (Flat.stable _) (by (repeat (first | exact Below.refl _ _ | assumption | refine Below.alloc ?_ (by first | omega | (simp; done) | (simp; omega)) _ | refine below_drewN ?_ _ | refine Below.drew ?_ | refine Below.setCell ?_ (by first | omega | (simp; done) | (simp; omega)) _))) (by first | omega | (simp; done) | (simp; omega)))).mono ?_; rintro e w1 ⟨rfl, hb1⟩; obtain ⟨hc1, hf1⟩ := bcell hb1; have hbb1 : Below w.heap.size w w1 := (by refine Below.trans ?_ (hb1.mono ?_); rotate_left; (focus (first | omega | (simp; done) | (simp; omega))); (repeat (first | exact Below.refl _ _ | assumption | refine Below.alloc ?_ (by first | omega | (simp; done) | (simp; omega)) _ | refine below_drewN ?_ _ | refine Below.drew ?_ | refine Below.setCell ?_ (by first | omega | (simp; done) | (simp; omega)) _))); have hsz1 := hb1.size; (try simp at hsz1); have z_w_w1_0 : w.heap.size < w1.heap.size := (by omega)) | (go_at_call 34; refine (doubts_any _ _ _ _ _ _ _ _ _ _ _ _ s _ (hs.below (by (repeat (first | exact Below.refl _ _ | assumption | refine Below.alloc ?_ (by first | omega | (simp; done) | (simp; omega)) _ | refine below_drewN ?_ _ | refine Below.drew ?_ | refine Below.setCell ?_ (by first | omega | (simp; done) | (simp; omega)) _))) (by first | omega | (simp; done) | (simp; omega)))).mono ?_; rintro e w2 ⟨rfl, hb2⟩; obtain ⟨hc2, hf2⟩ := bcell hb2; have hbb2 : Below w.heap.size w w2 := (by refine Below.trans ?_ (hb2.mono ?_); rotate_left; (focus (first | omega | (simp; done) | (simp; omega))); (repeat (first | exact Below.refl _ _ | assumption | refine Below.alloc ?_ (by first | omega | (simp; done) | (simp; omega)) _ | refine below_drewN ?_ _ | refine Below.drew ?_ | refine Below.setCell ?_ (by first | omega | (simp; done) | (simp; omega)) _))); have hsz2 := hb2.size; (try simp at hsz2); have z_w_w2_0 : w.heap.size < w2.heap.size := (by omega)) | (go_at_call 35; refine (locks_any _ _ _ _ _ _ _ _ _ _ _ _ s _ (hs.below (by (repeat (first | exact Below.refl _ _ | assumption | refine Below.alloc ?_ (by first | omega | (simp; done) | (simp; omega)) _ | refine below_drewN ?_ _ | refine Below.drew ?_ | refine Below.setCell ?_ (by first | omega | (simp; done) | (simp; omega)) _))) (by first | omega | (simp; done) | (simp; omega)))).mono ?_; rintro e w3 ⟨rfl, hb3⟩; obtain ⟨hc3, hf3⟩ := bcell hb3; have hbb3 : Below w.heap.size w w3 := (by refine Below.trans ?_ (hb3.mono ?_); rotate_left; (focus (first | omega | (simp; done) | (simp; omega))); (repeat (first | exact Below.refl _ _ | assumption | refine Below.alloc ?_ (by first | omega | (simp; done) | (simp; omega)) _ | refine below_drewN ?_ _ | refine Below.drew ?_ | refine Below.setCell ?_ (by first | omega | (simp; done) | (simp; omega)) _))); have hsz3 := hb3.size; (try simp at hsz3); have z_w_w3_0 : w.heap.size < w3.heap.size := (by omega)))
    go_ret
    exact ⟨rfl, hbb3⟩

set_option maxRecDepth 100000 in
set_option maxHeartbeats 1000000 in
theorem doubtOf_any (A1 : Option Addr) (n1 c1 : Nat) (A2 : Option Addr) (n2 c2 : Nat) (A3 : Option Addr) (n3 c3 : Nat) (A4 : Option Addr) (n4 c4 : Nat) (s : Sto) (a b : Int) (w : World) (hs : StoAt w w.heap.size A1 n1 c1 A2 n2 c2 A3 n3 c3 A4 n4 c4 s) :
    Calls Try.prog 37 #[.agg #[.slice A1 n1 c1, .slice A2 n2 c2, .slice A3 n3 c3, .slice A4 n4 c4], .agg #[.int .i64 a, .int .i64 b]] w fun e w' => e = .returned (.int .i64 (doubtIx s.doubts a b)) ∧ Below w.heap.size w w' := by
  have h := hs.2.2.1
  obtain ⟨hn, hnc⟩ := h.max63
  have HL := Lib.hid h.1
  obtain ⟨R, hR⟩ : ∃ R : Value, R = .int .i64 (doubtIx s.doubts a b) := ⟨_, rfl⟩
  rw [← hR]
  have HR := Lib.hid hR
  clear hR
  go_enter Try.func37, Try.ntmps37
  go_wp2_with fail
  go_loopw [5] (fun i wr => ∃ k m : Nat, k ≤ n3 ∧ i = .int .i64 k ∧ Hid (∀ j, j < k → eqT (((s.doubts.getD j sDoubt0).site, (s.doubts.getD j sDoubt0).num)).1 (((s.doubts.getD j sDoubt0).site, (s.doubts.getD j sDoubt0).num)).2 a b = false) ∧ wr = ((w.alloc (.cells #[.slice A1 n1 c1, .slice A2 n2 c2, .slice A3 n3 c3, .slice A4 n4 c4] 27)).alloc (.cells #[.int .i64 a, .int .i64 b] 32)).drewN m) (fun i _ => n3 - (intOf i).toNat)
  case atStart => exact ⟨0, 0, Nat.zero_le _, rfl, fun j hj => absurd hj (Nat.not_lt_zero _), rfl⟩
  case round =>
    obtain ⟨k, m, hk, rfl, HS, rfl⟩ := hrel
    by_cases hlt : k < n3
    · obtain ⟨bb, off, rfl, hbB, hcell⟩ := h.cells hlt
      have z1 : bb ≠ w.heap.size := by omega
      have z2 : bb ≠ w.heap.size + 1 := by omega
      have z3 : bb < w.heap.size + 1 := by omega
      have x0 := hcell k hlt
      have hlk : k < (s.doubts).length := by have := HL.out; omega
      clear hcell
      have hk1 : (k : Int) < n3 := by omega
      obtain ⟨y, hy⟩ : ∃ y, y = (s.doubts).getD k sDoubt0 := ⟨_, rfl⟩
      rw [← hy] at x0
      have HY := Lib.hid hy
      clear hy
      obtain ⟨x00, x01, x02⟩ := x0
      by_cases e1 : y.site = a
      · by_cases e2 : y.num = b
        · have HQ := Lib.hid (eqT_mk e1 e2)
          go_wp2_with fail
          go_quiet (fail)
          go_wp2_with fail
          go_ret
          refine ⟨(congrArg Ending.returned (HR.out.trans ?_)).symm, by (repeat (first | exact Below.refl _ _ | assumption | refine Below.alloc ?_ (by first | omega | (simp; done) | (simp; omega)) _ | refine below_drewN ?_ _ | refine Below.drew ?_ | refine Below.setCell ?_ (by first | omega | (simp; done) | (simp; omega)) _))⟩
          exact congrArg (Value.int .i64) (ixN_hit hlk (by show eqT (s.doubts.getD k sDoubt0).site (s.doubts.getD k sDoubt0).num a b = true; rw [← HY.out]; exact HQ.out) HS.out)
        · have HQ := Lib.hid (eqT_no (a := y.site) (b := y.num) (c := a) (d := b) (by omega))
          go_wp2_with fail
          go_quiet (fail)
          go_wp2_with fail
          go_roundw
          case rel => exact ⟨k + 1, _, by omega, by go_num, (fun j hj => by rcases Nat.lt_or_ge j k with h1 | h1; exact HS.out j h1; obtain rfl : j = k := (by omega); show eqT ((s.doubts).getD j sDoubt0).site ((s.doubts).getD j sDoubt0).num a b = false; rw [← HY.out]; exact HQ.out), rfl⟩
          case measure => simp [intOf]; omega
      · have HQ := Lib.hid (eqT_no (a := y.site) (b := y.num) (c := a) (d := b) (by omega))
        go_wp2_with fail
        go_quiet (fail)
        go_wp2_with fail
        go_roundw
        case rel => exact ⟨k + 1, _, by omega, by go_num, (fun j hj => by rcases Nat.lt_or_ge j k with h1 | h1; exact HS.out j h1; obtain rfl : j = k := (by omega); show eqT ((s.doubts).getD j sDoubt0).site ((s.doubts).getD j sDoubt0).num a b = false; rw [← HY.out]; exact HQ.out), rfl⟩
        case measure => simp [intOf]; omega
    · obtain rfl : n3 = k := by omega
      go_wp2_with fail
      go_ret
      refine ⟨(congrArg Ending.returned (HR.out.trans ?_)).symm, by (repeat (first | exact Below.refl _ _ | assumption | refine Below.alloc ?_ (by first | omega | (simp; done) | (simp; omega)) _ | refine below_drewN ?_ _ | refine Below.drew ?_ | refine Below.setCell ?_ (by first | omega | (simp; done) | (simp; omega)) _))⟩
      exact congrArg (Value.int .i64) (ixN_miss (fun j hj => HS.out j (by have := HL.out; omega)))

set_option maxRecDepth 100000 in
set_option maxHeartbeats 1000000 in
theorem isOver_any (A1 : Option Addr) (n1 c1 : Nat) (A2 : Option Addr) (n2 c2 : Nat) (A3 : Option Addr) (n3 c3 : Nat) (A4 : Option Addr) (n4 c4 : Nat) (s : Sto) (a b : Int) (w : World) (hs : StoAt w w.heap.size A1 n1 c1 A2 n2 c2 A3 n3 c3 A4 n4 c4 s) :
    Calls Try.prog 39 #[.agg #[.slice A1 n1 c1, .slice A2 n2 c2, .slice A3 n3 c3, .slice A4 n4 c4], .agg #[.int .i64 a, .int .i64 b]] w fun e w' => e = .returned (.bool (decide (0 ≤ overIx s.over a b))) ∧ Below w.heap.size w w' := by
  have h := hs.2.2.2
  obtain ⟨hn, hnc⟩ := h.max63
  have HL := Lib.hid h.1
  obtain ⟨R, hR⟩ : ∃ R : Value, R = .bool (decide (0 ≤ overIx s.over a b)) := ⟨_, rfl⟩
  rw [← hR]
  have HR := Lib.hid hR
  clear hR
  go_enter Try.func39, Try.ntmps39
  go_wp2_with fail
  go_loopw [5] (fun i wr => ∃ k m : Nat, k ≤ n4 ∧ i = .int .i64 k ∧ Hid (∀ j, j < k → eqT (s.over.getD j (0, 0)).1 (s.over.getD j (0, 0)).2 a b = false) ∧ wr = ((w.alloc (.cells #[.slice A1 n1 c1, .slice A2 n2 c2, .slice A3 n3 c3, .slice A4 n4 c4] 27)).alloc (.cells #[.int .i64 a, .int .i64 b] 32)).drewN m) (fun i _ => n4 - (intOf i).toNat)
  case atStart => exact ⟨0, 0, Nat.zero_le _, rfl, fun j hj => absurd hj (Nat.not_lt_zero _), rfl⟩
  case round =>
    obtain ⟨k, m, hk, rfl, HS, rfl⟩ := hrel
    by_cases hlt : k < n4
    · obtain ⟨bb, off, rfl, hbB, hcell⟩ := h.cells hlt
      have z1 : bb ≠ w.heap.size := by omega
      have z2 : bb ≠ w.heap.size + 1 := by omega
      have z3 : bb < w.heap.size + 1 := by omega
      have x0 := hcell k hlt
      have hlk : k < (s.over).length := by have := HL.out; omega
      clear hcell
      have hk1 : (k : Int) < n4 := by omega
      obtain ⟨y, hy⟩ : ∃ y, y = (s.over).getD k (0, 0) := ⟨_, rfl⟩
      rw [← hy] at x0
      have HY := Lib.hid hy
      clear hy
      obtain ⟨x00, x01⟩ := x0
      by_cases e1 : y.1 = a
      · by_cases e2 : y.2 = b
        · have HQ := Lib.hid (eqT_mk e1 e2)
          go_wp2_with fail
          go_quiet (fail)
          go_wp2_with fail
          go_ret
          refine ⟨(congrArg Ending.returned (HR.out.trans ?_)).symm, by (repeat (first | exact Below.refl _ _ | assumption | refine Below.alloc ?_ (by first | omega | (simp; done) | (simp; omega)) _ | refine below_drewN ?_ _ | refine Below.drew ?_ | refine Below.setCell ?_ (by first | omega | (simp; done) | (simp; omega)) _))⟩
          rw [show overIx s.over a b = (k : Int) from ixN_hit hlk (by show eqT (s.over.getD k (0, 0)).1 (s.over.getD k (0, 0)).2 a b = true; rw [← HY.out]; exact HQ.out) HS.out]; simp
        · have HQ := Lib.hid (eqT_no (a := y.1) (b := y.2) (c := a) (d := b) (by omega))
          go_wp2_with fail
          go_quiet (fail)
          go_wp2_with fail
          go_roundw
          case rel => exact ⟨k + 1, _, by omega, by go_num, (fun j hj => by rcases Nat.lt_or_ge j k with h1 | h1; exact HS.out j h1; obtain rfl : j = k := (by omega); show eqT ((s.over).getD j (0, 0)).1 ((s.over).getD j (0, 0)).2 a b = false; rw [← HY.out]; exact HQ.out), rfl⟩
          case measure => simp [intOf]; omega
      · have HQ := Lib.hid (eqT_no (a := y.1) (b := y.2) (c := a) (d := b) (by omega))
        go_wp2_with fail
        go_quiet (fail)
        go_wp2_with fail
        go_roundw
        case rel => exact ⟨k + 1, _, by omega, by go_num, (fun j hj => by rcases Nat.lt_or_ge j k with h1 | h1; exact HS.out j h1; obtain rfl : j = k := (by omega); show eqT ((s.over).getD j (0, 0)).1 ((s.over).getD j (0, 0)).2 a b = false; rw [← HY.out]; exact HQ.out), rfl⟩
        case measure => simp [intOf]; omega
    · obtain rfl : n4 = k := by omega
      go_wp2_with fail
      go_ret
      refine ⟨(congrArg Ending.returned (HR.out.trans ?_)).symm, by (repeat (first | exact Below.refl _ _ | assumption | refine Below.alloc ?_ (by first | omega | (simp; done) | (simp; omega)) _ | refine below_drewN ?_ _ | refine Below.drew ?_ | refine Below.setCell ?_ (by first | omega | (simp; done) | (simp; omega)) _))⟩
      rw [show overIx s.over a b = -1 from ixN_miss (fun j hj => HS.out j (by have := HL.out; omega))]; rfl

end Go.Proofs.Ytoalcmpjfnlkdaa
