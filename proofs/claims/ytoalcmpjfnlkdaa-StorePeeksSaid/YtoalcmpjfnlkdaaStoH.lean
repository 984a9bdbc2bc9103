/- store.call, askFault; Writes and its reference. -/
import Derived.Test.YtoalcmpjfnlkdaaStoF
import Derived.Test.YtoalcmpjfnlkdaaStoI
namespace Go.Proofs.Ytoalcmpjfnlkdaa
open Go.RowKit Go.ChangeShapes Go.WideShapes Go.Deep

def callF (s : Sto) (a b key : Int) : Int := if mayB s = false then 9 else if txnOk a b = false ∨ inB key 0 7 = false then 2 else 0
theorem callF_ok {s : Sto} {a b key : Int} (h : callF s a b key = 0) : mayB s = true ∧ txnOk a b = true ∧ inB key 0 7 = true := by
  unfold callF at h
  split at h
  · cases h
  split at h
  · cases h
  rename_i h1 h2
  refine ⟨by simpa using h1, ?_, ?_⟩
  · cases hx : txnOk a b
    · exact absurd (.inl hx) h2
    · rfl
  · cases hx : inB key 0 7
    · exact absurd (.inr hx) h2
    · rfl

set_option maxRecDepth 100000 in
set_option maxHeartbeats 1000000 in
theorem call_any (A1 : Option Addr) (n1 c1 : Nat) (A2 : Option Addr) (n2 c2 : Nat) (A3 : Option Addr) (n3 c3 : Nat) (A4 : Option Addr) (n4 c4 : Nat) (s : Sto) (a b key : Int) (w : World) (hs : StoAt w w.heap.size A1 n1 c1 A2 n2 c2 A3 n3 c3 A4 n4 c4 s) :
    Calls Try.prog 40 #[.agg #[.slice A1 n1 c1, .slice A2 n2 c2, .slice A3 n3 c3, .slice A4 n4 c4], .agg #[.int .i64 a, .int .i64 b], .int .i64 key] w fun e w' => e = .returned (.int .i64 (callF s a b key)) ∧ Below w.heap.size w w' := by
  cases hm : mayB s
  · rw [show callF s a b key = 9 by unfold callF; rw [if_pos hm]]
    have hc := chkF_no hm
    go_enter Try.func40, Try.ntmps40
    go_wp2_with (first | (go_at_call 12; refine (check_any_s _ _ _ _ _ _ _ _ _ _ _ _ s _ (hs.below (by (repeat (first | exact Below.refl _ _ | assumption | refine Below.alloc ?_ (by first | omega | (simp; done) | (simp; omega)) _ | refine below_drewN ?_ _ | refine Below.drew ?_ | refine Below.setCell ?_ (by first | omega | (simp; done) | (simp; omega)) _))) (by first | omega | (simp; done) | (simp; omega)))).mono ?_; rintro e w1 ⟨rfl, hb1⟩; obtain ⟨hc1, hf1⟩ := bcell hb1; have hbb1 : Below w.heap.size w w1 := (by refine Below.trans ?_ (hb1.mono ?_); rotate_left; (focus (first | omega | (simp; done) | (simp; omega))); (repeat (first | exact Below.refl _ _ | assumption | refine Below.alloc ?_ (by first | omega | (simp; done) | (simp; omega)) _ | refine below_drewN ?_ _ | refine Below.drew ?_ | refine Below.setCell ?_ (by first | omega | (simp; done) | (simp; omega)) _))); have hsz1 := hb1.size; (try simp at hsz1); have z_w_w1_0 : w.heap.size < w1.heap.size := (by omega); have z_w_w1_1 : w.heap.size + 1 < w1.heap.size := (by omega)) | (go_at_call 62; refine (stxn_any _ _ _).mono ?_; rintro e w9 ⟨rfl, rfl⟩))
    go_ret
    exact ⟨rfl, by (repeat (first | exact Below.refl _ _ | assumption | refine Below.alloc ?_ (by first | omega | (simp; done) | (simp; omega)) _ | refine below_drewN ?_ _ | refine Below.drew ?_ | refine Below.setCell ?_ (by first | omega | (simp; done) | (simp; omega)) _))⟩
  have hc := chkF_yes hm
  cases hT : txnOk a b
  · rw [show callF s a b key = 2 by unfold callF; rw [if_neg (by rw [hm]; simp), if_pos (.inl hT)]]
    go_enter Try.func40, Try.ntmps40
    go_wp2_with (first | (go_at_call 12; refine (check_any_s _ _ _ _ _ _ _ _ _ _ _ _ s _ (hs.below (by (repeat (first | exact Below.refl _ _ | assumption | refine Below.alloc ?_ (by first | omega | (simp; done) | (simp; omega)) _ | refine below_drewN ?_ _ | refine Below.drew ?_ | refine Below.setCell ?_ (by first | omega | (simp; done) | (simp; omega)) _))) (by first | omega | (simp; done) | (simp; omega)))).mono ?_; rintro e w1 ⟨rfl, hb1⟩; obtain ⟨hc1, hf1⟩ := bcell hb1; have hbb1 : Below w.heap.size w w1 := (by refine Below.trans ?_ (hb1.mono ?_); rotate_left; (focus (first | omega | (simp; done) | (simp; omega))); (repeat (first | exact Below.refl _ _ | assumption | refine Below.alloc ?_ (by first | omega | (simp; done) | (simp; omega)) _ | refine below_drewN ?_ _ | refine Below.drew ?_ | refine Below.setCell ?_ (by first | omega | (simp; done) | (simp; omega)) _))); have hsz1 := hb1.size; (try simp at hsz1); have z_w_w1_0 : w.heap.size < w1.heap.size := (by omega); have z_w_w1_1 : w.heap.size + 1 < w1.heap.size := (by omega)) | (go_at_call 62; refine (stxn_any _ _ _).mono ?_; rintro e w9 ⟨rfl, rfl⟩))
    go_ret
    exact ⟨rfl, by (repeat (first | exact Below.refl _ _ | assumption | refine Below.alloc ?_ (by first | omega | (simp; done) | (simp; omega)) _ | refine below_drewN ?_ _ | refine Below.drew ?_ | refine Below.setCell ?_ (by first | omega | (simp; done) | (simp; omega)) _))⟩
  cases hK : inB key 0 7
  · rw [show callF s a b key = 2 by unfold callF; rw [if_neg (by rw [hm]; simp), if_pos (.inr hK)]]
    have hK2 := inB_false hK
    clear hK
    rcases hK2 with hK2 | hK2
    all_goals
      go_enter Try.func40, Try.ntmps40
      go_wp2_with (first | (go_at_call 12; refine (check_any_s _ _ _ _ _ _ _ _ _ _ _ _ s _ (hs.below (by (repeat (first | exact Below.refl _ _ | assumption | refine Below.alloc ?_ (by first | omega | (simp; done) | (simp; omega)) _ | refine below_drewN ?_ _ | refine Below.drew ?_ | refine Below.setCell ?_ (by first | omega | (simp; done) | (simp; omega)) _))) (by first | omega | (simp; done) | (simp; omega)))).mono ?_; rintro e w1 ⟨rfl, hb1⟩; obtain ⟨hc1, hf1⟩ := bcell hb1; have hbb1 : Below w.heap.size w w1 := (by refine Below.trans ?_ (hb1.mono ?_); rotate_left; (focus (first | omega | (simp; done) | (simp; omega))); (repeat (first | exact Below.refl _ _ | assumption | refine Below.alloc ?_ (by first | omega | (simp; done) | (simp; omega)) _ | refine below_drewN ?_ _ | refine Below.drew ?_ | refine Below.setCell ?_ (by first | omega | (simp; done) | (simp; omega)) _))); have hsz1 := hb1.size; (try simp at hsz1); have z_w_w1_0 : w.heap.size < w1.heap.size := (by omega); have z_w_w1_1 : w.heap.size + 1 < w1.heap.size := (by omega)) | (go_at_call 62; refine (stxn_any _ _ _).mono ?_; rintro e w9 ⟨rfl, rfl⟩))
      go_ret
      exact ⟨rfl, by (repeat (first | exact Below.refl _ _ | assumption | refine Below.alloc ?_ (by first | omega | (simp; done) | (simp; omega)) _ | refine below_drewN ?_ _ | refine Below.drew ?_ | refine Below.setCell ?_ (by first | omega | (simp; done) | (simp; omega)) _))⟩
  · rw [show callF s a b key = 0 by unfold callF; rw [if_neg (by rw [hm]; simp), if_neg (by rw [hT, hK]; simp)]]
    obtain ⟨hK1, hK2⟩ := inB_true hK
    clear hK
    go_enter Try.func40, Try.ntmps40
    go_wp2_with (first | (go_at_call 12; refine (check_any_s _ _ _ _ _ _ _ _ _ _ _ _ s _ (hs.below (by (repeat (first | exact Below.refl _ _ | assumption | refine Below.alloc ?_ (by first | omega | (simp; done) | (simp; omega)) _ | refine below_drewN ?_ _ | refine Below.drew ?_ | refine Below.setCell ?_ (by first | omega | (simp; done) | (simp; omega)) _))) (by first | omega | (simp; done) | (simp; omega)))).mono ?_; rintro e w1 ⟨rfl, hb1⟩; obtain ⟨hc1, hf1⟩ := bcell hb1; have hbb1 : Below w.heap.size w w1 := (by refine Below.trans ?_ (hb1.mono ?_); rotate_left; (focus (first | omega | (simp; done) | (simp; omega))); (repeat (first | exact Below.refl _ _ | assumption | refine Below.alloc ?_ (by first | omega | (simp; done) | (simp; omega)) _ | refine below_drewN ?_ _ | refine Below.drew ?_ | refine Below.setCell ?_ (by first | omega | (simp; done) | (simp; omega)) _))); have hsz1 := hb1.size; (try simp at hsz1); have z_w_w1_0 : w.heap.size < w1.heap.size := (by omega); have z_w_w1_1 : w.heap.size + 1 < w1.heap.size := (by omega)) | (go_at_call 62; refine (stxn_any _ _ _).mono ?_; rintro e w9 ⟨rfl, rfl⟩))
    go_ret
    exact ⟨rfl, by (repeat (first | exact Below.refl _ _ | assumption | refine Below.alloc ?_ (by first | omega | (simp; done) | (simp; omega)) _ | refine below_drewN ?_ _ | refine Below.drew ?_ | refine Below.setCell ?_ (by first | omega | (simp; done) | (simp; omega)) _))⟩

set_option maxRecDepth 100000 in
set_option maxHeartbeats 1000000 in
theorem askFault_any (A1 : Option Addr) (n1 c1 : Nat) (A2 : Option Addr) (n2 c2 : Nat) (A3 : Option Addr) (n3 c3 : Nat) (A4 : Option Addr) (n4 c4 : Nat) (s : Sto) (a b key : Int) (w : World) (hs : StoAt w w.heap.size A1 n1 c1 A2 n2 c2 A3 n3 c3 A4 n4 c4 s) :
    Calls Try.prog 41 #[.agg #[.slice A1 n1 c1, .slice A2 n2 c2, .slice A3 n3 c3, .slice A4 n4 c4], .agg #[.int .i64 a, .int .i64 b], .int .i64 key] w fun e w' => e = .returned (.int .i64 (callF s a b key)) ∧ Below w.heap.size w w' := by
  cases hm : mayB s
  · rw [show callF s a b key = 9 by unfold callF; rw [if_pos hm]]
    have hc := chkF_no hm
    go_enter Try.func41, Try.ntmps41
    go_wp2_with (first | (go_at_call 13; refine (storeMay_any _ _ _ _ _ _ _ _ _ _ _ _ s _ (hs.below (by (repeat (first | exact Below.refl _ _ | assumption | refine Below.alloc ?_ (by first | omega | (simp; done) | (simp; omega)) _ | refine below_drewN ?_ _ | refine Below.drew ?_ | refine Below.setCell ?_ (by first | omega | (simp; done) | (simp; omega)) _))) (by first | omega | (simp; done) | (simp; omega)))).mono ?_; rintro e w1 ⟨rfl, hb1⟩; obtain ⟨hc1, hf1⟩ := bcell hb1; have hbb1 : Below w.heap.size w w1 := (by refine Below.trans ?_ (hb1.mono ?_); rotate_left; (focus (first | omega | (simp; done) | (simp; omega))); (repeat (first | exact Below.refl _ _ | assumption | refine Below.alloc ?_ (by first | omega | (simp; done) | (simp; omega)) _ | refine below_drewN ?_ _ | refine Below.drew ?_ | refine Below.setCell ?_ (by first | omega | (simp; done) | (simp; omega)) _))); have hsz1 := hb1.size; (try simp at hsz1); have z_w_w1_0 : w.heap.size < w1.heap.size := (by omega); have z_w_w1_1 : w.heap.size + 1 < w1.heap.size := (by omega)) | (go_at_call 38; refine (plainTxn_any _ _ _).mono ?_; rintro e w0 ⟨rfl, rfl⟩) | (go_at_call 36; refine (in_any _ _ _ _).mono ?_; rintro e w9 ⟨rfl, rfl⟩))
    go_ret
    exact ⟨rfl, by (repeat (first | exact Below.refl _ _ | assumption | refine Below.alloc ?_ (by first | omega | (simp; done) | (simp; omega)) _ | refine below_drewN ?_ _ | refine Below.drew ?_ | refine Below.setCell ?_ (by first | omega | (simp; done) | (simp; omega)) _))⟩
  have hc := chkF_yes hm
  cases hT : txnOk a b
  · rw [show callF s a b key = 2 by unfold callF; rw [if_neg (by rw [hm]; simp), if_pos (.inl hT)]]
    go_enter Try.func41, Try.ntmps41
    go_wp2_with (first | (go_at_call 13; refine (storeMay_any _ _ _ _ _ _ _ _ _ _ _ _ s _ (hs.below (by (repeat (first | exact Below.refl _ _ | assumption | refine Below.alloc ?_ (by first | omega | (simp; done) | (simp; omega)) _ | refine below_drewN ?_ _ | refine Below.drew ?_ | refine Below.setCell ?_ (by first | omega | (simp; done) | (simp; omega)) _))) (by first | omega | (simp; done) | (simp; omega)))).mono ?_; rintro e w1 ⟨rfl, hb1⟩; obtain ⟨hc1, hf1⟩ := bcell hb1; have hbb1 : Below w.heap.size w w1 := (by refine Below.trans ?_ (hb1.mono ?_); rotate_left; (focus (first | omega | (simp; done) | (simp; omega))); (repeat (first | exact Below.refl _ _ | assumption | refine Below.alloc ?_ (by first | omega | (simp; done) | (simp; omega)) _ | refine below_drewN ?_ _ | refine Below.drew ?_ | refine Below.setCell ?_ (by first | omega | (simp; done) | (simp; omega)) _))); have hsz1 := hb1.size; (try simp at hsz1); have z_w_w1_0 : w.heap.size < w1.heap.size := (by omega); have z_w_w1_1 : w.heap.size + 1 < w1.heap.size := (by omega)) | (go_at_call 38; refine (plainTxn_any _ _ _).mono ?_; rintro e w0 ⟨rfl, rfl⟩) | (go_at_call 36; refine (in_any _ _ _ _).mono ?_; rintro e w9 ⟨rfl, rfl⟩))
    go_ret
    exact ⟨rfl, by (repeat (first | exact Below.refl _ _ | assumption | refine Below.alloc ?_ (by first | omega | (simp; done) | (simp; omega)) _ | refine below_drewN ?_ _ | refine Below.drew ?_ | refine Below.setCell ?_ (by first | omega | (simp; done) | (simp; omega)) _))⟩
  cases hK : inB key 0 7
  · rw [show callF s a b key = 2 by unfold callF; rw [if_neg (by rw [hm]; simp), if_pos (.inr hK)]]
    skip
    go_enter Try.func41, Try.ntmps41
    go_wp2_with (first | (go_at_call 13; refine (storeMay_any _ _ _ _ _ _ _ _ _ _ _ _ s _ (hs.below (by (repeat (first | exact Below.refl _ _ | assumption | refine Below.alloc ?_ (by first | omega | (simp; done) | (simp; omega)) _ | refine below_drewN ?_ _ | refine Below.drew ?_ | refine Below.setCell ?_ (by first | omega | (simp; done) | (simp; omega)) _))) (by first | omega | (simp; done) | (simp; omega)))).mono ?_; rintro e w1 ⟨rfl, hb1⟩; obtain ⟨hc1, hf1⟩ := bcell hb1; have hbb1 : Below w.heap.size w w1 := (by refine Below.trans ?_ (hb1.mono ?_); rotate_left; (focus (first | omega | (simp; done) | (simp; omega))); (repeat (first | exact Below.refl _ _ | assumption | refine Below.alloc ?_ (by first | omega | (simp; done) | (simp; omega)) _ | refine below_drewN ?_ _ | refine Below.drew ?_ | refine Below.setCell ?_ (by first | omega | (simp; done) | (simp; omega)) _))); have hsz1 := hb1.size; (try simp at hsz1); have z_w_w1_0 : w.heap.size < w1.heap.size := (by omega); have z_w_w1_1 : w.heap.size + 1 < w1.heap.size := (by omega)) | (go_at_call 38; refine (plainTxn_any _ _ _).mono ?_; rintro e w0 ⟨rfl, rfl⟩) | (go_at_call 36; refine (in_any _ _ _ _).mono ?_; rintro e w9 ⟨rfl, rfl⟩))
    go_ret
    exact ⟨rfl, by (repeat (first | exact Below.refl _ _ | assumption | refine Below.alloc ?_ (by first | omega | (simp; done) | (simp; omega)) _ | refine below_drewN ?_ _ | refine Below.drew ?_ | refine Below.setCell ?_ (by first | omega | (simp; done) | (simp; omega)) _))⟩
  · rw [show callF s a b key = 0 by unfold callF; rw [if_neg (by rw [hm]; simp), if_neg (by rw [hT, hK]; simp)]]
    skip
    go_enter Try.func41, Try.ntmps41
    go_wp2_with (first | (go_at_call 13; refine (storeMay_any _ _ _ _ _ _ _ _ _ _ _ _ s _ (hs.below (by (repeat (first | exact Below.refl _ _ | assumption | refine Below.alloc ?_ (by first | omega | (simp; done) | (simp; omega)) _ | refine below_drewN ?_ _ | refine Below.drew ?_ | refine Below.setCell ?_ (by first | omega | (simp; done) | (simp; omega)) _))) (by first | omega | (simp; done) | (simp; omega)))).mono ?_; rintro e w1 ⟨rfl, hb1⟩; obtain ⟨hc1, hf1⟩ := bcell hb1; have hbb1 : Below w.heap.size w w1 := (by refine Below.trans ?_ (hb1.mono ?_); rotate_left; (focus (first | omega | (simp; done) | (simp; omega))); (repeat (first | exact Below.refl _ _ | assumption | refine Below.alloc ?_ (by first | omega | (simp; done) | (simp; omega)) _ | refine below_drewN ?_ _ | refine Below.drew ?_ | refine Below.setCell ?_ (by first | omega | (simp; done) | (simp; omega)) _))); have hsz1 := hb1.size; (try simp at hsz1); have z_w_w1_0 : w.heap.size < w1.heap.size := (by omega); have z_w_w1_1 : w.heap.size + 1 < w1.heap.size := (by omega)) | (go_at_call 38; refine (plainTxn_any _ _ _).mono ?_; rintro e w0 ⟨rfl, rfl⟩) | (go_at_call 36; refine (in_any _ _ _ _).mono ?_; rintro e w9 ⟨rfl, rfl⟩))
    go_ret
    exact ⟨rfl, by (repeat (first | exact Below.refl _ _ | assumption | refine Below.alloc ?_ (by first | omega | (simp; done) | (simp; omega)) _ | refine below_drewN ?_ _ | refine Below.drew ?_ | refine Below.setCell ?_ (by first | omega | (simp; done) | (simp; omega)) _))⟩

def mineW (l : List SLock) (a b : Int) (k : Nat) : Bool := eqT (l.getD k sLock0).site (l.getD k sLock0).num a b && (l.getD k sLock0).write
def writesF (s : Sto) (a b : Int) : Int × Int := if callF s a b 0 = 0 then (((cntN (mineW s.locks a b) s.locks.length : Nat) : Int), 0) else (0, callF s a b 0)

set_option maxRecDepth 100000 in
set_option maxHeartbeats 2000000 in
theorem writes_any (A1 : Option Addr) (n1 c1 : Nat) (A2 : Option Addr) (n2 c2 : Nat) (A3 : Option Addr) (n3 c3 : Nat) (A4 : Option Addr) (n4 c4 : Nat) (s : Sto) (a b : Int) (w : World) (hs : StoAt w w.heap.size A1 n1 c1 A2 n2 c2 A3 n3 c3 A4 n4 c4 s) :
    Calls Try.prog 14 #[.agg #[.slice A1 n1 c1, .slice A2 n2 c2, .slice A3 n3 c3, .slice A4 n4 c4], .agg #[.int .i64 a, .int .i64 b]] w fun e w' => e = .returned (.tuple #[.int .i64 (writesF s a b).1, .int .i64 (writesF s a b).2]) ∧ Below w.heap.size w w' := by
  have h := hs.2.1
  obtain ⟨hn, hnc⟩ := h.max63
  have HL := Lib.hid h.1
  by_cases hC : callF s a b 0 = 0
  rotate_left
  · rw [show writesF s a b = (0, callF s a b 0) by unfold writesF; rw [if_neg hC]]
    go_enter Try.func14, Try.ntmps14
    go_wp2_with (go_at_call 40; refine (call_any _ _ _ _ _ _ _ _ _ _ _ _ s _ _ _ _ (hs.below (by (repeat (first | exact Below.refl _ _ | assumption | refine Below.alloc ?_ (by first | omega | (simp; done) | (simp; omega)) _ | refine below_drewN ?_ _ | refine Below.drew ?_ | refine Below.setCell ?_ (by first | omega | (simp; done) | (simp; omega)) _))) (by first | omega | (simp; done) | (simp; omega)))).mono ?_; rintro e w1 ⟨rfl, hb1⟩; obtain ⟨hc1, hf1⟩ := bcell hb1; have hbb1 : Below w.heap.size w w1 := (by refine Below.trans ?_ (hb1.mono ?_); rotate_left; (focus (first | omega | (simp; done) | (simp; omega))); (repeat (first | exact Below.refl _ _ | assumption | refine Below.alloc ?_ (by first | omega | (simp; done) | (simp; omega)) _ | refine below_drewN ?_ _ | refine Below.drew ?_ | refine Below.setCell ?_ (by first | omega | (simp; done) | (simp; omega)) _))); have hsz1 := hb1.size; (try simp at hsz1); have z_w_w1_0 : w.heap.size < w1.heap.size := (by omega); have z_w_w1_1 : w.heap.size + 1 < w1.heap.size := (by omega))
    go_ret2
    exact ⟨rfl, by (repeat (first | exact Below.refl _ _ | assumption | refine Below.alloc ?_ (by first | omega | (simp; done) | (simp; omega)) _ | refine below_drewN ?_ _ | refine Below.drew ?_ | refine Below.setCell ?_ (by first | omega | (simp; done) | (simp; omega)) _))⟩
  rw [show writesF s a b = (((cntN (mineW s.locks a b) n2 : Nat) : Int), 0) by unfold writesF; rw [if_pos hC, HL.out]]
  go_enter Try.func14, Try.ntmps14
  go_wp2_with (go_at_call 40; refine (call_any _ _ _ _ _ _ _ _ _ _ _ _ s _ _ _ _ (hs.below (by (repeat (first | exact Below.refl _ _ | assumption | refine Below.alloc ?_ (by first | omega | (simp; done) | (simp; omega)) _ | refine below_drewN ?_ _ | refine Below.drew ?_ | refine Below.setCell ?_ (by first | omega | (simp; done) | (simp; omega)) _))) (by first | omega | (simp; done) | (simp; omega)))).mono ?_; rintro e w1 ⟨rfl, hb1⟩; obtain ⟨hc1, hf1⟩ := bcell hb1; have hbb1 : Below w.heap.size w w1 := (by refine Below.trans ?_ (hb1.mono ?_); rotate_left; (focus (first | omega | (simp; done) | (simp; omega))); (repeat (first | exact Below.refl _ _ | assumption | refine Below.alloc ?_ (by first | omega | (simp; done) | (simp; omega)) _ | refine below_drewN ?_ _ | refine Below.drew ?_ | refine Below.setCell ?_ (by first | omega | (simp; done) | (simp; omega)) _))); have hsz1 := hb1.size; (try simp at hsz1); have z_w_w1_0 : w.heap.size < w1.heap.size := (by omega); have z_w_w1_1 : w.heap.size + 1 < w1.heap.size := (by omega))
  go_loopw [7, 19] (fun u i wr => ∃ k : Nat, k ≤ n2 ∧ i = .int .i64 k ∧ u = .int .i64 (cntN (mineW s.locks a b) k : Nat) ∧ Below w1.heap.size w1 wr) (fun _ i _ => n2 - (intOf i).toNat)
  case atStart => exact ⟨0, Nat.zero_le _, rfl, rfl, Below.refl _ _⟩
  case round =>
    obtain ⟨k, hk, rfl, rfl, hb⟩ := hrel
    obtain ⟨hc, hf⟩ := bcell hb
    have hsz := hb.size
    have z0 : w.heap.size < wr.heap.size := by omega
    have z1 : w.heap.size + 1 < wr.heap.size := by omega
    have hbw : Below w.heap.size w wr := hbb1.trans (hb.mono hbb1.size)
    have c1 := cntN_le (mineW s.locks a b) k
    by_cases hlt : k < n2
    · obtain ⟨bb, off, rfl, hbB, hcell⟩ := h.cells hlt
      have z2 : bb < wr.heap.size := by omega
      have z3 : bb < w1.heap.size := by omega
      have z4 : bb < w.heap.size + 1 + 1 := by omega
      have x0 := hcell k hlt
      clear hcell
      have hk1 : (k : Int) < n2 := by omega
      obtain ⟨y, hy⟩ : ∃ y, y = s.locks.getD k sLock0 := ⟨_, rfl⟩
      rw [← hy] at x0
      have HY := Lib.hid hy
      clear hy
      obtain ⟨x00, x01, x02, x03, x04, x05⟩ := x0
      cases eT : eqT y.site y.num a b
      · have eT' := eqT_false eT
        have HQ := Lib.hid (show (eqT y.site y.num a b && y.write) = false by rw [eT]; rfl)
        clear eT
        by_cases e1 : y.site = a
        · have e2 : ¬ y.num = b := fun h => eT' ⟨e1, h⟩
          clear eT'
          go_wp2_with fail
          go_roundw
          case rel => exact ⟨k + 1, by omega, by go_num, (by first | (rw [cntN_miss (by unfold mineW; rw [← HY.out]; exact HQ.out)]; done) | (rw [cntN_miss (by unfold mineW; rw [← HY.out]; exact HQ.out)]; go_num)), by (repeat (first | exact Below.refl _ _ | assumption | refine Below.alloc ?_ (by first | omega | (simp; done) | (simp; omega)) _ | refine below_drewN ?_ _ | refine Below.drew ?_ | refine Below.setCell ?_ (by first | omega | (simp; done) | (simp; omega)) _))⟩
          case measure => simp [intOf]; omega
        · clear eT'
          go_wp2_with fail
          go_roundw
          case rel => exact ⟨k + 1, by omega, by go_num, (by first | (rw [cntN_miss (by unfold mineW; rw [← HY.out]; exact HQ.out)]; done) | (rw [cntN_miss (by unfold mineW; rw [← HY.out]; exact HQ.out)]; go_num)), by (repeat (first | exact Below.refl _ _ | assumption | refine Below.alloc ?_ (by first | omega | (simp; done) | (simp; omega)) _ | refine below_drewN ?_ _ | refine Below.drew ?_ | refine Below.setCell ?_ (by first | omega | (simp; done) | (simp; omega)) _))⟩
          case measure => simp [intOf]; omega
      · obtain ⟨e1, e2⟩ := eqT_true eT
        cases hw : y.write
        · have HQ := Lib.hid (show (eqT y.site y.num a b && y.write) = false by rw [hw]; simp)
          rw [hw] at x03
          clear eT hw
          go_wp2_with fail
          go_roundw
          case rel => exact ⟨k + 1, by omega, by go_num, (by first | (rw [cntN_miss (by unfold mineW; rw [← HY.out]; exact HQ.out)]; done) | (rw [cntN_miss (by unfold mineW; rw [← HY.out]; exact HQ.out)]; go_num)), by (repeat (first | exact Below.refl _ _ | assumption | refine Below.alloc ?_ (by first | omega | (simp; done) | (simp; omega)) _ | refine below_drewN ?_ _ | refine Below.drew ?_ | refine Below.setCell ?_ (by first | omega | (simp; done) | (simp; omega)) _))⟩
          case measure => simp [intOf]; omega
        · have HQ := Lib.hid (show (eqT y.site y.num a b && y.write) = true by rw [eT, hw]; rfl)
          rw [hw] at x03
          clear eT hw
          go_wp2_with fail
          go_roundw
          case rel => exact ⟨k + 1, by omega, by go_num, (by first | (rw [cntN_hit (by unfold mineW; rw [← HY.out]; exact HQ.out)]; done) | (rw [cntN_hit (by unfold mineW; rw [← HY.out]; exact HQ.out)]; go_num)), by (repeat (first | exact Below.refl _ _ | assumption | refine Below.alloc ?_ (by first | omega | (simp; done) | (simp; omega)) _ | refine below_drewN ?_ _ | refine Below.drew ?_ | refine Below.setCell ?_ (by first | omega | (simp; done) | (simp; omega)) _))⟩
          case measure => simp [intOf]; omega
    · obtain rfl : n2 = k := by omega
      go_wp2_with fail
      go_ret2
      exact ⟨rfl, hbw⟩

set_option maxRecDepth 100000 in
set_option maxHeartbeats 2000000 in
theorem writesOf_any (A1 : Option Addr) (n1 c1 : Nat) (A2 : Option Addr) (n2 c2 : Nat) (A3 : Option Addr) (n3 c3 : Nat) (A4 : Option Addr) (n4 c4 : Nat) (s : Sto) (a b : Int) (w : World) (hs : StoAt w w.heap.size A1 n1 c1 A2 n2 c2 A3 n3 c3 A4 n4 c4 s) :
    Calls Try.prog 15 #[.agg #[.slice A1 n1 c1, .slice A2 n2 c2, .slice A3 n3 c3, .slice A4 n4 c4], .agg #[.int .i64 a, .int .i64 b]] w fun e w' => e = .returned (.tuple #[.int .i64 (writesF s a b).1, .int .i64 (writesF s a b).2]) ∧ Below w.heap.size w w' := by
  have h := hs.2.1
  obtain ⟨hn, hnc⟩ := h.max63
  have HL := Lib.hid h.1
  by_cases hC : callF s a b 0 = 0
  rotate_left
  · rw [show writesF s a b = (0, callF s a b 0) by unfold writesF; rw [if_neg hC]]
    go_enter Try.func15, Try.ntmps15
    go_wp2_with (go_at_call 41; refine (askFault_any _ _ _ _ _ _ _ _ _ _ _ _ s _ _ _ _ (hs.below (by (repeat (first | exact Below.refl _ _ | assumption | refine Below.alloc ?_ (by first | omega | (simp; done) | (simp; omega)) _ | refine below_drewN ?_ _ | refine Below.drew ?_ | refine Below.setCell ?_ (by first | omega | (simp; done) | (simp; omega)) _))) (by first | omega | (simp; done) | (simp; omega)))).mono ?_; rintro e w1 ⟨rfl, hb1⟩; obtain ⟨hc1, hf1⟩ := bcell hb1; have hbb1 : Below w.heap.size w w1 := (by refine Below.trans ?_ (hb1.mono ?_); rotate_left; (focus (first | omega | (simp; done) | (simp; omega))); (repeat (first | exact Below.refl _ _ | assumption | refine Below.alloc ?_ (by first | omega | (simp; done) | (simp; omega)) _ | refine below_drewN ?_ _ | refine Below.drew ?_ | refine Below.setCell ?_ (by first | omega | (simp; done) | (simp; omega)) _))); have hsz1 := hb1.size; (try simp at hsz1); have z_w_w1_0 : w.heap.size < w1.heap.size := (by omega); have z_w_w1_1 : w.heap.size + 1 < w1.heap.size := (by omega))
    go_ret2
    exact ⟨rfl, by (repeat (first | exact Below.refl _ _ | assumption | refine Below.alloc ?_ (by first | omega | (simp; done) | (simp; omega)) _ | refine below_drewN ?_ _ | refine Below.drew ?_ | refine Below.setCell ?_ (by first | omega | (simp; done) | (simp; omega)) _))⟩
  rw [show writesF s a b = (((cntN (mineW s.locks a b) n2 : Nat) : Int), 0) by unfold writesF; rw [if_pos hC, HL.out]]
  go_enter Try.func15, Try.ntmps15
  go_wp2_with (go_at_call 41; refine (askFault_any _ _ _ _ _ _ _ _ _ _ _ _ s _ _ _ _ (hs.below (by (repeat (first | exact Below.refl _ _ | assumption | refine Below.alloc ?_ (by first | omega | (simp; done) | (simp; omega)) _ | refine below_drewN ?_ _ | refine Below.drew ?_ | refine Below.setCell ?_ (by first | omega | (simp; done) | (simp; omega)) _))) (by first | omega | (simp; done) | (simp; omega)))).mono ?_; rintro e w1 ⟨rfl, hb1⟩; obtain ⟨hc1, hf1⟩ := bcell hb1; have hbb1 : Below w.heap.size w w1 := (by refine Below.trans ?_ (hb1.mono ?_); rotate_left; (focus (first | omega | (simp; done) | (simp; omega))); (repeat (first | exact Below.refl _ _ | assumption | refine Below.alloc ?_ (by first | omega | (simp; done) | (simp; omega)) _ | refine below_drewN ?_ _ | refine Below.drew ?_ | refine Below.setCell ?_ (by first | omega | (simp; done) | (simp; omega)) _))); have hsz1 := hb1.size; (try simp at hsz1); have z_w_w1_0 : w.heap.size < w1.heap.size := (by omega); have z_w_w1_1 : w.heap.size + 1 < w1.heap.size := (by omega))
  go_loopw [7, 8] (fun u i wr => ∃ k : Nat, k ≤ n2 ∧ i = .int .i64 k ∧ u = .int .i64 (cntN (mineW s.locks a b) k : Nat) ∧ Below w1.heap.size w1 wr) (fun _ i _ => n2 - (intOf i).toNat)
  case atStart => exact ⟨0, Nat.zero_le _, rfl, rfl, Below.refl _ _⟩
  case round =>
    obtain ⟨k, hk, rfl, rfl, hb⟩ := hrel
    obtain ⟨hc, hf⟩ := bcell hb
    have hsz := hb.size
    have z0 : w.heap.size < wr.heap.size := by omega
    have z1 : w.heap.size + 1 < wr.heap.size := by omega
    have hbw : Below w.heap.size w wr := hbb1.trans (hb.mono hbb1.size)
    have c1 := cntN_le (mineW s.locks a b) k
    by_cases hlt : k < n2
    · obtain ⟨bb, off, rfl, hbB, hcell⟩ := h.cells hlt
      have z2 : bb < wr.heap.size := by omega
      have z3 : bb < w1.heap.size := by omega
      have z4 : bb < w.heap.size + 1 + 1 := by omega
      have x0 := hcell k hlt
      clear hcell
      have hk1 : (k : Int) < n2 := by omega
      obtain ⟨y, hy⟩ : ∃ y, y = s.locks.getD k sLock0 := ⟨_, rfl⟩
      rw [← hy] at x0
      have HY := Lib.hid hy
      clear hy
      obtain ⟨x00, x01, x02, x03, x04, x05⟩ := x0
      cases eT : eqT y.site y.num a b
      · have eT' := eqT_false eT
        have HQ := Lib.hid (show (eqT y.site y.num a b && y.write) = false by rw [eT]; rfl)
        clear eT
        by_cases e1 : y.site = a
        · have e2 : ¬ y.num = b := fun h => eT' ⟨e1, h⟩
          clear eT'
          go_wp2_with fail
          go_quiet (fail)
          go_wp2_with fail
          go_roundw
          case rel => exact ⟨k + 1, by omega, by go_num, (by first | (rw [cntN_miss (by unfold mineW; rw [← HY.out]; exact HQ.out)]; done) | (rw [cntN_miss (by unfold mineW; rw [← HY.out]; exact HQ.out)]; go_num)), by (repeat (first | exact Below.refl _ _ | assumption | refine Below.alloc ?_ (by first | omega | (simp; done) | (simp; omega)) _ | refine below_drewN ?_ _ | refine Below.drew ?_ | refine Below.setCell ?_ (by first | omega | (simp; done) | (simp; omega)) _))⟩
          case measure => simp [intOf]; omega
        · clear eT'
          go_wp2_with fail
          go_quiet (fail)
          go_wp2_with fail
          go_roundw
          case rel => exact ⟨k + 1, by omega, by go_num, (by first | (rw [cntN_miss (by unfold mineW; rw [← HY.out]; exact HQ.out)]; done) | (rw [cntN_miss (by unfold mineW; rw [← HY.out]; exact HQ.out)]; go_num)), by (repeat (first | exact Below.refl _ _ | assumption | refine Below.alloc ?_ (by first | omega | (simp; done) | (simp; omega)) _ | refine below_drewN ?_ _ | refine Below.drew ?_ | refine Below.setCell ?_ (by first | omega | (simp; done) | (simp; omega)) _))⟩
          case measure => simp [intOf]; omega
      · obtain ⟨e1, e2⟩ := eqT_true eT
        cases hw : y.write
        · have HQ := Lib.hid (show (eqT y.site y.num a b && y.write) = false by rw [hw]; simp)
          rw [hw] at x03
          clear eT hw
          go_wp2_with fail
          go_quiet (fail)
          go_wp2_with fail
          go_roundw
          case rel => exact ⟨k + 1, by omega, by go_num, (by first | (rw [cntN_miss (by unfold mineW; rw [← HY.out]; exact HQ.out)]; done) | (rw [cntN_miss (by unfold mineW; rw [← HY.out]; exact HQ.out)]; go_num)), by (repeat (first | exact Below.refl _ _ | assumption | refine Below.alloc ?_ (by first | omega | (simp; done) | (simp; omega)) _ | refine below_drewN ?_ _ | refine Below.drew ?_ | refine Below.setCell ?_ (by first | omega | (simp; done) | (simp; omega)) _))⟩
          case measure => simp [intOf]; omega
        · have HQ := Lib.hid (show (eqT y.site y.num a b && y.write) = true by rw [eT, hw]; rfl)
          rw [hw] at x03
          clear eT hw
          go_wp2_with fail
          go_quiet (fail)
          go_wp2_with fail
          go_roundw
          case rel => exact ⟨k + 1, by omega, by go_num, (by first | (rw [cntN_hit (by unfold mineW; rw [← HY.out]; exact HQ.out)]; done) | (rw [cntN_hit (by unfold mineW; rw [← HY.out]; exact HQ.out)]; go_num)), by (repeat (first | exact Below.refl _ _ | assumption | refine Below.alloc ?_ (by first | omega | (simp; done) | (simp; omega)) _ | refine below_drewN ?_ _ | refine Below.drew ?_ | refine Below.setCell ?_ (by first | omega | (simp; done) | (simp; omega)) _))⟩
          case measure => simp [intOf]; omega
    · obtain rfl : n2 = k := by omega
      go_wp2_with fail
      go_ret2
      exact ⟨rfl, hbw⟩

end Go.Proofs.Ytoalcmpjfnlkdaa
