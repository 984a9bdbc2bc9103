/- reredosref.MessageFault: config, kind, range. -/
import Derived.Test.YtobhipeiogljjaaDoorWirB
import Derived.Test.YtobhipeiogljjaaDoorArg
namespace Go.Proofs.YtobhipeiogljjaaDoor
open Go.RowKit Go.ChangeShapes Go.WideShapes Go.Deep

set_option maxRecDepth 100000 in
set_option maxHeartbeats 2000000 in
theorem messageFault_cfg (s p : Int) (A : Option Addr) (n c : Nat) (ls : List (Int × Int)) (m : Msg) (w : World) (hls : LabelsAt w w.heap.size A n c ls) (hC : checkF s p ls ≠ 0) :
    Calls Tryd.prog 22 #[.agg #[.int .i64 s, .slice A n c, .int .i64 p], .agg #[.int .i64 m.kind, .int .i64 m.from_, .int .i64 m.to, .int .i64 m.site, .int .i64 m.num, .int .i64 m.label, .int .i64 m.key, .int .i64 m.value, .int .i64 m.version, .int .i64 m.ask, .bool m.yes, .int .i64 m.code]] w fun e w' => e = .returned (.int .i64 (msgF s p ls m)) ∧ Below w.heap.size w w' := by
  have hf : msgF s p ls m = checkF s p ls := by unfold msgF; rw [if_pos hC]
  rw [hf]
  go_enter Tryd.func22, Tryd.ntmps22
  (try simp only [List.append_eq, List.cons_append, List.nil_append])
  go_wp2_with (first | (go_at_call 78; refine (fault_any _ _ _ _ _ ls _ (hls.below (Flat.stable _) (by (repeat (first | exact Below.refl _ _ | assumption | refine Below.alloc ?_ (by first | omega | (simp; done) | (simp; omega)) _ | refine below_drewN ?_ _ | refine Below.drew ?_ | refine Below.setCell ?_ (by first | omega | (simp; done) | (simp; omega)) _))) (by first | omega | (simp; done) | (simp; omega)))).mono ?_; rintro e w1 ⟨rfl, hb1⟩; obtain ⟨hc1, hf1⟩ := bcell hb1; have hbb1 : Below w.heap.size w w1 := (by refine Below.trans ?_ (hb1.mono ?_); rotate_left; (focus (first | omega | (simp; done) | (simp; omega))); (repeat (first | exact Below.refl _ _ | assumption | refine Below.alloc ?_ (by first | omega | (simp; done) | (simp; omega)) _ | refine below_drewN ?_ _ | refine Below.drew ?_ | refine Below.setCell ?_ (by first | omega | (simp; done) | (simp; omega)) _))); have hsz1 := hb1.size; (try simp at hsz1); have z_w_w1_0 : w.heap.size < w1.heap.size := (by omega); have z_w_w1_1 : w.heap.size + 1 < w1.heap.size := (by omega)) | (go_at_call 79; refine (in_any _ _ _ _).mono ?_; rintro e w2 ⟨rfl, rfl⟩) | (go_at_call 80; refine (txnMay_any _ _ _ _ _ _ _ _ (by omega) (by omega)).mono ?_; rintro e w3 ⟨rfl, rfl⟩) | (go_at_call 81; refine (labelMay_any _ _ _ _ _ _ _ (by omega)).mono ?_; rintro e w4 ⟨rfl, rfl⟩))
  go_ret
  exact ⟨rfl, by (repeat (first | exact Below.refl _ _ | assumption | refine Below.alloc ?_ (by first | omega | (simp; done) | (simp; omega)) _ | refine below_drewN ?_ _ | refine Below.drew ?_ | refine Below.setCell ?_ (by first | omega | (simp; done) | (simp; omega)) _))⟩

set_option maxRecDepth 100000 in
set_option maxHeartbeats 2000000 in
theorem messageFault_kind (s p : Int) (A : Option Addr) (n c : Nat) (ls : List (Int × Int)) (m : Msg) (w : World) (hls : LabelsAt w w.heap.size A n c ls) (hC : checkF s p ls = 0) (hk : inB m.kind 1 9 = false) :
    Calls Tryd.prog 22 #[.agg #[.int .i64 s, .slice A n c, .int .i64 p], .agg #[.int .i64 m.kind, .int .i64 m.from_, .int .i64 m.to, .int .i64 m.site, .int .i64 m.num, .int .i64 m.label, .int .i64 m.key, .int .i64 m.value, .int .i64 m.version, .int .i64 m.ask, .bool m.yes, .int .i64 m.code]] w fun e w' => e = .returned (.int .i64 (msgF s p ls m)) ∧ Below w.heap.size w w' := by
  have hf : msgF s p ls m = 3 := by unfold msgF; rw [if_neg (by simpa using hC), if_pos hk]
  rw [hf]
  go_enter Tryd.func22, Tryd.ntmps22
  (try simp only [List.append_eq, List.cons_append, List.nil_append])
  go_wp2_with (first | (go_at_call 78; refine (fault_any _ _ _ _ _ ls _ (hls.below (Flat.stable _) (by (repeat (first | exact Below.refl _ _ | assumption | refine Below.alloc ?_ (by first | omega | (simp; done) | (simp; omega)) _ | refine below_drewN ?_ _ | refine Below.drew ?_ | refine Below.setCell ?_ (by first | omega | (simp; done) | (simp; omega)) _))) (by first | omega | (simp; done) | (simp; omega)))).mono ?_; rintro e w1 ⟨rfl, hb1⟩; obtain ⟨hc1, hf1⟩ := bcell hb1; have hbb1 : Below w.heap.size w w1 := (by refine Below.trans ?_ (hb1.mono ?_); rotate_left; (focus (first | omega | (simp; done) | (simp; omega))); (repeat (first | exact Below.refl _ _ | assumption | refine Below.alloc ?_ (by first | omega | (simp; done) | (simp; omega)) _ | refine below_drewN ?_ _ | refine Below.drew ?_ | refine Below.setCell ?_ (by first | omega | (simp; done) | (simp; omega)) _))); have hsz1 := hb1.size; (try simp at hsz1); have z_w_w1_0 : w.heap.size < w1.heap.size := (by omega); have z_w_w1_1 : w.heap.size + 1 < w1.heap.size := (by omega)) | (go_at_call 79; refine (in_any _ _ _ _).mono ?_; rintro e w2 ⟨rfl, rfl⟩) | (go_at_call 80; refine (txnMay_any _ _ _ _ _ _ _ _ (by omega) (by omega)).mono ?_; rintro e w3 ⟨rfl, rfl⟩) | (go_at_call 81; refine (labelMay_any _ _ _ _ _ _ _ (by omega)).mono ?_; rintro e w4 ⟨rfl, rfl⟩))
  go_ret
  exact ⟨rfl, by (repeat (first | exact Below.refl _ _ | assumption | refine Below.alloc ?_ (by first | omega | (simp; done) | (simp; omega)) _ | refine below_drewN ?_ _ | refine Below.drew ?_ | refine Below.setCell ?_ (by first | omega | (simp; done) | (simp; omega)) _))⟩

theorem range_absurd2 {s : Int} {n : Nat} {m : Msg} (H : Hid (msgRange s n m = false)) (h1 : inB m.from_ 0 (s - 1) = true) (h2 : inB m.to 0 (s - 1) = true) (h3 : txnB s m.site m.num = true) (h4 : inB m.label 0 ((n : Int) - 1) = true) (h5 : inB m.key 0 7 = true) (h6 : inB m.value 0 1073741824 = true) (h7 : inB m.version 0 1048576 = true) (h8' : (!inB m.ask 0 1048576) = false) (h9 : codeB m.code = true) : False := by
  have h8 : inB m.ask 0 1048576 = true := by simpa using h8'
  have h := H.out
  rw [show msgRange s n m = true by simp only [msgRange, h1, h2, h3, h4, h5, h6, h7, h8, h9]; rfl] at h
  cases h
theorem code_of {k : Int} (h : k = 0 ∨ k = 11 ∨ k = 8) : codeB k = true := by rcases h with rfl | rfl | rfl <;> rfl
theorem msgRange_parts {s : Int} {n : Nat} {m : Msg} (h : msgRange s n m = true) : inB m.from_ 0 (s - 1) = true ∧ inB m.to 0 (s - 1) = true ∧ txnB s m.site m.num = true ∧ inB m.label 0 ((n : Int) - 1) = true ∧ inB m.key 0 7 = true ∧ inB m.value 0 1073741824 = true ∧ inB m.version 0 1048576 = true ∧ inB m.ask 0 1048576 = true ∧ codeB m.code = true := by
  simp only [msgRange, Bool.and_eq_true] at h
  obtain ⟨⟨⟨⟨⟨⟨⟨⟨a, b⟩, c⟩, d⟩, e⟩, f⟩, g⟩, i⟩, j⟩ := h
  exact ⟨a, b, c, d, e, f, g, i, j⟩
theorem codeB_true {k : Int} (h : codeB k = true) : k = 0 ∨ k = 11 ∨ k = 8 := by simpa [codeB, or_assoc] using h
theorem codeB_false {k : Int} (h : codeB k = false) : k ≠ 0 ∧ k ≠ 11 ∧ k ≠ 8 := by simpa [codeB, and_assoc] using h

set_option maxRecDepth 100000 in
set_option maxHeartbeats 4000000 in
theorem messageFault_range (s p : Int) (A : Option Addr) (n c : Nat) (ls : List (Int × Int)) (m : Msg) (w : World) (hls : LabelsAt w w.heap.size A n c ls) (hC : checkF s p ls = 0) (hk : inB m.kind 1 9 = true) (hR : msgRange s ls.length m = false) :
    Calls Tryd.prog 22 #[.agg #[.int .i64 s, .slice A n c, .int .i64 p], .agg #[.int .i64 m.kind, .int .i64 m.from_, .int .i64 m.to, .int .i64 m.site, .int .i64 m.num, .int .i64 m.label, .int .i64 m.key, .int .i64 m.value, .int .i64 m.version, .int .i64 m.ask, .bool m.yes, .int .i64 m.code]] w fun e w' => e = .returned (.int .i64 (msgF s p ls m)) ∧ Below w.heap.size w w' := by
  have hf : msgF s p ls m = 2 := by unfold msgF; rw [if_neg (by simpa using hC), if_neg (by rw [hk]; simp), if_pos hR]
  rw [hf]
  obtain ⟨hs1, hs2, hs3, hs4⟩ := checkF_ok hC
  have hn : n ≤ 6 := by rw [← hls.1]; exact hs4
  rw [hls.1] at hR
  have HR := Lib.hid hR
  clear hR hf
  cases hcode : codeB m.code
  · obtain ⟨q1, q2, q3⟩ := codeB_false hcode
    clear hcode HR
    go_enter Tryd.func22, Tryd.ntmps22
    (try simp only [List.append_eq, List.cons_append, List.nil_append])
    go_wp2_with (first | (go_at_call 78; refine (fault_any _ _ _ _ _ ls _ (hls.below (Flat.stable _) (by (repeat (first | exact Below.refl _ _ | assumption | refine Below.alloc ?_ (by first | omega | (simp; done) | (simp; omega)) _ | refine below_drewN ?_ _ | refine Below.drew ?_ | refine Below.setCell ?_ (by first | omega | (simp; done) | (simp; omega)) _))) (by first | omega | (simp; done) | (simp; omega)))).mono ?_; rintro e w1 ⟨rfl, hb1⟩; obtain ⟨hc1, hf1⟩ := bcell hb1; have hbb1 : Below w.heap.size w w1 := (by refine Below.trans ?_ (hb1.mono ?_); rotate_left; (focus (first | omega | (simp; done) | (simp; omega))); (repeat (first | exact Below.refl _ _ | assumption | refine Below.alloc ?_ (by first | omega | (simp; done) | (simp; omega)) _ | refine below_drewN ?_ _ | refine Below.drew ?_ | refine Below.setCell ?_ (by first | omega | (simp; done) | (simp; omega)) _))); have hsz1 := hb1.size; (try simp at hsz1); have z_w_w1_0 : w.heap.size < w1.heap.size := (by omega); have z_w_w1_1 : w.heap.size + 1 < w1.heap.size := (by omega)) | (go_at_call 79; refine (in_any _ _ _ _).mono ?_; rintro e w2 ⟨rfl, rfl⟩) | (go_at_call 80; refine (txnMay_any _ _ _ _ _ _ _ _ (by omega) (by omega)).mono ?_; rintro e w3 ⟨rfl, rfl⟩) | (go_at_call 81; refine (labelMay_any _ _ _ _ _ _ _ (by omega)).mono ?_; rintro e w4 ⟨rfl, rfl⟩))
    all_goals
      go_ret
      exact ⟨rfl, by (repeat (first | exact Below.refl _ _ | assumption | refine Below.alloc ?_ (by first | omega | (simp; done) | (simp; omega)) _ | refine below_drewN ?_ _ | refine Below.drew ?_ | refine Below.setCell ?_ (by first | omega | (simp; done) | (simp; omega)) _))⟩
  · have hcode2 := Lib.hid hcode
    clear hcode
    go_enter Tryd.func22, Tryd.ntmps22
    (try simp only [List.append_eq, List.cons_append, List.nil_append])
    go_wp2_with (first | (go_at_call 78; refine (fault_any _ _ _ _ _ ls _ (hls.below (Flat.stable _) (by (repeat (first | exact Below.refl _ _ | assumption | refine Below.alloc ?_ (by first | omega | (simp; done) | (simp; omega)) _ | refine below_drewN ?_ _ | refine Below.drew ?_ | refine Below.setCell ?_ (by first | omega | (simp; done) | (simp; omega)) _))) (by first | omega | (simp; done) | (simp; omega)))).mono ?_; rintro e w1 ⟨rfl, hb1⟩; obtain ⟨hc1, hf1⟩ := bcell hb1; have hbb1 : Below w.heap.size w w1 := (by refine Below.trans ?_ (hb1.mono ?_); rotate_left; (focus (first | omega | (simp; done) | (simp; omega))); (repeat (first | exact Below.refl _ _ | assumption | refine Below.alloc ?_ (by first | omega | (simp; done) | (simp; omega)) _ | refine below_drewN ?_ _ | refine Below.drew ?_ | refine Below.setCell ?_ (by first | omega | (simp; done) | (simp; omega)) _))); have hsz1 := hb1.size; (try simp at hsz1); have z_w_w1_0 : w.heap.size < w1.heap.size := (by omega); have z_w_w1_1 : w.heap.size + 1 < w1.heap.size := (by omega)) | (go_at_call 79; refine (in_any _ _ _ _).mono ?_; rintro e w2 ⟨rfl, rfl⟩) | (go_at_call 80; refine (txnMay_any _ _ _ _ _ _ _ _ (by omega) (by omega)).mono ?_; rintro e w3 ⟨rfl, rfl⟩) | (go_at_call 81; refine (labelMay_any _ _ _ _ _ _ _ (by omega)).mono ?_; rintro e w4 ⟨rfl, rfl⟩))
    all_goals first
      | (go_ret; exact ⟨rfl, by (repeat (first | exact Below.refl _ _ | assumption | refine Below.alloc ?_ (by first | omega | (simp; done) | (simp; omega)) _ | refine below_drewN ?_ _ | refine Below.drew ?_ | refine Below.setCell ?_ (by first | omega | (simp; done) | (simp; omega)) _))⟩)
      | exact (range_absurd2 HR ‹_› ‹_› ‹_› ‹_› ‹_› ‹_› ‹_› ‹_› hcode2.out).elim

end Go.Proofs.YtobhipeiogljjaaDoor
