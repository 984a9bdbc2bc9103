/- reredosref.MessageFault where kind and ranges are right: kinds 4, 5, 6. -/
import Derived.Test.YtobhipeiogljjaaDoorWirF
namespace Go.Proofs.YtobhipeiogljjaaDoor
open Go.RowKit Go.ChangeShapes Go.WideShapes Go.Deep

set_option maxRecDepth 100000 in
set_option maxHeartbeats 4000000 in
theorem messageFault_form4 (s p : Int) (A : Option Addr) (n c : Nat) (ls : List (Int × Int)) (m : Msg) (w : World) (hls : LabelsAt w w.heap.size A n c ls) (hC : checkF s p ls = 0) (hk : m.kind = 4) (hR : msgRange s ls.length m = true) :
    Calls Tryd.prog 22 #[.agg #[.int .i64 s, .slice A n c, .int .i64 p], .agg #[.int .i64 m.kind, .int .i64 m.from_, .int .i64 m.to, .int .i64 m.site, .int .i64 m.num, .int .i64 m.label, .int .i64 m.key, .int .i64 m.value, .int .i64 m.version, .int .i64 m.ask, .bool m.yes, .int .i64 m.code]] w fun e w' => e = .returned (.int .i64 (msgF s p ls m)) ∧ Below w.heap.size w w' := by
  have hf : msgF s p ls m = if msgForm m = false then 4 else 0 := by unfold msgF; rw [if_neg (by simpa using hC), if_neg (by rw [inB_mk (by omega)]; simp), if_neg (by rw [hR]; simp)]
  obtain ⟨R, hRr⟩ : ∃ R, R = msgF s p ls m := ⟨_, rfl⟩
  rw [← hRr]
  have HF := Lib.hid (hRr.trans hf)
  clear hf hRr
  obtain ⟨hs1, hs2, hs3, hs4⟩ := checkF_ok hC
  have hn : n ≤ 6 := by rw [← hls.1]; exact hs4
  rw [hls.1] at hR
  obtain ⟨r1, r2, r3, r4, r5, r6, r7, r8, r9⟩ := msgRange_parts hR
  have r0 : inB m.kind 1 9 = true := inB_mk (by omega)
  rw [hk] at r0
  clear hR
  rcases codeB_true r9 with hcd | hcd | hcd
  all_goals
    clear r9
    go_enter Tryd.func22, Tryd.ntmps22
    (try simp only [List.append_eq, List.cons_append, List.nil_append])
    go_wp2_with (first | (go_at_call 78; refine (fault_any _ _ _ _ _ ls _ (hls.below (Flat.stable _) (by (repeat (first | exact Below.refl _ _ | assumption | refine Below.alloc ?_ (by first | omega | (simp; done) | (simp; omega)) _ | refine below_drewN ?_ _ | refine Below.drew ?_ | refine Below.setCell ?_ (by first | omega | (simp; done) | (simp; omega)) _))) (by first | omega | (simp; done) | (simp; omega)))).mono ?_; rintro e w1 ⟨rfl, hb1⟩; obtain ⟨hc1, hf1⟩ := bcell hb1; have hbb1 : Below w.heap.size w w1 := (by refine Below.trans ?_ (hb1.mono ?_); rotate_left; (focus (first | omega | (simp; done) | (simp; omega))); (repeat (first | exact Below.refl _ _ | assumption | refine Below.alloc ?_ (by first | omega | (simp; done) | (simp; omega)) _ | refine below_drewN ?_ _ | refine Below.drew ?_ | refine Below.setCell ?_ (by first | omega | (simp; done) | (simp; omega)) _))); have hsz1 := hb1.size; (try simp at hsz1); have z_w_w1_0 : w.heap.size < w1.heap.size := (by omega); have z_w_w1_1 : w.heap.size + 1 < w1.heap.size := (by omega); have q_0_1 : ¬ w.heap.size = w1.heap.size + 1 := (by omega); have l_0_1 : w.heap.size < w1.heap.size + 1 := (by omega); have q_0_2 : ¬ w.heap.size = w1.heap.size + 1 + 1 := (by omega); have l_0_2 : w.heap.size < w1.heap.size + 1 + 1 := (by omega); have q_0_3 : ¬ w.heap.size = w1.heap.size + 1 + 1 + 1 := (by omega); have l_0_3 : w.heap.size < w1.heap.size + 1 + 1 + 1 := (by omega); have q_0_4 : ¬ w.heap.size = w1.heap.size + 1 + 1 + 1 + 1 := (by omega); have l_0_4 : w.heap.size < w1.heap.size + 1 + 1 + 1 + 1 := (by omega); have q_1_1 : ¬ w.heap.size + 1 = w1.heap.size + 1 := (by omega); have l_1_1 : w.heap.size + 1 < w1.heap.size + 1 := (by omega); have q_1_2 : ¬ w.heap.size + 1 = w1.heap.size + 1 + 1 := (by omega); have l_1_2 : w.heap.size + 1 < w1.heap.size + 1 + 1 := (by omega); have q_1_3 : ¬ w.heap.size + 1 = w1.heap.size + 1 + 1 + 1 := (by omega); have l_1_3 : w.heap.size + 1 < w1.heap.size + 1 + 1 + 1 := (by omega); have q_1_4 : ¬ w.heap.size + 1 = w1.heap.size + 1 + 1 + 1 + 1 := (by omega); have l_1_4 : w.heap.size + 1 < w1.heap.size + 1 + 1 + 1 + 1 := (by omega)) | (go_at_call 79; refine (in_any _ _ _ _).mono ?_; rintro e w2 ⟨rfl, rfl⟩) | (go_at_call 80; refine (txnMay_any _ _ _ _ _ _ _ _ (by omega) (by omega)).mono ?_; rintro e w3 ⟨rfl, rfl⟩) | (go_at_call 81; refine (labelMay_any _ _ _ _ _ _ _ (by omega)).mono ?_; rintro e w4 ⟨rfl, rfl⟩))
  all_goals
    go_ret
    refine ⟨ret_int ?_, by (repeat (first | exact Below.refl _ _ | assumption | refine Below.alloc ?_ (by first | omega | (simp; done) | (simp; omega)) _ | refine below_drewN ?_ _ | refine Below.drew ?_ | refine Below.setCell ?_ (by first | omega | (simp; done) | (simp; omega)) _))⟩
    rw [HF.out]
    obtain ⟨b1, b2⟩ := inB_true r6
    obtain ⟨b3, b4⟩ := inB_true r7
    first
      | (simp_all [msgForm, flagB, msgTab]; done)
      | (simp_all [msgForm, flagB, msgTab]; intros; omega)

set_option maxRecDepth 100000 in
set_option maxHeartbeats 4000000 in
theorem messageFault_form5 (s p : Int) (A : Option Addr) (n c : Nat) (ls : List (Int × Int)) (m : Msg) (w : World) (hls : LabelsAt w w.heap.size A n c ls) (hC : checkF s p ls = 0) (hk : m.kind = 5) (hR : msgRange s ls.length m = true) :
    Calls Tryd.prog 22 #[.agg #[.int .i64 s, .slice A n c, .int .i64 p], .agg #[.int .i64 m.kind, .int .i64 m.from_, .int .i64 m.to, .int .i64 m.site, .int .i64 m.num, .int .i64 m.label, .int .i64 m.key, .int .i64 m.value, .int .i64 m.version, .int .i64 m.ask, .bool m.yes, .int .i64 m.code]] w fun e w' => e = .returned (.int .i64 (msgF s p ls m)) ∧ Below w.heap.size w w' := by
  have hf : msgF s p ls m = if msgForm m = false then 4 else 0 := by unfold msgF; rw [if_neg (by simpa using hC), if_neg (by rw [inB_mk (by omega)]; simp), if_neg (by rw [hR]; simp)]
  obtain ⟨R, hRr⟩ : ∃ R, R = msgF s p ls m := ⟨_, rfl⟩
  rw [← hRr]
  have HF := Lib.hid (hRr.trans hf)
  clear hf hRr
  obtain ⟨hs1, hs2, hs3, hs4⟩ := checkF_ok hC
  have hn : n ≤ 6 := by rw [← hls.1]; exact hs4
  rw [hls.1] at hR
  obtain ⟨r1, r2, r3, r4, r5, r6, r7, r8, r9⟩ := msgRange_parts hR
  have r0 : inB m.kind 1 9 = true := inB_mk (by omega)
  rw [hk] at r0
  clear hR
  rcases codeB_true r9 with hcd | hcd | hcd
  all_goals
    clear r9
    go_enter Tryd.func22, Tryd.ntmps22
    (try simp only [List.append_eq, List.cons_append, List.nil_append])
    go_wp2_with (first | (go_at_call 78; refine (fault_any _ _ _ _ _ ls _ (hls.below (Flat.stable _) (by (repeat (first | exact Below.refl _ _ | assumption | refine Below.alloc ?_ (by first | omega | (simp; done) | (simp; omega)) _ | refine below_drewN ?_ _ | refine Below.drew ?_ | refine Below.setCell ?_ (by first | omega | (simp; done) | (simp; omega)) _))) (by first | omega | (simp; done) | (simp; omega)))).mono ?_; rintro e w1 ⟨rfl, hb1⟩; obtain ⟨hc1, hf1⟩ := bcell hb1; have hbb1 : Below w.heap.size w w1 := (by refine Below.trans ?_ (hb1.mono ?_); rotate_left; (focus (first | omega | (simp; done) | (simp; omega))); (repeat (first | exact Below.refl _ _ | assumption | refine Below.alloc ?_ (by first | omega | (simp; done) | (simp; omega)) _ | refine below_drewN ?_ _ | refine Below.drew ?_ | refine Below.setCell ?_ (by first | omega | (simp; done) | (simp; omega)) _))); have hsz1 := hb1.size; (try simp at hsz1); have z_w_w1_0 : w.heap.size < w1.heap.size := (by omega); have z_w_w1_1 : w.heap.size + 1 < w1.heap.size := (by omega); have q_0_1 : ¬ w.heap.size = w1.heap.size + 1 := (by omega); have l_0_1 : w.heap.size < w1.heap.size + 1 := (by omega); have q_0_2 : ¬ w.heap.size = w1.heap.size + 1 + 1 := (by omega); have l_0_2 : w.heap.size < w1.heap.size + 1 + 1 := (by omega); have q_0_3 : ¬ w.heap.size = w1.heap.size + 1 + 1 + 1 := (by omega); have l_0_3 : w.heap.size < w1.heap.size + 1 + 1 + 1 := (by omega); have q_0_4 : ¬ w.heap.size = w1.heap.size + 1 + 1 + 1 + 1 := (by omega); have l_0_4 : w.heap.size < w1.heap.size + 1 + 1 + 1 + 1 := (by omega); have q_1_1 : ¬ w.heap.size + 1 = w1.heap.size + 1 := (by omega); have l_1_1 : w.heap.size + 1 < w1.heap.size + 1 := (by omega); have q_1_2 : ¬ w.heap.size + 1 = w1.heap.size + 1 + 1 := (by omega); have l_1_2 : w.heap.size + 1 < w1.heap.size + 1 + 1 := (by omega); have q_1_3 : ¬ w.heap.size + 1 = w1.heap.size + 1 + 1 + 1 := (by omega); have l_1_3 : w.heap.size + 1 < w1.heap.size + 1 + 1 + 1 := (by omega); have q_1_4 : ¬ w.heap.size + 1 = w1.heap.size + 1 + 1 + 1 + 1 := (by omega); have l_1_4 : w.heap.size + 1 < w1.heap.size + 1 + 1 + 1 + 1 := (by omega)) | (go_at_call 79; refine (in_any _ _ _ _).mono ?_; rintro e w2 ⟨rfl, rfl⟩) | (go_at_call 80; refine (txnMay_any _ _ _ _ _ _ _ _ (by omega) (by omega)).mono ?_; rintro e w3 ⟨rfl, rfl⟩) | (go_at_call 81; refine (labelMay_any _ _ _ _ _ _ _ (by omega)).mono ?_; rintro e w4 ⟨rfl, rfl⟩))
  all_goals
    go_ret
    refine ⟨ret_int ?_, by (repeat (first | exact Below.refl _ _ | assumption | refine Below.alloc ?_ (by first | omega | (simp; done) | (simp; omega)) _ | refine below_drewN ?_ _ | refine Below.drew ?_ | refine Below.setCell ?_ (by first | omega | (simp; done) | (simp; omega)) _))⟩
    rw [HF.out]
    obtain ⟨b1, b2⟩ := inB_true r6
    obtain ⟨b3, b4⟩ := inB_true r7
    first
      | (simp_all [msgForm, flagB, msgTab]; done)
      | (simp_all [msgForm, flagB, msgTab]; intros; omega)

set_option maxRecDepth 100000 in
set_option maxHeartbeats 4000000 in
theorem messageFault_form6 (s p : Int) (A : Option Addr) (n c : Nat) (ls : List (Int × Int)) (m : Msg) (w : World) (hls : LabelsAt w w.heap.size A n c ls) (hC : checkF s p ls = 0) (hk : m.kind = 6) (hR : msgRange s ls.length m = true) :
    Calls Tryd.prog 22 #[.agg #[.int .i64 s, .slice A n c, .int .i64 p], .agg #[.int .i64 m.kind, .int .i64 m.from_, .int .i64 m.to, .int .i64 m.site, .int .i64 m.num, .int .i64 m.label, .int .i64 m.key, .int .i64 m.value, .int .i64 m.version, .int .i64 m.ask, .bool m.yes, .int .i64 m.code]] w fun e w' => e = .returned (.int .i64 (msgF s p ls m)) ∧ Below w.heap.size w w' := by
  have hf : msgF s p ls m = if msgForm m = false then 4 else 0 := by unfold msgF; rw [if_neg (by simpa using hC), if_neg (by rw [inB_mk (by omega)]; simp), if_neg (by rw [hR]; simp)]
  obtain ⟨R, hRr⟩ : ∃ R, R = msgF s p ls m := ⟨_, rfl⟩
  rw [← hRr]
  have HF := Lib.hid (hRr.trans hf)
  clear hf hRr
  obtain ⟨hs1, hs2, hs3, hs4⟩ := checkF_ok hC
  have hn : n ≤ 6 := by rw [← hls.1]; exact hs4
  rw [hls.1] at hR
  obtain ⟨r1, r2, r3, r4, r5, r6, r7, r8, r9⟩ := msgRange_parts hR
  have r0 : inB m.kind 1 9 = true := inB_mk (by omega)
  rw [hk] at r0
  clear hR
  rcases codeB_true r9 with hcd | hcd | hcd
  all_goals
    clear r9
    go_enter Tryd.func22, Tryd.ntmps22
    (try simp only [List.append_eq, List.cons_append, List.nil_append])
    go_wp2_with (first | (go_at_call 78; refine (fault_any _ _ _ _ _ ls _ (hls.below (Flat.stable _) (by (repeat (first | exact Below.refl _ _ | assumption | refine Below.alloc ?_ (by first | omega | (simp; done) | (simp; omega)) _ | refine below_drewN ?_ _ | refine Below.drew ?_ | refine Below.setCell ?_ (by first | omega | (simp; done) | (simp; omega)) _))) (by first | omega | (simp; done) | (simp; omega)))).mono ?_; rintro e w1 ⟨rfl, hb1⟩; obtain ⟨hc1, hf1⟩ := bcell hb1; have hbb1 : Below w.heap.size w w1 := (by refine Below.trans ?_ (hb1.mono ?_); rotate_left; (focus (first | omega | (simp; done) | (simp; omega))); (repeat (first | exact Below.refl _ _ | assumption | refine Below.alloc ?_ (by first | omega | (simp; done) | (simp; omega)) _ | refine below_drewN ?_ _ | refine Below.drew ?_ | refine Below.setCell ?_ (by first | omega | (simp; done) | (simp; omega)) _))); have hsz1 := hb1.size; (try simp at hsz1); have z_w_w1_0 : w.heap.size < w1.heap.size := (by omega); have z_w_w1_1 : w.heap.size + 1 < w1.heap.size := (by omega); have q_0_1 : ¬ w.heap.size = w1.heap.size + 1 := (by omega); have l_0_1 : w.heap.size < w1.heap.size + 1 := (by omega); have q_0_2 : ¬ w.heap.size = w1.heap.size + 1 + 1 := (by omega); have l_0_2 : w.heap.size < w1.heap.size + 1 + 1 := (by omega); have q_0_3 : ¬ w.heap.size = w1.heap.size + 1 + 1 + 1 := (by omega); have l_0_3 : w.heap.size < w1.heap.size + 1 + 1 + 1 := (by omega); have q_0_4 : ¬ w.heap.size = w1.heap.size + 1 + 1 + 1 + 1 := (by omega); have l_0_4 : w.heap.size < w1.heap.size + 1 + 1 + 1 + 1 := (by omega); have q_1_1 : ¬ w.heap.size + 1 = w1.heap.size + 1 := (by omega); have l_1_1 : w.heap.size + 1 < w1.heap.size + 1 := (by omega); have q_1_2 : ¬ w.heap.size + 1 = w1.heap.size + 1 + 1 := (by omega); have l_1_2 : w.heap.size + 1 < w1.heap.size + 1 + 1 := (by omega); have q_1_3 : ¬ w.heap.size + 1 = w1.heap.size + 1 + 1 + 1 := (by omega); have l_1_3 : w.heap.size + 1 < w1.heap.size + 1 + 1 + 1 := (by omega); have q_1_4 : ¬ w.heap.size + 1 = w1.heap.size + 1 + 1 + 1 + 1 := (by omega); have l_1_4 : w.heap.size + 1 < w1.heap.size + 1 + 1 + 1 + 1 := (by omega)) | (go_at_call 79; refine (in_any _ _ _ _).mono ?_; rintro e w2 ⟨rfl, rfl⟩) | (go_at_call 80; refine (txnMay_any _ _ _ _ _ _ _ _ (by omega) (by omega)).mono ?_; rintro e w3 ⟨rfl, rfl⟩) | (go_at_call 81; refine (labelMay_any _ _ _ _ _ _ _ (by omega)).mono ?_; rintro e w4 ⟨rfl, rfl⟩))
  all_goals
    go_ret
    refine ⟨ret_int ?_, by (repeat (first | exact Below.refl _ _ | assumption | refine Below.alloc ?_ (by first | omega | (simp; done) | (simp; omega)) _ | refine below_drewN ?_ _ | refine Below.drew ?_ | refine Below.setCell ?_ (by first | omega | (simp; done) | (simp; omega)) _))⟩
    rw [HF.out]
    obtain ⟨b1, b2⟩ := inB_true r6
    obtain ⟨b3, b4⟩ := inB_true r7
    first
      | (simp_all [msgForm, flagB, msgTab]; done)
      | (simp_all [msgForm, flagB, msgTab]; intros; omega)

end Go.Proofs.YtobhipeiogljjaaDoor
