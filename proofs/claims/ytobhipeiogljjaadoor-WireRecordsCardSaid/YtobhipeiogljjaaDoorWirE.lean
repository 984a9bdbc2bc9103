/- wire.CheckMessage where kind and ranges are right: kinds 7, 8, 9. -/
import Derived.Test.YtobhipeiogljjaaDoorWirB
namespace Go.Proofs.YtobhipeiogljjaaDoor
open Go.RowKit Go.ChangeShapes Go.WideShapes Go.Deep

set_option maxRecDepth 100000 in
set_option maxHeartbeats 4000000 in
theorem checkMessage_form7 (s p : Int) (A : Option Addr) (n c : Nat) (ls : List (Int × Int)) (m : Msg) (w : World) (hls : LabelsAt w w.heap.size A n c ls) (hT : MsgTab w) (hC : checkF s p ls = 0) (hk : m.kind = 7) (hR : msgRange s ls.length m = true) :
    Calls Tryd.prog 21 #[.agg #[.int .i64 s, .slice A n c, .int .i64 p], .agg #[.int .i64 m.kind, .int .i64 m.from_, .int .i64 m.to, .int .i64 m.site, .int .i64 m.num, .int .i64 m.label, .int .i64 m.key, .int .i64 m.value, .int .i64 m.version, .int .i64 m.ask, .bool m.yes, .int .i64 m.code]] w fun e w' => e = .returned (.int .i64 (msgF s p ls m)) ∧ Below w.heap.size w w' := by
  have hf : msgF s p ls m = if msgForm m = false then 4 else 0 := by unfold msgF; rw [if_neg (by simpa using hC), if_neg (by rw [inB_mk (by omega)]; simp), if_neg (by rw [hR]; simp)]
  obtain ⟨R, hRr⟩ : ∃ R, R = msgF s p ls m := ⟨_, rfl⟩
  rw [← hRr]
  have HF := Lib.hid (hRr.trans hf)
  clear hf hRr
  rw [hls.1] at hR
  obtain ⟨r1, r2, r3, r4, r5, r6, r7, r8, r9, r10, r11, r12, r13⟩ := range_facts hR
  obtain ⟨v1, v2⟩ := inB_true r9
  have hrow := hT.row 7 (by decide)
  have t0 := hrow 0 (by decide)
  have t1 := hrow 1 (by decide)
  have t2 := hrow 2 (by decide)
  have t3 := hrow 3 (by decide)
  have t4 := hrow 4 (by decide)
  have t5 := hrow 5 (by decide)
  have t6 := hrow 6 (by decide)
  have t7 := hrow 7 (by decide)
  simp [flagB, msgTab] at t0 t1 t2 t3 t4 t5 t6 t7
  have hw0 : 0 < w.heap.size := (cell_block_lt t0).1
  clear hR hrow hT
  go_enter Tryd.func21, Tryd.ntmps21
  (try simp only [List.append_eq, List.cons_append, List.nil_append])
  go_wp2_with fail
  refine (check_any _ _ _ _ _ ls _ (hls.below (Flat.stable _) (by (repeat (first | exact Below.refl _ _ | assumption | refine Below.alloc ?_ (by first | omega | (simp; done) | (simp; omega)) _ | refine below_drewN ?_ _ | refine Below.drew ?_ | refine Below.setCell ?_ (by first | omega | (simp; done) | (simp; omega)) _))) (by first | omega | (simp; done) | (simp; omega)))).mono ?_
  rintro e w1 ⟨rfl, hb1⟩
  obtain ⟨hc1, hf1⟩ := bcell hb1; have hbb1 : Below w.heap.size w w1 := (by refine Below.trans ?_ (hb1.mono ?_); rotate_left; (focus (first | omega | (simp; done) | (simp; omega))); (repeat (first | exact Below.refl _ _ | assumption | refine Below.alloc ?_ (by first | omega | (simp; done) | (simp; omega)) _ | refine below_drewN ?_ _ | refine Below.drew ?_ | refine Below.setCell ?_ (by first | omega | (simp; done) | (simp; omega)) _))); have hsz1 := hb1.size; (try simp at hsz1)
  have z_w_w1_0 : w.heap.size < w1.heap.size := (by omega); have z_w_w1_1 : w.heap.size + 1 < w1.heap.size := (by omega)
  have hw1 : 0 < w1.heap.size := by omega
  go_wp2_with (first | (go_at_call 72; refine (check_any _ _ _ _ _ ls _ (hls.below (Flat.stable _) (by (repeat (first | exact Below.refl _ _ | assumption | refine Below.alloc ?_ (by first | omega | (simp; done) | (simp; omega)) _ | refine below_drewN ?_ _ | refine Below.drew ?_ | refine Below.setCell ?_ (by first | omega | (simp; done) | (simp; omega)) _))) (by first | omega | (simp; done) | (simp; omega)))).mono ?_; rintro e w1 ⟨rfl, hb1⟩; obtain ⟨hc1, hf1⟩ := bcell hb1; have hbb1 : Below w.heap.size w w1 := (by refine Below.trans ?_ (hb1.mono ?_); rotate_left; (focus (first | omega | (simp; done) | (simp; omega))); (repeat (first | exact Below.refl _ _ | assumption | refine Below.alloc ?_ (by first | omega | (simp; done) | (simp; omega)) _ | refine below_drewN ?_ _ | refine Below.drew ?_ | refine Below.setCell ?_ (by first | omega | (simp; done) | (simp; omega)) _))); have hsz1 := hb1.size; (try simp at hsz1); have z_w_w1_0 : w.heap.size < w1.heap.size := (by omega); have z_w_w1_1 : w.heap.size + 1 < w1.heap.size := (by omega)) | (go_at_call 73; refine (txn_any _ _ _ _ _ _ _ _).mono ?_; rintro e w2 ⟨rfl, rfl⟩) | (go_at_call 74; refine (key_any _ _).mono ?_; rintro e w3 ⟨rfl, rfl⟩) | (go_at_call 75; refine (value_any _ _).mono ?_; rintro e w3 ⟨rfl, rfl⟩) | (go_at_call 76; refine (ask_any _ _).mono ?_; rintro e w3 ⟨rfl, rfl⟩) | (go_at_call 77; refine (code_any _ _).mono ?_; rintro e w3 ⟨rfl, rfl⟩))
  all_goals first
    | (exfalso; omega)
    | (go_ret
       refine ⟨ret_int ?_, by (repeat (first | exact Below.refl _ _ | assumption | refine Below.alloc ?_ (by first | omega | (simp; done) | (simp; omega)) _ | refine below_drewN ?_ _ | refine Below.drew ?_ | refine Below.setCell ?_ (by first | omega | (simp; done) | (simp; omega)) _))⟩
       rw [HF.out]
       simp [msgForm, flagB, msgTab, *]
       done)
    | (go_ret
       refine ⟨ret_int ?_, by (repeat (first | exact Below.refl _ _ | assumption | refine Below.alloc ?_ (by first | omega | (simp; done) | (simp; omega)) _ | refine below_drewN ?_ _ | refine Below.drew ?_ | refine Below.setCell ?_ (by first | omega | (simp; done) | (simp; omega)) _))⟩
       rw [HF.out]
       simp_all [msgForm, flagB, msgTab]
       done)

set_option maxRecDepth 100000 in
set_option maxHeartbeats 4000000 in
theorem checkMessage_form8 (s p : Int) (A : Option Addr) (n c : Nat) (ls : List (Int × Int)) (m : Msg) (w : World) (hls : LabelsAt w w.heap.size A n c ls) (hT : MsgTab w) (hC : checkF s p ls = 0) (hk : m.kind = 8) (hR : msgRange s ls.length m = true) :
    Calls Tryd.prog 21 #[.agg #[.int .i64 s, .slice A n c, .int .i64 p], .agg #[.int .i64 m.kind, .int .i64 m.from_, .int .i64 m.to, .int .i64 m.site, .int .i64 m.num, .int .i64 m.label, .int .i64 m.key, .int .i64 m.value, .int .i64 m.version, .int .i64 m.ask, .bool m.yes, .int .i64 m.code]] w fun e w' => e = .returned (.int .i64 (msgF s p ls m)) ∧ Below w.heap.size w w' := by
  have hf : msgF s p ls m = if msgForm m = false then 4 else 0 := by unfold msgF; rw [if_neg (by simpa using hC), if_neg (by rw [inB_mk (by omega)]; simp), if_neg (by rw [hR]; simp)]
  obtain ⟨R, hRr⟩ : ∃ R, R = msgF s p ls m := ⟨_, rfl⟩
  rw [← hRr]
  have HF := Lib.hid (hRr.trans hf)
  clear hf hRr
  rw [hls.1] at hR
  obtain ⟨r1, r2, r3, r4, r5, r6, r7, r8, r9, r10, r11, r12, r13⟩ := range_facts hR
  obtain ⟨v1, v2⟩ := inB_true r9
  have hrow := hT.row 8 (by decide)
  have t0 := hrow 0 (by decide)
  have t1 := hrow 1 (by decide)
  have t2 := hrow 2 (by decide)
  have t3 := hrow 3 (by decide)
  have t4 := hrow 4 (by decide)
  have t5 := hrow 5 (by decide)
  have t6 := hrow 6 (by decide)
  have t7 := hrow 7 (by decide)
  simp [flagB, msgTab] at t0 t1 t2 t3 t4 t5 t6 t7
  have hw0 : 0 < w.heap.size := (cell_block_lt t0).1
  clear hR hrow hT
  go_enter Tryd.func21, Tryd.ntmps21
  (try simp only [List.append_eq, List.cons_append, List.nil_append])
  go_wp2_with fail
  refine (check_any _ _ _ _ _ ls _ (hls.below (Flat.stable _) (by (repeat (first | exact Below.refl _ _ | assumption | refine Below.alloc ?_ (by first | omega | (simp; done) | (simp; omega)) _ | refine below_drewN ?_ _ | refine Below.drew ?_ | refine Below.setCell ?_ (by first | omega | (simp; done) | (simp; omega)) _))) (by first | omega | (simp; done) | (simp; omega)))).mono ?_
  rintro e w1 ⟨rfl, hb1⟩
  obtain ⟨hc1, hf1⟩ := bcell hb1; have hbb1 : Below w.heap.size w w1 := (by refine Below.trans ?_ (hb1.mono ?_); rotate_left; (focus (first | omega | (simp; done) | (simp; omega))); (repeat (first | exact Below.refl _ _ | assumption | refine Below.alloc ?_ (by first | omega | (simp; done) | (simp; omega)) _ | refine below_drewN ?_ _ | refine Below.drew ?_ | refine Below.setCell ?_ (by first | omega | (simp; done) | (simp; omega)) _))); have hsz1 := hb1.size; (try simp at hsz1)
  have z_w_w1_0 : w.heap.size < w1.heap.size := (by omega); have z_w_w1_1 : w.heap.size + 1 < w1.heap.size := (by omega)
  have hw1 : 0 < w1.heap.size := by omega
  go_wp2_with (first | (go_at_call 72; refine (check_any _ _ _ _ _ ls _ (hls.below (Flat.stable _) (by (repeat (first | exact Below.refl _ _ | assumption | refine Below.alloc ?_ (by first | omega | (simp; done) | (simp; omega)) _ | refine below_drewN ?_ _ | refine Below.drew ?_ | refine Below.setCell ?_ (by first | omega | (simp; done) | (simp; omega)) _))) (by first | omega | (simp; done) | (simp; omega)))).mono ?_; rintro e w1 ⟨rfl, hb1⟩; obtain ⟨hc1, hf1⟩ := bcell hb1; have hbb1 : Below w.heap.size w w1 := (by refine Below.trans ?_ (hb1.mono ?_); rotate_left; (focus (first | omega | (simp; done) | (simp; omega))); (repeat (first | exact Below.refl _ _ | assumption | refine Below.alloc ?_ (by first | omega | (simp; done) | (simp; omega)) _ | refine below_drewN ?_ _ | refine Below.drew ?_ | refine Below.setCell ?_ (by first | omega | (simp; done) | (simp; omega)) _))); have hsz1 := hb1.size; (try simp at hsz1); have z_w_w1_0 : w.heap.size < w1.heap.size := (by omega); have z_w_w1_1 : w.heap.size + 1 < w1.heap.size := (by omega)) | (go_at_call 73; refine (txn_any _ _ _ _ _ _ _ _).mono ?_; rintro e w2 ⟨rfl, rfl⟩) | (go_at_call 74; refine (key_any _ _).mono ?_; rintro e w3 ⟨rfl, rfl⟩) | (go_at_call 75; refine (value_any _ _).mono ?_; rintro e w3 ⟨rfl, rfl⟩) | (go_at_call 76; refine (ask_any _ _).mono ?_; rintro e w3 ⟨rfl, rfl⟩) | (go_at_call 77; refine (code_any _ _).mono ?_; rintro e w3 ⟨rfl, rfl⟩))
  all_goals first
    | (exfalso; omega)
    | (go_ret
       refine ⟨ret_int ?_, by (repeat (first | exact Below.refl _ _ | assumption | refine Below.alloc ?_ (by first | omega | (simp; done) | (simp; omega)) _ | refine below_drewN ?_ _ | refine Below.drew ?_ | refine Below.setCell ?_ (by first | omega | (simp; done) | (simp; omega)) _))⟩
       rw [HF.out]
       simp [msgForm, flagB, msgTab, *]
       done)
    | (go_ret
       refine ⟨ret_int ?_, by (repeat (first | exact Below.refl _ _ | assumption | refine Below.alloc ?_ (by first | omega | (simp; done) | (simp; omega)) _ | refine below_drewN ?_ _ | refine Below.drew ?_ | refine Below.setCell ?_ (by first | omega | (simp; done) | (simp; omega)) _))⟩
       rw [HF.out]
       simp_all [msgForm, flagB, msgTab]
       done)

set_option maxRecDepth 100000 in
set_option maxHeartbeats 4000000 in
theorem checkMessage_form9 (s p : Int) (A : Option Addr) (n c : Nat) (ls : List (Int × Int)) (m : Msg) (w : World) (hls : LabelsAt w w.heap.size A n c ls) (hT : MsgTab w) (hC : checkF s p ls = 0) (hk : m.kind = 9) (hR : msgRange s ls.length m = true) :
    Calls Tryd.prog 21 #[.agg #[.int .i64 s, .slice A n c, .int .i64 p], .agg #[.int .i64 m.kind, .int .i64 m.from_, .int .i64 m.to, .int .i64 m.site, .int .i64 m.num, .int .i64 m.label, .int .i64 m.key, .int .i64 m.value, .int .i64 m.version, .int .i64 m.ask, .bool m.yes, .int .i64 m.code]] w fun e w' => e = .returned (.int .i64 (msgF s p ls m)) ∧ Below w.heap.size w w' := by
  have hf : msgF s p ls m = if msgForm m = false then 4 else 0 := by unfold msgF; rw [if_neg (by simpa using hC), if_neg (by rw [inB_mk (by omega)]; simp), if_neg (by rw [hR]; simp)]
  obtain ⟨R, hRr⟩ : ∃ R, R = msgF s p ls m := ⟨_, rfl⟩
  rw [← hRr]
  have HF := Lib.hid (hRr.trans hf)
  clear hf hRr
  rw [hls.1] at hR
  obtain ⟨r1, r2, r3, r4, r5, r6, r7, r8, r9, r10, r11, r12, r13⟩ := range_facts hR
  obtain ⟨v1, v2⟩ := inB_true r9
  have hrow := hT.row 9 (by decide)
  have t0 := hrow 0 (by decide)
  have t1 := hrow 1 (by decide)
  have t2 := hrow 2 (by decide)
  have t3 := hrow 3 (by decide)
  have t4 := hrow 4 (by decide)
  have t5 := hrow 5 (by decide)
  have t6 := hrow 6 (by decide)
  have t7 := hrow 7 (by decide)
  simp [flagB, msgTab] at t0 t1 t2 t3 t4 t5 t6 t7
  have hw0 : 0 < w.heap.size := (cell_block_lt t0).1
  clear hR hrow hT
  go_enter Tryd.func21, Tryd.ntmps21
  (try simp only [List.append_eq, List.cons_append, List.nil_append])
  go_wp2_with fail
  refine (check_any _ _ _ _ _ ls _ (hls.below (Flat.stable _) (by (repeat (first | exact Below.refl _ _ | assumption | refine Below.alloc ?_ (by first | omega | (simp; done) | (simp; omega)) _ | refine below_drewN ?_ _ | refine Below.drew ?_ | refine Below.setCell ?_ (by first | omega | (simp; done) | (simp; omega)) _))) (by first | omega | (simp; done) | (simp; omega)))).mono ?_
  rintro e w1 ⟨rfl, hb1⟩
  obtain ⟨hc1, hf1⟩ := bcell hb1; have hbb1 : Below w.heap.size w w1 := (by refine Below.trans ?_ (hb1.mono ?_); rotate_left; (focus (first | omega | (simp; done) | (simp; omega))); (repeat (first | exact Below.refl _ _ | assumption | refine Below.alloc ?_ (by first | omega | (simp; done) | (simp; omega)) _ | refine below_drewN ?_ _ | refine Below.drew ?_ | refine Below.setCell ?_ (by first | omega | (simp; done) | (simp; omega)) _))); have hsz1 := hb1.size; (try simp at hsz1)
  have z_w_w1_0 : w.heap.size < w1.heap.size := (by omega); have z_w_w1_1 : w.heap.size + 1 < w1.heap.size := (by omega)
  have hw1 : 0 < w1.heap.size := by omega
  go_wp2_with (first | (go_at_call 72; refine (check_any _ _ _ _ _ ls _ (hls.below (Flat.stable _) (by (repeat (first | exact Below.refl _ _ | assumption | refine Below.alloc ?_ (by first | omega | (simp; done) | (simp; omega)) _ | refine below_drewN ?_ _ | refine Below.drew ?_ | refine Below.setCell ?_ (by first | omega | (simp; done) | (simp; omega)) _))) (by first | omega | (simp; done) | (simp; omega)))).mono ?_; rintro e w1 ⟨rfl, hb1⟩; obtain ⟨hc1, hf1⟩ := bcell hb1; have hbb1 : Below w.heap.size w w1 := (by refine Below.trans ?_ (hb1.mono ?_); rotate_left; (focus (first | omega | (simp; done) | (simp; omega))); (repeat (first | exact Below.refl _ _ | assumption | refine Below.alloc ?_ (by first | omega | (simp; done) | (simp; omega)) _ | refine below_drewN ?_ _ | refine Below.drew ?_ | refine Below.setCell ?_ (by first | omega | (simp; done) | (simp; omega)) _))); have hsz1 := hb1.size; (try simp at hsz1); have z_w_w1_0 : w.heap.size < w1.heap.size := (by omega); have z_w_w1_1 : w.heap.size + 1 < w1.heap.size := (by omega)) | (go_at_call 73; refine (txn_any _ _ _ _ _ _ _ _).mono ?_; rintro e w2 ⟨rfl, rfl⟩) | (go_at_call 74; refine (key_any _ _).mono ?_; rintro e w3 ⟨rfl, rfl⟩) | (go_at_call 75; refine (value_any _ _).mono ?_; rintro e w3 ⟨rfl, rfl⟩) | (go_at_call 76; refine (ask_any _ _).mono ?_; rintro e w3 ⟨rfl, rfl⟩) | (go_at_call 77; refine (code_any _ _).mono ?_; rintro e w3 ⟨rfl, rfl⟩))
  all_goals first
    | (exfalso; omega)
    | (go_ret
       refine ⟨ret_int ?_, by (repeat (first | exact Below.refl _ _ | assumption | refine Below.alloc ?_ (by first | omega | (simp; done) | (simp; omega)) _ | refine below_drewN ?_ _ | refine Below.drew ?_ | refine Below.setCell ?_ (by first | omega | (simp; done) | (simp; omega)) _))⟩
       rw [HF.out]
       simp [msgForm, flagB, msgTab, *]
       done)
    | (go_ret
       refine ⟨ret_int ?_, by (repeat (first | exact Below.refl _ _ | assumption | refine Below.alloc ?_ (by first | omega | (simp; done) | (simp; omega)) _ | refine below_drewN ?_ _ | refine Below.drew ?_ | refine Below.setCell ?_ (by first | omega | (simp; done) | (simp; omega)) _))⟩
       rw [HF.out]
       simp_all [msgForm, flagB, msgTab]
       done)

end Go.Proofs.YtobhipeiogljjaaDoor
