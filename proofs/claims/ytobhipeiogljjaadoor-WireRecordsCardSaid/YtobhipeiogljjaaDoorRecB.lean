/- wire.CheckRecord -/
import Derived.Test.YtobhipeiogljjaaDoorRecA
namespace Go.Proofs.YtobhipeiogljjaaDoor
open Go.RowKit Go.ChangeShapes Go.WideShapes Go.Deep

set_option maxRecDepth 100000 in
set_option maxHeartbeats 2000000 in
theorem checkRecord_cfg (s p : Int) (A : Option Addr) (n c : Nat) (ls : List (Int × Int)) (r : Rec) (A2 : Option Addr) (n2 c2 : Nat) (w : World) (hls : LabelsAt w w.heap.size A n c ls) (hC : checkF s p ls ≠ 0) :
    Calls Tryd.prog 23 #[.agg #[.int .i64 s, .slice A n c, .int .i64 p], .agg #[.int .i64 r.kind, .int .i64 r.site, .int .i64 r.num, .int .i64 r.key, .int .i64 r.value, .int .i64 r.ask, .bool r.yes, .slice A2 n2 c2]] w fun e w' => e = .returned (.int .i64 (recF s p ls r)) ∧ Below w.heap.size w w' := by
  have hf : recF s p ls r = checkF s p ls := by unfold recF; rw [if_pos hC]
  rw [hf]
  go_enter Tryd.func23, Tryd.ntmps23
  (try simp only [List.append_eq, List.cons_append, List.nil_append])
  go_wp2_with (first | (go_at_call 72; refine (check_any _ _ _ _ _ ls _ (hls.below (Flat.stable _) (by (repeat (first | exact Below.refl _ _ | assumption | refine Below.alloc ?_ (by first | omega | (simp; done) | (simp; omega)) _ | refine below_drewN ?_ _ | refine Below.drew ?_ | refine Below.setCell ?_ (by first | omega | (simp; done) | (simp; omega)) _))) (by first | omega | (simp; done) | (simp; omega)))).mono ?_; rintro e w1 ⟨rfl, hb1⟩; obtain ⟨hc1, hf1⟩ := bcell hb1; have hbb1 : Below w.heap.size w w1 := (by refine Below.trans ?_ (hb1.mono ?_); rotate_left; (focus (first | omega | (simp; done) | (simp; omega))); (repeat (first | exact Below.refl _ _ | assumption | refine Below.alloc ?_ (by first | omega | (simp; done) | (simp; omega)) _ | refine below_drewN ?_ _ | refine Below.drew ?_ | refine Below.setCell ?_ (by first | omega | (simp; done) | (simp; omega)) _))); have hsz1 := hb1.size; (try simp at hsz1); have z_w_w1_0 : w.heap.size < w1.heap.size := (by omega); have z_w_w1_1 : w.heap.size + 1 < w1.heap.size := (by omega)) | (go_at_call 73; refine (txn_any _ _ _ _ _ _ _ _).mono ?_; rintro e w2 ⟨rfl, rfl⟩) | (go_at_call 74; refine (key_any _ _).mono ?_; rintro e w3 ⟨rfl, rfl⟩) | (go_at_call 75; refine (value_any _ _).mono ?_; rintro e w3 ⟨rfl, rfl⟩) | (go_at_call 76; refine (ask_any _ _).mono ?_; rintro e w3 ⟨rfl, rfl⟩))
  go_ret
  exact ⟨rfl, by (repeat (first | exact Below.refl _ _ | assumption | refine Below.alloc ?_ (by first | omega | (simp; done) | (simp; omega)) _ | refine below_drewN ?_ _ | refine Below.drew ?_ | refine Below.setCell ?_ (by first | omega | (simp; done) | (simp; omega)) _))⟩

set_option maxRecDepth 100000 in
set_option maxHeartbeats 2000000 in
theorem checkRecord_kind (s p : Int) (A : Option Addr) (n c : Nat) (ls : List (Int × Int)) (r : Rec) (A2 : Option Addr) (n2 c2 : Nat) (w : World) (hls : LabelsAt w w.heap.size A n c ls) (hC : checkF s p ls = 0) (hk : inB r.kind 1 6 = false) :
    Calls Tryd.prog 23 #[.agg #[.int .i64 s, .slice A n c, .int .i64 p], .agg #[.int .i64 r.kind, .int .i64 r.site, .int .i64 r.num, .int .i64 r.key, .int .i64 r.value, .int .i64 r.ask, .bool r.yes, .slice A2 n2 c2]] w fun e w' => e = .returned (.int .i64 (recF s p ls r)) ∧ Below w.heap.size w w' := by
  have hf : recF s p ls r = 3 := by unfold recF; rw [if_neg (by simpa using hC), if_pos hk]
  rw [hf]
  have hk' := inB_false hk
  go_enter Tryd.func23, Tryd.ntmps23
  (try simp only [List.append_eq, List.cons_append, List.nil_append])
  rcases hk' with hk1 | hk1
  all_goals
    go_wp2_with (first | (go_at_call 72; refine (check_any _ _ _ _ _ ls _ (hls.below (Flat.stable _) (by (repeat (first | exact Below.refl _ _ | assumption | refine Below.alloc ?_ (by first | omega | (simp; done) | (simp; omega)) _ | refine below_drewN ?_ _ | refine Below.drew ?_ | refine Below.setCell ?_ (by first | omega | (simp; done) | (simp; omega)) _))) (by first | omega | (simp; done) | (simp; omega)))).mono ?_; rintro e w1 ⟨rfl, hb1⟩; obtain ⟨hc1, hf1⟩ := bcell hb1; have hbb1 : Below w.heap.size w w1 := (by refine Below.trans ?_ (hb1.mono ?_); rotate_left; (focus (first | omega | (simp; done) | (simp; omega))); (repeat (first | exact Below.refl _ _ | assumption | refine Below.alloc ?_ (by first | omega | (simp; done) | (simp; omega)) _ | refine below_drewN ?_ _ | refine Below.drew ?_ | refine Below.setCell ?_ (by first | omega | (simp; done) | (simp; omega)) _))); have hsz1 := hb1.size; (try simp at hsz1); have z_w_w1_0 : w.heap.size < w1.heap.size := (by omega); have z_w_w1_1 : w.heap.size + 1 < w1.heap.size := (by omega)) | (go_at_call 73; refine (txn_any _ _ _ _ _ _ _ _).mono ?_; rintro e w2 ⟨rfl, rfl⟩) | (go_at_call 74; refine (key_any _ _).mono ?_; rintro e w3 ⟨rfl, rfl⟩) | (go_at_call 75; refine (value_any _ _).mono ?_; rintro e w3 ⟨rfl, rfl⟩) | (go_at_call 76; refine (ask_any _ _).mono ?_; rintro e w3 ⟨rfl, rfl⟩))
    go_ret
    exact ⟨rfl, by (repeat (first | exact Below.refl _ _ | assumption | refine Below.alloc ?_ (by first | omega | (simp; done) | (simp; omega)) _ | refine below_drewN ?_ _ | refine Below.drew ?_ | refine Below.setCell ?_ (by first | omega | (simp; done) | (simp; omega)) _))⟩

theorem recRange_parts {s : Int} {r : Rec} (h : recRange s r = true) : txnB s r.site r.num = true ∧ inB r.key 0 7 = true ∧ inB r.value 0 1073741824 = true ∧ inB r.ask 0 1048576 = true := by
  simp only [recRange, Bool.and_eq_true] at h
  exact ⟨h.1.1.1, h.1.1.2, h.1.2, h.2⟩
theorem recRange_not {s : Int} {r : Rec} (h : recRange s r = false) : txnB s r.site r.num = false ∨ (txnB s r.site r.num = true ∧ inB r.key 0 7 = false) ∨ (txnB s r.site r.num = true ∧ inB r.key 0 7 = true ∧ inB r.value 0 1073741824 = false) ∨ (txnB s r.site r.num = true ∧ inB r.key 0 7 = true ∧ inB r.value 0 1073741824 = true ∧ inB r.ask 0 1048576 = false) := by
  simp only [recRange] at h
  revert h
  cases txnB s r.site r.num <;> cases inB r.key 0 7 <;> cases inB r.value 0 1073741824 <;> cases inB r.ask 0 1048576 <;> simp

set_option maxRecDepth 100000 in
set_option maxHeartbeats 4000000 in
theorem checkRecord_range (s p : Int) (A : Option Addr) (n c : Nat) (ls : List (Int × Int)) (r : Rec) (A2 : Option Addr) (n2 c2 : Nat) (w : World) (hls : LabelsAt w w.heap.size A n c ls) (hC : checkF s p ls = 0) (hk : inB r.kind 1 6 = true) (hR : recRange s r = false) :
    Calls Tryd.prog 23 #[.agg #[.int .i64 s, .slice A n c, .int .i64 p], .agg #[.int .i64 r.kind, .int .i64 r.site, .int .i64 r.num, .int .i64 r.key, .int .i64 r.value, .int .i64 r.ask, .bool r.yes, .slice A2 n2 c2]] w fun e w' => e = .returned (.int .i64 (recF s p ls r)) ∧ Below w.heap.size w w' := by
  have hf : recF s p ls r = 2 := by unfold recF; rw [if_neg (by simpa using hC), if_neg (by rw [hk]; simp), if_pos hR]
  rw [hf]
  obtain ⟨hk1, hk2⟩ := inB_true hk
  have HR := recRange_not hR
  clear hR hk hf
  rcases HR with q1 | ⟨q1, q2⟩ | ⟨q1, q2, q3⟩ | ⟨q1, q2, q3, q4⟩
  all_goals
    go_enter Tryd.func23, Tryd.ntmps23
    (try simp only [List.append_eq, List.cons_append, List.nil_append])
    go_wp2_with (first | (go_at_call 72; refine (check_any _ _ _ _ _ ls _ (hls.below (Flat.stable _) (by (repeat (first | exact Below.refl _ _ | assumption | refine Below.alloc ?_ (by first | omega | (simp; done) | (simp; omega)) _ | refine below_drewN ?_ _ | refine Below.drew ?_ | refine Below.setCell ?_ (by first | omega | (simp; done) | (simp; omega)) _))) (by first | omega | (simp; done) | (simp; omega)))).mono ?_; rintro e w1 ⟨rfl, hb1⟩; obtain ⟨hc1, hf1⟩ := bcell hb1; have hbb1 : Below w.heap.size w w1 := (by refine Below.trans ?_ (hb1.mono ?_); rotate_left; (focus (first | omega | (simp; done) | (simp; omega))); (repeat (first | exact Below.refl _ _ | assumption | refine Below.alloc ?_ (by first | omega | (simp; done) | (simp; omega)) _ | refine below_drewN ?_ _ | refine Below.drew ?_ | refine Below.setCell ?_ (by first | omega | (simp; done) | (simp; omega)) _))); have hsz1 := hb1.size; (try simp at hsz1); have z_w_w1_0 : w.heap.size < w1.heap.size := (by omega); have z_w_w1_1 : w.heap.size + 1 < w1.heap.size := (by omega)) | (go_at_call 73; refine (txn_any _ _ _ _ _ _ _ _).mono ?_; rintro e w2 ⟨rfl, rfl⟩) | (go_at_call 74; refine (key_any _ _).mono ?_; rintro e w3 ⟨rfl, rfl⟩) | (go_at_call 75; refine (value_any _ _).mono ?_; rintro e w3 ⟨rfl, rfl⟩) | (go_at_call 76; refine (ask_any _ _).mono ?_; rintro e w3 ⟨rfl, rfl⟩))
  all_goals first
    | (exfalso; omega)
    | (go_ret; exact ⟨rfl, by (repeat (first | exact Below.refl _ _ | assumption | refine Below.alloc ?_ (by first | omega | (simp; done) | (simp; omega)) _ | refine below_drewN ?_ _ | refine Below.drew ?_ | refine Below.setCell ?_ (by first | omega | (simp; done) | (simp; omega)) _))⟩)

set_option maxRecDepth 100000 in
set_option maxHeartbeats 4000000 in
theorem checkRecord_main (s p : Int) (A : Option Addr) (n c : Nat) (ls : List (Int × Int)) (r : Rec) (A2 : Option Addr) (n2 c2 : Nat) (w : World) (hls : LabelsAt w w.heap.size A n c ls) (hsi : IntsAt w w.heap.size A2 n2 c2 r.sites) (hT : RecTab w) (hC : checkF s p ls = 0) (hk : inB r.kind 1 6 = true) (hR : recRange s r = true) :
    Calls Tryd.prog 23 #[.agg #[.int .i64 s, .slice A n c, .int .i64 p], .agg #[.int .i64 r.kind, .int .i64 r.site, .int .i64 r.num, .int .i64 r.key, .int .i64 r.value, .int .i64 r.ask, .bool r.yes, .slice A2 n2 c2]] w fun e w' => e = .returned (.int .i64 (recF s p ls r)) ∧ Below w.heap.size w w' := by
  have HK := Lib.hid hk
  have HR := Lib.hid hR
  have HL := Lib.hid hsi.1
  have hn : n2 ≤ 9223372036854775807 := by have := hsi.2.1; have := hsi.2.2.1; unfold maxLen at this; omega
  have hnc : n2 ≤ c2 := hsi.2.1
  obtain ⟨q1, q2, q3, q4⟩ := recRange_parts hR
  obtain ⟨hk1, hk2⟩ := inB_true hk
  clear hk hR
  obtain ⟨R, hRr⟩ : ∃ R, R = recF s p ls r := ⟨_, rfl⟩
  rw [← hRr]
  have HX := Lib.hid hRr
  clear hRr
  go_enter Tryd.func23, Tryd.ntmps23
  (try simp only [List.append_eq, List.cons_append, List.nil_append])
  go_wp2_with (first | (go_at_call 72; refine (check_any _ _ _ _ _ ls _ (hls.below (Flat.stable _) (by (repeat (first | exact Below.refl _ _ | assumption | refine Below.alloc ?_ (by first | omega | (simp; done) | (simp; omega)) _ | refine below_drewN ?_ _ | refine Below.drew ?_ | refine Below.setCell ?_ (by first | omega | (simp; done) | (simp; omega)) _))) (by first | omega | (simp; done) | (simp; omega)))).mono ?_; rintro e w1 ⟨rfl, hb1⟩; obtain ⟨hc1, hf1⟩ := bcell hb1; have hbb1 : Below w.heap.size w w1 := (by refine Below.trans ?_ (hb1.mono ?_); rotate_left; (focus (first | omega | (simp; done) | (simp; omega))); (repeat (first | exact Below.refl _ _ | assumption | refine Below.alloc ?_ (by first | omega | (simp; done) | (simp; omega)) _ | refine below_drewN ?_ _ | refine Below.drew ?_ | refine Below.setCell ?_ (by first | omega | (simp; done) | (simp; omega)) _))); have hsz1 := hb1.size; (try simp at hsz1); have z_w_w1_0 : w.heap.size < w1.heap.size := (by omega); have z_w_w1_1 : w.heap.size + 1 < w1.heap.size := (by omega)) | (go_at_call 73; refine (txn_any _ _ _ _ _ _ _ _).mono ?_; rintro e w2 ⟨rfl, rfl⟩) | (go_at_call 74; refine (key_any _ _).mono ?_; rintro e w3 ⟨rfl, rfl⟩) | (go_at_call 75; refine (value_any _ _).mono ?_; rintro e w3 ⟨rfl, rfl⟩) | (go_at_call 76; refine (ask_any _ _).mono ?_; rintro e w3 ⟨rfl, rfl⟩))
  have hbw0 : Below w.heap.size w w1 := hbb1
  go_loopw [48] (fun i wr => ∃ k : Nat, k ≤ n2 ∧ i = .int .i64 k ∧ Hid (scanF (siteFault s r.sites) n2 n2 = scanF (siteFault s r.sites) n2 (n2 - k)) ∧ Below w1.heap.size w1 wr)
      (fun i _ => n2 - (intOf i).toNat)
  case atStart => exact ⟨0, Nat.zero_le _, rfl, rfl, by (repeat (first | exact Below.refl _ _ | assumption | refine Below.alloc ?_ (by first | omega | (simp; done) | (simp; omega)) _ | refine below_drewN ?_ _ | refine Below.drew ?_ | refine Below.setCell ?_ (by first | omega | (simp; done) | (simp; omega)) _))⟩
  case round =>
    obtain ⟨wo, rfl⟩ : ∃ wo : World, wo = wr := ⟨_, rfl⟩
    obtain ⟨k, hk, rfl, HS, hb⟩ := hrel
    obtain ⟨hc, hf⟩ := bcell hb
    have hsz := hb.size
    have z_w_wo_0 : w.heap.size < wo.heap.size := (by omega); have z_w_wo_1 : w.heap.size + 1 < wo.heap.size := (by omega)
    have hbw : Below w.heap.size w wo := hbb1.trans (hb.mono hbb1.size)
    by_cases hlt : k < n2
    · obtain ⟨b, off, rfl, hbB, hcell⟩ := hsi.cells hlt
      obtain ⟨hv0, hv1, hv2⟩ := hcell k hlt
      have hv := (hbw.cell (p := ⟨b, off + k, none⟩) hbB).trans hv0
      clear hv0
      cases hO1 : inB (r.sites[k]?.getD 0) 0 (s - 1)
      · have hO := inB_false hO1
        have hbad := recF_site hC HK.out HR.out HL.out hlt HS.out (site_bad1 hO1)
        have HB := Lib.hid hbad
        clear hO1 hbad
        rcases hO with hO | hO
        all_goals
          go_wp2
        all_goals first
          | (exfalso; omega)
          | (go_ret; exact ⟨ret_int (HX.out.trans HB.out).symm, hbw⟩)
      · have hO := inB_true hO1
        by_cases h0 : 0 < k
        · obtain ⟨hu0, hu1, hu2⟩ := hcell (k - 1) (by omega)
          have hu := (hbw.cell (p := ⟨b, off + (k - 1), none⟩) hbB).trans hu0
          clear hu0
          by_cases hle : r.sites[k]?.getD 0 ≤ r.sites[k - 1]?.getD 0
          · have hbad := recF_site hC HK.out HR.out HL.out hlt HS.out (site_bad2 h0 hle)
            have HB := Lib.hid hbad
            clear hO1 hbad
            obtain ⟨hO1, hO2⟩ := hO
            go_wp2
            all_goals first
              | (exfalso; omega)
              | (go_ret; exact ⟨ret_int (HX.out.trans HB.out).symm, hbw⟩)
          · have hgood := site_good hO1 (fun h => hle h.2)
            have HG := Lib.hid hgood
            clear hgood hO1
            obtain ⟨hO1, hO2⟩ := hO
            go_wp2
            all_goals first
              | (exfalso; omega)
              | skip
            all_goals
              go_roundw
              case rel =>
                refine ⟨k + 1, by omega, by go_num, ?_, hb⟩
                show _ = _
                rw [HS.out, scanF_step hlt, if_pos HG.out]
              case measure => simp [intOf]; omega
        · obtain rfl : k = 0 := by omega
          rw [Nat.add_zero] at hv
          have hgood := site_good hO1 (fun h => h0 h.1)
          have HG := Lib.hid hgood
          clear hgood hO1
          obtain ⟨hO1, hO2⟩ := hO
          go_wp2
          all_goals first
            | (exfalso; omega)
            | skip
          all_goals
            go_roundw
            case rel =>
              refine ⟨1, by omega, by go_num, ?_, hb⟩
              show _ = _
              rw [HS.out, scanF_step hlt, if_pos HG.out]
            case measure => simp [intOf]; omega
    · obtain rfl : k = n2 := by omega
      have HE := Lib.hid (HX.out.trans (recF_end hC HK.out HR.out HL.out HS.out))
      have HT := Lib.hid (hT.below hbw)
      have hwo : 1 < wo.heap.size := (hT.below hbw).lt
      have h3 : r.kind = 1 ∨ r.kind = 2 ∨ r.kind = 3 ∨ r.kind = 4 ∨ r.kind = 5 ∨ r.kind = 6 := by omega
      clear HX HS hT
      rcases h3 with h | h | h | h | h | h
      · have hrow := HT.out.row 1 (by decide)
        have t0 := hrow 0 (by decide)
        have t1 := hrow 1 (by decide)
        have t2 := hrow 2 (by decide)
        have t3 := hrow 3 (by decide)
        have t4 := hrow 4 (by decide)
        have t5 := hrow 5 (by decide)
        have t6 := hrow 6 (by decide)
        have t7 := hrow 7 (by decide)
        simp [flagR, recTab] at t0 t1 t2 t3 t4 t5 t6 t7
        clear hrow
        go_wp2
        all_goals first
          | (exfalso; omega)
          | (go_ret
             refine ⟨ret_int ?_, by first | exact hbw | exact hbw.alloc (by omega) _⟩
             rw [HE.out]
             have hln := HL.out
             simp [recForm, flagR, recTab, *]
             done)
          | (go_ret
             refine ⟨ret_int ?_, by first | exact hbw | exact hbw.alloc (by omega) _⟩
             rw [HE.out]
             have hln := HL.out
             simp_all [recForm, flagR, recTab]
             done)
          | (go_ret
             refine ⟨ret_int ?_, by first | exact hbw | exact hbw.alloc (by omega) _⟩
             rw [HE.out]
             have hln := HL.out
             simp_all [recForm, flagR, recTab] <;> (intros; omega))
      · have hrow := HT.out.row 2 (by decide)
        have t0 := hrow 0 (by decide)
        have t1 := hrow 1 (by decide)
        have t2 := hrow 2 (by decide)
        have t3 := hrow 3 (by decide)
        have t4 := hrow 4 (by decide)
        have t5 := hrow 5 (by decide)
        have t6 := hrow 6 (by decide)
        have t7 := hrow 7 (by decide)
        simp [flagR, recTab] at t0 t1 t2 t3 t4 t5 t6 t7
        clear hrow
        go_wp2
        all_goals first
          | (exfalso; omega)
          | (go_ret
             refine ⟨ret_int ?_, by first | exact hbw | exact hbw.alloc (by omega) _⟩
             rw [HE.out]
             have hln := HL.out
             simp [recForm, flagR, recTab, *]
             done)
          | (go_ret
             refine ⟨ret_int ?_, by first | exact hbw | exact hbw.alloc (by omega) _⟩
             rw [HE.out]
             have hln := HL.out
             simp_all [recForm, flagR, recTab]
             done)
          | (go_ret
             refine ⟨ret_int ?_, by first | exact hbw | exact hbw.alloc (by omega) _⟩
             rw [HE.out]
             have hln := HL.out
             simp_all [recForm, flagR, recTab] <;> (intros; omega))
      · have hrow := HT.out.row 3 (by decide)
        have t0 := hrow 0 (by decide)
        have t1 := hrow 1 (by decide)
        have t2 := hrow 2 (by decide)
        have t3 := hrow 3 (by decide)
        have t4 := hrow 4 (by decide)
        have t5 := hrow 5 (by decide)
        have t6 := hrow 6 (by decide)
        have t7 := hrow 7 (by decide)
        simp [flagR, recTab] at t0 t1 t2 t3 t4 t5 t6 t7
        clear hrow
        go_wp2
        all_goals first
          | (exfalso; omega)
          | (go_ret
             refine ⟨ret_int ?_, by first | exact hbw | exact hbw.alloc (by omega) _⟩
             rw [HE.out]
             have hln := HL.out
             simp [recForm, flagR, recTab, *]
             done)
          | (go_ret
             refine ⟨ret_int ?_, by first | exact hbw | exact hbw.alloc (by omega) _⟩
             rw [HE.out]
             have hln := HL.out
             simp_all [recForm, flagR, recTab]
             done)
          | (go_ret
             refine ⟨ret_int ?_, by first | exact hbw | exact hbw.alloc (by omega) _⟩
             rw [HE.out]
             have hln := HL.out
             simp_all [recForm, flagR, recTab] <;> (intros; omega))
      · have hrow := HT.out.row 4 (by decide)
        have t0 := hrow 0 (by decide)
        have t1 := hrow 1 (by decide)
        have t2 := hrow 2 (by decide)
        have t3 := hrow 3 (by decide)
        have t4 := hrow 4 (by decide)
        have t5 := hrow 5 (by decide)
        have t6 := hrow 6 (by decide)
        have t7 := hrow 7 (by decide)
        simp [flagR, recTab] at t0 t1 t2 t3 t4 t5 t6 t7
        clear hrow
        go_wp2
        all_goals first
          | (exfalso; omega)
          | (go_ret
             refine ⟨ret_int ?_, by first | exact hbw | exact hbw.alloc (by omega) _⟩
             rw [HE.out]
             have hln := HL.out
             simp [recForm, flagR, recTab, *]
             done)
          | (go_ret
             refine ⟨ret_int ?_, by first | exact hbw | exact hbw.alloc (by omega) _⟩
             rw [HE.out]
             have hln := HL.out
             simp_all [recForm, flagR, recTab]
             done)
          | (go_ret
             refine ⟨ret_int ?_, by first | exact hbw | exact hbw.alloc (by omega) _⟩
             rw [HE.out]
             have hln := HL.out
             simp_all [recForm, flagR, recTab] <;> (intros; omega))
      · have hrow := HT.out.row 5 (by decide)
        have t0 := hrow 0 (by decide)
        have t1 := hrow 1 (by decide)
        have t2 := hrow 2 (by decide)
        have t3 := hrow 3 (by decide)
        have t4 := hrow 4 (by decide)
        have t5 := hrow 5 (by decide)
        have t6 := hrow 6 (by decide)
        have t7 := hrow 7 (by decide)
        simp [flagR, recTab] at t0 t1 t2 t3 t4 t5 t6 t7
        clear hrow
        go_wp2
        all_goals first
          | (exfalso; omega)
          | (go_ret
             refine ⟨ret_int ?_, by first | exact hbw | exact hbw.alloc (by omega) _⟩
             rw [HE.out]
             have hln := HL.out
             simp [recForm, flagR, recTab, *]
             done)
          | (go_ret
             refine ⟨ret_int ?_, by first | exact hbw | exact hbw.alloc (by omega) _⟩
             rw [HE.out]
             have hln := HL.out
             simp_all [recForm, flagR, recTab]
             done)
          | (go_ret
             refine ⟨ret_int ?_, by first | exact hbw | exact hbw.alloc (by omega) _⟩
             rw [HE.out]
             have hln := HL.out
             simp_all [recForm, flagR, recTab] <;> (intros; omega))
      · have hrow := HT.out.row 6 (by decide)
        have t0 := hrow 0 (by decide)
        have t1 := hrow 1 (by decide)
        have t2 := hrow 2 (by decide)
        have t3 := hrow 3 (by decide)
        have t4 := hrow 4 (by decide)
        have t5 := hrow 5 (by decide)
        have t6 := hrow 6 (by decide)
        have t7 := hrow 7 (by decide)
        simp [flagR, recTab] at t0 t1 t2 t3 t4 t5 t6 t7
        clear hrow
        go_wp2
        all_goals first
          | (exfalso; omega)
          | (go_ret
             refine ⟨ret_int ?_, by first | exact hbw | exact hbw.alloc (by omega) _⟩
             rw [HE.out]
             have hln := HL.out
             simp [recForm, flagR, recTab, *]
             done)
          | (go_ret
             refine ⟨ret_int ?_, by first | exact hbw | exact hbw.alloc (by omega) _⟩
             rw [HE.out]
             have hln := HL.out
             simp_all [recForm, flagR, recTab]
             done)
          | (go_ret
             refine ⟨ret_int ?_, by first | exact hbw | exact hbw.alloc (by omega) _⟩
             rw [HE.out]
             have hln := HL.out
             simp_all [recForm, flagR, recTab] <;> (intros; omega))

end Go.Proofs.YtobhipeiogljjaaDoor
