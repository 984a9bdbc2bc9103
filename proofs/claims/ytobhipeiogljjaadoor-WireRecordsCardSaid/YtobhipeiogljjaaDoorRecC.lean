/- reredosref.RecordFault -/
import Derived.Test.YtobhipeiogljjaaDoorRecB
import Derived.Test.YtobhipeiogljjaaDoorMsg
namespace Go.Proofs.YtobhipeiogljjaaDoor
open Go.RowKit Go.ChangeShapes Go.WideShapes Go.Deep

set_option maxRecDepth 100000 in
set_option maxHeartbeats 2000000 in
theorem recordFault_cfg (s p : Int) (A : Option Addr) (n c : Nat) (ls : List (Int × Int)) (r : Rec) (A2 : Option Addr) (n2 c2 : Nat) (w : World) (hls : LabelsAt w w.heap.size A n c ls) (hC : checkF s p ls ≠ 0) :
    Calls Tryd.prog 24 #[.agg #[.int .i64 s, .slice A n c, .int .i64 p], .agg #[.int .i64 r.kind, .int .i64 r.site, .int .i64 r.num, .int .i64 r.key, .int .i64 r.value, .int .i64 r.ask, .bool r.yes, .slice A2 n2 c2]] w fun e w' => e = .returned (.int .i64 (recF s p ls r)) ∧ Below w.heap.size w w' := by
  have hf : recF s p ls r = checkF s p ls := by unfold recF; rw [if_pos hC]
  rw [hf]
  go_enter Tryd.func24, Tryd.ntmps24
  (try simp only [List.append_eq, List.cons_append, List.nil_append])
  go_wp2_with (first | (go_at_call 78; refine (fault_any _ _ _ _ _ ls _ (hls.below (Flat.stable _) (by (repeat (first | exact Below.refl _ _ | assumption | refine Below.alloc ?_ (by first | omega | (simp; done) | (simp; omega)) _ | refine below_drewN ?_ _ | refine Below.drew ?_ | refine Below.setCell ?_ (by first | omega | (simp; done) | (simp; omega)) _))) (by first | omega | (simp; done) | (simp; omega)))).mono ?_; rintro e w1 ⟨rfl, hb1⟩; obtain ⟨hc1, hf1⟩ := bcell hb1; have hbb1 : Below w.heap.size w w1 := (by refine Below.trans ?_ (hb1.mono ?_); rotate_left; (focus (first | omega | (simp; done) | (simp; omega))); (repeat (first | exact Below.refl _ _ | assumption | refine Below.alloc ?_ (by first | omega | (simp; done) | (simp; omega)) _ | refine below_drewN ?_ _ | refine Below.drew ?_ | refine Below.setCell ?_ (by first | omega | (simp; done) | (simp; omega)) _))); have hsz1 := hb1.size; (try simp at hsz1); have z_w_w1_0 : w.heap.size < w1.heap.size := (by omega); have z_w_w1_1 : w.heap.size + 1 < w1.heap.size := (by omega)) | (go_at_call 79; refine (in_any _ _ _ _).mono ?_; rintro e w2 ⟨rfl, rfl⟩) | (go_at_call 80; refine (txnMay_any _ _ _ _ _ _ _ _ (by omega) (by omega)).mono ?_; rintro e w3 ⟨rfl, rfl⟩))
  go_ret
  exact ⟨rfl, by (repeat (first | exact Below.refl _ _ | assumption | refine Below.alloc ?_ (by first | omega | (simp; done) | (simp; omega)) _ | refine below_drewN ?_ _ | refine Below.drew ?_ | refine Below.setCell ?_ (by first | omega | (simp; done) | (simp; omega)) _))⟩

set_option maxRecDepth 100000 in
set_option maxHeartbeats 2000000 in
theorem recordFault_kind (s p : Int) (A : Option Addr) (n c : Nat) (ls : List (Int × Int)) (r : Rec) (A2 : Option Addr) (n2 c2 : Nat) (w : World) (hls : LabelsAt w w.heap.size A n c ls) (hC : checkF s p ls = 0) (hk : inB r.kind 1 6 = false) :
    Calls Tryd.prog 24 #[.agg #[.int .i64 s, .slice A n c, .int .i64 p], .agg #[.int .i64 r.kind, .int .i64 r.site, .int .i64 r.num, .int .i64 r.key, .int .i64 r.value, .int .i64 r.ask, .bool r.yes, .slice A2 n2 c2]] w fun e w' => e = .returned (.int .i64 (recF s p ls r)) ∧ Below w.heap.size w w' := by
  have hf : recF s p ls r = 3 := by unfold recF; rw [if_neg (by simpa using hC), if_pos hk]
  rw [hf]
  go_enter Tryd.func24, Tryd.ntmps24
  (try simp only [List.append_eq, List.cons_append, List.nil_append])
  go_wp2_with (first | (go_at_call 78; refine (fault_any _ _ _ _ _ ls _ (hls.below (Flat.stable _) (by (repeat (first | exact Below.refl _ _ | assumption | refine Below.alloc ?_ (by first | omega | (simp; done) | (simp; omega)) _ | refine below_drewN ?_ _ | refine Below.drew ?_ | refine Below.setCell ?_ (by first | omega | (simp; done) | (simp; omega)) _))) (by first | omega | (simp; done) | (simp; omega)))).mono ?_; rintro e w1 ⟨rfl, hb1⟩; obtain ⟨hc1, hf1⟩ := bcell hb1; have hbb1 : Below w.heap.size w w1 := (by refine Below.trans ?_ (hb1.mono ?_); rotate_left; (focus (first | omega | (simp; done) | (simp; omega))); (repeat (first | exact Below.refl _ _ | assumption | refine Below.alloc ?_ (by first | omega | (simp; done) | (simp; omega)) _ | refine below_drewN ?_ _ | refine Below.drew ?_ | refine Below.setCell ?_ (by first | omega | (simp; done) | (simp; omega)) _))); have hsz1 := hb1.size; (try simp at hsz1); have z_w_w1_0 : w.heap.size < w1.heap.size := (by omega); have z_w_w1_1 : w.heap.size + 1 < w1.heap.size := (by omega)) | (go_at_call 79; refine (in_any _ _ _ _).mono ?_; rintro e w2 ⟨rfl, rfl⟩) | (go_at_call 80; refine (txnMay_any _ _ _ _ _ _ _ _ (by omega) (by omega)).mono ?_; rintro e w3 ⟨rfl, rfl⟩))
  go_ret
  exact ⟨rfl, by (repeat (first | exact Below.refl _ _ | assumption | refine Below.alloc ?_ (by first | omega | (simp; done) | (simp; omega)) _ | refine below_drewN ?_ _ | refine Below.drew ?_ | refine Below.setCell ?_ (by first | omega | (simp; done) | (simp; omega)) _))⟩

set_option maxRecDepth 100000 in
set_option maxHeartbeats 4000000 in
theorem recordFault_range (s p : Int) (A : Option Addr) (n c : Nat) (ls : List (Int × Int)) (r : Rec) (A2 : Option Addr) (n2 c2 : Nat) (w : World) (hls : LabelsAt w w.heap.size A n c ls) (hC : checkF s p ls = 0) (hk : inB r.kind 1 6 = true) (hR : recRange s r = false) :
    Calls Tryd.prog 24 #[.agg #[.int .i64 s, .slice A n c, .int .i64 p], .agg #[.int .i64 r.kind, .int .i64 r.site, .int .i64 r.num, .int .i64 r.key, .int .i64 r.value, .int .i64 r.ask, .bool r.yes, .slice A2 n2 c2]] w fun e w' => e = .returned (.int .i64 (recF s p ls r)) ∧ Below w.heap.size w w' := by
  have hf : recF s p ls r = 2 := by unfold recF; rw [if_neg (by simpa using hC), if_neg (by rw [hk]; simp), if_pos hR]
  rw [hf]
  obtain ⟨hs1, hs2, hs3, hs4⟩ := checkF_ok hC
  have HR := recRange_not hR
  clear hR hf
  rcases HR with q1 | ⟨q1, q2⟩ | ⟨q1, q2, q3⟩ | ⟨q1, q2, q3, q4⟩
  all_goals
    go_enter Tryd.func24, Tryd.ntmps24
    (try simp only [List.append_eq, List.cons_append, List.nil_append])
    go_wp2_with (first | (go_at_call 78; refine (fault_any _ _ _ _ _ ls _ (hls.below (Flat.stable _) (by (repeat (first | exact Below.refl _ _ | assumption | refine Below.alloc ?_ (by first | omega | (simp; done) | (simp; omega)) _ | refine below_drewN ?_ _ | refine Below.drew ?_ | refine Below.setCell ?_ (by first | omega | (simp; done) | (simp; omega)) _))) (by first | omega | (simp; done) | (simp; omega)))).mono ?_; rintro e w1 ⟨rfl, hb1⟩; obtain ⟨hc1, hf1⟩ := bcell hb1; have hbb1 : Below w.heap.size w w1 := (by refine Below.trans ?_ (hb1.mono ?_); rotate_left; (focus (first | omega | (simp; done) | (simp; omega))); (repeat (first | exact Below.refl _ _ | assumption | refine Below.alloc ?_ (by first | omega | (simp; done) | (simp; omega)) _ | refine below_drewN ?_ _ | refine Below.drew ?_ | refine Below.setCell ?_ (by first | omega | (simp; done) | (simp; omega)) _))); have hsz1 := hb1.size; (try simp at hsz1); have z_w_w1_0 : w.heap.size < w1.heap.size := (by omega); have z_w_w1_1 : w.heap.size + 1 < w1.heap.size := (by omega)) | (go_at_call 79; refine (in_any _ _ _ _).mono ?_; rintro e w2 ⟨rfl, rfl⟩) | (go_at_call 80; refine (txnMay_any _ _ _ _ _ _ _ _ (by omega) (by omega)).mono ?_; rintro e w3 ⟨rfl, rfl⟩))
  all_goals first
    | (exfalso; omega)
    | (go_ret; exact ⟨rfl, by (repeat (first | exact Below.refl _ _ | assumption | refine Below.alloc ?_ (by first | omega | (simp; done) | (simp; omega)) _ | refine below_drewN ?_ _ | refine Below.drew ?_ | refine Below.setCell ?_ (by first | omega | (simp; done) | (simp; omega)) _))⟩)

set_option maxRecDepth 100000 in
set_option maxHeartbeats 4000000 in
theorem recordFault_main (s p : Int) (A : Option Addr) (n c : Nat) (ls : List (Int × Int)) (r : Rec) (A2 : Option Addr) (n2 c2 : Nat) (w : World) (hls : LabelsAt w w.heap.size A n c ls) (hsi : IntsAt w w.heap.size A2 n2 c2 r.sites) (hC : checkF s p ls = 0) (hk : inB r.kind 1 6 = true) (hR : recRange s r = true) :
    Calls Tryd.prog 24 #[.agg #[.int .i64 s, .slice A n c, .int .i64 p], .agg #[.int .i64 r.kind, .int .i64 r.site, .int .i64 r.num, .int .i64 r.key, .int .i64 r.value, .int .i64 r.ask, .bool r.yes, .slice A2 n2 c2]] w fun e w' => e = .returned (.int .i64 (recF s p ls r)) ∧ Below w.heap.size w w' := by
  have HK := Lib.hid hk
  have HR := Lib.hid hR
  have HL := Lib.hid hsi.1
  obtain ⟨hs1, hs2, hs3, hs4⟩ := checkF_ok hC
  have hn : n2 ≤ 9223372036854775807 := by have := hsi.2.1; have := hsi.2.2.1; unfold maxLen at this; omega
  have hnc : n2 ≤ c2 := hsi.2.1
  obtain ⟨q1, q2, q3, q4⟩ := recRange_parts hR
  clear hR
  have hkb := inB_true hk
  clear hk
  obtain ⟨R, hRr⟩ : ∃ R, R = recF s p ls r := ⟨_, rfl⟩
  rw [← hRr]
  have HX := Lib.hid hRr
  clear hRr
  have hk := HK.out
  go_enter Tryd.func24, Tryd.ntmps24
  (try simp only [List.append_eq, List.cons_append, List.nil_append])
  go_wp2_with (first | (go_at_call 78; refine (fault_any _ _ _ _ _ ls _ (hls.below (Flat.stable _) (by (repeat (first | exact Below.refl _ _ | assumption | refine Below.alloc ?_ (by first | omega | (simp; done) | (simp; omega)) _ | refine below_drewN ?_ _ | refine Below.drew ?_ | refine Below.setCell ?_ (by first | omega | (simp; done) | (simp; omega)) _))) (by first | omega | (simp; done) | (simp; omega)))).mono ?_; rintro e w1 ⟨rfl, hb1⟩; obtain ⟨hc1, hf1⟩ := bcell hb1; have hbb1 : Below w.heap.size w w1 := (by refine Below.trans ?_ (hb1.mono ?_); rotate_left; (focus (first | omega | (simp; done) | (simp; omega))); (repeat (first | exact Below.refl _ _ | assumption | refine Below.alloc ?_ (by first | omega | (simp; done) | (simp; omega)) _ | refine below_drewN ?_ _ | refine Below.drew ?_ | refine Below.setCell ?_ (by first | omega | (simp; done) | (simp; omega)) _))); have hsz1 := hb1.size; (try simp at hsz1); have z_w_w1_0 : w.heap.size < w1.heap.size := (by omega); have z_w_w1_1 : w.heap.size + 1 < w1.heap.size := (by omega)) | (go_at_call 79; refine (in_any _ _ _ _).mono ?_; rintro e w2 ⟨rfl, rfl⟩) | (go_at_call 80; refine (txnMay_any _ _ _ _ _ _ _ _ (by omega) (by omega)).mono ?_; rintro e w3 ⟨rfl, rfl⟩))
  clear hk
  have hbw0 : Below w.heap.size w w1 := hbb1
  go_loopw [6] (fun i wr => ∃ k : Nat, k ≤ n2 ∧ i = .int .i64 k ∧ Hid (scanF (siteFault s r.sites) n2 n2 = scanF (siteFault s r.sites) n2 (n2 - k)) ∧ Below w1.heap.size w1 wr)
      (fun i _ => n2 - (intOf i).toNat)
  case atStart => exact ⟨0, Nat.zero_le _, rfl, rfl, by (repeat (first | exact Below.refl _ _ | assumption | refine Below.alloc ?_ (by first | omega | (simp; done) | (simp; omega)) _ | refine below_drewN ?_ _ | refine Below.drew ?_ | refine Below.setCell ?_ (by first | omega | (simp; done) | (simp; omega)) _))⟩
  case round =>
    obtain ⟨wo, rfl⟩ : ∃ wo : World, wo = wr := ⟨_, rfl⟩
    obtain ⟨k, hk, rfl, HS, hb⟩ := hrel
    obtain ⟨hc, hf⟩ := bcell hb
    have hsz := hb.size
    have z_w_wo_0 : w.heap.size < wo.heap.size := (by omega); have z_w_wo_1 : w.heap.size + 1 < wo.heap.size := (by omega)
    have hbw : Below w.heap.size w wo := hbb1.trans (hb.mono hbb1.size)
    by_cases hlt : k < n2
    · obtain ⟨b, off, rfl, hbB, hcell⟩ := hsi.cells hlt
      obtain ⟨hv0, hv1, hv2⟩ := hcell k hlt
      have hv := (hbw.cell (p := ⟨b, off + k, none⟩) hbB).trans hv0
      clear hv0
      cases hO1 : inB (r.sites[k]?.getD 0) 0 (s - 1)
      · have hbad := recF_site hC HK.out HR.out HL.out hlt HS.out (site_bad1 hO1)
        have HB := Lib.hid hbad
        clear hbad
        go_wp2; go_quiet ((go_at_call 79; exact quiet_in ((in_any _ _ _ _).mono (by rintro e w5 ⟨rfl, rfl⟩; exact ⟨by rw [hO1], Drew.refl _⟩))))
        go_wp2
        all_goals first
          | (exfalso; omega)
          | (go_ret; exact ⟨ret_int (HX.out.trans HB.out).symm, by (repeat (first | exact Below.refl _ _ | assumption | refine Below.alloc ?_ (by first | omega | (simp; done) | (simp; omega)) _ | refine below_drewN ?_ _ | refine Below.drew ?_ | refine Below.setCell ?_ (by first | omega | (simp; done) | (simp; omega)) _))⟩)
      · by_cases h0 : 0 < k
        · obtain ⟨hu0, hu1, hu2⟩ := hcell (k - 1) (by omega)
          have hu := (hbw.cell (p := ⟨b, off + (k - 1), none⟩) hbB).trans hu0
          clear hu0
          by_cases hle : r.sites[k]?.getD 0 ≤ r.sites[k - 1]?.getD 0
          · have hbad := recF_site hC HK.out HR.out HL.out hlt HS.out (site_bad2 h0 hle)
            have HB := Lib.hid hbad
            clear hbad
            go_wp2; go_quiet ((go_at_call 79; exact quiet_in ((in_any _ _ _ _).mono (by rintro e w5 ⟨rfl, rfl⟩; exact ⟨by rw [hO1], Drew.refl _⟩))))
            go_wp2
            all_goals first
              | (exfalso; omega)
              | (go_ret; exact ⟨ret_int (HX.out.trans HB.out).symm, by (repeat (first | exact Below.refl _ _ | assumption | refine Below.alloc ?_ (by first | omega | (simp; done) | (simp; omega)) _ | refine below_drewN ?_ _ | refine Below.drew ?_ | refine Below.setCell ?_ (by first | omega | (simp; done) | (simp; omega)) _))⟩)
          · have hgood := site_good hO1 (fun h => hle h.2)
            have HG := Lib.hid hgood
            clear hgood
            go_wp2; go_quiet ((go_at_call 79; exact quiet_in ((in_any _ _ _ _).mono (by rintro e w5 ⟨rfl, rfl⟩; exact ⟨by rw [hO1], Drew.refl _⟩))))
            go_wp2
            all_goals first
              | (exfalso; omega)
              | skip
            all_goals
              go_roundw
              case rel =>
                refine ⟨k + 1, by omega, by go_num, ?_, by (repeat (first | exact Below.refl _ _ | assumption | refine Below.alloc ?_ (by first | omega | (simp; done) | (simp; omega)) _ | refine below_drewN ?_ _ | refine Below.drew ?_ | refine Below.setCell ?_ (by first | omega | (simp; done) | (simp; omega)) _))⟩
                show _ = _
                rw [HS.out, scanF_step hlt, if_pos HG.out]
              case measure => simp [intOf]; omega
        · obtain rfl : k = 0 := by omega
          rw [Nat.add_zero] at hv
          have hgood := site_good hO1 (fun h => h0 h.1)
          have HG := Lib.hid hgood
          clear hgood
          go_wp2; go_quiet ((go_at_call 79; exact quiet_in ((in_any _ _ _ _).mono (by rintro e w5 ⟨rfl, rfl⟩; exact ⟨by rw [hO1], Drew.refl _⟩))))
          go_wp2
          all_goals first
            | (exfalso; omega)
            | skip
          all_goals
            go_roundw
            case rel =>
              refine ⟨1, by omega, by go_num, ?_, by (repeat (first | exact Below.refl _ _ | assumption | refine Below.alloc ?_ (by first | omega | (simp; done) | (simp; omega)) _ | refine below_drewN ?_ _ | refine Below.drew ?_ | refine Below.setCell ?_ (by first | omega | (simp; done) | (simp; omega)) _))⟩
              show _ = _
              rw [HS.out, scanF_step hlt, if_pos HG.out]
            case measure => simp [intOf]; omega
    · obtain rfl : k = n2 := by omega
      have HE := Lib.hid (HX.out.trans (recF_end hC HK.out HR.out HL.out HS.out))
      have h3 : r.kind = 1 ∨ r.kind = 2 ∨ r.kind = 3 ∨ r.kind = 4 ∨ r.kind = 5 ∨ r.kind = 6 := by omega
      clear HX
      rcases h3 with h | h | h | h | h | h
      all_goals
        go_wp2
        all_goals first
          | (exfalso; omega)
          | (go_ret
             refine ⟨ret_int ?_, by (repeat (first | exact Below.refl _ _ | assumption | refine Below.alloc ?_ (by first | omega | (simp; done) | (simp; omega)) _ | refine below_drewN ?_ _ | refine Below.drew ?_ | refine Below.setCell ?_ (by first | omega | (simp; done) | (simp; omega)) _))⟩
             rw [HE.out]
             have hln := HL.out
             simp [recForm, flagR, recTab, *]
             done)
          | (go_ret
             refine ⟨ret_int ?_, by (repeat (first | exact Below.refl _ _ | assumption | refine Below.alloc ?_ (by first | omega | (simp; done) | (simp; omega)) _ | refine below_drewN ?_ _ | refine Below.drew ?_ | refine Below.setCell ?_ (by first | omega | (simp; done) | (simp; omega)) _))⟩
             rw [HE.out]
             have hln := HL.out
             simp_all [recForm, flagR, recTab]
             done)
          | (go_ret
             refine ⟨ret_int ?_, by (repeat (first | exact Below.refl _ _ | assumption | refine Below.alloc ?_ (by first | omega | (simp; done) | (simp; omega)) _ | refine below_drewN ?_ _ | refine Below.drew ?_ | refine Below.setCell ?_ (by first | omega | (simp; done) | (simp; omega)) _))⟩
             rw [HE.out]
             have hln := HL.out
             simp_all [recForm, flagR, recTab] <;> (intros; omega))

end Go.Proofs.YtobhipeiogljjaaDoor
