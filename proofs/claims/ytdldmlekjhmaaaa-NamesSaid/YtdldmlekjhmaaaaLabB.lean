/- the reference's ConfigFault computes what label.Check does. -/
import Derived.Test.YtdldmlekjhmaaaaLabA
namespace Go.Proofs.Ytdldmlekjhmaaaa
open Go.RowKit

theorem oneB_in (a b : Int) : oneB a b = (inB a 0 9 && inB b 0 15) := by unfold oneB inB; simp [Bool.and_assoc]
theorem lblFault_bad1 {ls : List (Int × Int)} {k : Nat} (h : inB (ls[k]?.getD (0, 0)).1 0 9 = false) : lblFault ls k = 2 := lblFault_bad (by rw [oneB_in, h]; rfl)
theorem lblFault_bad2 {ls : List (Int × Int)} {k : Nat} (h : inB (ls[k]?.getD (0, 0)).2 0 15 = false) : lblFault ls k = 2 := lblFault_bad (by rw [oneB_in, h, Bool.and_false]; rfl)
theorem lblFault_good' {ls : List (Int × Int)} {k : Nat} (h1 : inB (ls[k]?.getD (0, 0)).1 0 9 = true) (h2 : inB (ls[k]?.getD (0, 0)).2 0 15 = true) : lblFault ls k = if (ls.take k).contains (ls.getD k (0, 0)) then 7 else 0 := lblFault_good (by rw [oneB_in, h1, h2]; rfl)

set_option maxHeartbeats 400000 in
theorem fault_any (s p : Int) (A : Option Addr) (n c : Nat) (ls : List (Int × Int)) (w : World) (hls : LabelsAt w w.heap.size A n c ls) :
    Calls Try.prog 28 #[.agg #[.int .i64 s, .slice A n c, .int .i64 p]] w fun e w' => e = .returned (.int .i64 (checkF s p ls)) ∧ Below w.heap.size w w' := by
  have hn : n ≤ 9223372036854775807 := by have := hls.2.1; have := hls.2.2.1; unfold maxLen at this; omega
  have hnc : n ≤ c := hls.2.1
  have HL := Lib.hid hls.1
  cases hS : inB s 1 4
  · go_enter Try.func28, Try.ntmps28
    go_wp2_with (go_at_call 46; refine (in_any _ _ _ _).mono ?_; rintro e w1 ⟨rfl, rfl⟩)
    go_ret
    exact ⟨ret_int (checkF_s (inB_false hS)).symm, (Below.refl _ _).alloc (Nat.le_refl _) _⟩
  cases hN : inB n 1 6
  · go_enter Try.func28, Try.ntmps28
    go_wp2_with (go_at_call 46; refine (in_any _ _ _ _).mono ?_; rintro e w1 ⟨rfl, rfl⟩)
    go_ret
    exact ⟨ret_int (checkF_n (inB_true hS) (by have := inB_false hN; rw [HL.out]; omega)).symm, (Below.refl _ _).alloc (Nat.le_refl _) _⟩
  have hs4 := inB_true hS
  have hn6 : 1 ≤ n ∧ n ≤ 6 := by have := inB_true hN; omega
  go_enter Try.func28, Try.ntmps28
  go_wp2_with (go_at_call 46; refine (in_any _ _ _ _).mono ?_; rintro e w1 ⟨rfl, rfl⟩)
  go_loopw [3] (fun i wr => ∃ k : Nat, k ≤ n ∧ i = .int .i64 k ∧ Hid (scanF (lblFault ls) n n = scanF (lblFault ls) n (n - k)) ∧ Below (w.heap.size + 1) (w.alloc (.cells #[.int .i64 s, .slice A n c, .int .i64 p] 42)) wr)
      (fun i _ => n - (intOf i).toNat)
  case atStart => exact ⟨0, Nat.zero_le _, rfl, rfl, Below.refl _ _⟩
  case round =>
      obtain ⟨wo, rfl⟩ : ∃ wo : World, wo = wr := ⟨_, rfl⟩
      obtain ⟨k, hk, rfl, HS, hb⟩ := hrel
      obtain ⟨hc, hf⟩ := bcell hb
      have hsz := hb.size
      simp at hsz
      have z0 : w.heap.size < wo.heap.size := by omega
      have hbw : Below w.heap.size w wo := ((Below.refl _ _).alloc (Nat.le_refl _) _).trans (hb.mono (by omega))
      by_cases hlt : k < n
      · obtain ⟨b, off, rfl, hbB, hcell⟩ := hls.cells hlt
        cases hO1 : inB (ls[k]?.getD (0, 0)).1 0 9
        · go_wp2_with (go_at_call 46; refine (in_any _ _ _ _).mono ?_; rintro e w1 ⟨rfl, rfl⟩)
          go_ret
          exact ⟨ret_int (checkF_v hs4 HL.out hn6 hlt HS.out (lblFault_bad1 hO1) (by decide)).symm, hbw⟩
        cases hO2 : inB (ls[k]?.getD (0, 0)).2 0 15
        · go_wp2_with (go_at_call 46; refine (in_any _ _ _ _).mono ?_; rintro e w1 ⟨rfl, rfl⟩)
          go_ret
          exact ⟨ret_int (checkF_v hs4 HL.out hn6 hlt HS.out (lblFault_bad2 hO2) (by decide)).symm, hbw⟩
        have HG := Lib.hid (lblFault_good' hO1 hO2)
        go_wp2_with (go_at_call 46; refine (in_any _ _ _ _).mono ?_; rintro e w1 ⟨rfl, rfl⟩)
        go_loopw [4] (fun i wi => ∃ j m : Nat, j ≤ k ∧ i = .int .i64 j ∧ Hid ((ls.take j).contains (ls.getD k (0, 0)) = false) ∧ wi = wo.drewN m)
            (fun i _ => k - (intOf i).toNat)
        case atStart => exact ⟨0, 0, Nat.zero_le _, rfl, rfl, rfl⟩
        case round =>
          obtain ⟨j, m, hj, rfl, HJ, rfl⟩ := hrel
          by_cases hjk : j < k
          · have hjn : j < n := by omega
            have hj1 : (j : Int) < n := by omega
            have hk1 : (k : Int) < n := by omega
            by_cases e1 : (ls[j]?.getD (0, 0)).1 = (ls[k]?.getD (0, 0)).1
            · by_cases e2 : (ls[j]?.getD (0, 0)).2 = (ls[k]?.getD (0, 0)).2
              · go_wp2
                go_quiet (fail)
                go_wp2
                go_ret
                have hkl : k < ls.length := by have := HL.out; omega
                exact ⟨ret_int (checkF_v hs4 HL.out hn6 hlt HS.out (HG.out.trans (if_pos (contains_hit hjk hkl e1 e2))) (by decide)).symm, below_drewN (below_drewN hbw _) _⟩
              · go_wp2
                go_quiet (fail)
                go_wp2
                go_roundw
                case rel =>
                  refine ⟨j + 1, _, by omega, by go_num, ?_, rfl⟩
                  show _ = _
                  rw [take_contains_succ _ _ _ (by have := HL.out; omega) HJ.out, List.getD_eq_getElem?_getD, List.getD_eq_getElem?_getD]
                  simp [Prod.ext_iff, e2]
                case measure => simp [intOf]; omega
            · go_wp2
              go_quiet (fail)
              go_wp2
              go_roundw
              case rel =>
                refine ⟨j + 1, _, by omega, by go_num, ?_, rfl⟩
                show _ = _
                rw [take_contains_succ _ _ _ (by have := HL.out; omega) HJ.out, List.getD_eq_getElem?_getD, List.getD_eq_getElem?_getD]
                simp [Prod.ext_iff, e1]
              case measure => simp [intOf]; omega
          · obtain rfl : j = k := by omega
            go_wp2
            go_roundw
            case rel =>
              refine ⟨j + 1, by omega, by go_num, ?_, below_drewN hb _⟩
              show _ = _
              rw [HS.out, scanF_step hlt, if_pos]
              rw [HG.out, HJ.out]; rfl
            case measure => simp [intOf]; omega
      · obtain rfl : k = n := by omega
        cases hP : inB p 1 1048576
        all_goals
          go_wp2_with (go_at_call 46; refine (in_any _ _ _ _).mono ?_; rintro e w1 ⟨rfl, rfl⟩)
          go_ret
          refine ⟨ret_int ((checkF_end hs4 HL.out hn6 HS.out).trans ?_).symm, hbw⟩
        · rw [if_pos (by have := inB_false hP; omega)]
        · rw [if_neg (by have := inB_true hP; omega)]

end Go.Proofs.Ytdldmlekjhmaaaa
