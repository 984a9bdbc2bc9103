/- label.Check and the reference's ConfigFault: what they compute. -/
import Derived.Test.YtdldmlekjhmaaaaLib
namespace Go.Proofs.Ytdldmlekjhmaaaa
open Go.RowKit

def encLabel (l : Int × Int) : List Value := [.int .i64 l.1, .int .i64 l.2]
abbrev LabelsAt (w : World) (B : Nat) (A : Option Addr) (n c : Nat) (ls : List (Int × Int)) : Prop := SlR (Flat encLabel) 2 16 w B A n c ls

theorem LabelsAt.cells {w : World} {B : Nat} {A : Option Addr} {n c : Nat} {ls : List (Int × Int)} (h : LabelsAt w B A n c ls) {k : Nat} (hk : k < n) :
    ∃ b off, A = some ⟨b, off, none⟩ ∧ b < B ∧ ∀ j, j < n → w.cell? ⟨b, off + j * 2, none⟩ = some (.int .i64 (ls.getD j (0, 0)).1) ∧ w.cell? ⟨b, off + j * 2 + 1, none⟩ = some (.int .i64 (ls.getD j (0, 0)).2) := by
  obtain ⟨b, off, hA, hb, hc⟩ := SlR.flat h hk
  refine ⟨b, off, hA, hb, fun j hj => ?_⟩
  have hl : j < ls.length := by have := h.1; omega
  have := (hc j ls[j] (List.getElem?_eq_getElem hl)).2
  rw [List.getD_eq_getElem?_getD, List.getElem?_eq_getElem hl]
  exact ⟨this 0 _ rfl, this 1 _ rfl⟩

def oneB (a b : Int) : Bool := decide (0 ≤ a) && decide (a ≤ 9) && decide (0 ≤ b) && decide (b ≤ 15)

def lblFault (ls : List (Int × Int)) (k : Nat) : Int :=
  if oneB (ls.getD k (0, 0)).1 (ls.getD k (0, 0)).2 = false then 2 else if (ls.take k).contains (ls.getD k (0, 0)) then 7 else 0

def checkF (s p : Int) (ls : List (Int × Int)) : Int :=
  if s < 1 ∨ 4 < s then 2 else if ls.length < 1 ∨ 6 < ls.length then 1 else
  if scanF (lblFault ls) ls.length ls.length = 0 then (if p < 1 ∨ 1048576 < p then 2 else 0) else scanF (lblFault ls) ls.length ls.length

set_option maxHeartbeats 400000 in
theorem one_any (a b : Int) (w : World) :
    Calls Try.prog 45 #[.agg #[.int .i64 a, .int .i64 b]] w fun e w' => e = .returned (.bool (oneB a b)) ∧ w' = w.alloc (.cells #[.int .i64 a, .int .i64 b] 27) := by
  go_enter Try.func45, Try.ntmps45
  go_wp2
  all_goals
    go_ret
    refine ⟨by simp [oneB]; try omega, rfl⟩

/-- is a from b to c? (a plain definition: the walk doesn't look into it) -/
def inB (a b c : Int) : Bool := decide (b ≤ a) && decide (a ≤ c)
theorem inB_true {a b c : Int} (h : inB a b c = true) : b ≤ a ∧ a ≤ c := by simpa [inB] using h
theorem inB_false {a b c : Int} (h : inB a b c = false) : a < b ∨ c < a := by simp [inB] at h; omega
theorem inB_mk {a b c : Int} (h : b ≤ a ∧ a ≤ c) : inB a b c = true := by simp [inB]; omega
theorem inB_mkf {a b c : Int} (h : ¬ (b ≤ a ∧ a ≤ c)) : inB a b c = false := by simp [inB]; omega

set_option maxHeartbeats 400000 in
theorem in_any (a b c : Int) (w : World) :
    Calls Try.prog 46 #[.int .i64 a, .int .i64 b, .int .i64 c] w fun e w' => e = .returned (.bool (inB a b c)) ∧ w = w' := by
  go_enter Try.func46, Try.ntmps46
  go_wp2
  all_goals
    go_ret
    refine ⟨by simp [inB]; try omega, rfl⟩

theorem take_contains_succ (ls : List (Int × Int)) (x : Int × Int) (j : Nat) (hj : j < ls.length) (h : (ls.take j).contains x = false) :
    (ls.take (j + 1)).contains x = ((ls.getD j (0, 0)) == x) := by
  rw [List.take_add_one, List.getElem?_eq_getElem hj, List.getD_eq_getElem?_getD, List.getElem?_eq_getElem hj]
  rw [List.contains_append, h, Bool.false_or, Option.toList_some, List.contains_cons, List.contains_nil, Bool.or_false, Option.getD_some]
  exact BEq.comm

theorem lblFault_bad {ls : List (Int × Int)} {k : Nat} (h : (!oneB (ls[k]?.getD (0, 0)).1 (ls[k]?.getD (0, 0)).2) = true) : lblFault ls k = 2 := by
  unfold lblFault; rw [List.getD_eq_getElem?_getD, if_pos (by simpa using h)]
theorem lblFault_good {ls : List (Int × Int)} {k : Nat} (h : (!oneB (ls[k]?.getD (0, 0)).1 (ls[k]?.getD (0, 0)).2) = false) : lblFault ls k = if (ls.take k).contains (ls.getD k (0, 0)) then 7 else 0 := by
  unfold lblFault; rw [List.getD_eq_getElem?_getD, if_neg (by simpa using h)]
theorem contains_hit {ls : List (Int × Int)} {j k : Nat} (hjk : j < k) (hk : k < ls.length) (h1 : (ls[j]?.getD (0, 0)).1 = (ls[k]?.getD (0, 0)).1) (h2 : (ls[j]?.getD (0, 0)).2 = (ls[k]?.getD (0, 0)).2) : (ls.take k).contains (ls.getD k (0, 0)) = true := by
  have e : ls.getD j (0, 0) = ls.getD k (0, 0) := by rw [List.getD_eq_getElem?_getD, List.getD_eq_getElem?_getD]; exact Prod.ext h1 h2
  rw [← e, List.contains_iff_mem, List.getD_eq_getElem?_getD, List.getElem?_eq_getElem (by omega), Option.getD_some]
  exact List.mem_take_iff_getElem.2 ⟨j, by omega, rfl⟩
theorem checkF_s {s p : Int} {ls : List (Int × Int)} (h : s < 1 ∨ 4 < s) : checkF s p ls = 2 := by unfold checkF; rw [if_pos h]
theorem checkF_n {s p : Int} {ls : List (Int × Int)} (h : 1 ≤ s ∧ s ≤ 4) (hn : ls.length < 1 ∨ 6 < ls.length) : checkF s p ls = 1 := by unfold checkF; rw [if_neg (by omega), if_pos hn]
theorem checkF_v {s p : Int} {ls : List (Int × Int)} {n k : Nat} (h : 1 ≤ s ∧ s ≤ 4) (hl : ls.length = n) (hn : 1 ≤ n ∧ n ≤ 6) (hk : k < n) (hs : scanF (lblFault ls) n n = scanF (lblFault ls) n (n - k)) {v : Int} (hv : lblFault ls k = v) (h0 : v ≠ 0) : checkF s p ls = v := by
  have e : scanF (lblFault ls) n n = v := by rw [hs, scanF_step hk, if_neg (by rw [hv]; exact h0), hv]
  subst hl
  unfold checkF; rw [if_neg (by omega), if_neg (by omega), e, if_neg h0]
theorem checkF_end {s p : Int} {ls : List (Int × Int)} {n : Nat} (h : 1 ≤ s ∧ s ≤ 4) (hl : ls.length = n) (hn : 1 ≤ n ∧ n ≤ 6) (hs : scanF (lblFault ls) n n = scanF (lblFault ls) n (n - n)) : checkF s p ls = if p < 1 ∨ 1048576 < p then 2 else 0 := by
  have e : scanF (lblFault ls) n n = 0 := by rw [hs, scanF_end]
  subst hl
  unfold checkF; rw [if_neg (by omega), if_neg (by omega), e, if_pos rfl]

theorem checkF_ok {s p : Int} {ls : List (Int × Int)} (h : checkF s p ls = 0) : 1 ≤ s ∧ s ≤ 4 ∧ 1 ≤ ls.length ∧ ls.length ≤ 6 := by
  unfold checkF at h
  split at h
  · cases h
  split at h
  · cases h
  omega

set_option maxHeartbeats 400000 in
theorem check_any (s p : Int) (A : Option Addr) (n c : Nat) (ls : List (Int × Int)) (w : World) (hls : LabelsAt w w.heap.size A n c ls) :
    Calls Try.prog 27 #[.agg #[.int .i64 s, .slice A n c, .int .i64 p]] w fun e w' => e = .returned (.int .i64 (checkF s p ls)) ∧ Below w.heap.size w w' := by
  have hn : n ≤ 9223372036854775807 := by have := hls.2.1; have := hls.2.2.1; unfold maxLen at this; omega
  have hnc : n ≤ c := hls.2.1
  have HL := Lib.hid hls.1
  go_enter Try.func27, Try.ntmps27
  go_wp2_with fail
  rotate_left 2
  case _ =>
    have hs4 : 1 ≤ s ∧ s ≤ 4 := ‹_›
    have hn6 : 1 ≤ n ∧ n ≤ 6 := by omega
    go_loopw [28] (fun i wr => ∃ k : Nat, k ≤ n ∧ i = .int .i64 k ∧ Hid (scanF (lblFault ls) n n = scanF (lblFault ls) n (n - k)) ∧ Below (w.heap.size + 1) (w.alloc (.cells #[.int .i64 s, .slice A n c, .int .i64 p] 42)) wr)
      (fun i _ => n - (intOf i).toNat)
    case atStart => exact ⟨0, Nat.zero_le _, rfl, rfl, Below.refl _ _⟩
    case round =>
      obtain ⟨wo, rfl⟩ : ∃ wo : World, wo = wr := ⟨_, rfl⟩
      obtain ⟨k, hk, rfl, HS, hb⟩ := hrel
      obtain ⟨hc, hf⟩ := bcell hb
      have hsz := hb.size
      simp at hsz
      have z0 : w.heap.size < wo.heap.size := by omega
      have hbw : Below w.heap.size w wo := ((Below.refl _ _).alloc (Nat.le_refl _) _).trans (hb.mono (by omega))
      by_cases hlt : k < n
      · obtain ⟨b, off, rfl, hbB, hcell⟩ := hls.cells hlt
        have z1 : b < wo.heap.size := by omega
        go_wp2_with (go_at_call 45; refine (one_any _ _ _).mono ?_; rintro e w1 ⟨rfl, rfl⟩)
        · go_ret
          exact ⟨ret_int (checkF_v hs4 HL.out hn6 hlt HS.out (lblFault_bad ‹_›) (by decide)).symm, (hbw.alloc (by omega) _).alloc (by simp; omega) _⟩
        · have hgood := lblFault_good (by assumption)
          have HG := Lib.hid hgood
          clear hgood
          rename_i htest
          clear htest
          go_loopw [41] (fun i wi => ∃ j : Nat, j ≤ k ∧ i = .int .i64 j ∧ Hid ((ls.take j).contains (ls.getD k (0, 0)) = false) ∧
              Below (wo.heap.size + 2) ((wo.alloc (.cells (encLabel (ls.getD k (0, 0))).toArray 27)).alloc (.cells (encLabel (ls.getD k (0, 0))).toArray 27)) wi)
            (fun i _ => k - (intOf i).toNat)
          case atStart => exact ⟨0, Nat.zero_le _, rfl, rfl, by simpa [encLabel] using Below.refl _ _⟩
          case round =>
            obtain ⟨j, hj, rfl, HJ, hbi⟩ := hrel
            have hbw1 : Below w.heap.size w wr := ((hbw.alloc (by omega) _).alloc (by simp; omega) _).trans (hbi.mono (by omega))
            have hbo1 : Below (w.heap.size + 1) (w.alloc (.cells #[.int .i64 s, .slice (some ⟨b, off, none⟩) n c, .int .i64 p] 42)) wr := ((hb.alloc (by omega) _).alloc (by simp; omega) _).trans (hbi.mono (by omega))
            obtain ⟨hci, hfi⟩ := bcell hbi
            have hszi := hbi.size
            simp [encLabel] at hszi hci hfi
            have z2 : b < wo.heap.size + 2 := by omega
            have z3 : wo.heap.size < wr.heap.size := by omega
            by_cases hjk : j < k
            · have hjn : j < n := by omega
              go_wp2
              · have hkl : k < ls.length := by have := HL.out; omega
                go_ret
                exact ⟨ret_int (checkF_v hs4 HL.out hn6 hlt HS.out (HG.out.trans (if_pos (contains_hit hjk hkl ‹_› ‹_›))) (by decide)).symm, hbw1.alloc (by omega) _⟩
              all_goals
                go_roundw
                case rel =>
                  refine ⟨j + 1, by omega, by go_num, ?_, hbi.alloc (by omega) _⟩
                  show _ = _
                  rw [take_contains_succ _ _ _ (by have := HL.out; omega) HJ.out, List.getD_eq_getElem?_getD, List.getD_eq_getElem?_getD]
                  simp [Prod.ext_iff, *]
                case measure => simp [intOf]; omega
            · obtain rfl : j = k := by omega
              go_wp2
              go_roundw
              case rel =>
                refine ⟨j + 1, by omega, by go_num, ?_, hbo1⟩
                show _ = _
                rw [HS.out, scanF_step hlt, if_pos]
                rw [HG.out, HJ.out]; rfl
              case measure => simp [intOf]; omega
      · obtain rfl : k = n := by omega
        go_wp2
        all_goals
          go_ret
          refine ⟨ret_int ((checkF_end hs4 HL.out hn6 HS.out).trans ?_).symm, hbw⟩
        · rw [if_pos (by omega)]
        · rw [if_neg (by omega)]
        · rw [if_pos (by omega)]
  all_goals
    go_ret
    refine ⟨ret_int ?_, (Below.refl _ _).alloc (Nat.le_refl _) _⟩
    first | exact (checkF_s (by omega)).symm | exact (checkF_n (by omega) (by rw [HL.out]; omega)).symm

end Go.Proofs.Ytdldmlekjhmaaaa
