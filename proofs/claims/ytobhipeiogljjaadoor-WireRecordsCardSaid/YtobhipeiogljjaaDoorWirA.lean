/- small functions of package wire and their references: txn, key, value, ask, code; the table 'messages'. -/
import Derived.Test.YtobhipeiogljjaaDoorMsg
import Derived.Test.YtobhipeiogljjaaDoorLabB
namespace Go.Proofs.YtobhipeiogljjaaDoor
open Go.RowKit Go.ChangeShapes Go.WideShapes Go.Deep


def txnB (s site num : Int) : Bool := inB site 0 (s - 1) && inB num 1 1048576
def codeB (e : Int) : Bool := e == 0 || e == 11 || e == 8

set_option maxHeartbeats 400000 in
theorem txn_any (s p site num : Int) (A : Option Addr) (n c : Nat) (w : World) :
    Calls Tryd.prog 73 #[.agg #[.int .i64 s, .slice A n c, .int .i64 p], .agg #[.int .i64 site, .int .i64 num]] w fun e w' => e = .returned (.bool (txnB s site num)) ∧ w' = (w.alloc (.cells #[.int .i64 s, .slice A n c, .int .i64 p] 24)).alloc (.cells #[.int .i64 site, .int .i64 num] 26) := by
  go_enter Tryd.func73, Tryd.ntmps73
  go_wp2
  all_goals
    go_ret
    refine ⟨ret_bool (by rw [Bool.eq_iff_iff]; simp [txnB, inB]; try omega), rfl⟩

set_option maxHeartbeats 400000 in
theorem txnMay_any (s p site num : Int) (A : Option Addr) (n c : Nat) (w : World) (hs1 : 0 ≤ s) (hs2 : s ≤ 4) :
    Calls Tryd.prog 80 #[.agg #[.int .i64 s, .slice A n c, .int .i64 p], .agg #[.int .i64 site, .int .i64 num]] w fun e w' => e = .returned (.bool (txnB s site num)) ∧ w' = (w.alloc (.cells #[.int .i64 s, .slice A n c, .int .i64 p] 24)).alloc (.cells #[.int .i64 site, .int .i64 num] 26) := by
  cases h1 : inB site 0 (s - 1)
  all_goals
    go_enter Tryd.func80, Tryd.ntmps80
    go_wp2_with (go_at_call 79; refine (in_any _ _ _ _).mono ?_; rintro e w1 ⟨rfl, rfl⟩)
    go_ret
    exact ⟨ret_bool (by simp [txnB, h1]), rfl⟩

set_option maxHeartbeats 400000 in
theorem key_any (k : Int) (w : World) : Calls Tryd.prog 74 #[.int .i64 k] w fun e w' => e = .returned (.bool (inB k 0 7)) ∧ w = w' := by
  go_enter Tryd.func74, Tryd.ntmps74
  go_wp2
  all_goals
    go_ret
    refine ⟨ret_bool (by rw [Bool.eq_iff_iff]; simp [inB]; try omega), rfl⟩

set_option maxHeartbeats 400000 in
theorem value_any (k : Int) (w : World) : Calls Tryd.prog 75 #[.int .i64 k] w fun e w' => e = .returned (.bool (inB k 0 1073741824)) ∧ w = w' := by
  go_enter Tryd.func75, Tryd.ntmps75
  go_wp2
  all_goals
    go_ret
    refine ⟨ret_bool (by rw [Bool.eq_iff_iff]; simp [inB]; try omega), rfl⟩

set_option maxHeartbeats 400000 in
theorem ask_any (k : Int) (w : World) : Calls Tryd.prog 76 #[.int .i64 k] w fun e w' => e = .returned (.bool (inB k 0 1048576)) ∧ w = w' := by
  go_enter Tryd.func76, Tryd.ntmps76
  go_wp2
  all_goals
    go_ret
    refine ⟨ret_bool (by rw [Bool.eq_iff_iff]; simp [inB]; try omega), rfl⟩

set_option maxHeartbeats 400000 in
theorem code_any (k : Int) (w : World) : Calls Tryd.prog 77 #[.int .i64 k] w fun e w' => e = .returned (.bool (codeB k)) ∧ w = w' := by
  go_enter Tryd.func77, Tryd.ntmps77
  go_wp2
  all_goals
    go_ret
    refine ⟨ret_bool (by rw [Bool.eq_iff_iff]; simp [codeB, *]; try omega), rfl⟩

end Go.Proofs.YtobhipeiogljjaaDoor
