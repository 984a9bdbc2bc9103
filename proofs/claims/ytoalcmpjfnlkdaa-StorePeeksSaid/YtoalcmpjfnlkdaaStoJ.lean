/- cmp.Compare, slices.BinarySearchFunc, store.at, item; itemOf. -/
import Derived.Test.YtoalcmpjfnlkdaaStoE
import Derived.Deep.RegionWith
namespace Go.Proofs.Ytoalcmpjfnlkdaa
open Go.RowKit Go.ChangeShapes Go.WideShapes Go.Deep

def cmpF (a b : Int) : Int := if a < b then -1 else if b < a then 1 else 0
theorem cmpF_lt {a b : Int} : cmpF a b < 0 ↔ a < b := by unfold cmpF; split; simp; assumption; split <;> simp <;> omega
theorem cmpF_eq {a b : Int} : cmpF a b = 0 ↔ a = b := by unfold cmpF; split; simp; omega; split <;> simp <;> omega

set_option maxRecDepth 100000 in
set_option maxHeartbeats 1000000 in
theorem isNaN_any (a : Int) (w : World) : Calls Try.prog 81 #[.int .i64 a] w fun e w' => e = .returned (.bool false) ∧ w = w' := by
  go_enter Try.func81, Try.ntmps81
  go_wp2
  all_goals
    go_ret
    exact ⟨by simp, rfl⟩
set_option maxRecDepth 100000 in
set_option maxHeartbeats 1000000 in
theorem cmp_any (a b : Int) (w : World) : Calls Try.prog 76 #[.int .i64 a, .int .i64 b] w fun e w' => e = .returned (.int .i64 (cmpF a b)) ∧ w = w' := by
  by_cases h1 : a < b
  · rw [show cmpF a b = -1 by unfold cmpF; rw [if_pos h1]]
    go_enter Try.func76, Try.ntmps76
    go_wp2_with (go_at_call 81; refine (isNaN_any _ _).mono ?_; rintro e w1 ⟨rfl, rfl⟩)
    go_ret
    exact ⟨rfl, rfl⟩
  by_cases h2 : b < a
  · rw [show cmpF a b = 1 by unfold cmpF; rw [if_neg h1, if_pos h2]]
    go_enter Try.func76, Try.ntmps76
    go_wp2_with (go_at_call 81; refine (isNaN_any _ _).mono ?_; rintro e w1 ⟨rfl, rfl⟩)
    go_ret
    exact ⟨rfl, rfl⟩
  · rw [show cmpF a b = 0 by unfold cmpF; rw [if_neg h1, if_neg h2]]
    go_enter Try.func76, Try.ntmps76
    go_wp2_with (go_at_call 81; refine (isNaN_any _ _).mono ?_; rintro e w1 ⟨rfl, rfl⟩)
    go_ret
    exact ⟨rfl, rfl⟩
set_option maxRecDepth 100000 in
set_option maxHeartbeats 1000000 in
theorem at1_any (x : SItem) (k : Int) (w : World) : Calls Try.prog 75 #[.agg #[.int .i64 x.key, .int .i64 x.value, .int .i64 x.version], .int .i64 k] w fun e w' => e = .returned (.int .i64 (cmpF x.key k)) ∧ Below w.heap.size w w' := by
  go_enter Try.func75, Try.ntmps75
  go_wp2_with (go_at_call 76; refine (cmp_any _ _ _).mono ?_; rintro e w1 ⟨rfl, rfl⟩)
  go_ret
  exact ⟨rfl, by (repeat (first | exact Below.refl _ _ | assumption | refine Below.alloc ?_ (by first | omega | (simp; done) | (simp; omega)) _ | refine below_drewN ?_ _ | refine Below.drew ?_ | refine Below.setCell ?_ (by first | omega | (simp; done) | (simp; omega)) _))⟩

/-- keys ascend -/
def Asc (l : List SItem) : Prop := ∀ i j, i < j → j < l.length → (l.getD i sItem0).key < (l.getD j sItem0).key
/-- where a key is, or would be -/
def PosAt (l : List SItem) (key : Int) (p : Nat) : Prop := p ≤ l.length ∧ (∀ m, m < p → (l.getD m sItem0).key < key) ∧ (∀ m, p ≤ m → m < l.length → key ≤ (l.getD m sItem0).key)
def RetPos (w : World) (l : List SItem) (key : Int) (e : Ending) (w' : World) : Prop :=
  ∃ p : Nat, PosAt l key p ∧ e = .returned (.tuple #[.int .i64 p, .bool (decide (p < l.length) && decide ((l.getD p sItem0).key = key))]) ∧ Below w.heap.size w w'
theorem eg_at1 : ∀ args w, (callFunc 75 args).run Try.prog w = .ok (.enter 75 args) w := enters_of Try.func75 (by kernel_rfl) rfl

set_option maxRecDepth 100000 in
set_option maxHeartbeats 1000000 in
theorem bsearch_any (A : Option Addr) (n c : Nat) (xs : List SItem) (key : Int) (w : World) (h : ItemsAt w w.heap.size A n c xs) (hA : Asc xs) (h8 : n ≤ 8) :
    Calls Try.prog 74 #[.slice A n c, .int .i64 key, .func (.func 75) #[] #[]] w (RetPos w xs key) := by
  obtain ⟨hn, hnc⟩ := h.max63
  have HL := Lib.hid h.1
  have HA := Lib.hid hA
  clear hA
  go_enter Try.func74, Try.ntmps74
  go_wp2_with fail
  go_loopw [9, 10] (fun i j wr => ∃ p q : Nat, p ≤ q ∧ q ≤ n ∧ i = .int .i64 p ∧ j = .int .i64 q ∧ Hid (∀ m, m < p → (xs.getD m sItem0).key < key) ∧ Hid (∀ m, q ≤ m → m < n → key ≤ (xs.getD m sItem0).key) ∧ Below w.heap.size w wr) (fun i j _ => ((intOf j) - (intOf i)).toNat)
  case atStart => exact ⟨0, n, Nat.zero_le _, Nat.le_refl _, rfl, rfl, fun j hj => absurd hj (Nat.not_lt_zero _), fun m h1 h2 => absurd h1 (by omega), Below.refl _ _⟩
  case round =>
    obtain ⟨p, q, hpq, hqn, rfl, rfl, HP, HQ, hb⟩ := hrel
    obtain ⟨hc, hf⟩ := bcell hb
    have hsz := hb.size
    by_cases hlt : p < q
    · obtain ⟨b, off, rfl, hbB, hcell⟩ := h.cells (k := (p + q) / 2) (by omega)
      have z1 : b < wr.heap.size := by omega
      have x0 := hcell ((p + q) / 2) (by omega)
      clear hcell
      have hh : (p + q) / 2 < n := by omega
      have hh1 : (0 : Int) ≤ ((p : Int) + q) / 2 := by omega
      have hh2 : ((p : Int) + q) / 2 < n := by omega
      obtain ⟨y, hy⟩ : ∃ y, y = xs.getD ((p + q) / 2) sItem0 := ⟨_, rfl⟩
      rw [← hy] at x0
      have HY := Lib.hid hy
      clear hy
      obtain ⟨x00, x01, x02⟩ := x0
      by_cases hK : y.key < key
      · have hc0 : cmpF y.key key < 0 := cmpF_lt.2 hK
        have HK := Lib.hid hK
        clear hK
        go_wp2_with (go_at_call 75; refine (at1_any y _ _).mono ?_; rintro e w1 ⟨rfl, hb1⟩)
        go_roundw
        case rel =>
          refine ⟨(p + q) / 2 + 1, q, by omega, hqn, by go_num, rfl, ?_, HQ.out, hb.trans (hb1.mono hsz)⟩
          intro m hm
          rcases Nat.lt_or_ge m ((p + q) / 2) with h1 | h1
          · have h2 := HA.out m ((p + q) / 2) h1 (by have := HL.out; omega)
            rw [← HY.out] at h2
            have := HK.out
            omega
          · obtain rfl : m = (p + q) / 2 := by omega
            rw [← HY.out]
            exact HK.out
        case measure => simp [intOf]; omega
      · have hc0 : ¬ cmpF y.key key < 0 := fun h => hK (cmpF_lt.1 h)
        have HK := Lib.hid hK
        clear hK
        go_wp2_with (go_at_call 75; refine (at1_any y _ _).mono ?_; rintro e w1 ⟨rfl, hb1⟩)
        go_roundw
        case rel =>
          refine ⟨p, (p + q) / 2, by omega, by omega, rfl, by go_num, HP.out, ?_, hb.trans (hb1.mono hsz)⟩
          intro m hm hmn
          have hky : key ≤ y.key := by have := HK.out; omega
          rcases Nat.lt_or_ge ((p + q) / 2) m with h1 | h1
          · have h2 := HA.out ((p + q) / 2) m h1 (by have := HL.out; omega)
            rw [← HY.out] at h2
            omega
          · obtain rfl : m = (p + q) / 2 := by omega
            rw [← HY.out]
            exact hky
        case measure => simp [intOf]; omega
    · obtain rfl : q = p := by omega
      have HPos : Hid (PosAt xs key q) := ⟨by have := HL.out; omega, HP.out, fun m h1 h2 => HQ.out m h1 (by have := HL.out; omega)⟩
      by_cases hqn2 : q < n
      · obtain ⟨b, off, rfl, hbB, hcell⟩ := h.cells hqn2
        have z1 : b < wr.heap.size := by omega
        have x0 := hcell q hqn2
        clear hcell
        have hq1 : (q : Int) < n := by omega
        obtain ⟨y, hy⟩ : ∃ y, y = xs.getD q sItem0 := ⟨_, rfl⟩
        rw [← hy] at x0
        have HY := Lib.hid hy
        clear hy
        obtain ⟨x00, x01, x02⟩ := x0
        by_cases hK : y.key = key
        · have hc0 : (cmpF y.key key == 0) = true := by simp [cmpF_eq, hK]
          have HK := Lib.hid hK
          clear hK
          go_wp2_with (go_at_call 75; refine (at1_any y _ _).mono ?_; rintro e w1 ⟨rfl, hb1⟩)
          all_goals
            go_wp2_with fail
            go_ret2
            refine ⟨q, HPos.out, ?_, hb.trans (Below.trans (by (repeat (first | exact Below.refl _ _ | assumption | refine Below.alloc ?_ (by first | omega | (simp; done) | (simp; omega)) _ | refine below_drewN ?_ _ | refine Below.drew ?_ | refine Below.setCell ?_ (by first | omega | (simp; done) | (simp; omega)) _))) (hb1.mono (by first | omega | (simp; done) | (simp; omega))))⟩
            rw [show (decide (q < xs.length) && decide ((xs.getD q sItem0).key = key)) = true by rw [← HY.out]; simp [HK.out, HL.out]; omega]
            rfl
        · have hc0 : (cmpF y.key key == 0) = false := by simp [cmpF_eq, hK]
          have HK := Lib.hid hK
          clear hK
          go_wp2_with (go_at_call 75; refine (at1_any y _ _).mono ?_; rintro e w1 ⟨rfl, hb1⟩)
          all_goals
            go_wp2_with fail
            go_ret2
            refine ⟨q, HPos.out, ?_, hb.trans (Below.trans (by (repeat (first | exact Below.refl _ _ | assumption | refine Below.alloc ?_ (by first | omega | (simp; done) | (simp; omega)) _ | refine below_drewN ?_ _ | refine Below.drew ?_ | refine Below.setCell ?_ (by first | omega | (simp; done) | (simp; omega)) _))) (hb1.mono (by first | omega | (simp; done) | (simp; omega))))⟩
            rw [show (decide (q < xs.length) && decide ((xs.getD q sItem0).key = key)) = false by rw [← HY.out]; simp [HK.out]]
            rfl
      · have hq1 : ¬ ((q : Int) < n) := by omega
        have hq2 : decide ((q : Int) < n) = false := by simpa using hq1
        all_goals
          go_wp2_with fail
          go_ret2
          refine ⟨q, HPos.out, ?_, by (repeat (first | exact Below.refl _ _ | assumption | refine Below.alloc ?_ (by first | omega | (simp; done) | (simp; omega)) _ | refine below_drewN ?_ _ | refine Below.drew ?_ | refine Below.setCell ?_ (by first | omega | (simp; done) | (simp; omega)) _))⟩
          rw [show decide (q < xs.length) = false by simp [HL.out]; omega]
          rfl

end Go.Proofs.Ytoalcmpjfnlkdaa
