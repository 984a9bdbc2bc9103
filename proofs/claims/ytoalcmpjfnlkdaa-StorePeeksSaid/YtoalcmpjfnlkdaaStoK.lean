/- store.at, item; itemOf. -/
import Derived.Test.YtoalcmpjfnlkdaaStoJ
namespace Go.Proofs.Ytoalcmpjfnlkdaa
open Go.RowKit Go.ChangeShapes Go.WideShapes Go.Deep

theorem asc_of {l : List SItem} (h : itemsB l = true) : Asc l := by
  have hs : ∀ k, k + 1 < l.length → (l.getD k sItem0).key < (l.getD (k + 1) sItem0).key := fun k hk => by
    have := allB_get h (k + 1) hk
    unfold itemAt at this
    rw [Bool.and_eq_true] at this
    simpa using this.2
  intro i j hij hj
  induction j with
  | zero => omega
  | succ j ih =>
    rcases Nat.lt_or_ge i j with h1 | h1
    · have := ih h1 (by omega)
      have := hs j hj
      omega
    · obtain rfl : i = j := by omega
      exact hs i hj
theorem len8 {l : List SItem} (h : itemsB l = true) : l.length ≤ 8 := by
  have ha := asc_of h
  have hr : ∀ k, k < l.length → 0 ≤ (l.getD k sItem0).key ∧ (l.getD k sItem0).key ≤ 7 := fun k hk => by
    have := allB_get h k hk
    unfold itemAt at this
    rw [Bool.and_eq_true] at this
    have := itemB_true this.1
    omega
  have hk : ∀ k, k < l.length → (k : Int) ≤ (l.getD k sItem0).key := by
    intro k
    induction k with
    | zero => intro hk; have := hr 0 hk; omega
    | succ k ih =>
      intro hk
      have h1 := ih (by omega)
      have h2 := ha k (k + 1) (by omega) hk
      omega
  rcases Nat.lt_or_ge 8 l.length with h1 | h1
  · have h2 := hk (l.length - 1) (by omega)
    have h3 := hr (l.length - 1) (by omega)
    omega
  · exact h1
def itemIx (l : List SItem) (key : Int) : Int := ixN (fun k => decide ((l.getD k sItem0).key = key)) l.length
def itemF (l : List SItem) (key : Int) : SItem := if 0 ≤ itemIx l key then l.getD (itemIx l key).toNat sItem0 else ⟨key, 0, 0⟩
theorem itemF_hit {l : List SItem} {key : Int} {k : Nat} (hk : k < l.length) (h : (l.getD k sItem0).key = key) (h0 : ∀ j, j < k → (l.getD j sItem0).key ≠ key) : itemF l key = l.getD k sItem0 := by
  have : itemIx l key = k := ixN_hit hk (decide_eq_true h) (fun j hj => by simpa using h0 j hj)
  unfold itemF
  rw [this, if_pos (by omega)]
  rfl
theorem itemF_miss {l : List SItem} {key : Int} (h : ∀ j, j < l.length → (l.getD j sItem0).key ≠ key) : itemF l key = ⟨key, 0, 0⟩ := by
  have : itemIx l key = -1 := ixN_miss (fun j hj => by simpa using h j hj)
  unfold itemF
  rw [this, if_neg (by decide)]

set_option maxRecDepth 100000 in
set_option maxHeartbeats 1000000 in
theorem at_any (A : Option Addr) (n c : Nat) (xs : List SItem) (key : Int) (w : World) (h : ItemsAt w w.heap.size A n c xs) (hA : Asc xs) (h8 : n ≤ 8) :
    Calls Try.prog 57 #[.slice A n c, .int .i64 key] w (RetPos w xs key) := by
  have hcon := bsearch_any A n c xs key w h hA h8
  clear hA
  go_enter Try.func57, Try.ntmps57
  go_wp2_with (go_at_call 74; refine hcon.mono ?_; rintro e w1 ⟨p, hp, rfl, hb1⟩; have HP := Lib.hid hp; clear hp)
  go_ret2
  exact ⟨p, HP.out, rfl, hb1⟩

set_option maxRecDepth 100000 in
set_option maxHeartbeats 1000000 in
theorem item_any (A1 : Option Addr) (n1 c1 : Nat) (A2 : Option Addr) (n2 c2 : Nat) (A3 : Option Addr) (n3 c3 : Nat) (A4 : Option Addr) (n4 c4 : Nat) (s : Sto) (key : Int) (w : World) (hs : StoAt w w.heap.size A1 n1 c1 A2 n2 c2 A3 n3 c3 A4 n4 c4 s) (hm : itemsB s.items = true) :
    Calls Try.prog 50 #[.agg #[.slice A1 n1 c1, .slice A2 n2 c2, .slice A3 n3 c3, .slice A4 n4 c4], .int .i64 key] w fun e w' => e = .returned (.agg #[.int .i64 (itemF s.items key).key, .int .i64 (itemF s.items key).value, .int .i64 (itemF s.items key).version]) ∧ Below w.heap.size w w' := by
  have h := hs.1
  obtain ⟨hn, hnc⟩ := h.max63
  have HL := Lib.hid h.1
  have h8 := len8 hm
  rw [h.1] at h8
  have HA := Lib.hid (asc_of hm)
  clear hm
  obtain ⟨R, hR⟩ : ∃ R, R = itemF s.items key := ⟨_, rfl⟩
  rw [← hR]
  have HR := Lib.hid hR
  clear hR
  go_enter Try.func50, Try.ntmps50
  go_wp2_with fail
  refine (at_any A1 n1 c1 s.items key _ (h.below (Flat.stable _) (by (repeat (first | exact Below.refl _ _ | assumption | refine Below.alloc ?_ (by first | omega | (simp; done) | (simp; omega)) _ | refine below_drewN ?_ _ | refine Below.drew ?_ | refine Below.setCell ?_ (by first | omega | (simp; done) | (simp; omega)) _))) (by first | omega | (simp; done) | (simp; omega))) HA.out h8).mono ?_
  rintro e w1 ⟨q, hq, rfl, hb1⟩
  obtain ⟨hq1, hq2, hq3⟩ := hq
  have HQ2 := Lib.hid hq2
  have HQ3 := Lib.hid hq3
  have HQ1 := Lib.hid hq1
  clear hq1 hq2 hq3
  obtain ⟨hc1, hf1⟩ := bcell hb1; have hbb1 : Below w.heap.size w w1 := (by refine Below.trans ?_ (hb1.mono ?_); rotate_left; (focus (first | omega | (simp; done) | (simp; omega))); (repeat (first | exact Below.refl _ _ | assumption | refine Below.alloc ?_ (by first | omega | (simp; done) | (simp; omega)) _ | refine below_drewN ?_ _ | refine Below.drew ?_ | refine Below.setCell ?_ (by first | omega | (simp; done) | (simp; omega)) _))); have hsz1 := hb1.size; (try simp at hsz1)
  have z_w_w1_0 : w.heap.size < w1.heap.size := (by omega); have z_w_w1_1 : w.heap.size + 1 < w1.heap.size := (by omega)
  by_cases hlt : q < n1
  rotate_left
  · have hT : (decide (q < s.items.length) && decide ((s.items.getD q sItem0).key = key)) = false := by rw [HL.out]; simp; omega
    obtain ⟨b', hb'⟩ : ∃ b', b' = (decide (q < s.items.length) && decide ((s.items.getD q sItem0).key = key)) := ⟨_, rfl⟩
    rw [← hb'] at hT ⊢
    subst hT
    clear hb'
    have HM := Lib.hid (HR.out.trans (itemF_miss (fun j hj => by have := HQ2.out j (by have := HL.out; omega); omega)))
    go_wp2_with fail
    refine bodyPost_ret (v := .agg #[.int .i64 key, .int .i64 0, .int .i64 0]) (by simp [results, Try.results50, go_sem, hc1]) rfl ⟨?_, by (repeat (first | exact Below.refl _ _ | assumption | refine Below.alloc ?_ (by first | omega | (simp; done) | (simp; omega)) _ | refine below_drewN ?_ _ | refine Below.drew ?_ | refine Below.setCell ?_ (by first | omega | (simp; done) | (simp; omega)) _))⟩
    rw [HM.out]
  · obtain ⟨b, off, rfl, hbB, hcell⟩ := h.cells hlt
    have z1 : b < w1.heap.size := by omega
    have z2 : b < w.heap.size + 1 + 1 := by omega
    have z3 : b < w.heap.size + 1 := by omega
    have x0 := hcell q hlt
    have hlq : q < s.items.length := by have := HL.out; omega
    clear hcell
    have hq1 : (q : Int) < n1 := by omega
    obtain ⟨y, hy⟩ : ∃ y, y = s.items.getD q sItem0 := ⟨_, rfl⟩
    rw [← hy] at x0
    have HY := Lib.hid hy
    clear hy
    obtain ⟨x00, x01, x02⟩ := x0
    by_cases hK : y.key = key
    · have hT : (decide (q < s.items.length) && decide ((s.items.getD q sItem0).key = key)) = true := by rw [← HY.out]; simp [hK, hlq]
      obtain ⟨b', hb'⟩ : ∃ b', b' = (decide (q < s.items.length) && decide ((s.items.getD q sItem0).key = key)) := ⟨_, rfl⟩
      rw [← hb'] at hT ⊢
      subst hT
      clear hb'
      have HM := Lib.hid (HR.out.trans (itemF_hit hlq (by rw [← HY.out]; exact hK) (fun j hj => by have := HQ2.out j hj; omega)))
      clear hK
      go_wp2_with fail
      refine bodyPost_ret (v := .agg #[.int .i64 y.key, .int .i64 y.value, .int .i64 y.version]) (by simp [results, Try.results50, go_sem, hc1]) rfl ⟨?_, by (repeat (first | exact Below.refl _ _ | assumption | refine Below.alloc ?_ (by first | omega | (simp; done) | (simp; omega)) _ | refine below_drewN ?_ _ | refine Below.drew ?_ | refine Below.setCell ?_ (by first | omega | (simp; done) | (simp; omega)) _))⟩
      rw [HM.out, ← HY.out]
    · have hT : (decide (q < s.items.length) && decide ((s.items.getD q sItem0).key = key)) = false := by rw [← HY.out]; simp [hK]
      obtain ⟨b', hb'⟩ : ∃ b', b' = (decide (q < s.items.length) && decide ((s.items.getD q sItem0).key = key)) := ⟨_, rfl⟩
      rw [← hb'] at hT ⊢
      subst hT
      clear hb'
      have HM := Lib.hid (HR.out.trans (itemF_miss (fun j hj => by
        rcases Nat.lt_trichotomy j q with h1 | h1 | h1
        · have := HQ2.out j h1; omega
        · subst h1; rw [← HY.out]; exact hK
        · have h2 := HA.out q j h1 hj
          have h3 := HQ3.out q (Nat.le_refl _) hlq
          omega)))
      clear hK
      go_wp2_with fail
      refine bodyPost_ret (v := .agg #[.int .i64 key, .int .i64 0, .int .i64 0]) (by simp [results, Try.results50, go_sem, hc1]) rfl ⟨?_, by (repeat (first | exact Below.refl _ _ | assumption | refine Below.alloc ?_ (by first | omega | (simp; done) | (simp; omega)) _ | refine below_drewN ?_ _ | refine Below.drew ?_ | refine Below.setCell ?_ (by first | omega | (simp; done) | (simp; omega)) _))⟩
      rw [HM.out]

set_option maxRecDepth 100000 in
set_option maxHeartbeats 1000000 in
theorem itemOf_any (A1 : Option Addr) (n1 c1 : Nat) (A2 : Option Addr) (n2 c2 : Nat) (A3 : Option Addr) (n3 c3 : Nat) (A4 : Option Addr) (n4 c4 : Nat) (s : Sto) (key : Int) (w : World) (hs : StoAt w w.heap.size A1 n1 c1 A2 n2 c2 A3 n3 c3 A4 n4 c4 s) :
    Calls Try.prog 52 #[.agg #[.slice A1 n1 c1, .slice A2 n2 c2, .slice A3 n3 c3, .slice A4 n4 c4], .int .i64 key] w fun e w' => e = .returned (.agg #[.int .i64 (itemF s.items key).key, .int .i64 (itemF s.items key).value, .int .i64 (itemF s.items key).version]) ∧ Below w.heap.size w w' := by
  have h := hs.1
  obtain ⟨hn, hnc⟩ := h.max63
  have HL := Lib.hid h.1
  obtain ⟨R, hR⟩ : ∃ R, R = itemF s.items key := ⟨_, rfl⟩
  rw [← hR]
  have HR := Lib.hid hR
  clear hR
  go_enter Try.func52, Try.ntmps52
  go_wp2_with fail
  go_loopw [5] (fun i wr => ∃ k : Nat, k ≤ n1 ∧ i = .int .i64 k ∧ Hid (∀ j, j < k → (s.items.getD j sItem0).key ≠ key) ∧ Below (w.heap.size + 1 + 1) ((w.alloc (.cells #[.slice A1 n1 c1, .slice A2 n2 c2, .slice A3 n3 c3, .slice A4 n4 c4] 27)).alloc (.cells #[.int .i64 0, .int .i64 0, .int .i64 0] 58)) wr) (fun i _ => n1 - (intOf i).toNat)
  case atStart => exact ⟨0, Nat.zero_le _, rfl, fun j hj => absurd hj (Nat.not_lt_zero _), Below.refl _ _⟩
  case round =>
    obtain ⟨k, hk, rfl, HS, hb⟩ := hrel
    obtain ⟨hc, hf⟩ := bcell hb
    have hsz := hb.size
    simp at hsz
    have z0 : w.heap.size < wr.heap.size := by omega
    have z1 : w.heap.size + 1 < wr.heap.size := by omega
    have z9 : w.heap.size < w.heap.size + 1 + 1 := by omega
    have hbw : Below w.heap.size w wr := Below.trans (by (repeat (first | exact Below.refl _ _ | assumption | refine Below.alloc ?_ (by first | omega | (simp; done) | (simp; omega)) _ | refine below_drewN ?_ _ | refine Below.drew ?_ | refine Below.setCell ?_ (by first | omega | (simp; done) | (simp; omega)) _))) (hb.mono (by first | omega | (simp; done) | (simp; omega)))
    by_cases hlt : k < n1
    · obtain ⟨b, off, rfl, hbB, hcell⟩ := h.cells hlt
      have z2 : b < wr.heap.size := by omega
      have z3 : b < w.heap.size + 1 + 1 := by omega
      have z4 : b < w.heap.size + 1 := by omega
      have x0 := hcell k hlt
      have hlk : k < s.items.length := by have := HL.out; omega
      clear hcell
      have hk1 : (k : Int) < n1 := by omega
      obtain ⟨y, hy⟩ : ∃ y, y = s.items.getD k sItem0 := ⟨_, rfl⟩
      rw [← hy] at x0
      have HY := Lib.hid hy
      clear hy
      obtain ⟨x00, x01, x02⟩ := x0
      by_cases hK : y.key = key
      · have HM := Lib.hid (HR.out.trans (itemF_hit hlk (by rw [← HY.out]; exact hK) HS.out))
        have hKb : (y.key == key) = true := by simp [hK]
        clear hK
        go_wp2_with fail
        all_goals
          refine bodyPost_ret (v := .agg #[.int .i64 y.key, .int .i64 y.value, .int .i64 y.version]) (by simp [results, Try.results52, go_sem, hc]) rfl ⟨?_, by (repeat (first | exact Below.refl _ _ | assumption | refine Below.alloc ?_ (by first | omega | (simp; done) | (simp; omega)) _ | refine below_drewN ?_ _ | refine Below.drew ?_ | refine Below.setCell ?_ (by first | omega | (simp; done) | (simp; omega)) _))⟩
          rw [HM.out, ← HY.out]
      · have hKb : (y.key == key) = false := by simp [hK]
        have HK := Lib.hid hK
        clear hK
        go_wp2_with fail
        go_roundw
        case rel => exact ⟨k + 1, by omega, by go_num, (fun j hj => by rcases Nat.lt_or_ge j k with h1 | h1; exact HS.out j h1; obtain rfl : j = k := (by omega); rw [← HY.out]; exact HK.out), by (repeat (first | exact Below.refl _ _ | assumption | refine Below.alloc ?_ (by first | omega | (simp; done) | (simp; omega)) _ | refine below_drewN ?_ _ | refine Below.drew ?_ | refine Below.setCell ?_ (by first | omega | (simp; done) | (simp; omega)) _))⟩
        case measure => simp [intOf]; omega
    · obtain rfl : n1 = k := by omega
      have HM := Lib.hid (HR.out.trans (itemF_miss (fun j hj => HS.out j (by have := HL.out; omega))))
      go_wp2_with fail
      refine bodyPost_ret (v := .agg #[.int .i64 key, .int .i64 0, .int .i64 0]) (by simp [results, Try.results52, go_sem, hc]) rfl ⟨?_, by (repeat (first | exact Below.refl _ _ | assumption | refine Below.alloc ?_ (by first | omega | (simp; done) | (simp; omega)) _ | refine below_drewN ?_ _ | refine Below.drew ?_ | refine Below.setCell ?_ (by first | omega | (simp; done) | (simp; omega)) _))⟩
      rw [HM.out]

end Go.Proofs.Ytoalcmpjfnlkdaa
