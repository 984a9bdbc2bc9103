/- store.doubts. -/
import Derived.Test.YtoalcmpjfnlkdaaStoC
import Derived.Deep.RegionWith
import Derived.Deep.RegionHeld3
namespace Go.Proofs.Ytoalcmpjfnlkdaa
open Go.RowKit Go.ChangeShapes Go.WideShapes Go.Deep

theorem hand_n {ls : List SLock} {n : Nat} {a b : Int} (h : ls.length = n) : ixN (fun k => eqT (ls.getD k sLock0).site (ls.getD k sLock0).num a b) n = handIx ls a b := by subst h; rfl
theorem containsHand_any (A : Option Addr) (n c : Nat) (ls : List SLock) (a b : Int) (p : Nat) (w : World) (h : LocksAt w w.heap.size A n c ls)
    (hp : ∀ (W : World) (x : SLock), Below w.heap.size w W → Calls Try.prog 63 #[.agg #[.int .i64 x.site, .int .i64 x.num, .int .i64 x.key, .bool x.write, .int .i64 x.value, .int .i64 x.ask], .pointer (some ⟨p, 0, none⟩)] W fun e w' => e = .returned (.bool (eqT x.site x.num a b)) ∧ Below W.heap.size W w') :
    Calls Try.prog 47 #[.slice A n c, .func (.func 63) #[] #[.pointer (some ⟨p, 0, none⟩)]] w fun e w' => e = .returned (.bool (decide (0 ≤ handIx ls a b))) ∧ Below w.heap.size w w' := by
  have := containsFuncSLock_any 63 #[.pointer (some ⟨p, 0, none⟩)] (fun x => eqT x.site x.num a b) eg_doubts1 A n c ls w h hp
  rwa [hand_n h.1] at this
theorem doubts_no {s : Sto} {n k : Nat} (hl : s.doubts.length = n) (hk : k < n) (h : doubtAt s.locks s.over s.doubts k = false) : false = doubtsB s := by
  unfold doubtsB
  rw [allB_no (by omega) h]
  rfl
theorem doubts_no2 {s : Sto} {n k : Nat} (hl : s.over.length = n) (hk : k < n) (h : overAt s.over k = false) : false = doubtsB s := by
  unfold doubtsB
  rw [allB_no (n := s.over.length) (by omega) h, Bool.and_false]
theorem doubts_yes {s : Sto} {n m : Nat} (hl : s.doubts.length = n) (hm : s.over.length = m) (h : ∀ j, j < n → doubtAt s.locks s.over s.doubts j = true) (h2 : ∀ j, j < m → overAt s.over j = true) : true = doubtsB s := by
  unfold doubtsB
  rw [hl, hm, allB_mk h, allB_mk h2]
  rfl
theorem doubtAt_no1 {ls : List SLock} {os : List (Int × Int)} {l : List SDoubt} {k : Nat} {y : SDoubt} (hy : y = l.getD k sDoubt0) (h : txnOk y.site y.num = false) : doubtAt ls os l k = false := by unfold doubtAt; rw [← hy, h]; rfl
theorem doubtAt_no2 {ls : List SLock} {os : List (Int × Int)} {l : List SDoubt} {k : Nat} {y : SDoubt} (hy : y = l.getD k sDoubt0) (h : inB y.age 0 1048576 = false) : doubtAt ls os l k = false := by unfold doubtAt; rw [← hy, h]; simp
theorem doubtAt_no3 {ls : List SLock} {os : List (Int × Int)} {l : List SDoubt} {k : Nat} {y : SDoubt} (hy : y = l.getD k sDoubt0) (h : decide (0 ≤ overIx os y.site y.num) = true) : doubtAt ls os l k = false := by
  have h' : decide (overIx os y.site y.num < 0) = false := by simp at h ⊢; omega
  unfold doubtAt; rw [← hy, h']; simp
theorem doubtAt_no4 {ls : List SLock} {os : List (Int × Int)} {l : List SDoubt} {k : Nat} {y : SDoubt} (hy : y = l.getD k sDoubt0) (h : decide (0 ≤ handIx ls y.site y.num) = false) : doubtAt ls os l k = false := by unfold doubtAt; rw [← hy, h]; simp
theorem doubtAt_no5 {ls : List SLock} {os : List (Int × Int)} {l : List SDoubt} {k j : Nat} {y z : SDoubt} (hy : y = l.getD k sDoubt0) (hz : z = l.getD j sDoubt0) (hj : j < k) (h : eqT z.site z.num y.site y.num = true) : doubtAt ls os l k = false := by
  unfold doubtAt
  rw [allB_no hj (by rw [← hy, ← hz, h]; rfl)]
  simp
theorem doubtAt_yes {ls : List SLock} {os : List (Int × Int)} {l : List SDoubt} {k : Nat} {y : SDoubt} (hy : y = l.getD k sDoubt0) (h1 : txnOk y.site y.num = true) (h2 : inB y.age 0 1048576 = true) (h3 : decide (0 ≤ overIx os y.site y.num) = false) (h4 : decide (0 ≤ handIx ls y.site y.num) = true)
    (h5 : ∀ j, j < k → eqT (l.getD j sDoubt0).site (l.getD j sDoubt0).num (l.getD k sDoubt0).site (l.getD k sDoubt0).num = false) : doubtAt ls os l k = true := by
  have h3' : decide (overIx os y.site y.num < 0) = true := by simp at h3 ⊢; omega
  unfold doubtAt
  rw [allB_mk (fun j hj => by rw [h5 j hj]; rfl), ← hy, h1, h2, h3', h4]
  rfl
theorem overAt_no1 {l : List (Int × Int)} {k : Nat} {y : Int × Int} (hy : y = l.getD k (0, 0)) (h : txnOk y.1 y.2 = false) : overAt l k = false := by unfold overAt; rw [← hy, h]; rfl
theorem overAt_no2 {l : List (Int × Int)} {k j : Nat} {y z : Int × Int} (hy : y = l.getD k (0, 0)) (hz : z = l.getD j (0, 0)) (hj : j < k) (h : eqT z.1 z.2 y.1 y.2 = true) : overAt l k = false := by
  unfold overAt
  rw [allB_no hj (by rw [← hy, ← hz, h]; rfl)]
  simp
theorem over_take {l : List (Int × Int)} {k : Nat} {a b : Int} (hk : k < l.length) : (0 ≤ overIx (l.take k) a b) ↔ ∃ j, j < k ∧ eqT (l.getD j (0, 0)).1 (l.getD j (0, 0)).2 a b = true := by
  unfold overIx
  have hlen : (l.take k).length = k := by rw [List.length_take]; omega
  have hg : ∀ j, j < k → (l.take k).getD j (0, 0) = l.getD j (0, 0) := fun j hj => by
    rw [List.getD_eq_getElem?_getD, List.getD_eq_getElem?_getD, List.getElem?_take, if_pos hj]
  rw [hlen]
  rcases ixN_or (fun i => eqT ((l.take k).getD i (0, 0)).1 ((l.take k).getD i (0, 0)).2 a b) k with ⟨h1, h2⟩ | ⟨m, h1, h2, h3, h4⟩
  · rw [h1]
    refine ⟨fun h => absurd h (by decide), fun ⟨j, hj, hjt⟩ => ?_⟩
    have := h2 j hj
    rw [hg j hj, hjt] at this
    cases this
  · rw [h1]
    refine ⟨fun _ => ⟨m, h2, by rw [← hg m h2]; exact h3⟩, fun _ => by omega⟩
theorem overAt_no3 {l : List (Int × Int)} {k : Nat} {y : Int × Int} (hy : y = l.getD k (0, 0)) (hk : k < l.length) (h : decide (0 ≤ overIx (l.take k) y.1 y.2) = true) : overAt l k = false := by
  obtain ⟨j, hj, he⟩ := (over_take hk).1 (of_decide_eq_true h)
  exact overAt_no2 hy rfl hj he
theorem overAt_yes3 {l : List (Int × Int)} {k : Nat} {y : Int × Int} (hy : y = l.getD k (0, 0)) (hk : k < l.length) (h1 : txnOk y.1 y.2 = true) (h : decide (0 ≤ overIx (l.take k) y.1 y.2) = false) : overAt l k = true := by
  unfold overAt
  rw [allB_mk (fun j hj => ?_), ← hy, h1]
  · rfl
  · rw [← hy]
    cases he : eqT (l.getD j (0, 0)).1 (l.getD j (0, 0)).2 y.1 y.2
    · rfl
    · exact absurd ((over_take hk).2 ⟨j, hj, he⟩) (of_decide_eq_false h)
theorem overAt_yes {l : List (Int × Int)} {k : Nat} {y : Int × Int} (hy : y = l.getD k (0, 0)) (h1 : txnOk y.1 y.2 = true) (h5 : ∀ j, j < k → eqT (l.getD j (0, 0)).1 (l.getD j (0, 0)).2 (l.getD k (0, 0)).1 (l.getD k (0, 0)).2 = false) : overAt l k = true := by
  unfold overAt
  rw [allB_mk (fun j hj => by rw [h5 j hj]; rfl), ← hy, h1]
  rfl

set_option maxRecDepth 100000 in
set_option maxHeartbeats 2000000 in
theorem doubts_any (A1 : Option Addr) (n1 c1 : Nat) (A2 : Option Addr) (n2 c2 : Nat) (A3 : Option Addr) (n3 c3 : Nat) (A4 : Option Addr) (n4 c4 : Nat) (s : Sto) (w : World) (hs : StoAt w w.heap.size A1 n1 c1 A2 n2 c2 A3 n3 c3 A4 n4 c4 s) :
    Calls Try.prog 34 #[.agg #[.slice A1 n1 c1, .slice A2 n2 c2, .slice A3 n3 c3, .slice A4 n4 c4]] w fun e w' => e = .returned (.bool (doubtsB s)) ∧ Below w.heap.size w w' := by
  have h := hs.2.2.1
  have g := hs.2.2.2
  obtain ⟨hn, hnc⟩ := h.max63
  obtain ⟨gn, gnc⟩ := g.max63
  have HL := Lib.hid h.1
  have GL := Lib.hid g.1
  go_enter Try.func34, Try.ntmps34
  go_wp2_with fail
  go_loopw [12] (fun i wr => ∃ k : Nat, k ≤ n3 ∧ i = .int .i64 k ∧ Hid (∀ j, j < k → doubtAt s.locks s.over s.doubts j = true) ∧ Below (w.heap.size + 1) (w.alloc (.cells #[.slice A1 n1 c1, .slice A2 n2 c2, .slice A3 n3 c3, .slice A4 n4 c4] 27)) wr) (fun i _ => n3 - (intOf i).toNat)
  case atStart => exact ⟨0, Nat.zero_le _, rfl, fun j hj => absurd hj (Nat.not_lt_zero _), Below.refl _ _⟩
  case round =>
    obtain ⟨wo, rfl⟩ : ∃ wo : World, wo = wr := ⟨_, rfl⟩
    obtain ⟨k, hk, rfl, HS, hb⟩ := hrel
    obtain ⟨hc, hf⟩ := bcell hb
    have hsz := hb.size
    simp at hsz
    have z0 : w.heap.size < wo.heap.size := by omega
    have z01 : w.heap.size < wo.heap.size + 1 := by omega
    have z02 : w.heap.size < wo.heap.size + 2 := by omega
    have z03 : w.heap.size < wo.heap.size + 3 := by omega
    have hbw : Below w.heap.size w wo := Below.trans (by (repeat (first | exact Below.refl _ _ | assumption | refine Below.alloc ?_ (by first | omega | (simp; done) | (simp; omega)) _ | refine below_drewN ?_ _ | refine Below.drew ?_ | refine Below.setCell ?_ (by first | omega | (simp; done) | (simp; omega)) _))) (hb.mono (by first | omega | (simp; done) | (simp; omega)))
    by_cases hlt : k < n3
    · obtain ⟨b, off, rfl, hbB, hcell0⟩ := h.cells hlt
      have z1 : b < wo.heap.size := by omega
      have z12 : b < wo.heap.size + 2 := by omega
      have z13 : b < wo.heap.size + 3 := by omega
      have x0 := hcell0 k hlt
      obtain ⟨y, hy⟩ : ∃ y, y = s.doubts.getD k sDoubt0 := ⟨_, rfl⟩
      rw [← hy] at x0
      have HY := Lib.hid hy
      clear hy
      have HC := Lib.hid hcell0
      clear hcell0
      obtain ⟨x00, x01, x02⟩ := x0
      cases hT : txnOk y.site y.num
      · have HQ := Lib.hid (doubts_no HL.out hlt (doubtAt_no1 HY.out hT))
        go_wp2_with (go_at_call 62; refine (stxn_any _ _ _).mono ?_; rintro e w0 ⟨rfl, rfl⟩)
        go_ret
        exact ⟨ret_bool HQ.out, by (repeat (first | exact Below.refl _ _ | assumption | refine Below.alloc ?_ (by first | omega | (simp; done) | (simp; omega)) _ | refine below_drewN ?_ _ | refine Below.drew ?_ | refine Below.setCell ?_ (by first | omega | (simp; done) | (simp; omega)) _))⟩
      cases hA : inB y.age 0 1048576
      · have HQ := Lib.hid (doubts_no HL.out hlt (doubtAt_no2 HY.out hA))
        have hA2 := inB_false hA
        clear hA
        rcases hA2 with hA2 | hA2
        all_goals
          go_wp2_with (go_at_call 62; refine (stxn_any _ _ _).mono ?_; rintro e w0 ⟨rfl, rfl⟩)
          go_ret
          exact ⟨ret_bool HQ.out, by (repeat (first | exact Below.refl _ _ | assumption | refine Below.alloc ?_ (by first | omega | (simp; done) | (simp; omega)) _ | refine below_drewN ?_ _ | refine Below.drew ?_ | refine Below.setCell ?_ (by first | omega | (simp; done) | (simp; omega)) _))⟩
      have HA := Lib.hid hA
      obtain ⟨hA1, hA2⟩ := inB_true hA
      clear hA
      cases hO : decide (0 ≤ overIx s.over y.site y.num)
      rotate_left
      · have HQ := Lib.hid (doubts_no HL.out hlt (doubtAt_no3 HY.out hO))
        go_wp2_with (first | (go_at_call 62; refine (stxn_any _ _ _).mono ?_; rintro e w0 ⟨rfl, rfl⟩) | (go_at_call 55; refine (containsTxn_any _ _ _ s.over _ _ _ (hs.2.2.2.below (Flat.stable _) (by (repeat (first | exact Below.refl _ _ | assumption | refine Below.alloc ?_ (by first | omega | (simp; done) | (simp; omega)) _ | refine below_drewN ?_ _ | refine Below.drew ?_ | refine Below.setCell ?_ (by first | omega | (simp; done) | (simp; omega)) _))) (by first | omega | (simp; done) | (simp; omega)))).mono ?_; rintro e w2 ⟨rfl, hb2⟩; obtain ⟨hc2, hf2⟩ := bcell hb2; have hbb2 : Below w.heap.size w w2 := (by refine Below.trans ?_ (hb2.mono ?_); rotate_left; (focus (first | omega | (simp; done) | (simp; omega))); (repeat (first | exact Below.refl _ _ | assumption | refine Below.alloc ?_ (by first | omega | (simp; done) | (simp; omega)) _ | refine below_drewN ?_ _ | refine Below.drew ?_ | refine Below.setCell ?_ (by first | omega | (simp; done) | (simp; omega)) _))); have hsz2 := hb2.size; (try simp at hsz2); have z_wo_w2_0 : wo.heap.size < w2.heap.size := (by omega); have z_w_w2_0 : w.heap.size < w2.heap.size := (by omega)))
        go_ret
        exact ⟨ret_bool HQ.out, hbb2⟩
      have HO := Lib.hid hO
      cases hH : decide (0 ≤ handIx s.locks y.site y.num)
      · have HQ := Lib.hid (doubts_no HL.out hlt (doubtAt_no4 HY.out hH))
        go_wp2_with (first | (go_at_call 62; refine (stxn_any _ _ _).mono ?_; rintro e w0 ⟨rfl, rfl⟩) | (go_at_call 55; refine (containsTxn_any _ _ _ s.over _ _ _ (hs.2.2.2.below (Flat.stable _) (by (repeat (first | exact Below.refl _ _ | assumption | refine Below.alloc ?_ (by first | omega | (simp; done) | (simp; omega)) _ | refine below_drewN ?_ _ | refine Below.drew ?_ | refine Below.setCell ?_ (by first | omega | (simp; done) | (simp; omega)) _))) (by first | omega | (simp; done) | (simp; omega)))).mono ?_; rintro e w2 ⟨rfl, hb2⟩; obtain ⟨hc2, hf2⟩ := bcell hb2; have hbb2 : Below w.heap.size w w2 := (by refine Below.trans ?_ (hb2.mono ?_); rotate_left; (focus (first | omega | (simp; done) | (simp; omega))); (repeat (first | exact Below.refl _ _ | assumption | refine Below.alloc ?_ (by first | omega | (simp; done) | (simp; omega)) _ | refine below_drewN ?_ _ | refine Below.drew ?_ | refine Below.setCell ?_ (by first | omega | (simp; done) | (simp; omega)) _))); have hsz2 := hb2.size; (try simp at hsz2); have z_wo_w2_0 : wo.heap.size < w2.heap.size := (by omega); have z_w_w2_0 : w.heap.size < w2.heap.size := (by omega)) | (go_at_call 47; refine (containsHand_any _ _ _ s.locks y.site y.num wo.heap.size _ (hs.2.1.below (Flat.stable _) (by (repeat (first | exact Below.refl _ _ | assumption | refine Below.alloc ?_ (by first | omega | (simp; done) | (simp; omega)) _ | refine below_drewN ?_ _ | refine Below.drew ?_ | refine Below.setCell ?_ (by first | omega | (simp; done) | (simp; omega)) _))) (by first | omega | (simp; done) | (simp; omega))) (fun W x hb => doubts1_any x wo.heap.size y.site y.num W (by have := hb.size; omega) ((hb.cell (p := ⟨wo.heap.size, 0, none⟩) (by omega)).trans (by go_simp)) ((hb.cell (p := ⟨wo.heap.size, 1, none⟩) (by omega)).trans (by go_simp)))).mono ?_; rintro e w3 ⟨rfl, hb3⟩; obtain ⟨hc3, hf3⟩ := bcell hb3; have hbb3 : Below w.heap.size w w3 := (by refine Below.trans ?_ (hb3.mono ?_); rotate_left; (focus (first | omega | (simp; done) | (simp; omega))); (repeat (first | exact Below.refl _ _ | assumption | refine Below.alloc ?_ (by first | omega | (simp; done) | (simp; omega)) _ | refine below_drewN ?_ _ | refine Below.drew ?_ | refine Below.setCell ?_ (by first | omega | (simp; done) | (simp; omega)) _))); have hsz3 := hb3.size; (try simp at hsz3); have z_wo_w3_0 : wo.heap.size < w3.heap.size := (by omega); have z_w_w3_0 : w.heap.size < w3.heap.size := (by omega)))
        go_ret
        exact ⟨ret_bool HQ.out, hbb3⟩
      have HH := Lib.hid hH
      go_wp2_with (first | (go_at_call 62; refine (stxn_any _ _ _).mono ?_; rintro e w0 ⟨rfl, rfl⟩) | (go_at_call 55; refine (containsTxn_any _ _ _ s.over _ _ _ (hs.2.2.2.below (Flat.stable _) (by (repeat (first | exact Below.refl _ _ | assumption | refine Below.alloc ?_ (by first | omega | (simp; done) | (simp; omega)) _ | refine below_drewN ?_ _ | refine Below.drew ?_ | refine Below.setCell ?_ (by first | omega | (simp; done) | (simp; omega)) _))) (by first | omega | (simp; done) | (simp; omega)))).mono ?_; rintro e w2 ⟨rfl, hb2⟩; obtain ⟨hc2, hf2⟩ := bcell hb2; have hbb2 : Below w.heap.size w w2 := (by refine Below.trans ?_ (hb2.mono ?_); rotate_left; (focus (first | omega | (simp; done) | (simp; omega))); (repeat (first | exact Below.refl _ _ | assumption | refine Below.alloc ?_ (by first | omega | (simp; done) | (simp; omega)) _ | refine below_drewN ?_ _ | refine Below.drew ?_ | refine Below.setCell ?_ (by first | omega | (simp; done) | (simp; omega)) _))); have hsz2 := hb2.size; (try simp at hsz2); have z_wo_w2_0 : wo.heap.size < w2.heap.size := (by omega); have z_w_w2_0 : w.heap.size < w2.heap.size := (by omega)) | (go_at_call 47; refine (containsHand_any _ _ _ s.locks y.site y.num wo.heap.size _ (hs.2.1.below (Flat.stable _) (by (repeat (first | exact Below.refl _ _ | assumption | refine Below.alloc ?_ (by first | omega | (simp; done) | (simp; omega)) _ | refine below_drewN ?_ _ | refine Below.drew ?_ | refine Below.setCell ?_ (by first | omega | (simp; done) | (simp; omega)) _))) (by first | omega | (simp; done) | (simp; omega))) (fun W x hb => doubts1_any x wo.heap.size y.site y.num W (by have := hb.size; omega) ((hb.cell (p := ⟨wo.heap.size, 0, none⟩) (by omega)).trans (by go_simp)) ((hb.cell (p := ⟨wo.heap.size, 1, none⟩) (by omega)).trans (by go_simp)))).mono ?_; rintro e w3 ⟨rfl, hb3⟩; obtain ⟨hc3, hf3⟩ := bcell hb3; have hbb3 : Below w.heap.size w w3 := (by refine Below.trans ?_ (hb3.mono ?_); rotate_left; (focus (first | omega | (simp; done) | (simp; omega))); (repeat (first | exact Below.refl _ _ | assumption | refine Below.alloc ?_ (by first | omega | (simp; done) | (simp; omega)) _ | refine below_drewN ?_ _ | refine Below.drew ?_ | refine Below.setCell ?_ (by first | omega | (simp; done) | (simp; omega)) _))); have hsz3 := hb3.size; (try simp at hsz3); have z_wo_w3_0 : wo.heap.size < w3.heap.size := (by omega); have z_w_w3_0 : w.heap.size < w3.heap.size := (by omega)))
      go_loopw [48] (fun i wi => ∃ j : Nat, j ≤ k ∧ i = .int .i64 j ∧ Hid (∀ m, m < j → eqT (s.doubts.getD m sDoubt0).site (s.doubts.getD m sDoubt0).num (s.doubts.getD k sDoubt0).site (s.doubts.getD k sDoubt0).num = false) ∧ Below w3.heap.size w3 wi) (fun i _ => k - (intOf i).toNat)
      case atStart => exact ⟨0, Nat.zero_le _, rfl, fun j hj => absurd hj (Nat.not_lt_zero _), Below.refl _ _⟩
      case round =>
        obtain ⟨wi, rfl⟩ : ∃ wi : World, wi = wr := ⟨_, rfl⟩
        obtain ⟨j, hj, rfl, HJ, hbi⟩ := hrel
        obtain ⟨hci, hfi⟩ := bcell hbi
        have hszi := hbi.size
        have z3 : wo.heap.size < wi.heap.size := by omega
        have z4 : w.heap.size < wi.heap.size := by omega
        have z5 : b < wi.heap.size := by omega
        have z6 : b < w3.heap.size := by omega
        have z7 : b < w2.heap.size := by omega
        have hbwi : Below w.heap.size w wi := hbb3.trans (hbi.mono (by first | omega | (simp; done) | (simp; omega)))
        by_cases hjk : j < k
        · have x1 := HC.out j (by omega)
          obtain ⟨z, hz⟩ : ∃ z, z = s.doubts.getD j sDoubt0 := ⟨_, rfl⟩
          rw [← hz] at x1
          have HZ := Lib.hid hz
          clear hz
          obtain ⟨x10, x11, x12⟩ := x1
          go_wp2_with fail
          all_goals first
            | (go_ret
               refine ⟨ret_bool (doubts_no HL.out hlt (doubtAt_no5 HY.out HZ.out hjk ?_)), by (repeat (first | exact Below.refl _ _ | assumption | refine Below.alloc ?_ (by first | omega | (simp; done) | (simp; omega)) _ | refine below_drewN ?_ _ | refine Below.drew ?_ | refine Below.setCell ?_ (by first | omega | (simp; done) | (simp; omega)) _))⟩
               simp [eqT, *]
               done)
            | (go_roundw
               case rel =>
                 refine ⟨j + 1, by omega, by go_num, ?_, by (repeat (first | exact Below.refl _ _ | assumption | refine Below.alloc ?_ (by first | omega | (simp; done) | (simp; omega)) _ | refine below_drewN ?_ _ | refine Below.drew ?_ | refine Below.setCell ?_ (by first | omega | (simp; done) | (simp; omega)) _))⟩
                 intro m hm
                 rcases Nat.lt_or_ge m j with h1 | h1
                 · exact HJ.out m h1
                 · obtain rfl : m = j := by omega
                   rw [← HY.out, ← HZ.out]
                   simp_all [eqT]
                   done
               case measure => simp [intOf]; omega)
        · obtain rfl : j = k := by omega
          go_wp2_with fail
          go_roundw
          case rel =>
            refine ⟨j + 1, by omega, by go_num, ?_, Below.trans hb ?_⟩
            · intro m hm
              rcases Nat.lt_or_ge m j with h1 | h1
              · exact HS.out m h1
              · obtain rfl : m = j := by omega
                exact doubtAt_yes HY.out hT HA.out HO.out hH HJ.out
            · exact Below.trans (Below.trans (Below.trans (by (repeat (first | exact Below.refl _ _ | assumption | refine Below.alloc ?_ (by first | omega | (simp; done) | (simp; omega)) _ | refine below_drewN ?_ _ | refine Below.drew ?_ | refine Below.setCell ?_ (by first | omega | (simp; done) | (simp; omega)) _))) (hb2.mono (by first | omega | (simp; done) | (simp; omega)))) (hb3.mono (by first | omega | (simp; done) | (simp; omega)))) (hbi.mono (by first | omega | (simp; done) | (simp; omega)))
          case measure => simp [intOf]; omega
    · obtain rfl : n3 = k := by omega
      have HE : Hid (∀ j, j < s.doubts.length → doubtAt s.locks s.over s.doubts j = true) := fun j hj => HS.out j (by have := HL.out; omega)
      clear hn hnc HS hlt
      go_wp2_with fail
      go_loopw [62] (fun i wi => ∃ q : Nat, q ≤ n4 ∧ i = .int .i64 q ∧ Hid (∀ j, j < q → overAt s.over j = true) ∧ Below (w.heap.size + 1) (w.alloc (.cells #[.slice A1 n1 c1, .slice A2 n2 c2, .slice A3 n3 c3, .slice A4 n4 c4] 27)) wi) (fun i _ => n4 - (intOf i).toNat)
      case atStart => exact ⟨0, Nat.zero_le _, rfl, fun j hj => absurd hj (Nat.not_lt_zero _), hb⟩
      case round =>
        clear hc hf hsz z0 z01 z02 z03 hbw hb
        obtain ⟨wq, rfl⟩ : ∃ wq : World, wq = wr := ⟨_, rfl⟩
        obtain ⟨q, hq, rfl, HS, hb⟩ := hrel
        obtain ⟨hc, hf⟩ := bcell hb
        have hsz := hb.size
        simp at hsz
        have z0 : w.heap.size < wq.heap.size := by omega
        have z01 : w.heap.size < wq.heap.size + 1 := by omega
        have z02 : w.heap.size < wq.heap.size + 2 := by omega
        have hbw : Below w.heap.size w wq := Below.trans (by (repeat (first | exact Below.refl _ _ | assumption | refine Below.alloc ?_ (by first | omega | (simp; done) | (simp; omega)) _ | refine below_drewN ?_ _ | refine Below.drew ?_ | refine Below.setCell ?_ (by first | omega | (simp; done) | (simp; omega)) _))) (hb.mono (by first | omega | (simp; done) | (simp; omega)))
        by_cases hlt : q < n4
        · obtain ⟨b, off, rfl, hbB, hcell0⟩ := g.cells hlt
          have z1 : b < wq.heap.size := by omega
          have x0 := hcell0 q hlt
          obtain ⟨y, hy⟩ : ∃ y, y = s.over.getD q (0, 0) := ⟨_, rfl⟩
          rw [← hy] at x0
          have HY := Lib.hid hy
          clear hy hcell0
          obtain ⟨x00, x01⟩ := x0
          have hq0 : (0 : Int) ≤ q := by omega
          have hq1 : (q : Int) ≤ n4 := by omega
          have hlt' : q < s.over.length := by have := GL.out; omega
          cases hT : txnOk y.1 y.2
          · have HQ := Lib.hid (doubts_no2 (s := s) GL.out hlt (overAt_no1 HY.out hT))
            have hTc := fun W : World => stxn_any y.1 y.2 W
            simp only [hT] at hTc
            have HTC := Lib.hid hTc
            clear hTc
            go_wp2_with fail
            first | go_region_with (go_at_call 62; refine (HTC.out _).mono ?_; rintro e w0 ⟨rfl, rfl⟩) | fail
            all_goals
              go_wp2_with fail
              go_ret
              exact ⟨ret_bool HQ.out, by (repeat (first | exact Below.refl _ _ | assumption | refine Below.alloc ?_ (by first | omega | (simp; done) | (simp; omega)) _ | refine below_drewN ?_ _ | refine Below.drew ?_ | refine Below.setCell ?_ (by first | omega | (simp; done) | (simp; omega)) _))⟩
          cases hX : decide (0 ≤ overIx (s.over.take q) y.1 y.2)
          · have HX := Lib.hid hX
            have HT := Lib.hid hT
            go_wp2_with fail
            go_region_with (first | (go_at_call 62; refine (stxn_any _ _ _).mono ?_; rintro e w0 ⟨rfl, rfl⟩) | (go_at_call 55; refine (containsTxn_any _ _ _ (s.over.take q) _ _ _ ((hs.2.2.2.take (by omega) (by omega) hs.2.2.2.2.2.1).below (Flat.stable _) (by (repeat (first | exact Below.refl _ _ | assumption | refine Below.alloc ?_ (by first | omega | (simp; done) | (simp; omega)) _ | refine below_drewN ?_ _ | refine Below.drew ?_ | refine Below.setCell ?_ (by first | omega | (simp; done) | (simp; omega)) _))) (by first | omega | (simp; done) | (simp; omega)))).mono ?_; rintro e w2 ⟨rfl, hb2⟩; obtain ⟨hc2, hf2⟩ := bcell hb2; have hbb2 : Below w.heap.size w w2 := (by refine Below.trans ?_ (hb2.mono ?_); rotate_left; (focus (first | omega | (simp; done) | (simp; omega))); (repeat (first | exact Below.refl _ _ | assumption | refine Below.alloc ?_ (by first | omega | (simp; done) | (simp; omega)) _ | refine below_drewN ?_ _ | refine Below.drew ?_ | refine Below.setCell ?_ (by first | omega | (simp; done) | (simp; omega)) _))); have hsz2 := hb2.size; (try simp at hsz2); have z_wq_w2_0 : wq.heap.size < w2.heap.size := (by omega); have z_w_w2_0 : w.heap.size < w2.heap.size := (by omega)))
            all_goals
              go_wp2_with fail
              go_roundw
              case rel =>
                refine ⟨q + 1, by omega, by go_num, ?_, Below.trans hb (Below.trans (by (repeat (first | exact Below.refl _ _ | assumption | refine Below.alloc ?_ (by first | omega | (simp; done) | (simp; omega)) _ | refine below_drewN ?_ _ | refine Below.drew ?_ | refine Below.setCell ?_ (by first | omega | (simp; done) | (simp; omega)) _))) (hb2.mono (by first | omega | (simp; done) | (simp; omega))))⟩
                intro m hm
                rcases Nat.lt_or_ge m q with h1 | h1
                · exact HS.out m h1
                · obtain rfl : m = q := by omega
                  exact overAt_yes3 HY.out hlt' HT.out HX.out
              case measure => simp [intOf]; omega
          · have HX := Lib.hid hX
            go_wp2_with fail
            go_region_with (first | (go_at_call 62; refine (stxn_any _ _ _).mono ?_; rintro e w0 ⟨rfl, rfl⟩) | (go_at_call 55; refine (containsTxn_any _ _ _ (s.over.take q) _ _ _ ((hs.2.2.2.take (by omega) (by omega) hs.2.2.2.2.2.1).below (Flat.stable _) (by (repeat (first | exact Below.refl _ _ | assumption | refine Below.alloc ?_ (by first | omega | (simp; done) | (simp; omega)) _ | refine below_drewN ?_ _ | refine Below.drew ?_ | refine Below.setCell ?_ (by first | omega | (simp; done) | (simp; omega)) _))) (by first | omega | (simp; done) | (simp; omega)))).mono ?_; rintro e w2 ⟨rfl, hb2⟩; obtain ⟨hc2, hf2⟩ := bcell hb2; have hbb2 : Below w.heap.size w w2 := (by refine Below.trans ?_ (hb2.mono ?_); rotate_left; (focus (first | omega | (simp; done) | (simp; omega))); (repeat (first | exact Below.refl _ _ | assumption | refine Below.alloc ?_ (by first | omega | (simp; done) | (simp; omega)) _ | refine below_drewN ?_ _ | refine Below.drew ?_ | refine Below.setCell ?_ (by first | omega | (simp; done) | (simp; omega)) _))); have hsz2 := hb2.size; (try simp at hsz2); have z_wq_w2_0 : wq.heap.size < w2.heap.size := (by omega); have z_w_w2_0 : w.heap.size < w2.heap.size := (by omega)))
            all_goals
              go_wp2_with fail
              go_ret
              exact ⟨ret_bool (doubts_no2 (s := s) GL.out hlt (overAt_no3 HY.out hlt' HX.out)), hbb2⟩
        · obtain rfl : q = n4 := by omega
          go_wp2_with fail
          go_ret
          exact ⟨ret_bool (doubts_yes rfl GL.out HE.out HS.out), hbw⟩

end Go.Proofs.Ytoalcmpjfnlkdaa
