/- THE MACHINE OF READINGS, structs that are compared: of a type that is told by a check. -/
import Derived.Test.YtoalcmpjfnlkdaaFA
import Derived.Laws.StructEq
namespace Go.Proofs.Ytoalcmpjfnlkdaa
open Go.RowKit

def isAggT (P : Program) (T : TypeId) : Bool := match P.underlying T with
  | some d => isAggD d
  | none => false
/-- a check that says: compared cell by cell -/
def eqOk (P : Program) (T : TypeId) : Bool := isAggT P T && (eqKs P 16 T).isSome && !(P.eqGuardType P.depth T)

theorem eqCells_cons {a b : C} {as bs : List C} {r : Bool} (h : eqCells (a :: as) (b :: bs) = some r) : ∃ x y, eqCell a b = some x ∧ eqCells as bs = some y ∧ r = (x && y) := by
  cases as with
  | nil => cases bs with
    | nil => exact ⟨r, true, h, rfl, by simp⟩
    | cons b' bs => simp only [eqCells] at h; split at h <;> simp_all
  | cons a' as =>
    simp only [eqCells] at h
    split at h
    · rename_i x y e1 e2
      simp only [Option.some.injEq] at h
      exact ⟨x, y, e1, e2, h.symm⟩
    · cases h

theorem eqCells_of {a b : C} {as bs : List C} {x y : Bool} (h1 : eqCell a b = some x) (h2 : eqCells as bs = some y) : eqCells (a :: as) (b :: bs) = some (x && y) := by
  cases as with
  | nil => cases bs with
    | nil => simp only [eqCells, Option.some.injEq] at h2; subst h2; simp [eqCells, h1]
    | cons b' bs => simp [eqCells] at h2
  | cons a' as =>
    simp only [eqCells, h1]
    rw [h2]
    rfl

theorem eqCells_split : ∀ {as bs : List C} {r : Bool} (k : Nat), eqCells as bs = some r → ∃ x y, eqCells (as.take k) (bs.take k) = some x ∧ eqCells (as.drop k) (bs.drop k) = some y ∧ r = (x && y)
  | as, bs, r, 0, h => ⟨true, r, by simp [eqCells], by simpa using h, by simp⟩
  | [], [], r, k + 1, h => by
    simp only [eqCells, Option.some.injEq] at h
    exact ⟨true, true, by simp [eqCells], by simp [eqCells], by simp [← h]⟩
  | [], _ :: _, r, k + 1, h => by simp [eqCells] at h
  | a :: as, [], r, k + 1, h => by cases as <;> simp [eqCells] at h
  | a :: as, b :: bs, r, k + 1, h => by
    obtain ⟨x, y, h1, h2, rfl⟩ := eqCells_cons h
    obtain ⟨p, q, h3, h4, rfl⟩ := eqCells_split k h2
    refine ⟨x && p, q, ?_, by simpa using h4, by simp [Bool.and_assoc]⟩
    simp only [List.take_succ_cons]
    exact eqCells_of h1 h3

section
variable {P : Program} {w : World} {N : Blk} {ρ : Nat → Pl} {m : Mem}

/-- cells as one value -/
def mkV (P : Program) (T : TypeId) (us : List Value) : Value := if isAggT P T then .agg us.toArray else us.getD 0 undef

theorem run_part {T : TypeId} {d : TypeDesc} (hu : P.underlying T = some d) {k : Nat} (hk : sizeT P T = some k) (h1 : isAggD d = false → k = 1) {us : List Value} {off : Nat} (hl : off + k ≤ us.length) :
    (Go.part T us.toArray off).run P w = .ok (mkV P T ((us.drop off).take k)) w := by
  unfold mkV isAggT
  rw [hu]
  cases hag : isAggD d with
  | true =>
    simp only [Go.part, Sem.run_bind, run_isAggD w hu, hag, Result.andThen_ok, if_true, run_sizeT w hk, Sem.run_pure]
    congr 2
    apply Array.ext'
    simp
  | false =>
    have := h1 hag
    subst this
    have hlt : off < us.length := by omega
    simp only [Go.part, Sem.run_bind, run_isAggD w hu, hag, Result.andThen_ok, Bool.false_eq_true, if_false]
    simp [hlt, List.getD, List.take_one, List.head?_drop]

theorem fit_len : ∀ {ks : List CK} {cs : List C}, fitKs ks cs = true → cs.length = ks.length
  | [], [], _ => rfl
  | [], _ :: _, h => by simp [fitKs] at h
  | _ :: _, [], h => by simp [fitKs] at h
  | k :: ks, c :: cs, h => by
    simp only [fitKs, Bool.and_eq_true] at h
    simp [fit_len h.2]
theorem fit_split : ∀ {k1 k2 : List CK} {cs : List C}, fitKs (k1 ++ k2) cs = true → fitKs k1 (cs.take k1.length) = true ∧ fitKs k2 (cs.drop k1.length) = true
  | [], _, _, h => by simpa [fitKs] using h
  | _ :: _, _, [], h => by simp [fitKs] at h
  | k :: k1, k2, c :: cs, h => by
    simp only [List.cons_append, fitKs, Bool.and_eq_true] at h
    obtain ⟨h1, h2⟩ := fit_split h.2
    simp [fitKs, h.1, h1, h2]

def Fine (P : Program) (w : World) (N : Blk) (ρ : Nat → Pl) (m : Mem) (dp : Nat) (T : TypeId) (ks : List CK) : Prop :=
  (∃ d, P.underlying T = some d ∧ (isAggD d = false → ks.length = 1)) ∧ ∀ {cs ds : List C} {us vs : List Value} {b : Bool}, fitKs ks cs = true → fitKs ks ds = true → All2 (CR w N ρ m) cs us → All2 (CR w N ρ m) ds vs → eqCells cs ds = some b →
      (Op.equalIn dp T (mkV P T us) (mkV P T vs)).run P w = .ok b w

theorem eqFs_ok {g : TypeId → Option (List CK)} {dp : Nat} (hg : ∀ T ks, g T = some ks → Fine P w N ρ m dp T ks) :
    ∀ {fs : List Field} {off : Nat} {ks : List CK} {cs ds : List C} {us vs : List Value} {b : Bool}, eqFs P g fs off = some ks → fitKs ks (cs.drop off) = true → fitKs ks (ds.drop off) = true → off ≤ cs.length → off ≤ ds.length → All2 (CR w N ρ m) cs us → All2 (CR w N ρ m) ds vs →
      eqCells (cs.drop off) (ds.drop off) = some b → (Op.eqFields dp us.toArray vs.toArray fs).run P w = .ok b w
  | [], off, ks, cs, ds, us, vs, b, he, hc, hd, _, _, _, _, h => by
    simp only [eqFs, Option.some.injEq] at he
    subst he
    have h1 := fit_len hc
    have h2 := fit_len hd
    rw [List.eq_nil_of_length_eq_zero h1, List.eq_nil_of_length_eq_zero h2] at h
    simp only [eqCells, Option.some.injEq] at h
    subst h
    rfl
  | f :: fs, off, ks, cs, ds, us, vs, b, he, hc, hd, hlc, hld, hu, hv, h => by
    simp only [eqFs] at he
    split at he
    · rename_i hn
      split at he
      · rename_i k1 k' e1 e2
        split at he
        · rename_i hkk
          subst hkk
          cases hr : eqFs P g fs (off + k1.length) with
          | none => rw [hr] at he; cases he
          | some k2 =>
            rw [hr] at he
            simp only [Option.map_some, Option.some.injEq] at he
            subst he
            obtain ⟨⟨d, hud, h1⟩, hgo⟩ := hg f.type k1 e1
            obtain ⟨x, y, hx, hy, rfl⟩ := eqCells_split k1.length h
            obtain ⟨hc1, hc2⟩ := fit_split hc
            obtain ⟨hd1, hd2⟩ := fit_split hd
            simp only [List.drop_drop] at hy hc2 hd2
            have hlu := hu.len
            have hlv := hv.len
            have l1 := fit_len hc
            have l2 := fit_len hd
            simp only [List.length_drop, List.length_append] at l1 l2
            have ih := eqFs_ok hg hr hc2 hd2 (by omega) (by omega) hu hv hy
            have hf := hgo hc1 hd1 ((hu.drop off).take k1.length) ((hv.drop off).take k1.length) hx
            simp only [Op.eqFields, hn.1, ne_eq, not_false_eq_true, if_true, hn.2, Sem.run_bind, run_part hud e2 h1 (us := us) (off := off) (by omega), run_part hud e2 h1 (us := vs) (off := off) (by omega), Result.andThen_ok, hf]
            cases x with
            | false => simp
            | true => simpa using ih
        · cases he
      · cases he
    · cases he

theorem eqKs_ok : ∀ {n : Nat} {T : TypeId} {ks : List CK}, eqKs P n T = some ks → ∀ j, Fine P w N ρ m (n + j) T ks
  | 0, _, _, h => by simp [eqKs] at h
  | n + 1, T, ks, h => by
    have one : ∀ {k : CK} {cs ds : List C} {us vs : List Value} {b : Bool}, fitKs [k] cs = true → fitKs [k] ds = true → All2 (CR w N ρ m) cs us → All2 (CR w N ρ m) ds vs → eqCells cs ds = some b → ∃ c d u v, us = [u] ∧ vs = [v] ∧ CR w N ρ m c u ∧ CR w N ρ m d v ∧ eqCell c d = some b ∧ fitK k c = true ∧ fitK k d = true := by
      intro k cs ds us vs b hc hd hu hv he
      match cs, ds, hc, hd with
      | [], _, hc, _ => simp [fitKs] at hc
      | _ :: _, [], _, hd => simp [fitKs] at hd
      | _ :: _ :: _, _, hc, _ => simp [fitKs] at hc
      | [_], _ :: _ :: _, _, hd => simp [fitKs] at hd
      | [c], [d], hc, hd =>
        cases hu with
        | cons h1 h2 => cases h2; cases hv with
          | cons h3 h4 => cases h4; exact ⟨_, _, _, _, rfl, rfl, h1, h3, he, by simpa [fitKs] using hc, by simpa [fitKs] using hd⟩
    intro j
    have hj : n + 1 + j = (n + j) + 1 := by omega
    rw [hj]
    unfold eqKs at h
    split at h
    · rename_i kk hu
      simp only [Option.some.injEq] at h
      subst h
      refine ⟨⟨_, hu, fun _ => rfl⟩, fun hc hd ha hb he => ?_⟩
      obtain ⟨c, d, u, v, rfl, rfl, h1, h2, h3, f1, f2⟩ := one hc hd ha hb he
      have e : isAggT P T = false := by unfold isAggT; rw [hu]; rfl
      simp only [mkV, e, Bool.false_eq_true, if_false, List.getD_cons_zero]
      cases c <;> simp only [fitK, Bool.false_eq_true] at f1
      cases d <;> simp only [fitK, Bool.false_eq_true] at f2
      simp only [eqCell] at h3
      split at h3
      · rename_i hkk
        subst hkk
        have h1 : _ = _ := h1
        have h2 : _ = _ := h2
        subst h1; subst h2
        simp only [Option.some.injEq] at h3
        subst h3
        exact run_equalIn_int w _ T _ _ _ _ hu
      · cases h3
    · rename_i hu
      simp only [Option.some.injEq] at h
      subst h
      refine ⟨⟨_, hu, fun _ => rfl⟩, fun hc hd ha hb he => ?_⟩
      obtain ⟨c, d, u, v, rfl, rfl, h1, h2, h3, f1, f2⟩ := one hc hd ha hb he
      have e : isAggT P T = false := by unfold isAggT; rw [hu]; rfl
      simp only [mkV, e, Bool.false_eq_true, if_false, List.getD_cons_zero]
      cases c <;> simp only [fitK, Bool.false_eq_true] at f1
      cases d <;> simp only [fitK, Bool.false_eq_true] at f2
      simp only [eqCell, Option.some.injEq] at h3
      have h1 : _ = _ := h1
      have h2 : _ = _ := h2
      subst h1; subst h2; subst h3
      exact run_equalIn_bool' w _ T _ _ hu
    · rename_i hu
      simp only [Option.some.injEq] at h
      subst h
      refine ⟨⟨_, hu, fun _ => rfl⟩, fun hc hd ha hb he => ?_⟩
      obtain ⟨c, d, u, v, rfl, rfl, h1, h2, h3, f1, f2⟩ := one hc hd ha hb he
      have e : isAggT P T = false := by unfold isAggT; rw [hu]; rfl
      simp only [mkV, e, Bool.false_eq_true, if_false, List.getD_cons_zero]
      cases c <;> simp only [fitK, Bool.false_eq_true] at f1
      cases d <;> simp only [fitK, Bool.false_eq_true] at f2
      simp only [eqCell, Option.some.injEq] at h3
      have h1 : _ = _ := h1
      have h2 : _ = _ := h2
      subst h1; subst h2; subst h3
      simp [Op.equalIn, run_underlying hu, pStrEq']
    · rename_i fs hu
      split at h
      · rename_i hst
        refine ⟨⟨_, hu, fun hc => by cases hc⟩, fun hc hd ha hb he => ?_⟩
        have e : isAggT P T = true := by unfold isAggT; rw [hu]; rfl
        simp only [mkV, e, if_true]
        have hfs : P.fieldsOf T = fs := by unfold Program.fieldsOf; rw [hu]
        rw [run_equalIn_agg w _ T _ _ (by rw [hfs]; exact hu) hst, hfs]
        exact eqFs_ok (g := eqKs P n) (fun T ks hk => eqKs_ok hk j) h (by simpa using hc) (by simpa using hd) (by omega) (by omega) ha hb (by simpa using he)
      · cases h
    · cases h

end

/-- A TYPE THAT PASSES THE CHECK is compared cell by cell. -/
theorem eqT_of {P : Program} {T : TypeId} (h : eqOk P T = true) : EqT P T := by
  unfold eqOk at h
  simp only [Bool.and_eq_true, Bool.not_eq_true'] at h
  refine ⟨h.2, fun w N ρ m cs ds us vs b hc hd ha hb he => ?_⟩
  cases hk : eqKs P 16 T with
  | none => rw [hk] at h; simp at h
  | some ks =>
    rw [hk] at hc hd
    have := (eqKs_ok (w := w) (N := N) (ρ := ρ) (m := m) hk 9984).2 hc hd ha hb he
    simpa [mkV, h.1.1] using this

end Go.Proofs.Ytoalcmpjfnlkdaa
