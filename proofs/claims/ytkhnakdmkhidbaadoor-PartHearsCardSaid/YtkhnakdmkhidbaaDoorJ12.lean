/- The law PartHears: for every input it returns true and turns nothing. No condition. -/
import Derived.Test.YtkhnakdmkhidbaaDoorJ11
import Derived.Test.YtkhnakdmkhidbaaDoorJ10
import Derived.Test.YtkhnakdmkhidbaaDoorJ9
import Derived.Test.YtkhnakdmkhidbaaDoorFacts

/- What the document says of a message that a site hears: all cases. No condition. -/
namespace Go.Proofs.YtkhnakdmkhidbaaDoor
open Go.RowKit

abbrev heardS : Shape := ⟨[pCfg, .one (.rd tI), .one (.rd tI), .one (.rd (.sl tySto)), .one (.rd (.sl tyNote)), .one (.rd tI), pMsg], []⟩
def heardPr : Nat → Shape.den heardS → List Prop
  | 0, x => [pLen x.1.1.2.1 < 4611686018427387904, StosOk x.1.2.2.2.1, pLen x.1.2.2.2.2.1 < 4611686018427387904, pRoom (pLen x.1.2.2.2.2.1) 24, checkF x.1.1 x.1.2.1 x.1.2.2.1 x.1.2.2.2.1 = 1]
  | 1, x => [pLen x.1.1.2.1 < 4611686018427387904, StosOk x.1.2.2.2.1, pLen x.1.2.2.2.2.1 < 4611686018427387904, pRoom (pLen x.1.2.2.2.2.1) 24, checkF x.1.1 x.1.2.1 x.1.2.2.1 x.1.2.2.2.1 = 2]
  | 2, x => [pLen x.1.1.2.1 < 4611686018427387904, StosOk x.1.2.2.2.1, pLen x.1.2.2.2.2.1 < 4611686018427387904, pRoom (pLen x.1.2.2.2.2.1) 24, checkF x.1.1 x.1.2.1 x.1.2.2.1 x.1.2.2.2.1 = 6]
  | 3, x => [pLen x.1.1.2.1 < 4611686018427387904, StosOk x.1.2.2.2.1, pLen x.1.2.2.2.2.1 < 4611686018427387904, pRoom (pLen x.1.2.2.2.2.1) 24, checkF x.1.1 x.1.2.1 x.1.2.2.1 x.1.2.2.2.1 = 7]
  | 4, x => [pLen x.1.1.2.1 < 4611686018427387904, StosOk x.1.2.2.2.1, pLen x.1.2.2.2.2.1 < 4611686018427387904, pRoom (pLen x.1.2.2.2.2.1) 24, checkF x.1.1 x.1.2.1 x.1.2.2.1 x.1.2.2.2.1 = 9]
  | 5, x => [pLen x.1.1.2.1 < 4611686018427387904, StosOk x.1.2.2.2.1, pLen x.1.2.2.2.2.1 < 4611686018427387904, pRoom (pLen x.1.2.2.2.2.1) 24, checkF x.1.1 x.1.2.1 x.1.2.2.1 x.1.2.2.2.1 = 0, msgF x.1.1 x.1.2.2.2.2.2.2.1 = 2]
  | 6, x => [pLen x.1.1.2.1 < 4611686018427387904, StosOk x.1.2.2.2.1, pLen x.1.2.2.2.2.1 < 4611686018427387904, pRoom (pLen x.1.2.2.2.2.1) 24, checkF x.1.1 x.1.2.1 x.1.2.2.1 x.1.2.2.2.1 = 0, msgF x.1.1 x.1.2.2.2.2.2.2.1 = 3]
  | 7, x => [pLen x.1.1.2.1 < 4611686018427387904, StosOk x.1.2.2.2.1, pLen x.1.2.2.2.2.1 < 4611686018427387904, pRoom (pLen x.1.2.2.2.2.1) 24, checkF x.1.1 x.1.2.1 x.1.2.2.1 x.1.2.2.2.1 = 0, msgF x.1.1 x.1.2.2.2.2.2.2.1 = 4]
  | 8, x => [x.1.2.2.2.2.2.2.1.1 = 1, pLen x.1.1.2.1 < 4611686018427387904, StosOk x.1.2.2.2.1, pLen x.1.2.2.2.2.1 < 4611686018427387904, pRoom (pLen x.1.2.2.2.2.1) 24, checkF x.1.1 x.1.2.1 x.1.2.2.1 x.1.2.2.2.1 = 0, msgF x.1.1 x.1.2.2.2.2.2.2.1 = 0]
  | 9, x => [x.1.2.2.2.2.2.2.1.1 = 2, pLen x.1.1.2.1 < 4611686018427387904, StosOk x.1.2.2.2.1, pLen x.1.2.2.2.2.1 < 4611686018427387904, pRoom (pLen x.1.2.2.2.2.1) 24, checkF x.1.1 x.1.2.1 x.1.2.2.1 x.1.2.2.2.1 = 0, msgF x.1.1 x.1.2.2.2.2.2.2.1 = 0]
  | 10, x => [x.1.2.2.2.2.2.2.1.1 = 3, pLen x.1.1.2.1 < 4611686018427387904, StosOk x.1.2.2.2.1, pLen x.1.2.2.2.2.1 < 4611686018427387904, pRoom (pLen x.1.2.2.2.2.1) 24, checkF x.1.1 x.1.2.1 x.1.2.2.1 x.1.2.2.2.1 = 0, msgF x.1.1 x.1.2.2.2.2.2.2.1 = 0]
  | 11, x => [x.1.2.2.2.2.2.2.1.1 = 4, pLen x.1.1.2.1 < 4611686018427387904, StosOk x.1.2.2.2.1, pLen x.1.2.2.2.2.1 < 4611686018427387904, pRoom (pLen x.1.2.2.2.2.1) 24, checkF x.1.1 x.1.2.1 x.1.2.2.1 x.1.2.2.2.1 = 0, msgF x.1.1 x.1.2.2.2.2.2.2.1 = 0]
  | 12, x => [x.1.2.2.2.2.2.2.1.1 = 5, pLen x.1.1.2.1 < 4611686018427387904, StosOk x.1.2.2.2.1, pLen x.1.2.2.2.2.1 < 4611686018427387904, pRoom (pLen x.1.2.2.2.2.1) 24, checkF x.1.1 x.1.2.1 x.1.2.2.1 x.1.2.2.2.1 = 0, msgF x.1.1 x.1.2.2.2.2.2.2.1 = 0]
  | 13, x => [x.1.2.2.2.2.2.2.1.1 = 6, pLen x.1.1.2.1 < 4611686018427387904, StosOk x.1.2.2.2.1, pLen x.1.2.2.2.2.1 < 4611686018427387904, pRoom (pLen x.1.2.2.2.2.1) 24, checkF x.1.1 x.1.2.1 x.1.2.2.1 x.1.2.2.2.1 = 0, msgF x.1.1 x.1.2.2.2.2.2.2.1 = 0]
  | 14, x => [x.1.2.2.2.2.2.2.1.1 = 7, pLen x.1.1.2.1 < 4611686018427387904, StosOk x.1.2.2.2.1, pLen x.1.2.2.2.2.1 < 4611686018427387904, pRoom (pLen x.1.2.2.2.2.1) 24, checkF x.1.1 x.1.2.1 x.1.2.2.1 x.1.2.2.2.1 = 0, msgF x.1.1 x.1.2.2.2.2.2.2.1 = 0]
  | 15, x => [x.1.2.2.2.2.2.2.1.1 = 8, pLen x.1.1.2.1 < 4611686018427387904, StosOk x.1.2.2.2.1, pLen x.1.2.2.2.2.1 < 4611686018427387904, pRoom (pLen x.1.2.2.2.2.1) 24, checkF x.1.1 x.1.2.1 x.1.2.2.1 x.1.2.2.2.1 = 0, msgF x.1.1 x.1.2.2.2.2.2.2.1 = 0]
  | 16, x => [x.1.2.2.2.2.2.2.1.1 = 9, pLen x.1.1.2.1 < 4611686018427387904, StosOk x.1.2.2.2.1, pLen x.1.2.2.2.2.1 < 4611686018427387904, pRoom (pLen x.1.2.2.2.2.1) 24, checkF x.1.1 x.1.2.1 x.1.2.2.1 x.1.2.2.2.1 = 0, msgF x.1.1 x.1.2.2.2.2.2.2.1 = 0]
  | _, x => [pLen x.1.1.2.1 < 4611686018427387904, StosOk x.1.2.2.2.1, pLen x.1.2.2.2.2.1 < 4611686018427387904, pRoom (pLen x.1.2.2.2.2.1) 24, checkF x.1.1 x.1.2.1 x.1.2.2.1 x.1.2.2.2.1 = 1]

theorem heard_all (i : Nat) : Meets Tryd.prog (fun _ => none) 7 (shCtr heardS (heardPr i) [] [.agg 0 vAnsF, .slot 1 false tI] (fun x => (hearA x.1.1 x.1.2.1 x.1.2.2.1 x.1.2.2.2.1 x.1.2.2.2.2.1 x.1.2.2.2.2.2.1 x.1.2.2.2.2.2.2.1, hearE x.1.1 x.1.2.1 x.1.2.2.1 x.1.2.2.2.1 x.1.2.2.2.2.1 x.1.2.2.2.2.2.1 x.1.2.2.2.2.2.2.1, ()))) := by
  match i with
  | 0 => exact hS1_ok
  | 1 => exact hS2_ok
  | 2 => exact hS6_ok
  | 3 => exact hS7_ok
  | 4 => exact hS9_ok
  | 5 => exact hM2_ok
  | 6 => exact hM3_ok
  | 7 => exact hM4_ok
  | 8 => exact hK1_ok
  | 9 => exact hK2_ok
  | 10 => exact hK3_ok
  | 11 => exact hK4_ok
  | 12 => exact hK5_ok
  | 13 => exact hK6_ok
  | 14 => exact hK7_ok
  | 15 => exact hK8_ok
  | 16 => exact hK9_ok
  | n + 17 => exact hS1_ok

theorem firstE_vals (e : Nat → Int) (n : Nat) : firstE e n = 0 ∨ ∃ k, firstE e n = e k := by
  unfold firstE
  split
  · exact .inr ⟨_, rfl⟩
  · exact .inl rfl
theorem cond_or {P : Int → Prop} {b : Bool} {x y : Int} (h1 : P x) (h2 : P y) : P (cond b x y) := by cases b <;> assumption
theorem cfg_vals (c : CfgD) : cfgF c = 0 ∨ cfgF c = 1 ∨ cfgF c = 2 ∨ cfgF c = 7 := by
  have hf : ∀ x : Int, x = firstE (labE c.2.1) c.2.1.length → (x = 0 ∨ x = 1 ∨ x = 2 ∨ x = 7) := by
    rintro x rfl
    rcases firstE_vals (labE c.2.1) c.2.1.length with h | ⟨k, h⟩
    · rw [h]; exact .inl rfl
    · rw [h]; unfold labE
      exact cond_or (P := fun x => x = 0 ∨ x = 1 ∨ x = 2 ∨ x = 7) (cond_or (P := fun x => x = 0 ∨ x = 1 ∨ x = 2 ∨ x = 7) (by simp) (by simp)) (by simp)
  unfold cfgF
  refine cond_or (P := fun x => x = 0 ∨ x = 1 ∨ x = 2 ∨ x = 7) (cond_or (P := fun x => x = 0 ∨ x = 1 ∨ x = 2 ∨ x = 7) (cond_or (P := fun x => x = 0 ∨ x = 1 ∨ x = 2 ∨ x = 7) (cond_or (P := fun x => x = 0 ∨ x = 1 ∨ x = 2 ∨ x = 7) (by simp) (by simp)) (hf _ rfl)) (by simp)) (by simp)
theorem check_vals (c : CfgD) (l me : Int) (ss : List StoD) : checkF c l me ss = 0 ∨ checkF c l me ss = 1 ∨ checkF c l me ss = 2 ∨ checkF c l me ss = 6 ∨ checkF c l me ss = 7 ∨ checkF c l me ss = 9 := by
  have hP : (P : Int → Prop) → P = (fun x => x = 0 ∨ x = 1 ∨ x = 2 ∨ x = 6 ∨ x = 7 ∨ x = 9) → P (checkF c l me ss) := by
    rintro P rfl
    unfold checkF
    refine cond_or (P := fun x => x = 0 ∨ x = 1 ∨ x = 2 ∨ x = 6 ∨ x = 7 ∨ x = 9) (cond_or (P := fun x => x = 0 ∨ x = 1 ∨ x = 2 ∨ x = 6 ∨ x = 7 ∨ x = 9) (cond_or (P := fun x => x = 0 ∨ x = 1 ∨ x = 2 ∨ x = 6 ∨ x = 7 ∨ x = 9) (cond_or (P := fun x => x = 0 ∨ x = 1 ∨ x = 2 ∨ x = 6 ∨ x = 7 ∨ x = 9) (cond_or (P := fun x => x = 0 ∨ x = 1 ∨ x = 2 ∨ x = 6 ∨ x = 7 ∨ x = 9) (by simp) (by simp)) (by simp)) (by simp)) (by simp)) ?_
    rcases cfg_vals c with h | h | h | h <;> rw [h] <;> simp
  exact hP _ rfl
theorem msg_vals {c : CfgD} {l me : Int} {ss : List StoD} (h : checkF c l me ss = 0) (z : MsgD) : msgF c z = 0 ∨ msgF c z = 2 ∨ msgF c z = 3 ∨ msgF c z = 4 := by
  have hc : pEq (cfgF c) 0 = true := by
    cases hq : pEq (cfgF c) 0 with
    | true => rfl
    | false =>
      unfold checkF at h
      rw [hq, cond_false] at h
      rw [h] at hq; exact absurd hq (by decide)
  unfold msgF
  rw [hc, cond_true]
  exact cond_or (P := fun x => x = 0 ∨ x = 2 ∨ x = 3 ∨ x = 4) (cond_or (P := fun x => x = 0 ∨ x = 2 ∨ x = 3 ∨ x = 4) (cond_or (P := fun x => x = 0 ∨ x = 2 ∨ x = 3 ∨ x = 4) (by simp) (by simp)) (by simp)) (by simp)

theorem HeardOf_ok : Meets Tryd.prog (fun _ => none) 7 cHeardOf := by
  refine meets_split heardPr 0 heard_all fun x hp => ?_
  have b1 : pLen x.1.1.2.1 < 4611686018427387904 := (hp _ List.mem_cons_self)
  have b2 : StosOk x.1.2.2.2.1 := (hp _ (List.mem_cons_of_mem _ List.mem_cons_self))
  have b3 : pLen x.1.2.2.2.2.1 < 4611686018427387904 := (hp _ (List.mem_cons_of_mem _ (List.mem_cons_of_mem _ List.mem_cons_self)))
  have b4 : pRoom (pLen x.1.2.2.2.2.1) 24 := (hp _ (List.mem_cons_of_mem _ (List.mem_cons_of_mem _ (List.mem_cons_of_mem _ List.mem_cons_self))))
  clear hp
  rcases check_vals x.1.1 x.1.2.1 x.1.2.2.1 x.1.2.2.2.1 with hc | hk | hk | hk | hk | hk
  · rcases msg_vals hc x.1.2.2.2.2.2.2.1 with hm | hk | hk | hk
    · have hz := inF_iff.1 (msg_in hm).1
      obtain ⟨z1, z2⟩ := hz
      have key : ∀ q : Int, 1 ≤ q → q ≤ 9 → q = 1 ∨ q = 2 ∨ q = 3 ∨ q = 4 ∨ q = 5 ∨ q = 6 ∨ q = 7 ∨ q = 8 ∨ q = 9 := fun q h1 h2 => by omega
      rcases key _ z1 z2 with hk | hk | hk | hk | hk | hk | hk | hk | hk
      · exact ⟨8, fun p hq => by
        simp only [heardPr, List.mem_cons, List.not_mem_nil, or_false] at hq; rcases hq with rfl | rfl | rfl | rfl | rfl | rfl | rfl <;> assumption⟩
      · exact ⟨9, fun p hq => by
        simp only [heardPr, List.mem_cons, List.not_mem_nil, or_false] at hq; rcases hq with rfl | rfl | rfl | rfl | rfl | rfl | rfl <;> assumption⟩
      · exact ⟨10, fun p hq => by
        simp only [heardPr, List.mem_cons, List.not_mem_nil, or_false] at hq; rcases hq with rfl | rfl | rfl | rfl | rfl | rfl | rfl <;> assumption⟩
      · exact ⟨11, fun p hq => by
        simp only [heardPr, List.mem_cons, List.not_mem_nil, or_false] at hq; rcases hq with rfl | rfl | rfl | rfl | rfl | rfl | rfl <;> assumption⟩
      · exact ⟨12, fun p hq => by
        simp only [heardPr, List.mem_cons, List.not_mem_nil, or_false] at hq; rcases hq with rfl | rfl | rfl | rfl | rfl | rfl | rfl <;> assumption⟩
      · exact ⟨13, fun p hq => by
        simp only [heardPr, List.mem_cons, List.not_mem_nil, or_false] at hq; rcases hq with rfl | rfl | rfl | rfl | rfl | rfl | rfl <;> assumption⟩
      · exact ⟨14, fun p hq => by
        simp only [heardPr, List.mem_cons, List.not_mem_nil, or_false] at hq; rcases hq with rfl | rfl | rfl | rfl | rfl | rfl | rfl <;> assumption⟩
      · exact ⟨15, fun p hq => by
        simp only [heardPr, List.mem_cons, List.not_mem_nil, or_false] at hq; rcases hq with rfl | rfl | rfl | rfl | rfl | rfl | rfl <;> assumption⟩
      · exact ⟨16, fun p hq => by
        simp only [heardPr, List.mem_cons, List.not_mem_nil, or_false] at hq; rcases hq with rfl | rfl | rfl | rfl | rfl | rfl | rfl <;> assumption⟩
    · exact ⟨5, fun p hq => by
        simp only [heardPr, List.mem_cons, List.not_mem_nil, or_false] at hq; rcases hq with rfl | rfl | rfl | rfl | rfl | rfl <;> assumption⟩
    · exact ⟨6, fun p hq => by
        simp only [heardPr, List.mem_cons, List.not_mem_nil, or_false] at hq; rcases hq with rfl | rfl | rfl | rfl | rfl | rfl <;> assumption⟩
    · exact ⟨7, fun p hq => by
        simp only [heardPr, List.mem_cons, List.not_mem_nil, or_false] at hq; rcases hq with rfl | rfl | rfl | rfl | rfl | rfl <;> assumption⟩
  · exact ⟨0, fun p hq => by
        simp only [heardPr, List.mem_cons, List.not_mem_nil, or_false] at hq; rcases hq with rfl | rfl | rfl | rfl | rfl <;> assumption⟩
  · exact ⟨1, fun p hq => by
        simp only [heardPr, List.mem_cons, List.not_mem_nil, or_false] at hq; rcases hq with rfl | rfl | rfl | rfl | rfl <;> assumption⟩
  · exact ⟨2, fun p hq => by
        simp only [heardPr, List.mem_cons, List.not_mem_nil, or_false] at hq; rcases hq with rfl | rfl | rfl | rfl | rfl <;> assumption⟩
  · exact ⟨3, fun p hq => by
        simp only [heardPr, List.mem_cons, List.not_mem_nil, or_false] at hq; rcases hq with rfl | rfl | rfl | rfl | rfl <;> assumption⟩
  · exact ⟨4, fun p hq => by
        simp only [heardPr, List.mem_cons, List.not_mem_nil, or_false] at hq; rcases hq with rfl | rfl | rfl | rfl | rfl <;> assumption⟩

end Go.Proofs.YtkhnakdmkhidbaaDoor

/- Stores that are small enough. No condition. -/
namespace Go.Proofs.YtkhnakdmkhidbaaDoor
open Go.RowKit

/-- few enough to be in memory -/
def FewS (s : StoD) : Prop := s.1.length ≤ 32 ∧ s.2.1.length ≤ 25 ∧ s.2.2.1.length ≤ 25 ∧ s.2.2.2.1.length ≤ 4194305
theorem few_room {s : StoD} (h : FewS s) : pRoom (pLen s.1) 24 ∧ pRoom (pLen s.2.1) 48 ∧ pRoom (pLen s.2.2.1) 24 ∧ pRoom (pLen s.2.2.2.1) 16 := by
  obtain ⟨a, b, c, d⟩ := h
  have q : ∀ a b c d : Nat, a ≤ 32 → b ≤ 25 → c ≤ 25 → d ≤ 4194305 → a * 24 ≤ 140737488351232 ∧ b * 48 ≤ 140737488351232 ∧ c * 24 ≤ 140737488351232 ∧ d * 16 ≤ 140737488351232 := fun a b c d _ _ _ _ => by omega
  exact q _ _ _ _ a b c d
theorem few_no : FewS noSto := ⟨Nat.zero_le _, Nat.zero_le _, Nat.zero_le _, Nat.zero_le _⟩
theorem few_self {s : StoD} (h : stoF s = true) : FewS s ∧ s.2.1.length ≤ 24 ∧ s.2.2.1.length ≤ 24 := by
  obtain ⟨f1, f2, f3⟩ := doubts_few (is := s.1) (ls := s.2.1) (ds := s.2.2.1) (os := s.2.2.2.1) h
  have f4 := items_few f3
  have f5 := over_few (is := s.1) (ls := s.2.1) (ds := s.2.2.1) (os := s.2.2.2.1) h
  exact ⟨⟨by omega, by omega, by omega, by omega⟩, f2, by omega⟩
theorem few_read {s : StoD} (h : stoF s = true) (t : TxnD) (k : Int) : FewS (readS s t k) := by
  obtain ⟨⟨a, _, _, d⟩, b, c⟩ := few_self h
  have hh := hand_len s.2.2.1 t.1 t.2.1
  unfold readS
  cases pEq (readE s t k) 0 with
  | false => exact few_no
  | true =>
    cases pGe (idxLkF s.2.1 t.1 t.2.1 k) 0 with
    | true => exact ⟨a, by show s.2.1.length ≤ 25; omega, by show s.2.2.1.length ≤ 25; omega, d⟩
    | false => exact ⟨a, by show (s.2.1 ++ [_]).length ≤ 25; rw [List.length_append]; show s.2.1.length + 1 ≤ 25; omega, by show (handF s.2.2.1 t.1 t.2.1).length ≤ 25; omega, d⟩
theorem few_write {s : StoD} (h : stoF s = true) (t : TxnD) (k v a : Int) : FewS (writeS s t k v a) := by
  obtain ⟨⟨a1, _, _, d⟩, b, c⟩ := few_self h
  have hh := hand_len s.2.2.1 t.1 t.2.1
  unfold writeS
  cases pEq (writeE s t k v a) 0 with
  | false => exact few_no
  | true =>
    refine ⟨a1, ?_, by show (handF s.2.2.1 t.1 t.2.1).length ≤ 25; omega, d⟩
    cases pLt (idxLkF s.2.1 t.1 t.2.1 k) 0 with
    | true => show (s.2.1 ++ [_]).length ≤ 25; rw [List.length_append]; show s.2.1.length + 1 ≤ 25; omega
    | false => show (s.2.1.set _ _).length ≤ 25; rw [List.length_set]; omega
theorem few_end {s : StoD} (h : stoF s = true) (t : TxnD) (g : Bool) : FewS (endS s t g) := by
  obtain ⟨a1, a2, a3, a4⟩ := endS_len s.1 s.2.1 s.2.2.1 s.2.2.2.1 t g
  obtain ⟨f1, f2, f3⟩ := doubts_few (is := s.1) (ls := s.2.1) (ds := s.2.2.1) (os := s.2.2.2.1) h
  have f4 := items_few f3
  have f5 := over_few (is := s.1) (ls := s.2.1) (ds := s.2.2.1) (os := s.2.2.2.1) h
  exact ⟨Nat.le_trans a1 (by omega), Nat.le_trans a2 (by omega), Nat.le_trans a3 (by omega), Nat.le_trans a4 (by omega)⟩

end Go.Proofs.YtkhnakdmkhidbaaDoor

/- A site hears a message: the function meets its contract. No condition. -/
namespace Go.Proofs.YtkhnakdmkhidbaaDoor
open Go.RowKit

theorem scheckW_ok : Meets Tryd.prog (fun _ => none) 14 cscheckW := meets_mono scheck_ok fun x hp => by
  have h1 : pLen x.2.1.2.1 < 4611686018427387904 := hp _ List.mem_cons_self
  have h2 : StosOk x.2.1.2.2.2.2.2.1 := hp _ (List.mem_cons_of_mem _ List.mem_cons_self)
  refine ⟨fun p hq => ?_, rfl⟩
  simp only [List.mem_cons, List.not_mem_nil, or_false] at hq; rcases hq with rfl | rfl | rfl
  · exact h1
  · exact h2.1
  · exact fun q hq => ⟨(h2.2 q hq).1.1, (h2.2 q hq).1.2.1, (h2.2 q hq).1.2.2.1, (h2.2 q hq).1.2.2.2, (h2.2 q hq).2⟩

theorem few_rd {l : Int} {ss : List StoD} {z : MsgD} (h : stoF (sAt ss l) = true) : FewS (rdS l ss z) := by
  have h1 := few_read h (zTxn z) z.2.2.2.2.2.2.1
  have h2 := (few_self h).1
  unfold rdS
  cases pEq z.2.2.2.2.2.1 l with
  | false => exact h2
  | true =>
    cases pEq (readE (sAt ss l) (zTxn z) z.2.2.2.2.2.2.1) 0 with
    | true => exact h1
    | false => exact h2
theorem sto_of {c : CfgD} {l me : Int} {ss : List StoD} (h : checkF c l me ss = 0) : stoF (sAt ss l) = true := by
  have hc : pNe (checkF (c.1, c.2.1, c.2.2.1, ()) l me ss) 0 = false := by
    show pNe (checkF c l me ss) 0 = false; rw [h]; rfl
  obtain ⟨⟨p1, p2⟩, p3, p4, _⟩ := checkF_ok hc
  have hi : pNat l < ss.length := by
    have e1 : (0 : Int) ≤ l := of_decide_eq_true p1
    have e2 : l < (c.2.1.length : Int) := of_decide_eq_true p2
    unfold pNat; omega
  exact allUpto_iff.1 p4 (pNat l) hi
/-- what an answer holds -/
def FewA (a : AnsD) : Prop := FewS (a.1, a.2.1, a.2.2.1, a.2.2.2.1, ()) ∧ a.2.2.2.2.1.length ≤ 1 ∧ a.2.2.2.2.2.1.length ≤ 1 ∧ ∀ q ∈ a.2.2.2.2.2.1, pLen q.2.2.2.2.2.2.2.1 = 0
theorem few_ans {s : StoD} {ms : List MsgD} {rs : List RecD} (h : FewS s) (h1 : ms.length ≤ 1) (h2 : rs.length ≤ 1) (h3 : ∀ q ∈ rs, pLen q.2.2.2.2.2.2.2.1 = 0) : FewA (ansOf s ms rs) := ⟨h, h1, h2, h3⟩
theorem fewA_read {l me : Int} {ss : List StoD} {z : MsgD} (h : stoF (sAt ss l) = true) : FewA (readA l me ss z) := by
  unfold readA
  refine few_ans (few_rd h) ?_ (Nat.zero_le _) (fun q hq => by cases hq)
  cases refuF (rdE l ss z) <;> cases pEq (rdE l ss z) 0 <;> first | exact Nat.le_refl 1 | exact Nat.zero_le 1
theorem fewA_write {l me : Int} {ss : List StoD} {z : MsgD} {room : Int} (h : stoF (sAt ss l) = true) : FewA (writeA l me ss z room) := by
  unfold writeA
  cases refuF (wrE l ss z room) with
  | true => exact few_ans (few_self h).1 (Nat.le_refl 1) (Nat.zero_le _) (fun q hq => by cases hq)
  | false =>
    cases pEq (wrE l ss z room) 0 with
    | true => exact few_ans (few_write h _ _ _ _) (Nat.le_refl 1) (Nat.le_refl 1) (fun q hq => by rw [List.mem_singleton.1 hq]; rfl)
    | false => exact few_ans (few_self h).1 (Nat.zero_le 1) (Nat.zero_le _) (fun q hq => by cases hq)
theorem fewA_still {l me : Int} {ss : List StoD} {z : MsgD} (h : stoF (sAt ss l) = true) : FewA (stillA l me ss z) := few_ans (few_self h).1 (Nat.le_refl 1) (Nat.zero_le _) (fun q hq => by cases hq)
theorem fewA_decide {l me : Int} {ss : List StoD} {z : MsgD} {ns : List NoteD} (h : stoF (sAt ss l) = true) : FewA (decideA l me ss z ns) := by
  unfold decideA decR
  cases (pGt (writesN (sAt ss l) (zTxn z)) 0 || someN z ns ns.length) with
  | true => exact few_ans (few_end h _ _) (Nat.le_refl 1) (Nat.le_refl 1) (fun q hq => by rw [List.mem_singleton.1 hq]; rfl)
  | false => exact few_ans (few_end h _ _) (Nat.le_refl 1) (Nat.zero_le _) (fun q hq => by cases hq)
theorem fewA_room {a : AnsD} (h : FewA a) : pRoom (pLen a.1) 24 ∧ pRoom (pLen a.2.1) 48 ∧ pRoom (pLen a.2.2.1) 24 ∧ pRoom (pLen a.2.2.2.1) 16 := by
  obtain ⟨x1, x2, x3, x4⟩ := few_room h.1
  exact ⟨x1, x2, x3, x4⟩

set_option maxHeartbeats 4000000 in
theorem Hear_ok : Meets Tryd.prog tabsM 6 cHear := Hear_meets scheckW_ok.any CheckMessage_ok above_ok.any cloneNote_ok.any sread_ok.any swrite_ok.any sstill_ok.any sdecide_ok.any pownR_ok.any fun cn cl cp l me ss ns room zk zf zt zs zn zl zy zv ze za zd zc hp => by
  have hcl : cl.length < 4611686018427387904 := hp (pLen cl < 4611686018427387904) (by simp)
  have hS : StosOk ss := hp (StosOk ss) (by simp)
  have hn : ns.length < 4611686018427387904 := hp (pLen ns < 4611686018427387904) (by simp)
  have hr : pRoom (pLen ns) 24 := hp (pRoom (pLen ns) 24) (by simp)
  clear hp
  unfold Hear_VC Hear_t0 Hear_t1 Hear_v0 Hear_v1
  refine ⟨hcl, hS, bif_ok (fun h => hear_err1 rfl (by simpa [pNe, pEq] using h)) fun h => ⟨hcl, bif_ok (fun h2 => ?_) fun h2 => ?_⟩⟩
  · exact hear_err2 (by simpa [pNe] using h) rfl (by simpa [pNe, pEq] using h2)
  have hc : checkF (cn, cl, cp, ()) l me ss = 0 := by simpa [pNe] using h
  have hm : msgF (cn, cl, cp, ()) (zk, zf, zt, zs, zn, zl, zy, zv, ze, za, zd, zc, ()) = 0 := by simpa [pNe] using h2
  clear h h2
  have i1 : pIn l (pLen cl) := (hear_in hc hm).1
  have i2 : pIn zl (pLen cl) := (hear_in hc hm).2.1
  have i3 : pIn l (pLen ss) := (hear_in hc hm).2.2.1
  have i4 : pIn zl (pLen ss) := (hear_in hc hm).2.2.2
  have hst := sto_of hc
  obtain ⟨ra1, ra2, ra3, ra4⟩ := fewA_room (fewA_read (me := me) (z := (zk, zf, zt, zs, zn, zl, zy, zv, ze, za, zd, zc, ())) hst)
  obtain ⟨rb1, rb2, rb3, rb4⟩ := fewA_room (fewA_write (me := me) (z := (zk, zf, zt, zs, zn, zl, zy, zv, ze, za, zd, zc, ())) (room := room) hst)
  obtain ⟨rc1, rc2, rc3, rc4⟩ := fewA_room (fewA_still (me := me) (z := (zk, zf, zt, zs, zn, zl, zy, zv, ze, za, zd, zc, ())) hst)
  obtain ⟨rd1, rd2, rd3, rd4⟩ := fewA_room (fewA_decide (me := me) (z := (zk, zf, zt, zs, zn, zl, zy, zv, ze, za, zd, zc, ())) (ns := ns) hst)
  have hdl : pLen (damN ns (zk, zf, zt, zs, zn, zl, zy, zv, ze, za, zd, zc, ())) = pLen ns := by unfold pLen damN; rw [List.length_map]
  have hk : pEq zk 1 = true ∨ pEq zk 2 = true ∨ pEq zk 3 = true ∨ pEq zk 4 = true ∨ pGt zk 4 = true := by
    have := inF_iff.1 (msg_in hm).1
    simp only [pEq, pGt, beq_iff_eq, decide_eq_true_eq] at this ⊢
    omega
  rw [hear_eq hc hm]
  clear hc hm hst
  rcases hk with hk | hk | hk | hk | hk
  · obtain rfl : zk = 1 := by simpa [pEq] using hk
    simp only [lits, hearK, withN, booB]
    (repeat' (first | refine bif_ok (fun h => ?_) (fun h => ?_) | with_reducible refine And.intro ?_ ?_ | fail))
    all_goals first
      | assumption
      | (simp only [pNe_pEq, Bool.not_eq_true', Bool.not_eq_false', pNot] at *; simp only [*, booB]; done)
  · obtain rfl : zk = 2 := by simpa [pEq] using hk
    simp only [lits, hearK, withN, booB]
    (repeat' (first | refine bif_ok (fun h => ?_) (fun h => ?_) | with_reducible refine And.intro ?_ ?_ | fail))
    all_goals first
      | assumption
      | (simp only [pNe_pEq, Bool.not_eq_true', Bool.not_eq_false', pNot] at *; simp only [*, booB]; done)
  · obtain rfl : zk = 3 := by simpa [pEq] using hk
    simp only [lits, hearK, withN, booB]
    (repeat' (first | refine bif_ok (fun h => ?_) (fun h => ?_) | with_reducible refine And.intro ?_ ?_ | fail))
    all_goals first
      | assumption
      | (simp only [pNe_pEq, Bool.not_eq_true', Bool.not_eq_false', pNot] at *; simp only [*, booB]; done)
  · obtain rfl : zk = 4 := by simpa [pEq] using hk
    simp only [lits, hearK, withN, booB]
    (repeat' (first | refine bif_ok (fun h => ?_) (fun h => ?_) | with_reducible refine And.intro ?_ ?_ | fail))
    all_goals first
      | assumption
      | (simp only [pNe_pEq, Bool.not_eq_true', Bool.not_eq_false', pNot] at *; simp only [*, booB]; done)
  · have e1 : pEq zk 1 = false := by simp only [pGt, pEq, decide_eq_true_eq, beq_eq_false_iff_ne] at hk ⊢; omega
    have e2 : pEq zk 2 = false := by simp only [pGt, pEq, decide_eq_true_eq, beq_eq_false_iff_ne] at hk ⊢; omega
    have e3 : pEq zk 3 = false := by simp only [pGt, pEq, decide_eq_true_eq, beq_eq_false_iff_ne] at hk ⊢; omega
    have e4 : pEq zk 4 = false := by simp only [pGt, pEq, decide_eq_true_eq, beq_eq_false_iff_ne] at hk ⊢; omega
    simp only [e1, e2, e3, e4, hk, booB]
    (repeat' (first | refine bif_ok (fun h => ?_) (fun h => ?_) | with_reducible refine And.intro ?_ ?_ | fail))
    all_goals first
      | assumption
      | (simp only [pNe_pEq, Bool.not_eq_true', Bool.not_eq_false', pNot] at *; simp only [*, booB]; done)

theorem hear_few {c : CfgD} {l me : Int} {ss : List StoD} {ns : List NoteD} {room : Int} {z : MsgD} : FewA (hearA c l me ss ns room z) ∧ (hearA c l me ss ns room z).2.2.2.2.2.2.1.length ≤ ns.length := by
  have h0 : FewA ([], [], [], [], [], [], [], ()) := ⟨few_no, Nat.zero_le _, Nat.zero_le _, fun q hq => by cases hq⟩
  unfold hearA
  cases hE : pEq (hearE c l me ss ns room z) 0 with
  | false => exact ⟨h0, Nat.zero_le _⟩
  | true =>
    have hc : checkF c l me ss = 0 := by
      cases hq : pEq (checkF c l me ss) 0 with
      | true => simpa [pEq] using hq
      | false => unfold hearE at hE; rw [hq, cond_false] at hE; rw [hE] at hq; cases hq
    have hst := sto_of hc
    rw [cond_true]
    unfold hearK
    cases pEq z.1 1 with
    | true => exact ⟨fewA_read hst, Nat.le_refl _⟩
    | false =>
      cases pEq z.1 2 with
      | true => exact ⟨fewA_write hst, Nat.le_refl _⟩
      | false =>
        cases pEq z.1 3 with
        | true => exact ⟨fewA_still hst, Nat.le_refl _⟩
        | false => exact ⟨fewA_decide hst, by show (damN ns z).length ≤ ns.length; unfold damN; rw [List.length_map]; exact Nat.le_refl _⟩

theorem hears_vc (cn : Int) (cl : List LabD) (cp l me : Int) (ss : List StoD) (ns : List NoteD) (room : Int) (zk : Int) (zf : Int) (zt : Int) (zs : Int) (zn : Int) (zl : Int) (zy : Int) (zv : Int) (ze : Int) (za : Int) (zd : Bool) (zc : Int) (c2 : ss.length * 96 ≤ 140737488351232) (c3 : ns.length * 24 ≤ 140737488351232) (k1 : cl.length < 4611686018427387904) (hS : StosOk ss)
    (k3 : ns.length < 4611686018427387904) : PartHears_VC cn cl cp l me ss ns room zk zf zt zs zn zl zy zv ze za zd zc := by
  obtain ⟨⟨⟨t1, t2, t3, t4⟩, t5, t6, t7⟩, t8⟩ := hear_few (c := (cn, cl, cp, ())) (l := l) (me := me) (ss := ss) (ns := ns) (room := room) (z := (zk, zf, zt, zs, zn, zl, zy, zv, ze, za, zd, zc, ()))
  have e : pApp [] ss = ss := rfl
  have z : ∀ n m : Nat, n ≤ m → m < 4611686018427387904 → n < 4611686018427387904 := fun n m h h2 => by omega
  unfold PartHears_VC
  rw [e]
  refine ⟨c3, ?_, k1, hS, k3, c3, k1, hS, k3, c3, ?_⟩
  · unfold pRoom pPlus pLen; rw [List.length_nil, Nat.zero_add]; exact c2
  rw [bif_true (show pEq _ _ = true by simp [pEq])]
  refine ⟨z _ _ t1 (by decide), z _ _ t2 (by decide), z _ _ t3 (by decide), z _ _ t4 (by decide), z _ _ t5 (by decide), z _ _ t6 (by decide), z _ _ t8 k3, fun q hq => ?_, ?_⟩
  · show pLen q.2.2.2.2.2.2.2.1 < 4611686018427387904
    rw [t7 q hq]; decide
  rw [bif_true (sameAnsw_refl _)]
  exact ⟨k3, congrArg (·, ()) (sameNotes_refl _)⟩

end Go.Proofs.YtkhnakdmkhidbaaDoor

/- The law PartHears: for every input it returns true and turns nothing. No condition. -/
namespace Go.Proofs.YtkhnakdmkhidbaaDoor
open Go.RowKit Go.ChangeShapes Go.WideShapes Go.ChangeAt Go.Deep

def bools0 : List (List Bool) := [[false, false, false, false, false, false, false, false], [true, true, false, false, true, false, false, false], [false, true, true, false, true, false, false, false], [true, true, false, true, false, false, false, false], [false, false, false, false, false, true, false, false], [true, true, true, true, true, false, true, false], [false, true, false, false, true, false, true, false], [true, true, false, true, false, true, false, false], [false, false, false, false, false, false, false, false], [false, false, false, false, false, false, false, false]]
theorem table0 {W : World} (hc : ∀ i j r b, i < 10 → j < 8 → bools0[i]? = some r → r[j]? = some b → W.cell? ⟨0, i * 8 + j, none⟩ = some (.bool b)) : GlobR W (fun b => b < W.heap.size) 0 (.rows tyParts messagesT) := by
  have h0 := hc 0 0 _ _ (by decide) (by decide) rfl rfl
  refine glob_rows (cell_lt h0) (bools0.map fun r => r.map .bool) (fun i hi => ?_) fun i us j u hi hj => ?_
  · have hi : i < 10 := hi
    match i, hi with
    | 0, _ => exact ⟨_, rfl, ⟨[_], _, rfl, rfl, ⟨[_], _, rfl, rfl, ⟨[_], _, rfl, rfl, ⟨[_], _, rfl, rfl, ⟨[_], _, rfl, rfl, ⟨[_], _, rfl, rfl, ⟨[_], _, rfl, rfl, ⟨[_], _, rfl, rfl, rfl⟩⟩⟩⟩⟩⟩⟩⟩⟩
    | 1, _ => exact ⟨_, rfl, ⟨[_], _, rfl, rfl, ⟨[_], _, rfl, rfl, ⟨[_], _, rfl, rfl, ⟨[_], _, rfl, rfl, ⟨[_], _, rfl, rfl, ⟨[_], _, rfl, rfl, ⟨[_], _, rfl, rfl, ⟨[_], _, rfl, rfl, rfl⟩⟩⟩⟩⟩⟩⟩⟩⟩
    | 2, _ => exact ⟨_, rfl, ⟨[_], _, rfl, rfl, ⟨[_], _, rfl, rfl, ⟨[_], _, rfl, rfl, ⟨[_], _, rfl, rfl, ⟨[_], _, rfl, rfl, ⟨[_], _, rfl, rfl, ⟨[_], _, rfl, rfl, ⟨[_], _, rfl, rfl, rfl⟩⟩⟩⟩⟩⟩⟩⟩⟩
    | 3, _ => exact ⟨_, rfl, ⟨[_], _, rfl, rfl, ⟨[_], _, rfl, rfl, ⟨[_], _, rfl, rfl, ⟨[_], _, rfl, rfl, ⟨[_], _, rfl, rfl, ⟨[_], _, rfl, rfl, ⟨[_], _, rfl, rfl, ⟨[_], _, rfl, rfl, rfl⟩⟩⟩⟩⟩⟩⟩⟩⟩
    | 4, _ => exact ⟨_, rfl, ⟨[_], _, rfl, rfl, ⟨[_], _, rfl, rfl, ⟨[_], _, rfl, rfl, ⟨[_], _, rfl, rfl, ⟨[_], _, rfl, rfl, ⟨[_], _, rfl, rfl, ⟨[_], _, rfl, rfl, ⟨[_], _, rfl, rfl, rfl⟩⟩⟩⟩⟩⟩⟩⟩⟩
    | 5, _ => exact ⟨_, rfl, ⟨[_], _, rfl, rfl, ⟨[_], _, rfl, rfl, ⟨[_], _, rfl, rfl, ⟨[_], _, rfl, rfl, ⟨[_], _, rfl, rfl, ⟨[_], _, rfl, rfl, ⟨[_], _, rfl, rfl, ⟨[_], _, rfl, rfl, rfl⟩⟩⟩⟩⟩⟩⟩⟩⟩
    | 6, _ => exact ⟨_, rfl, ⟨[_], _, rfl, rfl, ⟨[_], _, rfl, rfl, ⟨[_], _, rfl, rfl, ⟨[_], _, rfl, rfl, ⟨[_], _, rfl, rfl, ⟨[_], _, rfl, rfl, ⟨[_], _, rfl, rfl, ⟨[_], _, rfl, rfl, rfl⟩⟩⟩⟩⟩⟩⟩⟩⟩
    | 7, _ => exact ⟨_, rfl, ⟨[_], _, rfl, rfl, ⟨[_], _, rfl, rfl, ⟨[_], _, rfl, rfl, ⟨[_], _, rfl, rfl, ⟨[_], _, rfl, rfl, ⟨[_], _, rfl, rfl, ⟨[_], _, rfl, rfl, ⟨[_], _, rfl, rfl, rfl⟩⟩⟩⟩⟩⟩⟩⟩⟩
    | 8, _ => exact ⟨_, rfl, ⟨[_], _, rfl, rfl, ⟨[_], _, rfl, rfl, ⟨[_], _, rfl, rfl, ⟨[_], _, rfl, rfl, ⟨[_], _, rfl, rfl, ⟨[_], _, rfl, rfl, ⟨[_], _, rfl, rfl, ⟨[_], _, rfl, rfl, rfl⟩⟩⟩⟩⟩⟩⟩⟩⟩
    | 9, _ => exact ⟨_, rfl, ⟨[_], _, rfl, rfl, ⟨[_], _, rfl, rfl, ⟨[_], _, rfl, rfl, ⟨[_], _, rfl, rfl, ⟨[_], _, rfl, rfl, ⟨[_], _, rfl, rfl, ⟨[_], _, rfl, rfl, ⟨[_], _, rfl, rfl, rfl⟩⟩⟩⟩⟩⟩⟩⟩⟩
  · rw [List.getElem?_map] at hi
    cases hr : bools0[i]? with
    | none => rw [hr] at hi; cases hi
    | some r =>
      rw [hr] at hi
      simp only [Option.map_some, Option.some.injEq] at hi
      subst hi
      rw [List.getElem?_map] at hj
      cases hb : r[j]? with
      | none => rw [hb] at hj; cases hj
      | some b =>
        rw [hb] at hj
        simp only [Option.map_some, Option.some.injEq] at hj
        subst hj
        have hi : i < 10 := (List.getElem?_eq_some_iff.1 hr).1
        have h8 : ∀ r ∈ bools0, r.length = 8 := by decide
        have hj : j < 8 := by
          have := (List.getElem?_eq_some_iff.1 hb).1
          rw [h8 r (List.mem_of_getElem? hr)] at this; exact this
        exact hc i j r b hi hj hr hb
theorem laid0 {W : World} {cs : Array Value} {p : List MemPlace} {base fuel : Nat} {sp : Nat → Bool} {held : Bool} (hvar : W.var? Tryd.prog "reredos/wire.messages" = some cs)
    (hd : DataW.trod (fun _ => ()) Tryd.prog W base sp held fuel 116 cs.toList = some (.agg (bools0.map fun r => .agg (r.map fun b => .lit (.bool b))), p)) : GlobR W (fun b => b < W.heap.size) 0 (.rows tyParts messagesT) := by
  have hc := cells_of_rows (m := 8) (eb := 4) (rows := bools0) Tryd.underlying116 Tryd.underlying115 (by kernel_rfl) Tryd.underlying4 (by kernel_rfl) (by decide) hd
  refine table0 fun i j r b hi hj hr hb => ?_
  have := hc i j r b hi hj hr hb
  have h2 := World.var?_cell (show Tryd.prog.globalNamed "reredos/wire.messages" = some 0 by kernel_rfl) hvar (i * 8 + j)
  rw [h2]
  simpa using this

set_option maxRecDepth 100000 in
theorem laidTabs {W : World} (h : laidMetH Tryd.prog Rows.partHearsRow.laid W) : TabsM W := by
  obtain ⟨ps, ⟨g0, t0, cs0, fu0, p0, q0, hg0, ht0, hvar0, hd0, _, _⟩, _⟩ := h
  obtain rfl := Option.some.inj ((show Tryd.prog.globalNamed "reredos/wire.messages" = some 0 by kernel_rfl).symm.trans hg0)
  obtain rfl := Option.some.inj ((show (Tryd.prog.globals[0]?).map (·.type) = some 116 by kernel_rfl).symm.trans ht0)
  have G0 := laid0 hvar0 hd0
  intro g gl hgl
  unfold tabsM at hgl
  rw [look_cons] at hgl
  split at hgl
  · rename_i h; subst h; cases hgl; exact G0
  cases hgl

noncomputable def laidWorld_ (os : Os) : World :=
  { World.holding Tryd.prog os ⟨#[], #[], []⟩ with heap := ((World.holding Tryd.prog os ⟨#[], #[], []⟩).heap.modify 0 fun
      | .cells _ t frozen => .cells #[.bool false, .bool false, .bool false, .bool false, .bool false, .bool false, .bool false, .bool false, .bool true, .bool true, .bool false, .bool false, .bool true, .bool false, .bool false, .bool false, .bool false, .bool true, .bool true, .bool false, .bool true, .bool false, .bool false, .bool false, .bool true, .bool true, .bool false, .bool true, .bool false, .bool false, .bool false, .bool false, .bool false, .bool false, .bool false, .bool false, .bool false, .bool true, .bool false, .bool false, .bool true, .bool true, .bool true, .bool true, .bool true, .bool false, .bool true, .bool false, .bool false, .bool true, .bool false, .bool false, .bool true, .bool false, .bool true, .bool false, .bool true, .bool true, .bool false, .bool true, .bool false, .bool true, .bool false, .bool false, .bool false, .bool false, .bool false, .bool false, .bool false, .bool false, .bool false, .bool false, .bool false, .bool false, .bool false, .bool false, .bool false, .bool false, .bool false, .bool false] t frozen
      | o => o) }
def wit : Array Value := #[.agg #[.int .i64 0, .slice none 0 0, .int .i64 0], .int .i64 0, .int .i64 0, .slice none 0 0, .slice none 0 0, .int .i64 0, .agg #[.int .i64 0, .int .i64 0, .int .i64 0, .int .i64 0, .int .i64 0, .int .i64 0, .int .i64 0, .int .i64 0, .int .i64 0, .int .i64 0, .bool false, .int .i64 0]]
theorem laid_met_ (os : Os) : laidMet Tryd.prog Rows.partHearsRow.laid ((laidWorld_ os).forCall (fun _ _ => 0) ⟨#[], wit, []⟩).memory :=
  laidMet_of_run' 8 (by kernel_rfl) (by kernel_rfl)
theorem reads_ (os : Os) {H : Type} (enc : TypeId × Value → H) : ∃ places, DataW.whole enc Tryd.prog ((laidWorld_ os).forCall (fun _ _ => 0) ⟨#[], wit, []⟩).memory Tryd.f3.params.toList Rows.partHearsSpec.vars false wit.toList 8 = some ([.agg [.lit (.int .i64 0), .nil, .lit (.int .i64 0)], .lit (.int .i64 0), .lit (.int .i64 0), .nil, .nil, .lit (.int .i64 0), .agg [.lit (.int .i64 0), .lit (.int .i64 0), .lit (.int .i64 0), .agg [.lit (.int .i64 0), .lit (.int .i64 0)], .lit (.int .i64 0), .lit (.int .i64 0), .lit (.int .i64 0), .lit (.int .i64 0), .lit (.int .i64 0), .lit (.bool false), .lit (.int .i64 0)]], [], places) :=
  ⟨[], by kernel_rfl⟩

set_option maxRecDepth 100000 in
theorem partHears_lifted (os : Os) (started : os.Started) (H : Type) (enc : TypeId × Value → H) (F : Stop.Interp) :
    ReturnsInHanded {} Tryd.checked os 3 .any ((OpenSpec.ofChange Rows.partHearsSpec).preRow enc Tryd.prog Tryd.f3 Rows.partHearsRow.domain false Rows.partHearsRow.laid) (((OpenSpec.ofChange Rows.partHearsSpec).at F).post enc Tryd.prog Tryd.f3 false true false false) := by
  obtain ⟨places, hx⟩ := reads_ os enc
  refine lift_card started _ _ Rows.partHearsSpec Rows.partHearsRow.laid Tryd.func3 (by kernel_rfl) rfl rfl (by kernel_rfl) ?_
    (witness_row_at (enc := enc) (C := Tryd.checked) false (laidWorld_ os) wit rfl (by kernel_rfl) (by kernel_rfl) (by kernel_rfl)
      (OpenSpec.preRow_of_cond 8 hx (by kernel_rfl) (fun k hk => by cases hk) (by kernel_rfl) (laid_met_ os))) ?_
  · intro ds hds
    match ds, hds with
    | [_, _, _, _, _, _, _], _ => rfl
  · intro W base args ds p hA hval hlt hsz hL
    refine PartHears_walk NotesCopyF_ok.any Hear_ok HeardOf_ok.any sameAnsw_ok.any sameNotes_ok.any (fun x h => ?_) W base args ds p hA hval hlt hsz (laidTabs hL)
    have c1 : x.1.2.1.length * 16 ≤ 140737488351232 := h.1.2.1.1
    have c2 : x.2.2.2.1.1.length * 96 ≤ 140737488351232 := h.2.2.2.1.1
    have c3 : x.2.2.2.2.1.1.length * 24 ≤ 140737488351232 := h.2.2.2.2.1.1
    have k1 := lt62 c1 (by decide)
    have k2 := lt62 c2 (by decide)
    have k3 := lt62 c3 (by decide)
    have hq : StosOk x.2.2.2.1.1 := ⟨k2, fun q hin => by
      obtain ⟨r1, r2, r3, r4, l1, l2, l3, l4⟩ := stoIn q (h.2.2.2.1.2 q hin)
      exact ⟨⟨l1, l2, l3, l4⟩, r1, r2, r3, r4⟩⟩
    exact hears_vc _ _ _ _ _ _ _ _ _ _ _ _ _ _ _ _ _ _ _ _ c2 c3 k1 hq k3

set_option maxRecDepth 100000 in
set_option maxHeartbeats 4000000 in
theorem partHears_closed : joinedFacts Tryd.prog 3 Tryd.f3 (OpenSpec.ofChange Rows.partHearsSpec).bare Rows.partHearsRow = true := by
  unfold joinedFacts
  exact and_b (and_b (and_b (and_b (and_b (and_b (and_b (and_b (and_b (and_b (and_b (and_b (and_b (and_b (and_b (and_b (and_b (and_b (and_b (and_b (and_b (and_b (and_b (and_b (and_b (and_b (and_b (and_b (and_b (and_b (and_b ((by kernel_rfl)) Tryd.laidOut) pg_mapsRowed) (by kernel_rfl)) (by kernel_rfl)) (by kernel_rfl)) pg_stops) (by kernel_rfl)) pg_stopKnobs) (by kernel_rfl)) (by kernel_rfl)) (by kernel_rfl)) (by kernel_rfl)) (by kernel_rfl)) (by kernel_rfl)) (by kernel_rfl)) (by kernel_rfl)) (by kernel_rfl)) (by kernel_rfl)) (by kernel_rfl)) (by kernel_rfl)) (by kernel_rfl)) pg_plainKeys) (by kernel_rfl)) pg_stopsHeard) pg_mayEnter) pg_lifted) pg_make) (by kernel_rfl)) (by kernel_rfl)) (by kernel_rfl)) (by kernel_rfl)

theorem partHears_said : Rows.PartHearsSaid :=
  OpenClaim.holds_of_cond 3 Tryd.f3 rfl rfl rfl rfl rfl rfl rfl ⟨rfl, rfl, rfl, rfl, rfl⟩ rfl rfl rfl rfl rfl (by kernel_rfl) Tryd.func3 partHears_closed
    (of_decide_eq_true (by kernel_rfl)) (by unfold Func.isWrapper; rw [if_neg (of_decide_eq_false (by kernel_rfl))]; exact ⟨rfl, rfl⟩)
    (fun os started H enc _ F => by rw [OpenClaim.pre_eq_preRow]; exact partHears_lifted os started H enc F)

theorem partHears_stand : Tryd.f3.params.all (fun t => !Tryd.pinned.checked.prog.wantsStandIn t) = true := by kernel_rfl
theorem partHears_plain (f : FuncId) (fn : Func) (hf : Tryd.pinned.checked.prog.funcNamed "reredos/reredoslaw.PartHears" = some f) (hfn : Tryd.pinned.checked.prog.funcs[f]? = some fn) :
    false = Tryd.pinned.checked.prog.looks [] ∧ ∀ (j : Nat) t, fn.params[j]? = some t → Tryd.pinned.checked.prog.wantsStandIn t = false := by
  obtain rfl : f = 3 := Option.some.inj ((show Tryd.prog.funcNamed "reredos/reredoslaw.PartHears" = some 3 by kernel_rfl).symm.trans hf) |>.symm
  obtain rfl : fn = Tryd.f3 := (Option.some.inj (Tryd.func3.symm.trans hfn)).symm
  refine ⟨pg_looks, fun j t ht => ?_⟩
  have h := Array.all_eq_true_iff_forall_mem.1 partHears_stand t (Array.mem_of_getElem? ht)
  simpa using h
theorem partHears_wf : Rows.partHearsRow.wfByText (OpenSpec.ofChange Rows.partHearsSpec) = true := by kernel_rfl
theorem partHears_goes : false = Rows.partHearsRow.goesBy Tryd.pinned.checked.prog := by kernel_rfl

/-- PartHears: the statement. -/
theorem partHears_holds : Rows.PartHearsCardSaid :=
  Claim7.holds_tied_plain_at .later [] _ _ _ _ partHears_said (fun _ h => by cases h) partHears_wf (fun _ h => by cases h) partHears_row_tie rfl ⟨rfl, rfl⟩ pg_main rfl partHears_plain partHears_goes

end Go.Proofs.YtkhnakdmkhidbaaDoor
