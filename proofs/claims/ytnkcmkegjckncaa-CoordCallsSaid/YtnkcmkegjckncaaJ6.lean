/- What a client's call comes to, in plain words. No condition. -/
import Derived.Test.YtnkcmkegjckncaaJ4
import Derived.Test.YtnkcmkegjckncaaJ1
import Derived.Test.YtnkcmkegjckncaaJ5

/- Contracts, and what the evaluator says, as plain propositions: CvV. Printed by vc.py. -/
namespace Go.Proofs.Ytnkcmkegjckncaa
open Go.RowKit Go.ChangeShapes Go.WideShapes Go.Deep

abbrev eqsCvV : List TypeId := [96, 64, 81, 76, 62]

noncomputable abbrev ekplace : Env := envI Try.prog (fun _ => none) [(38, (false, cindexJ))] [] eqsCvV [] [] false
noncomputable def kkplace : CtrK := inlC ekplace (fun _ _ => none) Try.f15
theorem kkplace_ok (hindexJ : Mt 38 cindexJ) : MeetsK Try.prog (fun _ => none) 15 false kkplace :=
  meets_inl (E := ekplace) (envI_ok (fun p hp => (by simp only [List.mem_cons, List.not_mem_nil, or_false] at hp; rcases hp with rfl; exact hindexJ)) (fun p hp => by cases hp) (by kernel_rfl)) _ Try.func15 (by kernel_rfl) (by kernel_rfl)

noncomputable abbrev eksend : Env := envI Try.prog (fun _ => none) [] [] eqsCvV [] [] true
noncomputable def kksend : CtrK := inlC eksend (fun _ _ => none) Try.f48
theorem kksend_ok  : MeetsK Try.prog (fun _ => none) 48 true kksend :=
  meets_inlD (E := eksend) (envI_ok (fun p hp => by cases hp) (fun p hp => by cases hp) (by kernel_rfl)) rfl Try.func48 (by kernel_rfl) (by kernel_rfl)

noncomputable abbrev ekreply : Env := envI Try.prog (fun _ => none) [] [] eqsCvV [] [] true
noncomputable def kkreply : CtrK := inlC ekreply (fun _ _ => none) Try.f28
theorem kkreply_ok  : MeetsK Try.prog (fun _ => none) 28 true kkreply :=
  meets_inlD (E := ekreply) (envI_ok (fun p hp => by cases hp) (fun p hp => by cases hp) (by kernel_rfl)) rfl Try.func28 (by kernel_rfl) (by kernel_rfl)

noncomputable abbrev ekdrop : Env := envI Try.prog (fun _ => none) [(64, (true, cdelJ))] [] eqsCvV [] [] true
noncomputable def kkdrop : CtrK := inlC ekdrop (fun _ _ => none) Try.f52
theorem kkdrop_ok (hdelJ : Mt 64 cdelJ) : MeetsK Try.prog (fun _ => none) 52 true kkdrop :=
  meets_inlD (E := ekdrop) (envI_ok (fun p hp => (by simp only [List.mem_cons, List.not_mem_nil, or_false] at hp; rcases hp with rfl; exact hdelJ)) (fun p hp => by cases hp) (by kernel_rfl)) rfl Try.func52 (by kernel_rfl) (by kernel_rfl)

noncomputable abbrev eksites : Env := envI Try.prog (fun _ => none) [(62, (false, chasN)), (63, (true, csort))] [] eqsCvV [] [] false
noncomputable def kksites : CtrK := inlC eksites (fun ky9 st9 => look [(3, (⟨[.slot 12 false tI, .slot 5 true tyN], sitesInv (cellD tI st9 (ptI st9 0) 0) (cellD tI st9 (ptI st9 0) 3) (rowD tyTask st9 10), sitesMu (cellD tI st9 (ptI st9 0) 0) (cellD tI st9 (ptI st9 0) 3) (rowD tyTask st9 10)⟩ : Ann))] ky9) Try.f51
theorem kksites_ok (hhasN : Mt 62 chasN) (hsort : Mt 63 csort) : MeetsK Try.prog (fun _ => none) 51 false kksites :=
  meets_inl (E := eksites) (envI_ok (fun p hp => (by simp only [List.mem_cons, List.not_mem_nil, or_false] at hp; rcases hp with rfl | rfl; exact hhasN; exact hsort)) (fun p hp => by cases hp) (by kernel_rfl)) _ Try.func51 (by kernel_rfl) (by kernel_rfl)

end Go.Proofs.Ytnkcmkegjckncaa

/- coord.Tick meets its contract. No condition. -/
namespace Go.Proofs.Ytnkcmkegjckncaa
open Go.RowKit

theorem begE_desk {c : CfgD} {l m : Int} {d : DeskD} (h : pNe (deskF c d) 0 = true) : begE c l m d = deskF c d := by
  rw [begE_eq]
  have : pEq (deskF c d) 0 = false := by simpa [pEq, pNe] using h
  rw [this]; rfl
theorem desk_zero {c : CfgD} {d : DeskD} (h : pNe (deskF c d) 0 = false) : deskF c d = 0 := by simpa [pNe] using h
theorem begE_rest {c : CfgD} {l m : Int} {d : DeskD} (h : deskF c d = 0) : begE c l m d = cond (placeF c l) (cond (pLe 0 m && pLt m c.1) 0 2) 6 := by
  rw [begE_eq, h]; rfl
theorem rooms_ok {c : CfgD} {d : DeskD} (h : deskF c d = 0) : pRoom (pLen d.2.1) 80 ∧ ∀ q ∈ d.2.1, pRoom (pLen q.2.2.1) 56 ∧ pRoom (pLen q.2.2.2.1) 8 := by
  have h1 := (deskF_zero h).2.1
  refine ⟨show d.2.1.length * 80 ≤ _ by omega, fun q hq => ?_⟩
  have := jobs_ok h q hq
  have a := this.2.1
  have b := this.2.2.1
  exact ⟨show q.2.2.1.length * 56 ≤ _ by omega, show q.2.2.2.1.length * 8 ≤ _ by omega⟩

end Go.Proofs.Ytnkcmkegjckncaa

/- What a client's call comes to, in plain words. No condition. -/
namespace Go.Proofs.Ytnkcmkegjckncaa
open Go.RowKit

theorem pSet_get {t : Ty} {xs : List t.den} {i : Nat} : pSet xs i (pGet t xs i) = xs := by
  by_cases h : i < xs.length
  · rw [pGet_lt h]; unfold pSet; exact List.set_getElem_self h
  · unfold pSet; exact List.set_eq_of_length_le (Nat.le_of_not_lt h)
theorem pSet_pSet {α : Type} {xs : List α} {i : Nat} {a b : α} : pSet (pSet xs i a) i b = pSet xs i b := by unfold pSet; exact List.set_set ..
theorem pGet_set_eq {t : Ty} {xs : List t.den} {i : Nat} {v : t.den} (hi : i < xs.length) : pGet t (pSet xs i v) i = v := by rw [pGet_set hi, if_pos rfl]
theorem turn_eq {a b : TurnD} (h1 : a.1 = b.1) (h2 : a.2.1 = b.2.1) (h3 : a.2.2.1 = b.2.2.1) (h4 : a.2.2.2.1 = b.2.2.2.1) (h5 : a.2.2.2.2.1 = b.2.2.2.2.1) (h6 : a.2.2.2.2.2.1 = b.2.2.2.2.2.1) (h7 : a.2.2.2.2.2.2.1 = b.2.2.2.2.2.2.1) : a = b := by
  obtain ⟨a1, a2, a3, a4, a5, a6, a7, ⟨⟩⟩ := a
  obtain ⟨b1, b2, b3, b4, b5, b6, b7, ⟨⟩⟩ := b
  have h1 : a1 = b1 := h1
  have h2 : a2 = b2 := h2
  have h3 : a3 = b3 := h3
  have h4 : a4 = b4 := h4
  have h5 : a5 = b5 := h5
  have h6 : a6 = b6 := h6
  have h7 : a7 = b7 := h7
  rw [h1, h2, h3, h4, h5, h6, h7]
theorem turn_to {a b d : TurnD} (hd : d = b) (h1 : a.1 = b.1) (h2 : a.2.1 = b.2.1) (h3 : a.2.2.1 = b.2.2.1) (h4 : a.2.2.2.1 = b.2.2.2.1) (h5 : a.2.2.2.2.1 = b.2.2.2.2.1) (h6 : a.2.2.2.2.2.1 = b.2.2.2.2.2.1) (h7 : a.2.2.2.2.2.2.1 = b.2.2.2.2.2.2.1) : a = d := (turn_eq h1 h2 h3 h4 h5 h6 h7).trans hd.symm
theorem nz_of {a : Int} (h : 1 ≤ a) : pNz a := by unfold pNz; omega
theorem calE_beg {c : CfgD} {l m : Int} {d : DeskD} {x : CalD} (h : begE c l m d ≠ 0) : calE c l m d x = begE c l m d := by
  unfold calE
  have : pEq (begE c l m d) 0 = false := by simpa [pEq] using h
  rw [this]; rfl
theorem calE_kind {c : CfgD} {l m : Int} {d : DeskD} {x : CalD} (h : begE c l m d = 0) : calE c l m d x = cond (inF x.1 1 5) 0 3 := by
  unfold calE; rw [h]; rfl
theorem calT_no {c : CfgD} {l m : Int} {d : DeskD} {r : Int} {x : CalD} (h : calE c l m d x ≠ 0) : calT c l m d r x = noTurn := by
  unfold calT
  have : pEq (calE c l m d x) 0 = false := by simpa [pEq] using h
  rw [this]; rfl
theorem calT_yes {c : CfgD} {l m : Int} {d : DeskD} {r : Int} {x : CalD} (h : calE c l m d x = 0) : calT c l m d r x = cond (pEq x.1 1) (beginT m d r)
    (cond (pEq (faultC c l d x) 0) (doneT c l m d x (pNat (idxKeyJ d.2.1 x.2.1)) (pGet tyJob d.2.1 (pNat (idxKeyJ d.2.1 x.2.1))))
      (d.1, d.2.1, [], [], [(m, x.1, x.2.1, x.2.2.2.1, 0, faultC c l d x, ())], 0, 0, ())) := by
  unfold calT; rw [h]; rfl
theorem calT_err {c : CfgD} {l m : Int} {d : DeskD} {r : Int} {x : CalD} (h : calE c l m d x = 0) (h1 : pEq x.1 1 = false) {e : Int} (he : e ≠ 0) (hf : faultC c l d x = e) : calT c l m d r x = (d.1, d.2.1, [], [], [(m, x.1, x.2.1, x.2.2.2.1, 0, e, ())], 0, 0, ()) := by
  rw [calT_yes h, h1, hf, cond_false]
  have : pEq e 0 = false := by simpa [pEq] using he
  rw [this]; rfl
theorem calT_done {c : CfgD} {l m : Int} {d : DeskD} {r : Int} {x : CalD} {i : Nat} (h : calE c l m d x = 0) (h1 : pEq x.1 1 = false) (hf : faultC c l d x = 0) (hI : idxKeyJ d.2.1 x.2.1 = (i : Int)) : calT c l m d r x = doneT c l m d x i (pGet tyJob d.2.1 i) := by
  rw [calT_yes h, h1, hf, hI, pNat_coe]; rfl
theorem fault_six {cn : Int} {cl : List LabD} {cp l dn : Int} {dj : List JobD} {xk xn xl xy xv : Int} (c1 : pLt (idxKeyJ dj xn) 0 = true) : faultC (cn, cl, cp, ()) l (dn, dj, ()) (xk, xn, xl, xy, xv, ()) = 6 := by
  unfold faultC; dsimp only; rw [c1]; rfl
theorem fault_eq {cn : Int} {cl : List LabD} {cp l dn : Int} {dj : List JobD} {xk xn xl xy xv : Int} {i : Nat} (c1 : pLt (idxKeyJ dj xn) 0 = false) (hI : idxKeyJ dj xn = (i : Int)) : faultC (cn, cl, cp, ()) l (dn, dj, ()) (xk, xn, xl, xy, xv, ()) = cond (pNe (pGet tyJob dj i).2.1 1) 13
    (cond (openT (pGet tyJob dj i).2.2.1) 14 (cond (pEq xk 4 || pEq xk 5) 0
      (cond (pNot (inF xy 0 7) || pNot (inF xv 0 1073741824)) 2
        (cond (pEq xk 2 && (pNot (placeF (cn, cl, cp, ()) xl) || pNot (aboveF (pGet tyLab cl (pNat l)) (pGet tyLab cl (pNat xl))))) 10
          (cond (pGe (pInt (pGet tyJob dj i).2.2.1.length) 10 || pGe (pGet tyJob dj i).2.2.2.2.1 1048576) 8 0))))) := by
  unfold faultC; dsimp only; rw [c1, hI, pNat_coe]; rfl
theorem jobs_asks {c : CfgD} {d : DeskD} (h : deskF c d = 0) : ∀ j ∈ d.2.1, 0 ≤ j.2.2.2.2.1 ∧ j.2.2.2.2.1 ≤ 1048576 := by
  obtain ⟨hc, _, hj⟩ := deskF_zero h
  intro j hm
  obtain ⟨i, hi, rfl⟩ := List.getElem_of_mem hm
  have h1 := hj i hi
  unfold Go.Proofs.Ytnkcmkegjckncaa.jobAt at h1
  rw [Bool.and_eq_true, pGet_lt (t := tyJob) hi] at h1
  generalize d.2.1[i] = j at h1
  obtain ⟨jn, js, jt, ja, jq, jg, u⟩ := j
  cases u
  obtain ⟨cn, cl, cp, u⟩ := c; cases u
  have h2 := h1.1
  rw [jobF_eq] at h2
  simp only [Bool.and_eq_true] at h2
  obtain ⟨⟨⟨⟨⟨⟨⟨⟨_, _⟩, _⟩, _⟩, _⟩, hq⟩, _⟩, _⟩, _⟩ := h2
  exact inF_iff.1 hq
theorem in_lo {x a b : Int} (h : pLt x a = true) : inF x a b = false := Bool.eq_false_iff.2 fun hx => by
  have h1 := (inF_iff.1 hx).1
  have h2 : x < a := of_decide_eq_true h
  omega
theorem in_hi {x a b c : Int} (h : pGe x c = true) (hc : b < c) : inF x a b = false := Bool.eq_false_iff.2 fun hx => by
  have h1 := (inF_iff.1 hx).2
  have h2 : c ≤ x := of_decide_eq_true h
  omega
theorem in_gt {x a b : Int} (h : pGt x b = true) : inF x a b = false := Bool.eq_false_iff.2 fun hx => by
  have h1 := (inF_iff.1 hx).2
  have h2 : b < x := of_decide_eq_true h
  omega
theorem in_yes {x a b : Int} (h1 : pLt x a = false) (h2 : pGt x b = false) : inF x a b = true := by
  have a1 : ¬ x < a := of_decide_eq_false h1
  have a2 : ¬ b < x := of_decide_eq_false h2
  exact inF_iff.2 ⟨by omega, by omega⟩
theorem in_yes' {x a b c : Int} (h1 : pLt x a = false) (h2 : pGe x c = false) (hc : c = b + 1) : inF x a b = true := by
  have a1 : ¬ x < a := of_decide_eq_false h1
  have a2 : ¬ c ≤ x := of_decide_eq_false h2
  exact inF_iff.2 ⟨by omega, by omega⟩
theorem ge_top {x n : Int} (h : x ≤ n) : pGe x n = pEq x n := by
  unfold pGe pEq
  rw [Bool.eq_iff_iff, decide_eq_true_iff, beq_iff_eq]
  omega

end Go.Proofs.Ytnkcmkegjckncaa
