/- coord.Tick meets its contract. No condition. -/
import Derived.Test.YtnkcmkegjckncaaJ5
import Derived.Test.YtnkcmkegjckncaaJ4
import Derived.Test.YtnkcmkegjckncaaJ1

/- What a client's call asks of other functions: own memory, why it may not be. No condition. -/
namespace Go.Proofs.Ytnkcmkegjckncaa
open Go.RowKit

theorem above_ok : Meets Try.prog (fun _ => none) 47 cabove := above_meets fun al ak bl bk => by
  delta above_VC
  refine bif_ok (fun h => ?_) fun h => ?_
  · show (pEq (pAnd .i64 ak bk) bk, ()) = (pGe al bl && pEq (pAnd .i64 ak bk) bk, ()); rw [h, Bool.true_and]
  · show (false, ()) = (pGe al bl && pEq (pAnd .i64 ak bk) bk, ()); rw [h, Bool.false_and]
theorem domin_ok : Meets Try.prog (fun _ => none) 53 cdomin := domin_meets fun al ak bl bk => by
  delta domin_VC
  refine bif_ok (fun h => ?_) fun h => ?_
  · show (pEq (pAnd .i64 ak bk) bk, ()) = (pGe al bl && pEq (pAnd .i64 ak bk) bk, ()); rw [h, Bool.true_and]
  · show (false, ()) = (pGe al bl && pEq (pAnd .i64 ak bk) bk, ()); rw [h, Bool.false_and]
theorem cownN_ok : Meets Try.prog (fun _ => none) 37 ccownN := cownN_meets cloneT_ok cloneN_ok fun dn dj hp => by
  have h : pRoom (pLen dj) 80 := hp (pRoom (pLen dj) 80) (by simp)
  have hq : ∀ q ∈ dj, pRoom (pLen q.2.2.1) 56 ∧ pRoom (pLen q.2.2.2.1) 8 := hp (∀ q ∈ dj, pRoom (pLen q.2.2.1) 56 ∧ pRoom (pLen q.2.2.2.1) 8) (by simp)
  clear hp
  delta cownN_VC
  refine ⟨StepInv.start rfl, fun y hy => ?_⟩
  rcases StepInv.round (show dj.length < 4611686018427387904 from lt62 h (by decide)) hy with ⟨k, rfl, hk, hb, hT⟩ | rfl
  · rw [bif_true (by simp [pLt_coe, pLen, hk])]
    delta cownN_v1 cownN_v0
    dsimp only
    rw [pNat_coe]
    have hm := hq (pGet tyJob dj k) (by rw [pGet_lt (t := tyJob) hk]; exact List.getElem_mem hk)
    exact ⟨pIn_coe.2 hk, hm.1, hm.2, room_le h (take_len1 hk), hT _ (by rw [take_app (t := tyJob) hk])⟩
  · rw [bif_false (by simp [pLt_coe, pLen])]
    simp only [List.take_length]
theorem DeskCopyN_ok : Meets Try.prog (fun _ => none) 5 cDeskCopyN := DeskCopyN_meets TasksCopy_ok intsCopy_ok fun dn dj hp => by
  have h : pRoom (pLen dj) 80 := hp (pRoom (pLen dj) 80) (by simp)
  have hq : ∀ q ∈ dj, pRoom (pLen q.2.2.1) 56 ∧ pRoom (pLen q.2.2.2.1) 8 := hp (∀ q ∈ dj, pRoom (pLen q.2.2.1) 56 ∧ pRoom (pLen q.2.2.2.1) 8) (by simp)
  clear hp
  delta DeskCopyN_VC
  refine ⟨StepInv.start rfl, fun y hy => ?_⟩
  rcases StepInv.round (show dj.length < 4611686018427387904 from lt62 h (by decide)) hy with ⟨k, rfl, hk, hb, hT⟩ | rfl
  · rw [bif_true (by simp [pLt_coe, pLen, hk])]
    delta DeskCopyN_v1 DeskCopyN_v0
    dsimp only
    rw [pNat_coe]
    have hm := hq (pGet tyJob dj k) (by rw [pGet_lt (t := tyJob) hk]; exact List.getElem_mem hk)
    exact ⟨pIn_coe.2 hk, hm.1, hm.2, room_le h (take_len1 hk), hT _ (by rw [take_app (t := tyJob) hk])⟩
  · rw [bif_false (by simp [pLt_coe, pLen])]
    simp only [List.take_length]
theorem commit1_ok : Meets Try.prog (fun _ => none) 61 ccommit1 := commit1_meets fun _ _ _ _ _ _ _ _ => rfl
theorem idxW_ok : Meets Try.prog (fun _ => none) 68 cidxW := idxW_meets commit1_ok fun l hp => by
  have hl : l.length < 4611686018427387904 := hp _ List.mem_cons_self
  clear hp
  delta idxW_VC
  refine ⟨UpInv.start, fun y hy => ?_⟩
  rcases FindInv.round hl hy with ⟨k, rfl, hk, hb, hT, hF⟩ | ⟨rfl, hT⟩
  · rw [bif_true (by simp [pLt_coe, pLen, hk]), pNat_coe]
    refine ⟨pIn_coe.2 hk, bif_ok (fun h => ?_) fun h => hF h⟩
    exact congrArg (·, ()) (hT h).symm
  · rw [bif_false (by simp [pLt_coe, pLen])]
    exact congrArg (·, ()) hT.symm
theorem anyW_ok : Meets Try.prog (fun _ => none) 60 canyW := anyW_meets idxW_ok fun l hp => ⟨hp _ List.mem_cons_self, rfl⟩

theorem callFault_ok : Meets Try.prog (fun _ => none) 33 ccallFault := callFault_meets jobAt_ok labelMay_ok domin_ok In_ok fun cn cl cp l dn dj xk xn xl xy xv hp => by
  have h1 : pLen cl < 4611686018427387904 := hp (pLen cl < 4611686018427387904) (by simp)
  have h2 : pLen dj < 4611686018427387904 := hp (pLen dj < 4611686018427387904) (by simp)
  have h3 : ∀ q ∈ dj, pLen q.2.2.1 < 4611686018427387904 ∧ pLen q.2.2.2.1 < 4611686018427387904 := hp (∀ q ∈ dj, pLen q.2.2.1 < 4611686018427387904 ∧ pLen q.2.2.2.1 < 4611686018427387904) (by simp)
  have h4 : placeF (cn, cl, cp, ()) l = true := hp (placeF (cn, cl, cp, ()) l = true) (by simp)
  clear hp
  have lf : ∀ e : Int, faultC (cn, cl, cp, ()) l (dn, dj, ()) (xk, xn, xl, xy, xv, ()) = e → (e, ()) = callFault_v0 cn cl cp l dn dj xk xn xl xy xv := fun e h => by
    show (e, ()) = (faultC (cn, cl, cp, ()) l (dn, dj, ()) (xk, xn, xl, xy, xv, ()), ()); rw [h]
  delta callFault_VC
  refine ⟨h2, bif_ok (fun c1 => lf 6 (by unfold faultC; dsimp only; rw [c1]; rfl)) fun c1 => ?_⟩
  obtain ⟨i, hI, hi, hn⟩ := find_at c1
  have hj : callFault_v1 dj xn = (pGet tyJob dj i).2 := by show (pGet tyJob dj (pNat (idxKeyJ dj xn))).2 = _; rw [hI, pNat_coe]
  have hlt := h3 (pGet tyJob dj i) (by rw [pGet_lt (t := tyJob) hi]; exact List.getElem_mem hi)
  delta callFault_v3 callFault_v2
  rw [hj, hI]
  refine ⟨pIn_coe.2 hi, ?_⟩
  have e0 : faultC (cn, cl, cp, ()) l (dn, dj, ()) (xk, xn, xl, xy, xv, ()) = cond (pNe (pGet tyJob dj i).2.1 1) 13
    (cond (openT (pGet tyJob dj i).2.2.1) 14 (cond (pEq xk 4 || pEq xk 5) 0
      (cond (pNot (inF xy 0 7) || pNot (inF xv 0 1073741824)) 2
        (cond (pEq xk 2 && (pNot (placeF (cn, cl, cp, ()) xl) || pNot (aboveF (pGet tyLab cl (pNat l)) (pGet tyLab cl (pNat xl))))) 10
          (cond (pGe (pInt (pGet tyJob dj i).2.2.1.length) 10 || pGe (pGet tyJob dj i).2.2.2.2.1 1048576) 8 0))))) := by
    unfold faultC; dsimp only; rw [c1, hI, pNat_coe]; rfl
  generalize faultC (cn, cl, cp, ()) l (dn, dj, ()) (xk, xn, xl, xy, xv, ()) = F at *
  generalize pGet tyJob dj i = j at *
  have tail : openT j.2.2.1 = false → pNe j.2.1 1 = false → bif pEq xk 4 then ((0 : Int), ()) = callFault_v0 cn cl cp l dn dj xk xn xl xy xv else bif pEq xk 5 then ((0 : Int), ()) = callFault_v0 cn cl cp l dn dj xk xn xl xy xv else
      bif pNot (inF xy 0 7) then ((2 : Int), ()) = callFault_v0 cn cl cp l dn dj xk xn xl xy xv else bif pNot (inF xv 0 1073741824) then ((2 : Int), ()) = callFault_v0 cn cl cp l dn dj xk xn xl xy xv else
      bif pEq xk 2 then Nat.le (Nat.succ (pLen cl)) 4611686018427387904 ∧ bif pNot (placeF (cn, cl, cp, ()) xl) then ((10 : Int), ()) = callFault_v0 cn cl cp l dn dj xk xn xl xy xv else pIn l (pLen cl) ∧ pIn xl (pLen cl) ∧
        bif pNot (aboveF (pGet tyLab cl (pNat l)) (pGet tyLab cl (pNat xl))) then ((10 : Int), ()) = callFault_v0 cn cl cp l dn dj xk xn xl xy xv else
          bif pGe (pInt (pLen j.2.2.1)) 10 then ((8 : Int), ()) = callFault_v0 cn cl cp l dn dj xk xn xl xy xv else bif pGe j.2.2.2.2.1 1048576 then ((8 : Int), ()) = callFault_v0 cn cl cp l dn dj xk xn xl xy xv else ((0 : Int), ()) = callFault_v0 cn cl cp l dn dj xk xn xl xy xv
      else bif pGe (pInt (pLen j.2.2.1)) 10 then ((8 : Int), ()) = callFault_v0 cn cl cp l dn dj xk xn xl xy xv else bif pGe j.2.2.2.2.1 1048576 then ((8 : Int), ()) = callFault_v0 cn cl cp l dn dj xk xn xl xy xv else ((0 : Int), ()) = callFault_v0 cn cl cp l dn dj xk xn xl xy xv := by
    intro ho hs
    rw [ho, hs] at e0
    refine bif_ok (fun a => lf 0 (by rw [e0, a]; rfl)) fun a4 => bif_ok (fun a => lf 0 (by rw [e0, a4, a]; rfl)) fun a5 => bif_ok (fun a => lf 2 (by rw [e0, a4, a5, a]; rfl)) fun a6 => bif_ok (fun a => lf 2 (by rw [e0, a4, a5, a6, a]; rfl)) fun a7 => bif_ok (fun a8 => ⟨h1, bif_ok (fun a => lf 10 (by rw [e0, a4, a5, a6, a7, a8, a]; rfl)) fun a9 => ⟨place_in h4, place_in (c := (cn, cl, cp, ())) (by simpa [pNot] using a9), bif_ok (fun a => lf 10 (by rw [e0, a4, a5, a6, a7, a8, a9, a]; rfl)) fun aa => ?_⟩⟩) fun a8 => ?_
    · rw [a4, a5, a6, a7, a8, a9, aa] at e0
      exact bif_ok (fun a => lf 8 (by rw [e0]; show cond (pGe (pInt (pLen j.2.2.1)) 10 || _) (8 : Int) 0 = 8; rw [a]; rfl)) fun b => bif_ok (fun a => lf 8 (by rw [e0]; show cond (pGe (pInt (pLen j.2.2.1)) 10 || _) (8 : Int) 0 = 8; rw [b, a]; rfl)) fun c => lf 0 (by rw [e0]; show cond (pGe (pInt (pLen j.2.2.1)) 10 || _) (8 : Int) 0 = 0; rw [b, c]; rfl)
    · rw [a4, a5, a6, a7, a8] at e0
      exact bif_ok (fun a => lf 8 (by rw [e0]; show cond (pGe (pInt (pLen j.2.2.1)) 10 || _) (8 : Int) 0 = 8; rw [a]; rfl)) fun b => bif_ok (fun a => lf 8 (by rw [e0]; show cond (pGe (pInt (pLen j.2.2.1)) 10 || _) (8 : Int) 0 = 8; rw [b, a]; rfl)) fun c => lf 0 (by rw [e0]; show cond (pGe (pInt (pLen j.2.2.1)) 10 || _) (8 : Int) 0 = 0; rw [b, c]; rfl)
  refine bif_ok (fun c2 => lf 13 (by rw [e0, c2]; rfl)) fun c2 => bif_ok (fun c3 => ?_) fun c3 => tail (open_no c3) c2
  obtain ⟨o1, o2, o3⟩ := open_pos c3 hlt.1
  rw [o1]
  refine ⟨pIn_coe.2 o2, bif_ok (fun c4 => lf 14 (by rw [e0, c2, o3]; rw [pNat_coe] at c4; rw [show (!(pGet tyTask j.2.2.1 (j.2.2.1.length - 1)).2.2.2.2.2.2.1) = true from c4]; rfl)) fun c4 => tail (by rw [o3]; rw [pNat_coe] at c4; exact c4) c2⟩

end Go.Proofs.Ytnkcmkegjckncaa

/- Contracts, and what the evaluator says, as plain propositions: CvV. Printed by vc.py. -/
namespace Go.Proofs.Ytnkcmkegjckncaa
open Go.RowKit Go.ChangeShapes Go.WideShapes Go.Deep

abbrev eqsCvV : List TypeId := [96, 64, 81, 76, 62]

noncomputable abbrev ekplace : Env := envI Try.prog (fun _ => none) [(38, (false, cindexJ))] [] eqsCvV [] [] false
noncomputable def kkplace : CtrK := inlC ekplace (fun _ _ => none) Try.f15
theorem kkplace_ok (hindexJ : Mt 38 cindexJ) : MeetsK Try.prog (fun _ => none) 15 false kkplace :=
  meets_inl (E := ekplace) (envI_ok (fun p hp => (by simp only [List.mem_cons, List.not_mem_nil, or_false] at hp; rcases hp with rfl; exact hindexJ)) (fun p hp => by cases hp) (by kernel_rfl)) _ Try.func15 (by kernel_rfl) (by kernel_rfl)

noncomputable abbrev eksend : Env := envI Try.prog (fun _ => none) [] [] eqsCvV [] [] true
noncomputable def kksend : CtrK := inlC eksend (fun _ _ => none) Try.f48
theorem kksend_ok  : MeetsK Try.prog (fun _ => none) 48 true kksend :=
  meets_inlD (E := eksend) (envI_ok (fun p hp => by cases hp) (fun p hp => by cases hp) (by kernel_rfl)) rfl Try.func48 (by kernel_rfl) (by kernel_rfl)

noncomputable abbrev ekreply : Env := envI Try.prog (fun _ => none) [] [] eqsCvV [] [] true
noncomputable def kkreply : CtrK := inlC ekreply (fun _ _ => none) Try.f28
theorem kkreply_ok  : MeetsK Try.prog (fun _ => none) 28 true kkreply :=
  meets_inlD (E := ekreply) (envI_ok (fun p hp => by cases hp) (fun p hp => by cases hp) (by kernel_rfl)) rfl Try.func28 (by kernel_rfl) (by kernel_rfl)

noncomputable abbrev ekdrop : Env := envI Try.prog (fun _ => none) [(64, (true, cdelJ))] [] eqsCvV [] [] true
noncomputable def kkdrop : CtrK := inlC ekdrop (fun _ _ => none) Try.f52
theorem kkdrop_ok (hdelJ : Mt 64 cdelJ) : MeetsK Try.prog (fun _ => none) 52 true kkdrop :=
  meets_inlD (E := ekdrop) (envI_ok (fun p hp => (by simp only [List.mem_cons, List.not_mem_nil, or_false] at hp; rcases hp with rfl; exact hdelJ)) (fun p hp => by cases hp) (by kernel_rfl)) rfl Try.func52 (by kernel_rfl) (by kernel_rfl)

noncomputable abbrev eksites : Env := envI Try.prog (fun _ => none) [(62, (false, chasN)), (63, (true, csort))] [] eqsCvV [] [] false
noncomputable def kksites : CtrK := inlC eksites (fun ky9 st9 => look [(3, (⟨[.slot 12 false tI, .slot 5 true tyN], sitesInv (cellD tI st9 (ptI st9 0) 0) (cellD tI st9 (ptI st9 0) 3) (rowD tyTask st9 10), sitesMu (cellD tI st9 (ptI st9 0) 0) (cellD tI st9 (ptI st9 0) 3) (rowD tyTask st9 10)⟩ : Ann))] ky9) Try.f51
theorem kksites_ok (hhasN : Mt 62 chasN) (hsort : Mt 63 csort) : MeetsK Try.prog (fun _ => none) 51 false kksites :=
  meets_inl (E := eksites) (envI_ok (fun p hp => (by simp only [List.mem_cons, List.not_mem_nil, or_false] at hp; rcases hp with rfl | rfl; exact hhasN; exact hsort)) (fun p hp => by cases hp) (by kernel_rfl)) _ Try.func51 (by kernel_rfl) (by kernel_rfl)

end Go.Proofs.Ytnkcmkegjckncaa

/- coord.Tick meets its contract. No condition. -/
namespace Go.Proofs.Ytnkcmkegjckncaa
open Go.RowKit

end Go.Proofs.Ytnkcmkegjckncaa
