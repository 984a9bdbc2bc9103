/- Contracts, and what the evaluator says, as plain propositions: CjV. Printed by vc.py. -/
import Derived.Test.YtnkcmkegjckncaaDoorJ6
import Derived.Test.YtnkcmkegjckncaaDoorJ1

/- Contracts, and what the evaluator says, as plain propositions: CjV. Printed by vc.py. -/
namespace Go.Proofs.YtnkcmkegjckncaaDoor
open Go.RowKit Go.ChangeShapes Go.WideShapes Go.Deep

abbrev Hear_S : Shape := ⟨[pCfg, .one (.rd tI), .one (.rd tI), pDesk, pMsg], []⟩
abbrev Hear_f : Shape.den Hear_S → denVars [.agg 0 kTurn, .slot 1 false tI] := fun x => (heaT x.1.1 x.1.2.1 x.1.2.2.1 x.1.2.2.2.1 x.1.2.2.2.2.1, heaE x.1.1 x.1.2.1 x.1.2.2.1 x.1.2.2.2.1 x.1.2.2.2.2.1, ())
abbrev Hear_p : Shape.den Hear_S → List Prop := fun x => [pLen x.1.1.2.1 < 4611686018427387904, pLen x.1.2.2.2.1.2.1 < 4611686018427387904, (∀ q ∈ x.1.2.2.2.1.2.1, pLen q.2.2.1 < 4611686018427387904 ∧ pLen q.2.2.2.1 < 4611686018427387904)]
def cHear : Ctr := shCtr Hear_S Hear_p [] [.agg 0 kTurn, .slot 1 false tI] Hear_f
abbrev HearE_p : Shape.den Hear_S → List Prop := fun x => [pLen x.1.1.2.1 < 4611686018427387904, pLen x.1.2.2.2.1.2.1 < 4611686018427387904, (∀ q ∈ x.1.2.2.2.1.2.1, pLen q.2.2.1 < 4611686018427387904 ∧ pLen q.2.2.2.1 < 4611686018427387904), pNe (heaE x.1.1 x.1.2.1 x.1.2.2.1 x.1.2.2.2.1 x.1.2.2.2.2.1) 0 = true]
def cHearE : Ctr := shCtr Hear_S HearE_p [] [.agg 0 kTurn, .slot 1 false tI] Hear_f
abbrev Hear5_f : Shape.den Hear_S → denVars [.agg 0 kTurn, .slot 1 false tI] := fun x => (heaT x.1.1 x.1.2.1 x.1.2.2.1 x.1.2.2.2.1 (x.1.2.2.2.2.1.1, x.1.2.2.2.2.1.2), heaE x.1.1 x.1.2.1 x.1.2.2.1 x.1.2.2.2.1 (x.1.2.2.2.2.1.1, x.1.2.2.2.2.1.2), ())
abbrev Hear5_p : Shape.den Hear_S → List Prop := fun x => [x.1.2.2.2.2.1.1 = 5, pLen x.1.1.2.1 < 4611686018427387904, pLen x.1.2.2.2.1.2.1 < 4611686018427387904, (∀ q ∈ x.1.2.2.2.1.2.1, pLen q.2.2.1 < 4611686018427387904 ∧ pLen q.2.2.2.1 < 4611686018427387904), begE x.1.1 x.1.2.1 x.1.2.2.1 x.1.2.2.2.1 = 0, msgF x.1.1 (x.1.2.2.2.2.1.1, x.1.2.2.2.2.1.2) = 0, pEq x.1.2.2.2.2.1.2.2.1 x.1.2.2.1 = true, pEq x.1.2.2.2.2.1.2.2.2.1 x.1.2.2.1 = true]
def cHear5 : Ctr := shCtr Hear_S Hear5_p [] [.agg 0 kTurn, .slot 1 false tI] Hear5_f
abbrev Hear6_p : Shape.den Hear_S → List Prop := fun x => [x.1.2.2.2.2.1.1 = 6, pLen x.1.1.2.1 < 4611686018427387904, pLen x.1.2.2.2.1.2.1 < 4611686018427387904, (∀ q ∈ x.1.2.2.2.1.2.1, pLen q.2.2.1 < 4611686018427387904 ∧ pLen q.2.2.2.1 < 4611686018427387904), begE x.1.1 x.1.2.1 x.1.2.2.1 x.1.2.2.2.1 = 0, msgF x.1.1 (x.1.2.2.2.2.1.1, x.1.2.2.2.2.1.2) = 0, pEq x.1.2.2.2.2.1.2.2.1 x.1.2.2.1 = true, pEq x.1.2.2.2.2.1.2.2.2.1 x.1.2.2.1 = true]
def cHear6 : Ctr := shCtr Hear_S Hear6_p [] [.agg 0 kTurn, .slot 1 false tI] Hear5_f
abbrev Hear7_p : Shape.den Hear_S → List Prop := fun x => [x.1.2.2.2.2.1.1 = 7, pLen x.1.1.2.1 < 4611686018427387904, pLen x.1.2.2.2.1.2.1 < 4611686018427387904, (∀ q ∈ x.1.2.2.2.1.2.1, pLen q.2.2.1 < 4611686018427387904 ∧ pLen q.2.2.2.1 < 4611686018427387904), begE x.1.1 x.1.2.1 x.1.2.2.1 x.1.2.2.2.1 = 0, msgF x.1.1 (x.1.2.2.2.2.1.1, x.1.2.2.2.2.1.2) = 0, pEq x.1.2.2.2.2.1.2.2.1 x.1.2.2.1 = true, pEq x.1.2.2.2.2.1.2.2.2.1 x.1.2.2.1 = true]
def cHear7 : Ctr := shCtr Hear_S Hear7_p [] [.agg 0 kTurn, .slot 1 false tI] Hear5_f
abbrev Hear8_p : Shape.den Hear_S → List Prop := fun x => [x.1.2.2.2.2.1.1 = 8, pLen x.1.1.2.1 < 4611686018427387904, pLen x.1.2.2.2.1.2.1 < 4611686018427387904, (∀ q ∈ x.1.2.2.2.1.2.1, pLen q.2.2.1 < 4611686018427387904 ∧ pLen q.2.2.2.1 < 4611686018427387904), begE x.1.1 x.1.2.1 x.1.2.2.1 x.1.2.2.2.1 = 0, msgF x.1.1 (x.1.2.2.2.2.1.1, x.1.2.2.2.2.1.2) = 0, pEq x.1.2.2.2.2.1.2.2.1 x.1.2.2.1 = true, pEq x.1.2.2.2.2.1.2.2.2.1 x.1.2.2.1 = true]
def cHear8 : Ctr := shCtr Hear_S Hear8_p [] [.agg 0 kTurn, .slot 1 false tI] Hear5_f
abbrev Hear9_p : Shape.den Hear_S → List Prop := fun x => [x.1.2.2.2.2.1.1 = 9, pLen x.1.1.2.1 < 4611686018427387904, pLen x.1.2.2.2.1.2.1 < 4611686018427387904, (∀ q ∈ x.1.2.2.2.1.2.1, pLen q.2.2.1 < 4611686018427387904 ∧ pLen q.2.2.2.1 < 4611686018427387904), begE x.1.1 x.1.2.1 x.1.2.2.1 x.1.2.2.2.1 = 0, msgF x.1.1 (x.1.2.2.2.2.1.1, x.1.2.2.2.2.1.2) = 0, pEq x.1.2.2.2.2.1.2.2.1 x.1.2.2.1 = true, pEq x.1.2.2.2.2.1.2.2.2.1 x.1.2.2.1 = true]
def cHear9 : Ctr := shCtr Hear_S Hear9_p [] [.agg 0 kTurn, .slot 1 false tI] Hear5_f
abbrev eqsCjV : List TypeId := [101, 73, 32, 29, 96]

noncomputable abbrev ekplace : Env := envI Tryd.prog tabsM [(38, (false, cindexJ))] [] eqsCjV [(25, [2, 3])] [] false
noncomputable def kkplace : CtrK := inlC ekplace (fun _ _ => none) Tryd.f13
theorem kkplace_ok (hindexJ : MtG tabsM 38 cindexJ) : MeetsK Tryd.prog tabsM 13 false kkplace :=
  meets_inl (E := ekplace) (envI_ok (fun p hp => (by simp only [List.mem_cons, List.not_mem_nil, or_false] at hp; rcases hp with rfl; exact hindexJ)) (fun p hp => by cases hp) (by kernel_rfl)) _ Tryd.func13 (by kernel_rfl) (by kernel_rfl)

noncomputable abbrev eksend : Env := envI Tryd.prog tabsM [] [] eqsCjV [(25, [2, 3])] [] true
noncomputable def kksend : CtrK := inlC eksend (fun _ _ => none) Tryd.f40
theorem kksend_ok  : MeetsK Tryd.prog tabsM 40 true kksend :=
  meets_inlD (E := eksend) (envI_ok (fun p hp => by cases hp) (fun p hp => by cases hp) (by kernel_rfl)) rfl Tryd.func40 (by kernel_rfl) (by kernel_rfl)

noncomputable abbrev ekreply : Env := envI Tryd.prog tabsM [] [] eqsCjV [(25, [2, 3])] [] true
noncomputable def kkreply : CtrK := inlC ekreply (fun _ _ => none) Tryd.f42
theorem kkreply_ok  : MeetsK Tryd.prog tabsM 42 true kkreply :=
  meets_inlD (E := ekreply) (envI_ok (fun p hp => by cases hp) (fun p hp => by cases hp) (by kernel_rfl)) rfl Tryd.func42 (by kernel_rfl) (by kernel_rfl)

noncomputable abbrev ekrecord : Env := envI Tryd.prog tabsM [] [] eqsCjV [(25, [2, 3])] [] true
noncomputable def kkrecord : CtrK := inlC ekrecord (fun _ _ => none) Tryd.f47
theorem kkrecord_ok  : MeetsK Tryd.prog tabsM 47 true kkrecord :=
  meets_inlD (E := ekrecord) (envI_ok (fun p hp => by cases hp) (fun p hp => by cases hp) (by kernel_rfl)) rfl Tryd.func47 (by kernel_rfl) (by kernel_rfl)

noncomputable abbrev ekdrop : Env := envI Tryd.prog tabsM [(67, (true, cdelJ))] [] eqsCjV [(25, [2, 3])] [] true
noncomputable def kkdrop : CtrK := inlC ekdrop (fun _ _ => none) Tryd.f48
theorem kkdrop_ok (hdelJ : MtG tabsM 67 cdelJ) : MeetsK Tryd.prog tabsM 48 true kkdrop :=
  meets_inlD (E := ekdrop) (envI_ok (fun p hp => (by simp only [List.mem_cons, List.not_mem_nil, or_false] at hp; rcases hp with rfl; exact hdelJ)) (fun p hp => by cases hp) (by kernel_rfl)) rfl Tryd.func48 (by kernel_rfl) (by kernel_rfl)

noncomputable abbrev eksites : Env := envI Tryd.prog tabsM [(41, (false, chasN)), (72, (true, csort))] [] eqsCjV [(25, [2, 3])] [] false
noncomputable def kksites : CtrK := inlC eksites (fun ky9 st9 => look [(3, (⟨[.slot 12 false tI, .slot 5 true tyN], sitesInv (cellD tI st9 (ptI st9 0) 0) (cellD tI st9 (ptI st9 0) 3) (rowD tyTask st9 10), sitesMu (cellD tI st9 (ptI st9 0) 0) (cellD tI st9 (ptI st9 0) 3) (rowD tyTask st9 10)⟩ : Ann))] ky9) Tryd.f62
theorem kksites_ok (hhasN : MtG tabsM 41 chasN) (hsort : MtG tabsM 72 csort) : MeetsK Tryd.prog tabsM 62 false kksites :=
  meets_inl (E := eksites) (envI_ok (fun p hp => (by simp only [List.mem_cons, List.not_mem_nil, or_false] at hp; rcases hp with rfl | rfl; exact hhasN; exact hsort)) (fun p hp => by cases hp) (by kernel_rfl)) _ Tryd.func62 (by kernel_rfl) (by kernel_rfl)

noncomputable abbrev ekbeginN : Env := envI Tryd.prog tabsM [(30, (false, ccCheck)), (31, (false, ccownN))] [] eqsCjV [(25, [2, 3])] [] false
noncomputable def kkbeginN : CtrK := inlC ekbeginN (fun _ _ => none) Tryd.f11
theorem kkbeginN_ok (hcCheck : MtG tabsM 30 ccCheck) (hcownN : MtG tabsM 31 ccownN) : MeetsK Tryd.prog tabsM 11 false kkbeginN :=
  meets_inl (E := ekbeginN) (envI_ok (fun p hp => (by simp only [List.mem_cons, List.not_mem_nil, or_false] at hp; rcases hp with rfl | rfl; exact hcCheck; exact hcownN)) (fun p hp => by cases hp) (by kernel_rfl)) _ Tryd.func11 (by kernel_rfl) (by kernel_rfl)

noncomputable abbrev ektellN : Env := envI Tryd.prog tabsM [] [(40, (true, kksend))] eqsCjV [(25, [2, 3])] [] false
noncomputable def kktellN : CtrK := inlC ektellN (fun ky9 st9 => look [(2, (⟨[.slot 9 false tI, .box (ptI st9 0) (kWorkX 3)], tellXInv (boxX tyWorkX st9 (ptI st9 0) [6]) (cellD tI st9 (ptI st9 3) 0) (rowD tyN st9 7), tellXMu (boxX tyWorkX st9 (ptI st9 0) [6]) (cellD tI st9 (ptI st9 3) 0) (rowD tyN st9 7)⟩ : Ann))] ky9) Tryd.f65
theorem kktellN_ok  (iksend : MeetsK Tryd.prog tabsM 40 true kksend) : MeetsK Tryd.prog tabsM 65 false kktellN :=
  meets_inl (E := ektellN) (envI_ok (fun p hp => by cases hp) (fun p hp => (by simp only [List.mem_cons, List.not_mem_nil, or_false] at hp; rcases hp with rfl; exact iksend)) (by kernel_rfl)) _ Tryd.func65 (by kernel_rfl) (by kernel_rfl)

noncomputable abbrev ekendN : Env := envI Tryd.prog tabsM [] [(40, (true, kksend)), (62, (false, kksites)), (48, (true, kkdrop))] eqsCjV [(25, [2, 3])] [] false
noncomputable def kkendN : CtrK := inlC ekendN (fun ky9 st9 => look [(2, (⟨[.slot 20 false tI, .box (ptI st9 0) (kWorkX 1)], kendXInv (boxX tyWorkX st9 (ptI st9 0) [6]) (cellD tI st9 (ptI st9 4) 0) (rowD tyN st9 18), kendXMu (boxX tyWorkX st9 (ptI st9 0) [6]) (cellD tI st9 (ptI st9 4) 0) (rowD tyN st9 18)⟩ : Ann))] ky9) Tryd.f43
theorem kkendN_ok  (iksend : MeetsK Tryd.prog tabsM 40 true kksend) (iksites : MeetsK Tryd.prog tabsM 62 false kksites) (ikdrop : MeetsK Tryd.prog tabsM 48 true kkdrop) : MeetsK Tryd.prog tabsM 43 false kkendN :=
  meets_inl (E := ekendN) (envI_ok (fun p hp => by cases hp) (fun p hp => (by simp only [List.mem_cons, List.not_mem_nil, or_false] at hp; rcases hp with rfl | rfl | rfl; exact iksend; exact iksites; exact ikdrop)) (by kernel_rfl)) _ Tryd.func43 (by kernel_rfl) (by kernel_rfl)

noncomputable abbrev ekcommit : Env := envI Tryd.prog tabsM [(63, (false, canyW)), (59, (false, ccloneN))] [(62, (false, kksites)), (42, (true, kkreply)), (48, (true, kkdrop)), (47, (true, kkrecord)), (65, (false, kktellN))] eqsCjV [(25, [2, 3])] [] false
noncomputable def kkcommit : CtrK := inlC ekcommit (fun _ _ => none) Tryd.f44
theorem kkcommit_ok (hanyW : MtG tabsM 63 canyW) (hcloneN : MtG tabsM 59 ccloneN) (iksites : MeetsK Tryd.prog tabsM 62 false kksites) (ikreply : MeetsK Tryd.prog tabsM 42 true kkreply) (ikdrop : MeetsK Tryd.prog tabsM 48 true kkdrop) (ikrecord : MeetsK Tryd.prog tabsM 47 true kkrecord) (iktellN : MeetsK Tryd.prog tabsM 65 false kktellN) : MeetsK Tryd.prog tabsM 44 false kkcommit :=
  meets_inl (E := ekcommit) (envI_ok (fun p hp => (by simp only [List.mem_cons, List.not_mem_nil, or_false] at hp; rcases hp with rfl | rfl; exact hanyW; exact hcloneN)) (fun p hp => (by simp only [List.mem_cons, List.not_mem_nil, or_false] at hp; rcases hp with rfl | rfl | rfl | rfl | rfl; exact iksites; exact ikreply; exact ikdrop; exact ikrecord; exact iktellN)) (by kernel_rfl)) _ Tryd.func44 (by kernel_rfl) (by kernel_rfl)

noncomputable abbrev ekanswered : Env := envI Tryd.prog tabsM [] [(42, (true, kkreply)), (43, (false, kkendN))] eqsCjV [(25, [2, 3])] [] false
noncomputable def kkanswered : CtrK := inlC ekanswered (fun _ _ => none) Tryd.f15
theorem kkanswered_ok  (ikreply : MeetsK Tryd.prog tabsM 42 true kkreply) (ikendN : MeetsK Tryd.prog tabsM 43 false kkendN) : MeetsK Tryd.prog tabsM 15 false kkanswered :=
  meets_inl (E := ekanswered) (envI_ok (fun p hp => by cases hp) (fun p hp => (by simp only [List.mem_cons, List.not_mem_nil, or_false] at hp; rcases hp with rfl | rfl; exact ikreply; exact ikendN)) (by kernel_rfl)) _ Tryd.func15 (by kernel_rfl) (by kernel_rfl)

noncomputable abbrev eksure : Env := envI Tryd.prog tabsM [] [(42, (true, kkreply)), (43, (false, kkendN)), (44, (false, kkcommit))] eqsCjV [(25, [2, 3])] [] false
noncomputable def kksure : CtrK := inlC eksure (fun ky9 st9 => look [(5, (⟨[.slot 42 false tI, .slot 7 false .bool, .slot 8 false .bool, .row (hsS st9 40) tyTask], sureInv (boxD tyMsg st9 (ptI st9 5)) (rowD tyTask st9 40), sureMu (boxD tyMsg st9 (ptI st9 5)) (rowD tyTask st9 40)⟩ : Ann))] ky9) Tryd.f16
theorem kksure_ok  (ikreply : MeetsK Tryd.prog tabsM 42 true kkreply) (ikendN : MeetsK Tryd.prog tabsM 43 false kkendN) (ikcommit : MeetsK Tryd.prog tabsM 44 false kkcommit) : MeetsK Tryd.prog tabsM 16 false kksure :=
  meets_inl (E := eksure) (envI_ok (fun p hp => by cases hp) (fun p hp => (by simp only [List.mem_cons, List.not_mem_nil, or_false] at hp; rcases hp with rfl | rfl | rfl; exact ikreply; exact ikendN; exact ikcommit)) (by kernel_rfl)) _ Tryd.func16 (by kernel_rfl) (by kernel_rfl)

noncomputable abbrev ekacked : Env := envI Tryd.prog tabsM [(45, (true, cdelN))] [(47, (true, kkrecord)), (48, (true, kkdrop))] eqsCjV [(25, [2, 3])] [] false
noncomputable def kkacked : CtrK := inlC ekacked (fun _ _ => none) Tryd.f17
theorem kkacked_ok (hdelN : MtG tabsM 45 cdelN) (ikrecord : MeetsK Tryd.prog tabsM 47 true kkrecord) (ikdrop : MeetsK Tryd.prog tabsM 48 true kkdrop) : MeetsK Tryd.prog tabsM 17 false kkacked :=
  meets_inl (E := ekacked) (envI_ok (fun p hp => (by simp only [List.mem_cons, List.not_mem_nil, or_false] at hp; rcases hp with rfl; exact hdelN)) (fun p hp => (by simp only [List.mem_cons, List.not_mem_nil, or_false] at hp; rcases hp with rfl | rfl; exact ikrecord; exact ikdrop)) (by kernel_rfl)) _ Tryd.func17 (by kernel_rfl) (by kernel_rfl)

noncomputable abbrev ekasked : Env := envI Tryd.prog tabsM [(41, (false, chasN))] [(40, (true, kksend))] eqsCjV [(25, [2, 3])] [] false
noncomputable def kkasked : CtrK := inlC ekasked (fun _ _ => none) Tryd.f14
theorem kkasked_ok (hhasN : MtG tabsM 41 chasN) (iksend : MeetsK Tryd.prog tabsM 40 true kksend) : MeetsK Tryd.prog tabsM 14 false kkasked :=
  meets_inl (E := ekasked) (envI_ok (fun p hp => (by simp only [List.mem_cons, List.not_mem_nil, or_false] at hp; rcases hp with rfl; exact hhasN)) (fun p hp => (by simp only [List.mem_cons, List.not_mem_nil, or_false] at hp; rcases hp with rfl; exact iksend)) (by kernel_rfl)) _ Tryd.func14 (by kernel_rfl) (by kernel_rfl)

abbrev HearE_v0 := ((0 : Int), vnil (Int × Int × List (Bool × Int × Int × Int × Int × Int × Bool × Bool × PUnit) × List (Int × PUnit) × Int × Int × PUnit), vnil (Int × Int × Int × Int × Int × Int × Int × Int × Int × Int × Bool × Int × PUnit), vnil (Int × Int
 × Int × Int × Int × Int × Bool × List (Int × PUnit) × PUnit), vnil (Int × Int × Int × Int × Int × Int × PUnit), (0 : Int), (0 : Int), ())
abbrev HearE_v1 (c : CfgD) (l : Int) (m : Int) (d : DeskD) (z : MsgD) := (heaT c l m d z, heaE c l m d z, ())
abbrev HearE_t2 (c : CfgD) (l : Int) (m : Int) (d : DeskD) (z : MsgD) : Prop := (HearE_v0, (2 : Int), ()) = HearE_v1 c l m d z
abbrev HearE_t3 (c : CfgD) (l : Int) (m : Int) (d : DeskD) (z : MsgD) : Prop := Nat.le (Nat.succ (pLen c.2.1)) 4611686018427387904 ∧ bif pNe (msgF c z) (0 : Int) then (HearE_v0, msgF c z, ()) = HearE_v1 c l m d z else bif pNe z.2.2.1 m then HearE_t2 c l m d z else bif pNe z.2.2.2.1 m then HearE_t2 c l m d z else bif
 pLt z.1 (5 : Int) then (HearE_v0, (3 : Int), ()) = HearE_v1 c l m d z else False

def HearE_VC (c : CfgD) (l : Int) (m : Int) (d : DeskD) (z : MsgD) : Prop :=
  Nat.le (Nat.succ (pLen c.2.1)) 4611686018427387904 ∧ Nat.le (Nat.succ (pLen d.2.1)) 4611686018427387904 ∧ (∀ (q0 : Int × Int × List (Bool × Int × Int × Int × Int × Int × Bool × Bool × PUnit) × List (Int × PUnit) × Int × Int × PUnit),
 List.Mem q0 d.2.1 → Nat.le (Nat.succ (pLen q0.2.2.1)) 4611686018427387904 ∧ Nat.le (Nat.succ (pLen q0.2.2.2.1)) 4611686018427387904) ∧ bif pNe (deskF c d) (0 : Int) then bif pNe (deskF c d) (0 : Int) then (HearE_v0, deskF c d, ()) =
 HearE_v1 c l m d z else HearE_t3 c l m d z else bif pLt l (0 : Int) then (HearE_v0, (6 : Int), ()) = HearE_v1 c l m d z else bif pGe l (pInt (pLen c.2.1)) then (HearE_v0, (6 : Int), ()) = HearE_v1 c l m d z else bif pLt m (0 : Int) then
 HearE_t2 c l m d z else bif pGe m c.1 then HearE_t2 c l m d z else pRoom (pLen d.2.1) 80 ∧ (∀ (q1 : Int × Int × List (Bool × Int × Int × Int × Int × Int × Bool × Bool × PUnit) × List (Int × PUnit) × Int × Int × PUnit), List.Mem q1 d.2.1 →
 pRoom (pLen q1.2.2.1) 56 ∧ pRoom (pLen q1.2.2.2.1) 8) ∧ Nat.le (Nat.succ (pLen d.2.1)) 4611686018427387904 ∧ HearE_t3 c l m d z
set_option maxRecDepth 100000 in
theorem HearE_meets (hCheckMessage : MtG tabsM 12 cCheckMessage) (ikbeginN : MeetsK Tryd.prog tabsM 11 false kkbeginN) (h : ∀ (c : CfgD) (l : Int) (m : Int) (d : DeskD) (z : MsgD), (∀ p ∈ HearE_p ⟨(c, l, m, d, z, ()), ()⟩, p) → HearE_VC c l m d z) : MtG tabsM 5 cHearE :=
  meets_vc (E := envI Tryd.prog tabsM [(12, (false, cCheckMessage))] [(11, (false, kkbeginN))] eqsCjV [(25, [2, 3])] [] false) (envI_ok (fun p hp => (by simp only [List.mem_cons, List.not_mem_nil, or_false] at hp; rcases hp with rfl; exact hCheckMessage)) (fun p hp => (by simp only [List.mem_cons, List.not_mem_nil, or_false] at hp; rcases hp with rfl; exact ikbeginN)) (by kernel_rfl)) Hear_S (fun x => fun ky9 st9 => look [] ky9) Tryd.func5 (by kernel_rfl) (by kernel_rfl) HearE_p [] [.agg 0 kTurn, .slot 1 false tI] Hear_f (fun x => HearE_VC x.1.1 x.1.2.1 x.1.2.2.1 x.1.2.2.2.1 x.1.2.2.2.2.1) (fun x => by kernel_rfl) (fun x hp => h x.1.1 x.1.2.1 x.1.2.2.1 x.1.2.2.2.1 x.1.2.2.2.2.1 hp)

abbrev Hear5_v0 := (vnil (Int × Int × Int × Int × Int × Int × Int × Int × Int × Int × Bool × Int × PUnit), vnil (Int × Int × Int × Int × Int × Int × Bool × List (Int × PUnit) × PUnit), vnil (Int × Int × Int × Int × Int × Int × PUnit), (0 : Int), (0 : Int),
 ())
abbrev Hear5_v1 (c : CfgD) (l : Int) (m : Int) (d : DeskD) (zr : MsgR) := (heaT c l m d ((5 : Int), zr), heaE c l m d ((5 : Int), zr), ())
abbrev Hear5_t2 (c : CfgD) (l : Int) (m : Int) (d : DeskD) (zr : MsgR) : Prop := (((0 : Int), vnil (Int × Int × List (Bool × Int × Int × Int × Int × Int × Bool × Bool × PUnit) × List (Int × PUnit) × Int × Int × PUnit), Hear5_v0), (2 : Int), ()) = Hear5_v1 c l m d zr
abbrev Hear5_v3 (d : DeskD) (zr : MsgR) := pNat (idxKeyJ d.2.1 zr.2.2.2.1)
abbrev Hear5_v4 (d : DeskD) (zr : MsgR) := pGet tyJob d.2.1 (Hear5_v3 d zr)
abbrev Hear5_v5 (d : DeskD) (zr : MsgR) := pSubI IntKind.i64 (pInt (pLen (Hear5_v4 d zr).2.2.1)) (1 : Int)
abbrev Hear5_t6 (c : CfgD) (l : Int) (m : Int) (d : DeskD) (zr : MsgR) : Prop := pLen d.2.1 = pLen d.2.1 ∧ ((d.1, pSet d.2.1 (Hear5_v3 d zr) (Hear5_v4 d zr), Hear5_v0), (0 : Int), ()) = Hear5_v1 c l m d zr
abbrev Hear5_v7 (d : DeskD) (zr : MsgR) := pGet tyTask (Hear5_v4 d zr).2.2.1 (pNat (Hear5_v5 d zr))
abbrev Hear5_v8 (m : Int) (d : DeskD) (zr : MsgR) := (m, (2 : Int), (Hear5_v4 d zr).1, zr.2.2.2.2.2.1, zr.2.2.2.2.2.2.1, zr.2.2.2.2.2.2.2.2.2.2) :: vnil (Int × Int × Int × Int × Int × Int × PUnit)
abbrev Hear5_v9 (zr : MsgR) := pNe zr.2.2.2.2.2.2.2.2.2.2.1 (0 : Int)
abbrev Hear5_v10 (_ : CfgD) (_ : Int) (_ : Int) (d : DeskD) (zr : MsgR) := pSet d.2.1 (Hear5_v3 d zr) ((Hear5_v4 d zr).1, (Hear5_v4 d zr).2.1, (Hear5_v4 d zr).2.2.1, (Hear5_v4 d zr).2.2.2.1, (Hear5_v4 d zr).2.2.2.2.1, (0 : Int), ())
abbrev Hear5_v11 (c : CfgD) (l : Int) (m : Int) (d : DeskD) (zr : MsgR) := pGet tyJob (Hear5_v10 c l m d zr) (Hear5_v3 d zr)
abbrev Hear5_v12 (c : CfgD) (l : Int) (m : Int) (d : DeskD) (zr : MsgR) := ((Hear5_v11 c l m d zr).1, (Hear5_v11 c l m d zr).2.1, pSub (Hear5_v4 d zr).2.2.1 0 (pNat (Hear5_v5 d zr)), (Hear5_v4 d zr).2.2.2.1, (Hear5_v11 c l m d zr).2.2.2.2)
abbrev Hear5_v13 (m : Int) (d : DeskD) (zr : MsgR) := (vnil (Int × Int × Int × Int × Int × Int × Int × Int × Int × Int × Bool × Int × PUnit), vnil (Int × Int × Int × Int × Int × Int × Bool × List (Int × PUnit) × PUnit), pApp (vnil (Int × Int × Int × Int × Int × Int × PUnit)) (Hear5_v8 m d zr),
 (0 : Int), (0 : Int), ())
abbrev Hear5_v14 (d : DeskD) (zr : MsgR) := pSet (Hear5_v4 d zr).2.2.1 (pNat (Hear5_v5 d zr)) ((Hear5_v7 d zr).1, (Hear5_v7 d zr).2.1, (Hear5_v7 d zr).2.2.1, (Hear5_v7 d zr).2.2.2.1, (Hear5_v7 d zr).2.2.2.2.1, (Hear5_v7 d zr).2.2.2.2.2.1, Bool.true, (Hear5_v7 d zr).2.2.2.2.2.2.2)
abbrev Hear5_v15 (d : DeskD) (zr : MsgR) := pGet tyTask (Hear5_v14 d zr) (pNat (Hear5_v5 d zr))
abbrev Hear5_v16 (d : DeskD) (zr : MsgR) := pSet (Hear5_v14 d zr) (pNat (Hear5_v5 d zr)) ((Hear5_v15 d zr).1, (Hear5_v15 d zr).2.1, (Hear5_v15 d zr).2.2.1, zr.2.2.2.2.2.2.1, (Hear5_v15 d zr).2.2.2.2)
abbrev Hear5_v17 (d : DeskD) (zr : MsgR) := pGet tyTask (Hear5_v16 d zr) (pNat (Hear5_v5 d zr))
abbrev Hear5_t18 (c : CfgD) (l : Int) (m : Int) (d : DeskD) (zr : MsgR) : Prop := pLen (Hear5_v10 c l m d zr) = pLen d.2.1 ∧ ((d.1, pSet (Hear5_v10 c l m d zr) (Hear5_v3 d zr) ((Hear5_v11 c l m d zr).1, (Hear5_v11 c l m d zr).2.1, pSet (Hear5_v16 d zr) (pNat (Hear5_v5 d zr)) ((Hear5_v17 d zr).1, (Hear5_v17 d zr).2.1,
 (Hear5_v17 d zr).2.2.1, (Hear5_v17 d zr).2.2.2.1, zr.2.2.2.2.2.2.2.1, (Hear5_v17 d zr).2.2.2.2.2), (Hear5_v4 d zr).2.2.2.1, (Hear5_v11 c l m d zr).2.2.2.2), Hear5_v13 m d zr), (0 : Int), ()) = Hear5_v1 c l m d zr

def Hear5_VC (c : CfgD) (l : Int) (m : Int) (d : DeskD) (zr : MsgR) : Prop :=
  Nat.le (Nat.succ (pLen c.2.1)) 4611686018427387904 ∧ Nat.le (Nat.succ (pLen d.2.1)) 4611686018427387904 ∧ (∀ (q0 : Int × Int × List (Bool × Int × Int × Int × Int × Int × Bool × Bool × PUnit) × List (Int × PUnit) × Int × Int × PUnit),
 List.Mem q0 d.2.1 → Nat.le (Nat.succ (pLen q0.2.2.1)) 4611686018427387904 ∧ Nat.le (Nat.succ (pLen q0.2.2.2.1)) 4611686018427387904) ∧ bif pNe (deskF c d) (0 : Int) then bif pNe (deskF c d) (0 : Int) then (((0 : Int), vnil (Int × Int × List
 (Bool × Int × Int × Int × Int × Int × Bool × Bool × PUnit) × List (Int × PUnit) × Int × Int × PUnit), Hear5_v0), deskF c d, ()) = Hear5_v1 c l m d zr else Nat.le (Nat.succ (pLen c.2.1)) 4611686018427387904 ∧ msgF c ((5 : Int), zr) = (0 :
 Int) ∧ bif pNe zr.2.1 m then Hear5_t2 c l m d zr else bif pNe zr.2.2.1 m then Hear5_t2 c l m d zr else False else bif pLt l (0 : Int) then (((0 : Int), vnil (Int × Int × List (Bool × Int × Int × Int × Int × Int × Bool × Bool × PUnit) × List
 (Int × PUnit) × Int × Int × PUnit), Hear5_v0), (6 : Int), ()) = Hear5_v1 c l m d zr else bif pGe l (pInt (pLen c.2.1)) then (((0 : Int), vnil (Int × Int × List (Bool × Int × Int × Int × Int × Int × Bool × Bool × PUnit) × List (Int × PUnit)
 × Int × Int × PUnit), Hear5_v0), (6 : Int), ()) = Hear5_v1 c l m d zr else bif pLt m (0 : Int) then Hear5_t2 c l m d zr else bif pGe m c.1 then Hear5_t2 c l m d zr else pRoom (pLen d.2.1) 80 ∧ (∀ (q1 : Int × Int × List (Bool × Int × Int ×
 Int × Int × Int × Bool × Bool × PUnit) × List (Int × PUnit) × Int × Int × PUnit), List.Mem q1 d.2.1 → pRoom (pLen q1.2.2.1) 56 ∧ pRoom (pLen q1.2.2.2.1) 8) ∧ Nat.le (Nat.succ (pLen d.2.1)) 4611686018427387904 ∧ Nat.le (Nat.succ (pLen
 c.2.1)) 4611686018427387904 ∧ msgF c ((5 : Int), zr) = (0 : Int) ∧ bif pNe zr.2.1 m then Hear5_t2 c l m d zr else bif pNe zr.2.2.1 m then Hear5_t2 c l m d zr else Nat.le (Nat.succ (pLen d.2.1)) 4611686018427387904 ∧ bif pLt (idxKeyJ d.2.1
 zr.2.2.2.1) (0 : Int) then ((d.1, d.2.1, Hear5_v0), (0 : Int), ()) = Hear5_v1 c l m d zr else pIn (idxKeyJ d.2.1 zr.2.2.2.1) (pLen d.2.1) ∧ bif pLt (Hear5_v5 d zr) (0 : Int) then Hear5_t6 c l m d zr else Hear5_v3 d zr = Hear5_v3 d zr ∧ pIn
 (Hear5_v5 d zr) (pLen (Hear5_v4 d zr).2.2.1) ∧ bif (Hear5_v7 d zr).2.2.2.2.2.2.1 then Hear5_t6 c l m d zr else bif pNe (Hear5_v7 d zr).2.2.2.2.2.1 zr.2.2.2.2.2.2.2.2.1 then Hear5_t6 c l m d zr else bif pNot (pBeq (Hear5_v7 d zr).1
 Bool.false) then Hear5_t6 c l m d zr else bif pNe (Hear5_v7 d zr).2.2.1 zr.2.2.2.2.2.1 then Hear5_t6 c l m d zr else bif pNe (Hear5_v7 d zr).2.1 zr.2.2.2.2.1 then Hear5_t6 c l m d zr else pNz c.1 ∧ bif pNe zr.1 (pRem (Hear5_v7 d zr).2.2.1
 c.1) then Hear5_t6 c l m d zr else pRoom (pPlus (pLen (vnil (Int × Int × Int × Int × Int × Int × PUnit))) (pLen (Hear5_v8 m d zr))) 48 ∧ bif Hear5_v9 zr then bif Hear5_v9 zr then Hear5_v3 d zr = Hear5_v3 d zr ∧ pTo (Hear5_v5 d zr) (pLen
 (Hear5_v4 d zr).2.2.1) ∧ Hear5_v3 d zr = Hear5_v3 d zr ∧ pLen (Hear5_v10 c l m d zr) = pLen d.2.1 ∧ ((d.1, pSet (Hear5_v10 c l m d zr) (Hear5_v3 d zr) (Hear5_v12 c l m d zr), Hear5_v13 m d zr), (0 : Int), ()) = Hear5_v1 c l m d zr else
 Hear5_t18 c l m d zr else bif Hear5_v9 zr then Hear5_v3 d zr = Hear5_v3 d zr ∧ pTo (Hear5_v5 d zr) (pLen (Hear5_v4 d zr).2.2.1) ∧ Hear5_v3 d zr = Hear5_v3 d zr ∧ pLen (Hear5_v10 c l m d zr) = pLen d.2.1 ∧ ((d.1, pSet (Hear5_v10 c l m d zr)
 (Hear5_v3 d zr) (Hear5_v12 c l m d zr), Hear5_v13 m d zr), (0 : Int), ()) = Hear5_v1 c l m d zr else Hear5_t18 c l m d zr
set_option maxRecDepth 100000 in
theorem Hear5_meets (hCheckMessage0 : MtG tabsM 12 cCheckMessage0) (ikbeginN : MeetsK Tryd.prog tabsM 11 false kkbeginN) (ikplace : MeetsK Tryd.prog tabsM 13 false kkplace) (ikanswered : MeetsK Tryd.prog tabsM 15 false kkanswered) (h : ∀ (c : CfgD) (l : Int) (m : Int) (d : DeskD) (zr : MsgR), (∀ p ∈ Hear5_p ⟨(c, l, m, d, ((5 : Int), zr), ()), ()⟩, p) → Hear5_VC c l m d zr) : MtG tabsM 5 cHear5 :=
  meets_vcAt (E := envI Tryd.prog tabsM [(12, (false, cCheckMessage0))] [(11, (false, kkbeginN)), (13, (false, kkplace)), (15, (false, kkanswered))] eqsCjV [(25, [2, 3])] [] false) (envI_ok (fun p hp => (by simp only [List.mem_cons, List.not_mem_nil, or_false] at hp; rcases hp with rfl; exact hCheckMessage0)) (fun p hp => (by simp only [List.mem_cons, List.not_mem_nil, or_false] at hp; rcases hp with rfl | rfl | rfl; exact ikbeginN; exact ikplace; exact ikanswered)) (by kernel_rfl)) Hear_S (fun b => fun ky9 st9 => look [] ky9) Tryd.func5 (by kernel_rfl) (by kernel_rfl) Hear5_p [] [.agg 0 kTurn, .slot 1 false tI] Hear5_f (fun b : (CfgD) × (Int) × (Int) × (DeskD) × (MsgR) => ⟨(b.1, b.2.1, b.2.2.1, b.2.2.2.1, ((5 : Int), b.2.2.2.2), ()), ()⟩) (fun b => Hear5_VC b.1 b.2.1 b.2.2.1 b.2.2.2.1 b.2.2.2.2) (fun b => by kernel_rfl) (by
    rintro ⟨⟨c, l, m, d, ⟨zk, zr⟩, ⟨⟩⟩, ⟨⟩⟩ hp
    have e : zk = (5 : Int) := hp _ List.mem_cons_self
    subst e
    exact ⟨(c, l, m, d, zr), rfl⟩) (fun b hp => h b.1 b.2.1 b.2.2.1 b.2.2.2.1 b.2.2.2.2 hp)

abbrev Hear6_v0 := (vnil (Int × Int × Int × Int × Int × Int × Int × Int × Int × Int × Bool × Int × PUnit), vnil (Int × Int × Int × Int × Int × Int × Bool × List (Int × PUnit) × PUnit), vnil (Int × Int × Int × Int × Int × Int × PUnit), (0 : Int), (0 : Int),
 ())
abbrev Hear6_v1 (c : CfgD) (l : Int) (m : Int) (d : DeskD) (zr : MsgR) := (heaT c l m d ((6 : Int), zr), heaE c l m d ((6 : Int), zr), ())
abbrev Hear6_t2 (c : CfgD) (l : Int) (m : Int) (d : DeskD) (zr : MsgR) : Prop := (((0 : Int), vnil (Int × Int × List (Bool × Int × Int × Int × Int × Int × Bool × Bool × PUnit) × List (Int × PUnit) × Int × Int × PUnit), Hear6_v0), (2 : Int), ()) = Hear6_v1 c l m d zr
abbrev Hear6_v3 (d : DeskD) (zr : MsgR) := idxKeyJ d.2.1 zr.2.2.2.1
abbrev Hear6_v4 (d : DeskD) (zr : MsgR) := pGet tyJob d.2.1 (pNat (Hear6_v3 d zr))
abbrev Hear6_v5 (d : DeskD) (zr : MsgR) := pSubI IntKind.i64 (pInt (pLen (Hear6_v4 d zr).2.2.1)) (1 : Int)
abbrev Hear6_t6 (c : CfgD) (l : Int) (m : Int) (d : DeskD) (zr : MsgR) : Prop := pLen d.2.1 = pLen d.2.1 ∧ ((d.1, pSet d.2.1 (pNat (Hear6_v3 d zr)) (Hear6_v4 d zr), Hear6_v0), (0 : Int), ()) = Hear6_v1 c l m d zr
abbrev Hear6_v7 (d : DeskD) (zr : MsgR) := pGet tyTask (Hear6_v4 d zr).2.2.1 (pNat (Hear6_v5 d zr))
abbrev Hear6_v8 (m : Int) (d : DeskD) (zr : MsgR) := (m, (3 : Int), (Hear6_v4 d zr).1, zr.2.2.2.2.2.1, zr.2.2.2.2.2.2.1, zr.2.2.2.2.2.2.2.2.2.2) :: vnil (Int × Int × Int × Int × Int × Int × PUnit)
abbrev Hear6_v9 (_ : CfgD) (_ : Int) (_ : Int) (d : DeskD) (zr : MsgR) := pSet d.2.1 (pNat (Hear6_v3 d zr)) ((Hear6_v4 d zr).1, (Hear6_v4 d zr).2.1, (Hear6_v4 d zr).2.2.1, (Hear6_v4 d zr).2.2.2.1, (Hear6_v4 d zr).2.2.2.2.1, (0 : Int), ())
abbrev Hear6_v10 (d : DeskD) (zr : MsgR) (y2 : kden Bool.false tI × kden Bool.true tyN × PUnit) := (pGet tyTask (Hear6_v4 d zr).2.2.1 (pNat y2.1)).2
abbrev Hear6_v11 (c : CfgD) (d : DeskD) (zr : MsgR) (y2 : kden Bool.false tI × kden Bool.true tyN × PUnit) := (pAdd IntKind.i64 y2.1 (1 : Int), pApp y2.2.1 ((pRem (Hear6_v10 d zr y2).2.1 c.1, ()) :: vnil (Int × PUnit)), ())
abbrev Hear6_t12 (c : CfgD) (l : Int) (d : DeskD) (zr : MsgR) (y2 : kden Bool.false tI × kden Bool.true tyN × PUnit) : Prop := sitesInv c.1 l (Hear6_v4 d zr).2.2.1 (pAdd IntKind.i64 y2.1 (1 : Int), y2.2) ∧ Nat.le (Nat.succ (sitesMu c.1 l (Hear6_v4 d zr).2.2.1 (pAdd IntKind.i64 y2.1 (1 : Int), y2.2))) (sitesMu c.1 l (Hear6_v4 d zr).2.2.1 y2)
abbrev Hear6_v13 (c : CfgD) (l : Int) (m : Int) (d : DeskD) (zr : MsgR) := (c.1, c.2.1, c.2.2.1, l, m, d.1, vnil (Int × Int × Int × Int × Int × Int × Int × Int × Int × Int × Bool × Int × PUnit), vnil (Int × Int × Int × Int × Int × Int × Bool × List (Int × PUnit) × PUnit), pApp (vnil (Int × Int × Int × Int × Int ×
 Int × PUnit)) (Hear6_v8 m d zr), (0 : Int), (0 : Int), ())
abbrev Hear6_v14 (c : CfgD) (l : Int) (m : Int) (d : DeskD) (zr : MsgR) := pGet tyJob (Hear6_v9 c l m d zr) (pNat (Hear6_v3 d zr))
abbrev Hear6_v15 (m : Int) (d : DeskD) (zr : MsgR) := (vnil (Int × Int × Int × Int × Int × Int × Int × Int × Int × Int × Bool × Int × PUnit), vnil (Int × Int × Int × Int × Int × Int × Bool × List (Int × PUnit) × PUnit), pApp (vnil (Int × Int × Int × Int × Int × Int × PUnit)) (Hear6_v8 m d zr),
 (0 : Int), (0 : Int), ())
abbrev Hear6_v16 (y3 : kden Bool.false tI × denCells (kWorkX 1) × PUnit) := y3.2.1.2.2.2.2.2.2.2
abbrev Hear6_v17 (c : CfgD) (l : Int) (m : Int) (d : DeskD) (zr : MsgR) (y2 : kden Bool.false tI × kden Bool.true tyN × PUnit) (y3 : kden Bool.false tI × denCells (kWorkX 1) × PUnit) := ((4 : Int), y3.2.1.2.2.2.2.1, (pGet tyN (sortN y2.2.1) (pNat y3.1)).1, y3.2.1.2.2.2.2.1, (Hear6_v14 c l m d zr).1, (0 : Int), (0 : Int), (0 : Int), (0 : Int), (0 : Int), Bool.false, (0 : Int), ()) :: vnil (Int × Int × Int × Int × Int × Int
 × Int × Int × Int × Int × Bool × Int × PUnit)
abbrev Hear6_v18 (c : CfgD) (l : Int) (m : Int) (d : DeskD) (zr : MsgR) (y2 : kden Bool.false tI × kden Bool.true tyN × PUnit) (y3 : kden Bool.false tI × denCells (kWorkX 1) × PUnit) := (pAdd IntKind.i64 y3.1 (1 : Int), (y3.2.1.1, y3.2.1.2.1, y3.2.1.2.2.1, y3.2.1.2.2.2.1, y3.2.1.2.2.2.2.1, y3.2.1.2.2.2.2.2.1, (), pApp (Hear6_v16 y3).1 (Hear6_v17 c l m d zr y2 y3), (Hear6_v16 y3).2), ())
abbrev Hear6_v19 (c : CfgD) (l : Int) (m : Int) (d : DeskD) (zr : MsgR) := ((Hear6_v4 d zr).2.2.2.1, (Hear6_v14 c l m d zr).2.2.2.2)
abbrev Hear6_v20 (c : CfgD) (l : Int) (m : Int) (d : DeskD) (zr : MsgR) := pSet (Hear6_v9 c l m d zr) (pNat (Hear6_v3 d zr)) ((Hear6_v14 c l m d zr).1, (Hear6_v14 c l m d zr).2.1, (Hear6_v4 d zr).2.2.1, Hear6_v19 c l m d zr)

def Hear6_VC (c : CfgD) (l : Int) (m : Int) (d : DeskD) (zr : MsgR) : Prop :=
  Nat.le (Nat.succ (pLen c.2.1)) 4611686018427387904 ∧ Nat.le (Nat.succ (pLen d.2.1)) 4611686018427387904 ∧ (∀ (q0 : Int × Int × List (Bool × Int × Int × Int × Int × Int × Bool × Bool × PUnit) × List (Int × PUnit) × Int × Int × PUnit),
 List.Mem q0 d.2.1 → Nat.le (Nat.succ (pLen q0.2.2.1)) 4611686018427387904 ∧ Nat.le (Nat.succ (pLen q0.2.2.2.1)) 4611686018427387904) ∧ bif pNe (deskF c d) (0 : Int) then bif pNe (deskF c d) (0 : Int) then (((0 : Int), vnil (Int × Int × List
 (Bool × Int × Int × Int × Int × Int × Bool × Bool × PUnit) × List (Int × PUnit) × Int × Int × PUnit), Hear6_v0), deskF c d, ()) = Hear6_v1 c l m d zr else Nat.le (Nat.succ (pLen c.2.1)) 4611686018427387904 ∧ msgF c ((6 : Int), zr) = (0 :
 Int) ∧ bif pNe zr.2.1 m then Hear6_t2 c l m d zr else bif pNe zr.2.2.1 m then Hear6_t2 c l m d zr else False else bif pLt l (0 : Int) then (((0 : Int), vnil (Int × Int × List (Bool × Int × Int × Int × Int × Int × Bool × Bool × PUnit) × List
 (Int × PUnit) × Int × Int × PUnit), Hear6_v0), (6 : Int), ()) = Hear6_v1 c l m d zr else bif pGe l (pInt (pLen c.2.1)) then (((0 : Int), vnil (Int × Int × List (Bool × Int × Int × Int × Int × Int × Bool × Bool × PUnit) × List (Int × PUnit)
 × Int × Int × PUnit), Hear6_v0), (6 : Int), ()) = Hear6_v1 c l m d zr else bif pLt m (0 : Int) then Hear6_t2 c l m d zr else bif pGe m c.1 then Hear6_t2 c l m d zr else pRoom (pLen d.2.1) 80 ∧ (∀ (q1 : Int × Int × List (Bool × Int × Int ×
 Int × Int × Int × Bool × Bool × PUnit) × List (Int × PUnit) × Int × Int × PUnit), List.Mem q1 d.2.1 → pRoom (pLen q1.2.2.1) 56 ∧ pRoom (pLen q1.2.2.2.1) 8) ∧ Nat.le (Nat.succ (pLen d.2.1)) 4611686018427387904 ∧ Nat.le (Nat.succ (pLen
 c.2.1)) 4611686018427387904 ∧ msgF c ((6 : Int), zr) = (0 : Int) ∧ bif pNe zr.2.1 m then Hear6_t2 c l m d zr else bif pNe zr.2.2.1 m then Hear6_t2 c l m d zr else Nat.le (Nat.succ (pLen d.2.1)) 4611686018427387904 ∧ bif pLt (Hear6_v3 d zr)
 (0 : Int) then ((d.1, d.2.1, Hear6_v0), (0 : Int), ()) = Hear6_v1 c l m d zr else pIn (Hear6_v3 d zr) (pLen d.2.1) ∧ bif pLt (Hear6_v5 d zr) (0 : Int) then Hear6_t6 c l m d zr else pNat (Hear6_v3 d zr) = pNat (Hear6_v3 d zr) ∧ pIn (Hear6_v5
 d zr) (pLen (Hear6_v4 d zr).2.2.1) ∧ bif (Hear6_v7 d zr).2.2.2.2.2.2.1 then Hear6_t6 c l m d zr else bif pNe (Hear6_v7 d zr).2.2.2.2.2.1 zr.2.2.2.2.2.2.2.2.1 then Hear6_t6 c l m d zr else bif pNot (pBeq (Hear6_v7 d zr).1 Bool.true) then
 Hear6_t6 c l m d zr else bif pNe (Hear6_v7 d zr).2.2.1 zr.2.2.2.2.2.1 then Hear6_t6 c l m d zr else pNz c.1 ∧ bif pNe zr.1 (pRem (Hear6_v7 d zr).2.2.1 c.1) then Hear6_t6 c l m d zr else pRoom (pPlus (pLen (vnil (Int × Int × Int × Int × Int
 × Int × PUnit))) (pLen (Hear6_v8 m d zr))) 48 ∧ bif pNe zr.2.2.2.2.2.2.2.2.2.2.1 (0 : Int) then pIn (Hear6_v3 d zr) (pLen (Hear6_v9 c l m d zr)) ∧ pNat (Hear6_v3 d zr) = pNat (Hear6_v3 d zr) ∧ sitesInv c.1 l (Hear6_v4 d zr).2.2.1 ((0 :
 Int), vnil (Int × PUnit), ()) ∧ ∀ (y2 : kden Bool.false tI × kden Bool.true tyN × PUnit), sitesInv c.1 l (Hear6_v4 d zr).2.2.1 y2 → bif pLt y2.1 (pInt (pLen (Hear6_v4 d zr).2.2.1)) then pIn y2.1 (pLen (Hear6_v4 d zr).2.2.1) ∧ pNz c.1 ∧ bif
 pEq (Hear6_v10 d zr y2).1 l then Nat.le (Nat.succ (pLen y2.2.1)) 4611686018427387904 ∧ bif pNot (pGe (hasF y2.2.1 (pRem (Hear6_v10 d zr y2).2.1 c.1)) (0 : Int)) then pRoom (pPlus (pLen y2.2.1) (pLen ((pRem (Hear6_v10 d zr y2).2.1 c.1, ())
 :: vnil (Int × PUnit)))) 8 ∧ sitesInv c.1 l (Hear6_v4 d zr).2.2.1 (Hear6_v11 c d zr y2) ∧ Nat.le (Nat.succ (sitesMu c.1 l (Hear6_v4 d zr).2.2.1 (Hear6_v11 c d zr y2))) (sitesMu c.1 l (Hear6_v4 d zr).2.2.1 y2) else Hear6_t12 c l d zr y2 else
 Hear6_t12 c l d zr y2 else Nat.le (Nat.succ (pLen y2.2.1)) 12 ∧ pLen (sortN y2.2.1) = pLen y2.2.1 ∧ kendXInv (Hear6_v13 c l m d zr) (Hear6_v14 c l m d zr).1 (sortN y2.2.1) ((0 : Int), (c.1, c.2.1, c.2.2.1, l, m, d.1, (), Hear6_v15 m d zr),
 ()) ∧ ∀ (y3 : kden Bool.false tI × denCells (kWorkX 1) × PUnit), kendXInv (Hear6_v13 c l m d zr) (Hear6_v14 c l m d zr).1 (sortN y2.2.1) y3 → bif pLt y3.1 (pInt (pLen (sortN y2.2.1))) then pIn y3.1 (pLen (sortN y2.2.1)) ∧ pRoom (pPlus (pLen
 (Hear6_v16 y3).1) (pLen (Hear6_v17 c l m d zr y2 y3))) 96 ∧ pIn (pSubI IntKind.i64 (pInt (pLen (pApp (Hear6_v16 y3).1 (Hear6_v17 c l m d zr y2 y3)))) (1 : Int)) (pLen (pApp (Hear6_v16 y3).1 (Hear6_v17 c l m d zr y2 y3))) ∧ kendXInv
 (Hear6_v13 c l m d zr) (Hear6_v14 c l m d zr).1 (sortN y2.2.1) (Hear6_v18 c l m d zr y2 y3) ∧ Nat.le (Nat.succ (kendXMu (Hear6_v13 c l m d zr) (Hear6_v14 c l m d zr).1 (sortN y2.2.1) (Hear6_v18 c l m d zr y2 y3))) (kendXMu (Hear6_v13 c l m
 d zr) (Hear6_v14 c l m d zr).1 (sortN y2.2.1) y3) else pIn (Hear6_v3 d zr) (pLen (Hear6_v20 c l m d zr)) ∧ pAdd IntKind.i64 (Hear6_v3 d zr) (1 : Int) = pAdd IntKind.i64 (Hear6_v3 d zr) (1 : Int) ∧ Nat.le (Nat.succ (pLen (Hear6_v20 c l m d
 zr))) 4611686018427387904 ∧ ((y3.2.1.2.2.2.2.2.1, pDel (Hear6_v20 c l m d zr) (pNat (Hear6_v3 d zr)), Hear6_v16 y3), (0 : Int), ()) = Hear6_v1 c l m d zr else bif pNe zr.2.2.2.2.2.2.2.2.2.2.1 (0 : Int) then pNat (Hear6_v3 d zr) = pNat
 (Hear6_v3 d zr) ∧ pTo (Hear6_v5 d zr) (pLen (Hear6_v4 d zr).2.2.1) ∧ pNat (Hear6_v3 d zr) = pNat (Hear6_v3 d zr) ∧ pLen (Hear6_v9 c l m d zr) = pLen d.2.1 ∧ ((d.1, pSet (Hear6_v9 c l m d zr) (pNat (Hear6_v3 d zr)) ((Hear6_v14 c l m d zr).1,
 (Hear6_v14 c l m d zr).2.1, pSub (Hear6_v4 d zr).2.2.1 0 (pNat (Hear6_v5 d zr)), Hear6_v19 c l m d zr), Hear6_v15 m d zr), (0 : Int), ()) = Hear6_v1 c l m d zr else pLen (Hear6_v9 c l m d zr) = pLen d.2.1 ∧ ((d.1, pSet (Hear6_v9 c l m d zr)
 (pNat (Hear6_v3 d zr)) ((Hear6_v14 c l m d zr).1, (Hear6_v14 c l m d zr).2.1, pSet (Hear6_v4 d zr).2.2.1 (pNat (Hear6_v5 d zr)) ((Hear6_v7 d zr).1, (Hear6_v7 d zr).2.1, (Hear6_v7 d zr).2.2.1, (Hear6_v7 d zr).2.2.2.1, (Hear6_v7 d
 zr).2.2.2.2.1, (Hear6_v7 d zr).2.2.2.2.2.1, Bool.true, (Hear6_v7 d zr).2.2.2.2.2.2.2), Hear6_v19 c l m d zr), Hear6_v15 m d zr), (0 : Int), ()) = Hear6_v1 c l m d zr
set_option maxRecDepth 100000 in
theorem Hear6_meets (hCheckMessage0 : MtG tabsM 12 cCheckMessage0) (ikbeginN : MeetsK Tryd.prog tabsM 11 false kkbeginN) (ikplace : MeetsK Tryd.prog tabsM 13 false kkplace) (ikanswered : MeetsK Tryd.prog tabsM 15 false kkanswered) (h : ∀ (c : CfgD) (l : Int) (m : Int) (d : DeskD) (zr : MsgR), (∀ p ∈ Hear6_p ⟨(c, l, m, d, ((6 : Int), zr), ()), ()⟩, p) → Hear6_VC c l m d zr) : MtG tabsM 5 cHear6 :=
  meets_vcAt (E := envI Tryd.prog tabsM [(12, (false, cCheckMessage0))] [(11, (false, kkbeginN)), (13, (false, kkplace)), (15, (false, kkanswered))] eqsCjV [(25, [2, 3])] [] false) (envI_ok (fun p hp => (by simp only [List.mem_cons, List.not_mem_nil, or_false] at hp; rcases hp with rfl; exact hCheckMessage0)) (fun p hp => (by simp only [List.mem_cons, List.not_mem_nil, or_false] at hp; rcases hp with rfl | rfl | rfl; exact ikbeginN; exact ikplace; exact ikanswered)) (by kernel_rfl)) Hear_S (fun b => fun ky9 st9 => look [] ky9) Tryd.func5 (by kernel_rfl) (by kernel_rfl) Hear6_p [] [.agg 0 kTurn, .slot 1 false tI] Hear5_f (fun b : (CfgD) × (Int) × (Int) × (DeskD) × (MsgR) => ⟨(b.1, b.2.1, b.2.2.1, b.2.2.2.1, ((6 : Int), b.2.2.2.2), ()), ()⟩) (fun b => Hear6_VC b.1 b.2.1 b.2.2.1 b.2.2.2.1 b.2.2.2.2) (fun b => by kernel_rfl) (by
    rintro ⟨⟨c, l, m, d, ⟨zk, zr⟩, ⟨⟩⟩, ⟨⟩⟩ hp
    have e : zk = (6 : Int) := hp _ List.mem_cons_self
    subst e
    exact ⟨(c, l, m, d, zr), rfl⟩) (fun b hp => h b.1 b.2.1 b.2.2.1 b.2.2.2.1 b.2.2.2.2 hp)

abbrev Hear7_v0 := (vnil (Int × Int × Int × Int × Int × Int × Int × Int × Int × Int × Bool × Int × PUnit), vnil (Int × Int × Int × Int × Int × Int × Bool × List (Int × PUnit) × PUnit), vnil (Int × Int × Int × Int × Int × Int × PUnit), (0 : Int), (0 : Int),
 ())
abbrev Hear7_v1 (c : CfgD) (l : Int) (m : Int) (d : DeskD) (zr : MsgR) := (heaT c l m d ((7 : Int), zr), heaE c l m d ((7 : Int), zr), ())
abbrev Hear7_t2 (c : CfgD) (l : Int) (m : Int) (d : DeskD) (zr : MsgR) : Prop := (((0 : Int), vnil (Int × Int × List (Bool × Int × Int × Int × Int × Int × Bool × Bool × PUnit) × List (Int × PUnit) × Int × Int × PUnit), Hear7_v0), (2 : Int), ()) = Hear7_v1 c l m d zr
abbrev Hear7_v3 (d : DeskD) (zr : MsgR) := idxKeyJ d.2.1 zr.2.2.2.1
abbrev Hear7_t4 (c : CfgD) (l : Int) (m : Int) (d : DeskD) (zr : MsgR) : Prop := ((d.1, d.2.1, Hear7_v0), (0 : Int), ()) = Hear7_v1 c l m d zr
abbrev Hear7_v5 (d : DeskD) (zr : MsgR) := pGet tyJob d.2.1 (pNat (Hear7_v3 d zr))
abbrev Hear7_v6 (y2 : kden Bool.false tI × kden Bool.false Ty.bool × kden Bool.false Ty.bool × List (Ty.den tyTask) × PUnit) := pGet tyTask y2.2.2.2.1 (pNat y2.1)
abbrev Hear7_v7 (y2 : kden Bool.false tI × kden Bool.false Ty.bool × kden Bool.false Ty.bool × List (Ty.den tyTask) × PUnit) := pSet y2.2.2.2.1 (pNat y2.1) ((Hear7_v6 y2).1, (Hear7_v6 y2).2.1, (Hear7_v6 y2).2.2.1, (Hear7_v6 y2).2.2.2.1, (Hear7_v6 y2).2.2.2.2.1, (Hear7_v6 y2).2.2.2.2.2.1, (Hear7_v6 y2).2.2.2.2.2.2.1, Bool.true, ())
abbrev Hear7_v8 (d : DeskD) (zr : MsgR) (y2 : kden Bool.false tI × kden Bool.false Ty.bool × kden Bool.false Ty.bool × List (Ty.den tyTask) × PUnit) := sureMu ((7 : Int), zr) (Hear7_v5 d zr).2.2.1 y2
abbrev Hear7_v9 (y2 : kden Bool.false tI × kden Bool.false Ty.bool × kden Bool.false Ty.bool × List (Ty.den tyTask) × PUnit) := pGet tyTask (Hear7_v7 y2) (pNat y2.1)
abbrev Hear7_v10 (_ : CfgD) (_ : Int) (_ : Int) (_ : DeskD) (_ : MsgR) (y2 : kden Bool.false tI × kden Bool.false Ty.bool × kden Bool.false Ty.bool × List (Ty.den tyTask) × PUnit) := (pAdd IntKind.i64 y2.1 (1 : Int), Bool.true, pNot (Hear7_v9 y2).2.2.2.2.2.2.2.1, Hear7_v7 y2, ())
abbrev Hear7_v11 (zr : MsgR) (y2 : kden Bool.false tI × kden Bool.false Ty.bool × kden Bool.false Ty.bool × List (Ty.den tyTask) × PUnit) := pSet y2.2.2.2.1 (pNat y2.1) ((Hear7_v6 y2).1, (Hear7_v6 y2).2.1, (Hear7_v6 y2).2.2.1, (Hear7_v6 y2).2.2.2.1, (Hear7_v6 y2).2.2.2.2.1, (Hear7_v6 y2).2.2.2.2.2.1, (Hear7_v6 y2).2.2.2.2.2.2.1, zr.2.2.2.2.2.2.2.2.2.1, ())
abbrev Hear7_v12 (zr : MsgR) (y2 : kden Bool.false tI × kden Bool.false Ty.bool × kden Bool.false Ty.bool × List (Ty.den tyTask) × PUnit) := pGet tyTask (Hear7_v11 zr y2) (pNat y2.1)
abbrev Hear7_v13 (_ : CfgD) (_ : Int) (_ : Int) (_ : DeskD) (zr : MsgR) (y2 : kden Bool.false tI × kden Bool.false Ty.bool × kden Bool.false Ty.bool × List (Ty.den tyTask) × PUnit) := (pAdd IntKind.i64 y2.1 (1 : Int), Bool.true, pNot (Hear7_v12 zr y2).2.2.2.2.2.2.2.1, Hear7_v11 zr y2, ())
abbrev Hear7_v14 (_ : CfgD) (_ : Int) (_ : Int) (_ : DeskD) (_ : MsgR) (y2 : kden Bool.false tI × kden Bool.false Ty.bool × kden Bool.false Ty.bool × List (Ty.den tyTask) × PUnit) := (pAdd IntKind.i64 y2.1 (1 : Int), y2.2.1, pNot (Hear7_v6 y2).2.2.2.2.2.2.2.1, y2.2.2.2)
abbrev Hear7_v15 (c : CfgD) (l : Int) (m : Int) (d : DeskD) (zr : MsgR) (y2 : kden Bool.false tI × kden Bool.false Ty.bool × kden Bool.false Ty.bool × List (Ty.den tyTask) × PUnit) := bif y2.2.2.1 then sureInv ((7 : Int), zr) (Hear7_v5 d zr).2.2.1 (pAdd IntKind.i64 y2.1 (1 : Int), y2.2.1, Bool.true, y2.2.2.2) ∧ Nat.le (Nat.succ (sureMu ((7 : Int), zr) (Hear7_v5 d zr).2.2.1 (pAdd IntKind.i64 y2.1 (1 : Int), y2.2.1,
 Bool.true, y2.2.2.2))) (Hear7_v8 d zr y2) else bif pNot (Hear7_v6 y2).1 then sureInv ((7 : Int), zr) (Hear7_v5 d zr).2.2.1 (Hear7_v14 c l m d zr y2) ∧ Nat.le (Nat.succ (sureMu ((7 : Int), zr) (Hear7_v5 d zr).2.2.1 (Hear7_v14 c l m d zr
 y2))) (Hear7_v8 d zr y2) else sureInv ((7 : Int), zr) (Hear7_v5 d zr).2.2.1 (pAdd IntKind.i64 y2.1 (1 : Int), y2.2.1, Bool.false, y2.2.2.2) ∧ Nat.le (Nat.succ (sureMu ((7 : Int), zr) (Hear7_v5 d zr).2.2.1 (pAdd IntKind.i64 y2.1 (1 : Int),
 y2.2.1, Bool.false, y2.2.2.2))) (Hear7_v8 d zr y2)
abbrev Hear7_v16 (d : DeskD) (zr : MsgR) (y2 : kden Bool.false tI × kden Bool.false Ty.bool × kden Bool.false Ty.bool × List (Ty.den tyTask) × PUnit) := ((Hear7_v5 d zr).1, (Hear7_v5 d zr).2.1, y2.2.2.2.1, (Hear7_v5 d zr).2.2.2)
abbrev Hear7_t17 (c : CfgD) (l : Int) (m : Int) (d : DeskD) (zr : MsgR) (y2 : kden Bool.false tI × kden Bool.false Ty.bool × kden Bool.false Ty.bool × List (Ty.den tyTask) × PUnit) : Prop := pLen d.2.1 = pLen d.2.1 ∧ ((d.1, pSet d.2.1 (pNat (Hear7_v3 d zr)) (Hear7_v16 d zr y2), Hear7_v0), (0 : Int), ()) = Hear7_v1 c l m d zr
abbrev Hear7_v18 (y2 : kden Bool.false tI × kden Bool.false Ty.bool × kden Bool.false Ty.bool × List (Ty.den tyTask) × PUnit) (y6 : kden Bool.false tI × kden Bool.true tyN × PUnit) := (pGet tyTask y2.2.2.2.1 (pNat y6.1)).2
abbrev Hear7_v19 (c : CfgD) (y2 : kden Bool.false tI × kden Bool.false Ty.bool × kden Bool.false Ty.bool × List (Ty.den tyTask) × PUnit) (y6 : kden Bool.false tI × kden Bool.true tyN × PUnit) := (pAdd IntKind.i64 y6.1 (1 : Int), pApp y6.2.1 ((pRem (Hear7_v18 y2 y6).2.1 c.1, ()) :: vnil (Int × PUnit)), ())
abbrev Hear7_t20 (c : CfgD) (l : Int) (y2 : kden Bool.false tI × kden Bool.false Ty.bool × kden Bool.false Ty.bool × List (Ty.den tyTask) × PUnit) (y6 : kden Bool.false tI × kden Bool.true tyN × PUnit) : Prop := sitesInv c.1 l y2.2.2.2.1 (pAdd IntKind.i64 y6.1 (1 : Int), y6.2) ∧ Nat.le (Nat.succ (sitesMu c.1 l y2.2.2.2.1 (pAdd IntKind.i64 y6.1 (1 : Int), y6.2))) (sitesMu c.1 l y2.2.2.2.1 y6)
abbrev Hear7_v21 (c : CfgD) (l : Int) (m : Int) (d : DeskD) (zr : MsgR) := (c.1, c.2.1, c.2.2.1, l, m, d.1, vnil (Int × Int × Int × Int × Int × Int × Int × Int × Int × Int × Bool × Int × PUnit), vnil (Int × Int × Int × Int × Int × Int × Bool × List (Int × PUnit) × PUnit), pApp (vnil (Int × Int × Int × Int × Int ×
 Int × PUnit)) ((m, (4 : Int), (Hear7_v5 d zr).1, (0 : Int), (0 : Int), (11 : Int), ()) :: vnil (Int × Int × Int × Int × Int × Int × PUnit)), (0 : Int), (0 : Int), ())
abbrev Hear7_v22 (y7 : kden Bool.false tI × denCells (kWorkX 1) × PUnit) := y7.2.1.2.2.2.2.2.2.2
abbrev Hear7_v23 (d : DeskD) (zr : MsgR) (y6 : kden Bool.false tI × kden Bool.true tyN × PUnit) (y7 : kden Bool.false tI × denCells (kWorkX 1) × PUnit) := ((4 : Int), y7.2.1.2.2.2.2.1, (pGet tyN (sortN y6.2.1) (pNat y7.1)).1, y7.2.1.2.2.2.2.1, (Hear7_v5 d zr).1, (0 : Int), (0 : Int), (0 : Int), (0 : Int), (0 : Int), Bool.false, (0 : Int), ()) :: vnil (Int × Int × Int × Int × Int × Int × Int ×
 Int × Int × Int × Bool × Int × PUnit)
abbrev Hear7_v24 (_ : CfgD) (_ : Int) (_ : Int) (d : DeskD) (zr : MsgR) (_ : kden Bool.false tI × kden Bool.false Ty.bool × kden Bool.false Ty.bool × List (Ty.den tyTask) × PUnit) (y6 : kden Bool.false tI × kden Bool.true tyN × PUnit) (y7 : kden Bool.false tI × denCells (kWorkX 1) × PUnit) := (pAdd IntKind.i64 y7.1 (1 : Int), (y7.2.1.1, y7.2.1.2.1, y7.2.1.2.2.1, y7.2.1.2.2.2.1, y7.2.1.2.2.2.2.1, y7.2.1.2.2.2.2.2.1, (), pApp (Hear7_v22 y7).1 (Hear7_v23 d zr y6 y7), (Hear7_v22 y7).2), ())
abbrev Hear7_v25 (y2 : kden Bool.false tI × kden Bool.false Ty.bool × kden Bool.false Ty.bool × List (Ty.den tyTask) × PUnit) (y3 : kden Bool.false tI × kden Bool.true tyN × PUnit) := (pGet tyTask y2.2.2.2.1 (pNat y3.1)).2
abbrev Hear7_v26 (c : CfgD) (y2 : kden Bool.false tI × kden Bool.false Ty.bool × kden Bool.false Ty.bool × List (Ty.den tyTask) × PUnit) (y3 : kden Bool.false tI × kden Bool.true tyN × PUnit) := (pAdd IntKind.i64 y3.1 (1 : Int), pApp y3.2.1 ((pRem (Hear7_v25 y2 y3).2.1 c.1, ()) :: vnil (Int × PUnit)), ())
abbrev Hear7_t27 (c : CfgD) (l : Int) (y2 : kden Bool.false tI × kden Bool.false Ty.bool × kden Bool.false Ty.bool × List (Ty.den tyTask) × PUnit) (y3 : kden Bool.false tI × kden Bool.true tyN × PUnit) : Prop := sitesInv c.1 l y2.2.2.2.1 (pAdd IntKind.i64 y3.1 (1 : Int), y3.2) ∧ Nat.le (Nat.succ (sitesMu c.1 l y2.2.2.2.1 (pAdd IntKind.i64 y3.1 (1 : Int), y3.2))) (sitesMu c.1 l y2.2.2.2.1 y3)
abbrev Hear7_v28 (m : Int) (d : DeskD) (zr : MsgR) := (pApp (vnil (Int × Int × Int × Int × Int × Int × PUnit)) ((m, (4 : Int), (Hear7_v5 d zr).1, (0 : Int), (0 : Int), (0 : Int), ()) :: vnil (Int × Int × Int × Int × Int × Int × PUnit)), (0 : Int), (Hear7_v5 d zr).1, ())
abbrev Hear7_v29 (m : Int) (d : DeskD) (zr : MsgR) (y3 : kden Bool.false tI × kden Bool.true tyN × PUnit) := ((3 : Int), m, (Hear7_v5 d zr).1, (0 : Int), (0 : Int), (0 : Int), Bool.false, sortN y3.2.1, ()) :: vnil (Int × Int × Int × Int × Int × Int × Bool × List (Int × PUnit) × PUnit)
abbrev Hear7_v30 (m : Int) (d : DeskD) (zr : MsgR) := (pApp (vnil (Int × Int × Int × Int × Int × Int × PUnit)) ((m, (4 : Int), (Hear7_v5 d zr).1, (0 : Int), (0 : Int), (0 : Int), ()) :: vnil (Int × Int × Int × Int × Int × Int × PUnit)), (0 : Int), (Hear7_v5 d zr).1, ())
abbrev Hear7_v31 (c : CfgD) (l : Int) (m : Int) (d : DeskD) (zr : MsgR) (y3 : kden Bool.false tI × kden Bool.true tyN × PUnit) := (c.1, c.2.1, c.2.2.1, l, m, d.1, vnil (Int × Int × Int × Int × Int × Int × Int × Int × Int × Int × Bool × Int × PUnit), pApp (vnil (Int × Int × Int × Int × Int × Int × Bool × List (Int × PUnit) × PUnit)) (Hear7_v29 m d zr y3), Hear7_v30 m d
 zr)
abbrev Hear7_v32 (_ : CfgD) (_ : Int) (_ : Int) (d : DeskD) (zr : MsgR) := pSet d.2.1 (pNat (Hear7_v3 d zr)) ((Hear7_v5 d zr).1, (3 : Int), (Hear7_v5 d zr).2.2)
abbrev Hear7_v33 (c : CfgD) (l : Int) (m : Int) (d : DeskD) (zr : MsgR) := pGet tyJob (Hear7_v32 c l m d zr) (pNat (Hear7_v3 d zr))
abbrev Hear7_v34 (c : CfgD) (l : Int) (m : Int) (d : DeskD) (zr : MsgR) := ((Hear7_v33 c l m d zr).1, (Hear7_v33 c l m d zr).2.1, (Hear7_v33 c l m d zr).2.2.1, (Hear7_v33 c l m d zr).2.2.2.1, (Hear7_v33 c l m d zr).2.2.2.2.1, (0 : Int), ())
abbrev Hear7_v35 (c : CfgD) (l : Int) (m : Int) (d : DeskD) (zr : MsgR) (_ : kden Bool.false tI × kden Bool.false Ty.bool × kden Bool.false Ty.bool × List (Ty.den tyTask) × PUnit) := pGet tyJob (pSet (Hear7_v32 c l m d zr) (pNat (Hear7_v3 d zr)) (Hear7_v34 c l m d zr)) (pNat (Hear7_v3 d zr))
abbrev Hear7_v36 (c : CfgD) (l : Int) (m : Int) (d : DeskD) (zr : MsgR) (_ : kden Bool.false tI × kden Bool.false Ty.bool × kden Bool.false Ty.bool × List (Ty.den tyTask) × PUnit) := (pGet tyJob (pSet (Hear7_v32 c l m d zr) (pNat (Hear7_v3 d zr)) (Hear7_v34 c l m d zr)) (pNat (Hear7_v3 d zr))).1
abbrev Hear7_v37 (y5 : kden Bool.false tI × denCells (kWorkX 3) × PUnit) := y5.2.1.2.2.2.2.2.2.2
abbrev Hear7_v38 (c : CfgD) (l : Int) (m : Int) (d : DeskD) (zr : MsgR) (y2 : kden Bool.false tI × kden Bool.false Ty.bool × kden Bool.false Ty.bool × List (Ty.den tyTask) × PUnit) (y3 : kden Bool.false tI × kden Bool.true tyN × PUnit) (y5 : kden Bool.false tI × denCells (kWorkX 3) × PUnit) := ((4 : Int), y5.2.1.2.2.2.2.1, (pGet tyN (sortN y3.2.1) (pNat y5.1)).1, y5.2.1.2.2.2.2.1, (Hear7_v35 c l m d zr y2).1, (0 : Int), (0 : Int), (0 : Int), (0 : Int), (0 : Int), Bool.false, (0 : Int), ()) :: vnil (Int × Int × Int × Int × Int ×
 Int × Int × Int × Int × Int × Bool × Int × PUnit)
abbrev Hear7_v39 (c : CfgD) (l : Int) (m : Int) (d : DeskD) (zr : MsgR) (y2 : kden Bool.false tI × kden Bool.false Ty.bool × kden Bool.false Ty.bool × List (Ty.den tyTask) × PUnit) (y3 : kden Bool.false tI × kden Bool.true tyN × PUnit) (y5 : kden Bool.false tI × denCells (kWorkX 3) × PUnit) := pGet tyMsg (pApp (Hear7_v37 y5).1 (Hear7_v38 c l m d zr y2 y3 y5)) (pNat (pSubI IntKind.i64 (pInt (pLen (pApp (Hear7_v37 y5).1 (Hear7_v38 c l m d zr y2 y3 y5)))) (1 : Int)))
abbrev Hear7_v40 (c : CfgD) (l : Int) (m : Int) (d : DeskD) (zr : MsgR) (y2 : kden Bool.false tI × kden Bool.false Ty.bool × kden Bool.false Ty.bool × List (Ty.den tyTask) × PUnit) (y3 : kden Bool.false tI × kden Bool.true tyN × PUnit) (y5 : kden Bool.false tI × denCells (kWorkX 3) × PUnit) := (pAdd IntKind.i64 y5.1 (1 : Int), (y5.2.1.1, y5.2.1.2.1, y5.2.1.2.2.1, y5.2.1.2.2.2.1, y5.2.1.2.2.2.2.1, y5.2.1.2.2.2.2.2.1, (), pSet (pApp (Hear7_v37 y5).1 (Hear7_v38 c l m d zr y2 y3 y5)) (pNat (pSubI IntKind.i64 (pInt (pLen (pApp
 (Hear7_v37 y5).1 (Hear7_v38 c l m d zr y2 y3 y5)))) (1 : Int))) ((Hear7_v39 c l m d zr y2 y3 y5).1, (Hear7_v39 c l m d zr y2 y3 y5).2.1, (Hear7_v39 c l m d zr y2 y3 y5).2.2.1, (Hear7_v39 c l m d zr y2 y3 y5).2.2.2.1, (Hear7_v39 c l m d zr
 y2 y3 y5).2.2.2.2.1, (Hear7_v39 c l m d zr y2 y3 y5).2.2.2.2.2.1, (Hear7_v39 c l m d zr y2 y3 y5).2.2.2.2.2.2.1, (Hear7_v39 c l m d zr y2 y3 y5).2.2.2.2.2.2.2.1, (Hear7_v39 c l m d zr y2 y3 y5).2.2.2.2.2.2.2.2.1, (Hear7_v39 c l m d zr y2 y3
 y5).2.2.2.2.2.2.2.2.2.1, Bool.true, (Hear7_v39 c l m d zr y2 y3 y5).2.2.2.2.2.2.2.2.2.2.2), (Hear7_v37 y5).2), ())
abbrev Hear7_v41 (c : CfgD) (l : Int) (m : Int) (d : DeskD) (zr : MsgR) (y2 : kden Bool.false tI × kden Bool.false Ty.bool × kden Bool.false Ty.bool × List (Ty.den tyTask) × PUnit) (y3 : kden Bool.false tI × kden Bool.true tyN × PUnit) := pSet (pSet (Hear7_v32 c l m d zr) (pNat (Hear7_v3 d zr)) (Hear7_v34 c l m d zr)) (pNat (Hear7_v3 d zr)) ((Hear7_v35 c l m d zr y2).1, (Hear7_v35 c l m d zr y2).2.1, y2.2.2.2.1, sortN y3.2.1, (Hear7_v35 c l m d zr y2).2.2.2.2)
abbrev Hear7_v42 (c : CfgD) (l : Int) (m : Int) (d : DeskD) (zr : MsgR) := (c.1, c.2.1, c.2.2.1, l, m, d.1, vnil (Int × Int × Int × Int × Int × Int × Int × Int × Int × Int × Bool × Int × PUnit), vnil (Int × Int × Int × Int × Int × Int × Bool × List (Int × PUnit) × PUnit), Hear7_v30 m d zr)
abbrev Hear7_v43 (y4 : kden Bool.false tI × denCells (kWorkX 3) × PUnit) := y4.2.1.2.2.2.2.2.2.2
abbrev Hear7_v44 (c : CfgD) (l : Int) (m : Int) (d : DeskD) (zr : MsgR) (y2 : kden Bool.false tI × kden Bool.false Ty.bool × kden Bool.false Ty.bool × List (Ty.den tyTask) × PUnit) (y3 : kden Bool.false tI × kden Bool.true tyN × PUnit) (y4 : kden Bool.false tI × denCells (kWorkX 3) × PUnit) := ((4 : Int), y4.2.1.2.2.2.2.1, (pGet tyN (sortN y3.2.1) (pNat y4.1)).1, y4.2.1.2.2.2.2.1, (Hear7_v35 c l m d zr y2).1, (0 : Int), (0 : Int), (0 : Int), (0 : Int), (0 : Int), Bool.false, (0 : Int), ()) :: vnil (Int × Int × Int × Int × Int ×
 Int × Int × Int × Int × Int × Bool × Int × PUnit)
abbrev Hear7_v45 (c : CfgD) (l : Int) (m : Int) (d : DeskD) (zr : MsgR) (y2 : kden Bool.false tI × kden Bool.false Ty.bool × kden Bool.false Ty.bool × List (Ty.den tyTask) × PUnit) (y3 : kden Bool.false tI × kden Bool.true tyN × PUnit) (y4 : kden Bool.false tI × denCells (kWorkX 3) × PUnit) := pGet tyMsg (pApp (Hear7_v43 y4).1 (Hear7_v44 c l m d zr y2 y3 y4)) (pNat (pSubI IntKind.i64 (pInt (pLen (pApp (Hear7_v43 y4).1 (Hear7_v44 c l m d zr y2 y3 y4)))) (1 : Int)))
abbrev Hear7_v46 (c : CfgD) (l : Int) (m : Int) (d : DeskD) (zr : MsgR) (y2 : kden Bool.false tI × kden Bool.false Ty.bool × kden Bool.false Ty.bool × List (Ty.den tyTask) × PUnit) (y3 : kden Bool.false tI × kden Bool.true tyN × PUnit) (y4 : kden Bool.false tI × denCells (kWorkX 3) × PUnit) := (pAdd IntKind.i64 y4.1 (1 : Int), (y4.2.1.1, y4.2.1.2.1, y4.2.1.2.2.1, y4.2.1.2.2.2.1, y4.2.1.2.2.2.2.1, y4.2.1.2.2.2.2.2.1, (), pSet (pApp (Hear7_v43 y4).1 (Hear7_v44 c l m d zr y2 y3 y4)) (pNat (pSubI IntKind.i64 (pInt (pLen (pApp
 (Hear7_v43 y4).1 (Hear7_v44 c l m d zr y2 y3 y4)))) (1 : Int))) ((Hear7_v45 c l m d zr y2 y3 y4).1, (Hear7_v45 c l m d zr y2 y3 y4).2.1, (Hear7_v45 c l m d zr y2 y3 y4).2.2.1, (Hear7_v45 c l m d zr y2 y3 y4).2.2.2.1, (Hear7_v45 c l m d zr
 y2 y3 y4).2.2.2.2.1, (Hear7_v45 c l m d zr y2 y3 y4).2.2.2.2.2.1, (Hear7_v45 c l m d zr y2 y3 y4).2.2.2.2.2.2.1, (Hear7_v45 c l m d zr y2 y3 y4).2.2.2.2.2.2.2.1, (Hear7_v45 c l m d zr y2 y3 y4).2.2.2.2.2.2.2.2.1, (Hear7_v45 c l m d zr y2 y3
 y4).2.2.2.2.2.2.2.2.2.1, Bool.true, (Hear7_v45 c l m d zr y2 y3 y4).2.2.2.2.2.2.2.2.2.2.2), (Hear7_v43 y4).2), ())

def Hear7_VC (c : CfgD) (l : Int) (m : Int) (d : DeskD) (zr : MsgR) : Prop :=
  Nat.le (Nat.succ (pLen c.2.1)) 4611686018427387904 ∧ Nat.le (Nat.succ (pLen d.2.1)) 4611686018427387904 ∧ (∀ (q0 : Int × Int × List (Bool × Int × Int × Int × Int × Int × Bool × Bool × PUnit) × List (Int × PUnit) × Int × Int × PUnit),
 List.Mem q0 d.2.1 → Nat.le (Nat.succ (pLen q0.2.2.1)) 4611686018427387904 ∧ Nat.le (Nat.succ (pLen q0.2.2.2.1)) 4611686018427387904) ∧ bif pNe (deskF c d) (0 : Int) then bif pNe (deskF c d) (0 : Int) then (((0 : Int), vnil (Int × Int × List
 (Bool × Int × Int × Int × Int × Int × Bool × Bool × PUnit) × List (Int × PUnit) × Int × Int × PUnit), Hear7_v0), deskF c d, ()) = Hear7_v1 c l m d zr else Nat.le (Nat.succ (pLen c.2.1)) 4611686018427387904 ∧ msgF c ((7 : Int), zr) = (0 :
 Int) ∧ bif pNe zr.2.1 m then Hear7_t2 c l m d zr else bif pNe zr.2.2.1 m then Hear7_t2 c l m d zr else False else bif pLt l (0 : Int) then (((0 : Int), vnil (Int × Int × List (Bool × Int × Int × Int × Int × Int × Bool × Bool × PUnit) × List
 (Int × PUnit) × Int × Int × PUnit), Hear7_v0), (6 : Int), ()) = Hear7_v1 c l m d zr else bif pGe l (pInt (pLen c.2.1)) then (((0 : Int), vnil (Int × Int × List (Bool × Int × Int × Int × Int × Int × Bool × Bool × PUnit) × List (Int × PUnit)
 × Int × Int × PUnit), Hear7_v0), (6 : Int), ()) = Hear7_v1 c l m d zr else bif pLt m (0 : Int) then Hear7_t2 c l m d zr else bif pGe m c.1 then Hear7_t2 c l m d zr else pRoom (pLen d.2.1) 80 ∧ (∀ (q1 : Int × Int × List (Bool × Int × Int ×
 Int × Int × Int × Bool × Bool × PUnit) × List (Int × PUnit) × Int × Int × PUnit), List.Mem q1 d.2.1 → pRoom (pLen q1.2.2.1) 56 ∧ pRoom (pLen q1.2.2.2.1) 8) ∧ Nat.le (Nat.succ (pLen d.2.1)) 4611686018427387904 ∧ Nat.le (Nat.succ (pLen
 c.2.1)) 4611686018427387904 ∧ msgF c ((7 : Int), zr) = (0 : Int) ∧ bif pNe zr.2.1 m then Hear7_t2 c l m d zr else bif pNe zr.2.2.1 m then Hear7_t2 c l m d zr else Nat.le (Nat.succ (pLen d.2.1)) 4611686018427387904 ∧ bif pLt (Hear7_v3 d zr)
 (0 : Int) then Hear7_t4 c l m d zr else pIn (Hear7_v3 d zr) (pLen d.2.1) ∧ bif pNe (Hear7_v5 d zr).2.1 (2 : Int) then Hear7_t4 c l m d zr else pNz c.1 ∧ bif pNe zr.1 (pRem zr.2.2.2.2.2.1 c.1) then Hear7_t4 c l m d zr else sureInv ((7 :
 Int), zr) (Hear7_v5 d zr).2.2.1 ((0 : Int), Bool.false, Bool.false, (Hear7_v5 d zr).2.2.1, ()) ∧ ∀ (y2 : kden Bool.false tI × kden Bool.false Ty.bool × kden Bool.false Ty.bool × List (Ty.den tyTask) × PUnit), sureInv ((7 : Int), zr)
 (Hear7_v5 d zr).2.2.1 y2 → bif pLt y2.1 (pInt (pLen (Hear7_v5 d zr).2.2.1)) then pNat (Hear7_v3 d zr) = pNat (Hear7_v3 d zr) ∧ pIn y2.1 (pLen y2.2.2.2.1) ∧ bif pNot (Hear7_v6 y2).1 then bif pEq (Hear7_v6 y2).2.1 zr.2.2.2.2.1 then bif pEq
 (Hear7_v6 y2).2.2.1 zr.2.2.2.2.2.1 then bif pEq (Hear7_v6 y2).2.2.2.2.1 zr.2.2.2.2.2.2.2.1 then bif (Hear7_v6 y2).2.2.2.2.2.2.2.1 then bif y2.2.2.1 then sureInv ((7 : Int), zr) (Hear7_v5 d zr).2.2.1 (pAdd IntKind.i64 y2.1 (1 : Int),
 Bool.true, Bool.true, Hear7_v7 y2, ()) ∧ Nat.le (Nat.succ (sureMu ((7 : Int), zr) (Hear7_v5 d zr).2.2.1 (pAdd IntKind.i64 y2.1 (1 : Int), Bool.true, Bool.true, Hear7_v7 y2, ()))) (Hear7_v8 d zr y2) else bif pNot (Hear7_v9 y2).1 then sureInv
 ((7 : Int), zr) (Hear7_v5 d zr).2.2.1 (Hear7_v10 c l m d zr y2) ∧ Nat.le (Nat.succ (sureMu ((7 : Int), zr) (Hear7_v5 d zr).2.2.1 (Hear7_v10 c l m d zr y2))) (Hear7_v8 d zr y2) else sureInv ((7 : Int), zr) (Hear7_v5 d zr).2.2.1 (pAdd
 IntKind.i64 y2.1 (1 : Int), Bool.true, Bool.false, Hear7_v7 y2, ()) ∧ Nat.le (Nat.succ (sureMu ((7 : Int), zr) (Hear7_v5 d zr).2.2.1 (pAdd IntKind.i64 y2.1 (1 : Int), Bool.true, Bool.false, Hear7_v7 y2, ()))) (Hear7_v8 d zr y2) else bif
 y2.2.2.1 then sureInv ((7 : Int), zr) (Hear7_v5 d zr).2.2.1 (pAdd IntKind.i64 y2.1 (1 : Int), Bool.true, Bool.true, Hear7_v11 zr y2, ()) ∧ Nat.le (Nat.succ (sureMu ((7 : Int), zr) (Hear7_v5 d zr).2.2.1 (pAdd IntKind.i64 y2.1 (1 : Int),
 Bool.true, Bool.true, Hear7_v11 zr y2, ()))) (Hear7_v8 d zr y2) else bif pNot (Hear7_v12 zr y2).1 then sureInv ((7 : Int), zr) (Hear7_v5 d zr).2.2.1 (Hear7_v13 c l m d zr y2) ∧ Nat.le (Nat.succ (sureMu ((7 : Int), zr) (Hear7_v5 d zr).2.2.1
 (Hear7_v13 c l m d zr y2))) (Hear7_v8 d zr y2) else sureInv ((7 : Int), zr) (Hear7_v5 d zr).2.2.1 (pAdd IntKind.i64 y2.1 (1 : Int), Bool.true, Bool.false, Hear7_v11 zr y2, ()) ∧ Nat.le (Nat.succ (sureMu ((7 : Int), zr) (Hear7_v5 d zr).2.2.1
 (pAdd IntKind.i64 y2.1 (1 : Int), Bool.true, Bool.false, Hear7_v11 zr y2, ()))) (Hear7_v8 d zr y2) else Hear7_v15 c l m d zr y2 else Hear7_v15 c l m d zr y2 else Hear7_v15 c l m d zr y2 else Hear7_v15 c l m d zr y2 else bif pNot y2.2.1 then
 Hear7_t17 c l m d zr y2 else bif pNot zr.2.2.2.2.2.2.2.2.2.1 then pRoom (pPlus (pLen (vnil (Int × Int × Int × Int × Int × Int × PUnit))) (pLen ((m, (4 : Int), (Hear7_v5 d zr).1, (0 : Int), (0 : Int), (11 : Int), ()) :: vnil (Int × Int × Int
 × Int × Int × Int × PUnit)))) 48 ∧ pIn (Hear7_v3 d zr) (pLen d.2.1) ∧ pNat (Hear7_v3 d zr) = pNat (Hear7_v3 d zr) ∧ sitesInv c.1 l y2.2.2.2.1 ((0 : Int), vnil (Int × PUnit), ()) ∧ ∀ (y6 : kden Bool.false tI × kden Bool.true tyN × PUnit),
 sitesInv c.1 l y2.2.2.2.1 y6 → bif pLt y6.1 (pInt (pLen y2.2.2.2.1)) then pIn y6.1 (pLen y2.2.2.2.1) ∧ pNz c.1 ∧ bif pEq (Hear7_v18 y2 y6).1 l then Nat.le (Nat.succ (pLen y6.2.1)) 4611686018427387904 ∧ bif pNot (pGe (hasF y6.2.1 (pRem
 (Hear7_v18 y2 y6).2.1 c.1)) (0 : Int)) then pRoom (pPlus (pLen y6.2.1) (pLen ((pRem (Hear7_v18 y2 y6).2.1 c.1, ()) :: vnil (Int × PUnit)))) 8 ∧ sitesInv c.1 l y2.2.2.2.1 (Hear7_v19 c y2 y6) ∧ Nat.le (Nat.succ (sitesMu c.1 l y2.2.2.2.1
 (Hear7_v19 c y2 y6))) (sitesMu c.1 l y2.2.2.2.1 y6) else Hear7_t20 c l y2 y6 else Hear7_t20 c l y2 y6 else Nat.le (Nat.succ (pLen y6.2.1)) 12 ∧ pLen (sortN y6.2.1) = pLen y6.2.1 ∧ kendXInv (Hear7_v21 c l m d zr) (Hear7_v5 d zr).1 (sortN
 y6.2.1) ((0 : Int), (c.1, c.2.1, c.2.2.1, l, m, d.1, (), vnil (Int × Int × Int × Int × Int × Int × Int × Int × Int × Int × Bool × Int × PUnit), vnil (Int × Int × Int × Int × Int × Int × Bool × List (Int × PUnit) × PUnit), pApp (vnil (Int ×
 Int × Int × Int × Int × Int × PUnit)) ((m, (4 : Int), (Hear7_v5 d zr).1, (0 : Int), (0 : Int), (11 : Int), ()) :: vnil (Int × Int × Int × Int × Int × Int × PUnit)), (0 : Int), (0 : Int), ()), ()) ∧ ∀ (y7 : kden Bool.false tI × denCells
 (kWorkX 1) × PUnit), kendXInv (Hear7_v21 c l m d zr) (Hear7_v5 d zr).1 (sortN y6.2.1) y7 → bif pLt y7.1 (pInt (pLen (sortN y6.2.1))) then pIn y7.1 (pLen (sortN y6.2.1)) ∧ pRoom (pPlus (pLen (Hear7_v22 y7).1) (pLen (Hear7_v23 d zr y6 y7)))
 96 ∧ pIn (pSubI IntKind.i64 (pInt (pLen (pApp (Hear7_v22 y7).1 (Hear7_v23 d zr y6 y7)))) (1 : Int)) (pLen (pApp (Hear7_v22 y7).1 (Hear7_v23 d zr y6 y7))) ∧ kendXInv (Hear7_v21 c l m d zr) (Hear7_v5 d zr).1 (sortN y6.2.1) (Hear7_v24 c l m d
 zr y2 y6 y7) ∧ Nat.le (Nat.succ (kendXMu (Hear7_v21 c l m d zr) (Hear7_v5 d zr).1 (sortN y6.2.1) (Hear7_v24 c l m d zr y2 y6 y7))) (kendXMu (Hear7_v21 c l m d zr) (Hear7_v5 d zr).1 (sortN y6.2.1) y7) else pIn (Hear7_v3 d zr) (pLen (pSet
 d.2.1 (pNat (Hear7_v3 d zr)) (Hear7_v16 d zr y2))) ∧ pAdd IntKind.i64 (Hear7_v3 d zr) (1 : Int) = pAdd IntKind.i64 (Hear7_v3 d zr) (1 : Int) ∧ Nat.le (Nat.succ (pLen (pSet d.2.1 (pNat (Hear7_v3 d zr)) (Hear7_v16 d zr y2))))
 4611686018427387904 ∧ ((y7.2.1.2.2.2.2.2.1, pDel (pSet d.2.1 (pNat (Hear7_v3 d zr)) (Hear7_v16 d zr y2)) (pNat (Hear7_v3 d zr)), Hear7_v22 y7), (0 : Int), ()) = Hear7_v1 c l m d zr else bif pNot y2.2.2.1 then pIn (Hear7_v3 d zr) (pLen
 d.2.1) ∧ pNat (Hear7_v3 d zr) = pNat (Hear7_v3 d zr) ∧ sitesInv c.1 l y2.2.2.2.1 ((0 : Int), vnil (Int × PUnit), ()) ∧ ∀ (y3 : kden Bool.false tI × kden Bool.true tyN × PUnit), sitesInv c.1 l y2.2.2.2.1 y3 → bif pLt y3.1 (pInt (pLen
 y2.2.2.2.1)) then pIn y3.1 (pLen y2.2.2.2.1) ∧ pNz c.1 ∧ bif pEq (Hear7_v25 y2 y3).1 l then Nat.le (Nat.succ (pLen y3.2.1)) 4611686018427387904 ∧ bif pNot (pGe (hasF y3.2.1 (pRem (Hear7_v25 y2 y3).2.1 c.1)) (0 : Int)) then pRoom (pPlus
 (pLen y3.2.1) (pLen ((pRem (Hear7_v25 y2 y3).2.1 c.1, ()) :: vnil (Int × PUnit)))) 8 ∧ sitesInv c.1 l y2.2.2.2.1 (Hear7_v26 c y2 y3) ∧ Nat.le (Nat.succ (sitesMu c.1 l y2.2.2.2.1 (Hear7_v26 c y2 y3))) (sitesMu c.1 l y2.2.2.2.1 y3) else
 Hear7_t27 c l y2 y3 else Hear7_t27 c l y2 y3 else Nat.le (Nat.succ (pLen y3.2.1)) 12 ∧ pLen (sortN y3.2.1) = pLen y3.2.1 ∧ pRoom (pPlus (pLen (vnil (Int × Int × Int × Int × Int × Int × PUnit))) (pLen ((m, (4 : Int), (Hear7_v5 d zr).1, (0 :
 Int), (0 : Int), (0 : Int), ()) :: vnil (Int × Int × Int × Int × Int × Int × PUnit)))) 48 ∧ bif pEq (pInt (pLen (sortN y3.2.1))) (0 : Int) then pIn (Hear7_v3 d zr) (pLen (pSet d.2.1 (pNat (Hear7_v3 d zr)) (Hear7_v16 d zr y2))) ∧ pAdd
 IntKind.i64 (Hear7_v3 d zr) (1 : Int) = pAdd IntKind.i64 (Hear7_v3 d zr) (1 : Int) ∧ Nat.le (Nat.succ (pLen (pSet d.2.1 (pNat (Hear7_v3 d zr)) (Hear7_v16 d zr y2)))) 4611686018427387904 ∧ ((d.1, pDel (pSet d.2.1 (pNat (Hear7_v3 d zr))
 (Hear7_v16 d zr y2)) (pNat (Hear7_v3 d zr)), vnil (Int × Int × Int × Int × Int × Int × Int × Int × Int × Int × Bool × Int × PUnit), vnil (Int × Int × Int × Int × Int × Int × Bool × List (Int × PUnit) × PUnit), Hear7_v28 m d zr), (0 : Int),
 ()) = Hear7_v1 c l m d zr else pNat (Hear7_v3 d zr) = pNat (Hear7_v3 d zr) ∧ Nat.le (Nat.succ (pLen y2.2.2.2.1)) 4611686018427387904 ∧ bif pGe (anyWrite y2.2.2.2.1) (0 : Int) then pRoom (pLen (sortN y3.2.1)) 8 ∧ pRoom (pPlus (pLen (vnil
 (Int × Int × Int × Int × Int × Int × Bool × List (Int × PUnit) × PUnit))) (pLen (Hear7_v29 m d zr y3))) 80 ∧ pNat (Hear7_v3 d zr) = pNat (Hear7_v3 d zr) ∧ pNat (Hear7_v3 d zr) = pNat (Hear7_v3 d zr) ∧ tellXInv (Hear7_v31 c l m d zr y3)
 (Hear7_v35 c l m d zr y2).1 (sortN y3.2.1) ((0 : Int), (c.1, c.2.1, c.2.2.1, l, m, d.1, (), vnil (Int × Int × Int × Int × Int × Int × Int × Int × Int × Int × Bool × Int × PUnit), pApp (vnil (Int × Int × Int × Int × Int × Int × Bool × List
 (Int × PUnit) × PUnit)) (Hear7_v29 m d zr y3), Hear7_v28 m d zr), ()) ∧ ∀ (y5 : kden Bool.false tI × denCells (kWorkX 3) × PUnit), tellXInv (Hear7_v31 c l m d zr y3) (Hear7_v36 c l m d zr y2) (sortN y3.2.1) y5 → bif pLt y5.1 (pInt (pLen
 (sortN y3.2.1))) then pIn y5.1 (pLen (sortN y3.2.1)) ∧ pRoom (pPlus (pLen (Hear7_v37 y5).1) (pLen (Hear7_v38 c l m d zr y2 y3 y5))) 96 ∧ pIn (pSubI IntKind.i64 (pInt (pLen (pApp (Hear7_v37 y5).1 (Hear7_v38 c l m d zr y2 y3 y5)))) (1 : Int))
 (pLen (pApp (Hear7_v37 y5).1 (Hear7_v38 c l m d zr y2 y3 y5))) ∧ tellXInv (Hear7_v31 c l m d zr y3) (Hear7_v35 c l m d zr y2).1 (sortN y3.2.1) (Hear7_v40 c l m d zr y2 y3 y5) ∧ Nat.le (Nat.succ (tellXMu (Hear7_v31 c l m d zr y3) (Hear7_v35
 c l m d zr y2).1 (sortN y3.2.1) (Hear7_v40 c l m d zr y2 y3 y5))) (tellXMu (Hear7_v31 c l m d zr y3) (Hear7_v35 c l m d zr y2).1 (sortN y3.2.1) y5) else pLen (pSet (Hear7_v32 c l m d zr) (pNat (Hear7_v3 d zr)) (Hear7_v34 c l m d zr)) = pLen
 d.2.1 ∧ pLen (pSet (Hear7_v32 c l m d zr) (pNat (Hear7_v3 d zr)) (Hear7_v34 c l m d zr)) = pLen d.2.1 ∧ ((y5.2.1.2.2.2.2.2.1, Hear7_v41 c l m d zr y2 y3, Hear7_v37 y5), (0 : Int), ()) = Hear7_v1 c l m d zr else pNat (Hear7_v3 d zr) = pNat
 (Hear7_v3 d zr) ∧ pNat (Hear7_v3 d zr) = pNat (Hear7_v3 d zr) ∧ tellXInv (Hear7_v42 c l m d zr) (Hear7_v35 c l m d zr y2).1 (sortN y3.2.1) ((0 : Int), (c.1, c.2.1, c.2.2.1, l, m, d.1, (), vnil (Int × Int × Int × Int × Int × Int × Int × Int
 × Int × Int × Bool × Int × PUnit), vnil (Int × Int × Int × Int × Int × Int × Bool × List (Int × PUnit) × PUnit), Hear7_v28 m d zr), ()) ∧ ∀ (y4 : kden Bool.false tI × denCells (kWorkX 3) × PUnit), tellXInv (Hear7_v42 c l m d zr) (Hear7_v36
 c l m d zr y2) (sortN y3.2.1) y4 → bif pLt y4.1 (pInt (pLen (sortN y3.2.1))) then pIn y4.1 (pLen (sortN y3.2.1)) ∧ pRoom (pPlus (pLen (Hear7_v43 y4).1) (pLen (Hear7_v44 c l m d zr y2 y3 y4))) 96 ∧ pIn (pSubI IntKind.i64 (pInt (pLen (pApp
 (Hear7_v43 y4).1 (Hear7_v44 c l m d zr y2 y3 y4)))) (1 : Int)) (pLen (pApp (Hear7_v43 y4).1 (Hear7_v44 c l m d zr y2 y3 y4))) ∧ tellXInv (Hear7_v42 c l m d zr) (Hear7_v35 c l m d zr y2).1 (sortN y3.2.1) (Hear7_v46 c l m d zr y2 y3 y4) ∧
 Nat.le (Nat.succ (tellXMu (Hear7_v42 c l m d zr) (Hear7_v35 c l m d zr y2).1 (sortN y3.2.1) (Hear7_v46 c l m d zr y2 y3 y4))) (tellXMu (Hear7_v42 c l m d zr) (Hear7_v35 c l m d zr y2).1 (sortN y3.2.1) y4) else pLen (pSet (Hear7_v32 c l m d
 zr) (pNat (Hear7_v3 d zr)) (Hear7_v34 c l m d zr)) = pLen d.2.1 ∧ pLen (pSet (Hear7_v32 c l m d zr) (pNat (Hear7_v3 d zr)) (Hear7_v34 c l m d zr)) = pLen d.2.1 ∧ ((y4.2.1.2.2.2.2.2.1, Hear7_v41 c l m d zr y2 y3, Hear7_v43 y4), (0 : Int),
 ()) = Hear7_v1 c l m d zr else Hear7_t17 c l m d zr y2
set_option maxRecDepth 100000 in
theorem Hear7_meets (hCheckMessage0 : MtG tabsM 12 cCheckMessage0) (ikbeginN : MeetsK Tryd.prog tabsM 11 false kkbeginN) (ikplace : MeetsK Tryd.prog tabsM 13 false kkplace) (iksure : MeetsK Tryd.prog tabsM 16 false kksure) (h : ∀ (c : CfgD) (l : Int) (m : Int) (d : DeskD) (zr : MsgR), (∀ p ∈ Hear7_p ⟨(c, l, m, d, ((7 : Int), zr), ()), ()⟩, p) → Hear7_VC c l m d zr) : MtG tabsM 5 cHear7 :=
  meets_vcAt (E := envI Tryd.prog tabsM [(12, (false, cCheckMessage0))] [(11, (false, kkbeginN)), (13, (false, kkplace)), (16, (false, kksure))] eqsCjV [(25, [2, 3])] [] false) (envI_ok (fun p hp => (by simp only [List.mem_cons, List.not_mem_nil, or_false] at hp; rcases hp with rfl; exact hCheckMessage0)) (fun p hp => (by simp only [List.mem_cons, List.not_mem_nil, or_false] at hp; rcases hp with rfl | rfl | rfl; exact ikbeginN; exact ikplace; exact iksure)) (by kernel_rfl)) Hear_S (fun b => fun ky9 st9 => look [] ky9) Tryd.func5 (by kernel_rfl) (by kernel_rfl) Hear7_p [] [.agg 0 kTurn, .slot 1 false tI] Hear5_f (fun b : (CfgD) × (Int) × (Int) × (DeskD) × (MsgR) => ⟨(b.1, b.2.1, b.2.2.1, b.2.2.2.1, ((7 : Int), b.2.2.2.2), ()), ()⟩) (fun b => Hear7_VC b.1 b.2.1 b.2.2.1 b.2.2.2.1 b.2.2.2.2) (fun b => by kernel_rfl) (by
    rintro ⟨⟨c, l, m, d, ⟨zk, zr⟩, ⟨⟩⟩, ⟨⟩⟩ hp
    have e : zk = (7 : Int) := hp _ List.mem_cons_self
    subst e
    exact ⟨(c, l, m, d, zr), rfl⟩) (fun b hp => h b.1 b.2.1 b.2.2.1 b.2.2.2.1 b.2.2.2.2 hp)

abbrev Hear8_v0 := (vnil (Int × Int × Int × Int × Int × Int × Int × Int × Int × Int × Bool × Int × PUnit), vnil (Int × Int × Int × Int × Int × Int × Bool × List (Int × PUnit) × PUnit), vnil (Int × Int × Int × Int × Int × Int × PUnit), (0 : Int), (0 : Int),
 ())
abbrev Hear8_v1 (c : CfgD) (l : Int) (m : Int) (d : DeskD) (zr : MsgR) := (heaT c l m d ((8 : Int), zr), heaE c l m d ((8 : Int), zr), ())
abbrev Hear8_t2 (c : CfgD) (l : Int) (m : Int) (d : DeskD) (zr : MsgR) : Prop := (((0 : Int), vnil (Int × Int × List (Bool × Int × Int × Int × Int × Int × Bool × Bool × PUnit) × List (Int × PUnit) × Int × Int × PUnit), Hear8_v0), (2 : Int), ()) = Hear8_v1 c l m d zr
abbrev Hear8_v3 (d : DeskD) (zr : MsgR) := idxKeyJ d.2.1 zr.2.2.2.1
abbrev Hear8_v4 (d : DeskD) (zr : MsgR) := pGet tyJob d.2.1 (pNat (Hear8_v3 d zr))
abbrev Hear8_v5 (m : Int) (d : DeskD) (zr : MsgR) := ((4 : Int), m, (Hear8_v4 d zr).1, (0 : Int), (0 : Int), (0 : Int), Bool.false, vnil (Int × PUnit), ()) :: vnil (Int × Int × Int × Int × Int × Int × Bool × List (Int × PUnit) × PUnit)
abbrev Hear8_v6 (d : DeskD) (zr : MsgR) := ((Hear8_v4 d zr).1, (Hear8_v4 d zr).2.1, (Hear8_v4 d zr).2.2.1, dropN (Hear8_v4 d zr).2.2.2.1 zr.1, (Hear8_v4 d zr).2.2.2.2)

def Hear8_VC (c : CfgD) (l : Int) (m : Int) (d : DeskD) (zr : MsgR) : Prop :=
  Nat.le (Nat.succ (pLen c.2.1)) 4611686018427387904 ∧ Nat.le (Nat.succ (pLen d.2.1)) 4611686018427387904 ∧ (∀ (q0 : Int × Int × List (Bool × Int × Int × Int × Int × Int × Bool × Bool × PUnit) × List (Int × PUnit) × Int × Int × PUnit),
 List.Mem q0 d.2.1 → Nat.le (Nat.succ (pLen q0.2.2.1)) 4611686018427387904 ∧ Nat.le (Nat.succ (pLen q0.2.2.2.1)) 4611686018427387904) ∧ bif pNe (deskF c d) (0 : Int) then bif pNe (deskF c d) (0 : Int) then (((0 : Int), vnil (Int × Int × List
 (Bool × Int × Int × Int × Int × Int × Bool × Bool × PUnit) × List (Int × PUnit) × Int × Int × PUnit), Hear8_v0), deskF c d, ()) = Hear8_v1 c l m d zr else Nat.le (Nat.succ (pLen c.2.1)) 4611686018427387904 ∧ msgF c ((8 : Int), zr) = (0 :
 Int) ∧ bif pNe zr.2.1 m then Hear8_t2 c l m d zr else bif pNe zr.2.2.1 m then Hear8_t2 c l m d zr else False else bif pLt l (0 : Int) then (((0 : Int), vnil (Int × Int × List (Bool × Int × Int × Int × Int × Int × Bool × Bool × PUnit) × List
 (Int × PUnit) × Int × Int × PUnit), Hear8_v0), (6 : Int), ()) = Hear8_v1 c l m d zr else bif pGe l (pInt (pLen c.2.1)) then (((0 : Int), vnil (Int × Int × List (Bool × Int × Int × Int × Int × Int × Bool × Bool × PUnit) × List (Int × PUnit)
 × Int × Int × PUnit), Hear8_v0), (6 : Int), ()) = Hear8_v1 c l m d zr else bif pLt m (0 : Int) then Hear8_t2 c l m d zr else bif pGe m c.1 then Hear8_t2 c l m d zr else pRoom (pLen d.2.1) 80 ∧ (∀ (q1 : Int × Int × List (Bool × Int × Int ×
 Int × Int × Int × Bool × Bool × PUnit) × List (Int × PUnit) × Int × Int × PUnit), List.Mem q1 d.2.1 → pRoom (pLen q1.2.2.1) 56 ∧ pRoom (pLen q1.2.2.2.1) 8) ∧ Nat.le (Nat.succ (pLen d.2.1)) 4611686018427387904 ∧ Nat.le (Nat.succ (pLen
 c.2.1)) 4611686018427387904 ∧ msgF c ((8 : Int), zr) = (0 : Int) ∧ bif pNe zr.2.1 m then Hear8_t2 c l m d zr else bif pNe zr.2.2.1 m then Hear8_t2 c l m d zr else Nat.le (Nat.succ (pLen d.2.1)) 4611686018427387904 ∧ bif pLt (Hear8_v3 d zr)
 (0 : Int) then ((d.1, d.2.1, Hear8_v0), (0 : Int), ()) = Hear8_v1 c l m d zr else pIn (Hear8_v3 d zr) (pLen d.2.1) ∧ bif pNe (Hear8_v4 d zr).2.1 (3 : Int) then ((d.1, d.2.1, Hear8_v0), (0 : Int), ()) = Hear8_v1 c l m d zr else Nat.le
 (Nat.succ (pLen (Hear8_v4 d zr).2.2.2.1)) 4611686018427387904 ∧ pNat (Hear8_v3 d zr) = pNat (Hear8_v3 d zr) ∧ pNat (Hear8_v3 d zr) = pNat (Hear8_v3 d zr) ∧ bif pEq (pInt (pLen (dropN (Hear8_v4 d zr).2.2.2.1 zr.1))) (0 : Int) then pRoom
 (pPlus (pLen (vnil (Int × Int × Int × Int × Int × Int × Bool × List (Int × PUnit) × PUnit))) (pLen (Hear8_v5 m d zr))) 80 ∧ pIn (Hear8_v3 d zr) (pLen (pSet d.2.1 (pNat (Hear8_v3 d zr)) (Hear8_v6 d zr))) ∧ pAdd IntKind.i64 (Hear8_v3 d zr) (1
 : Int) = pAdd IntKind.i64 (Hear8_v3 d zr) (1 : Int) ∧ Nat.le (Nat.succ (pLen (pSet d.2.1 (pNat (Hear8_v3 d zr)) (Hear8_v6 d zr)))) 4611686018427387904 ∧ ((d.1, pDel (pSet d.2.1 (pNat (Hear8_v3 d zr)) (Hear8_v6 d zr)) (pNat (Hear8_v3 d zr)),
 vnil (Int × Int × Int × Int × Int × Int × Int × Int × Int × Int × Bool × Int × PUnit), pApp (vnil (Int × Int × Int × Int × Int × Int × Bool × List (Int × PUnit) × PUnit)) (Hear8_v5 m d zr), vnil (Int × Int × Int × Int × Int × Int × PUnit),
 (0 : Int), (0 : Int), ()), (0 : Int), ()) = Hear8_v1 c l m d zr else pLen d.2.1 = pLen d.2.1 ∧ ((d.1, pSet d.2.1 (pNat (Hear8_v3 d zr)) (Hear8_v6 d zr), Hear8_v0), (0 : Int), ()) = Hear8_v1 c l m d zr
set_option maxRecDepth 100000 in
theorem Hear8_meets (hCheckMessage0 : MtG tabsM 12 cCheckMessage0) (ikbeginN : MeetsK Tryd.prog tabsM 11 false kkbeginN) (ikplace : MeetsK Tryd.prog tabsM 13 false kkplace) (ikacked : MeetsK Tryd.prog tabsM 17 false kkacked) (h : ∀ (c : CfgD) (l : Int) (m : Int) (d : DeskD) (zr : MsgR), (∀ p ∈ Hear8_p ⟨(c, l, m, d, ((8 : Int), zr), ()), ()⟩, p) → Hear8_VC c l m d zr) : MtG tabsM 5 cHear8 :=
  meets_vcAt (E := envI Tryd.prog tabsM [(12, (false, cCheckMessage0))] [(11, (false, kkbeginN)), (13, (false, kkplace)), (17, (false, kkacked))] eqsCjV [(25, [2, 3])] [] false) (envI_ok (fun p hp => (by simp only [List.mem_cons, List.not_mem_nil, or_false] at hp; rcases hp with rfl; exact hCheckMessage0)) (fun p hp => (by simp only [List.mem_cons, List.not_mem_nil, or_false] at hp; rcases hp with rfl | rfl | rfl; exact ikbeginN; exact ikplace; exact ikacked)) (by kernel_rfl)) Hear_S (fun b => fun ky9 st9 => look [] ky9) Tryd.func5 (by kernel_rfl) (by kernel_rfl) Hear8_p [] [.agg 0 kTurn, .slot 1 false tI] Hear5_f (fun b : (CfgD) × (Int) × (Int) × (DeskD) × (MsgR) => ⟨(b.1, b.2.1, b.2.2.1, b.2.2.2.1, ((8 : Int), b.2.2.2.2), ()), ()⟩) (fun b => Hear8_VC b.1 b.2.1 b.2.2.1 b.2.2.2.1 b.2.2.2.2) (fun b => by kernel_rfl) (by
    rintro ⟨⟨c, l, m, d, ⟨zk, zr⟩, ⟨⟩⟩, ⟨⟩⟩ hp
    have e : zk = (8 : Int) := hp _ List.mem_cons_self
    subst e
    exact ⟨(c, l, m, d, zr), rfl⟩) (fun b hp => h b.1 b.2.1 b.2.2.1 b.2.2.2.1 b.2.2.2.2 hp)

abbrev Hear9_v0 := ((0 : Int), vnil (Int × Int × List (Bool × Int × Int × Int × Int × Int × Bool × Bool × PUnit) × List (Int × PUnit) × Int × Int × PUnit), vnil (Int × Int × Int × Int × Int × Int × Int × Int × Int × Int × Bool × Int × PUnit), vnil (Int × Int
 × Int × Int × Int × Int × Bool × List (Int × PUnit) × PUnit), vnil (Int × Int × Int × Int × Int × Int × PUnit), (0 : Int), (0 : Int), ())
abbrev Hear9_v1 (c : CfgD) (l : Int) (m : Int) (d : DeskD) (zr : MsgR) := (heaT c l m d ((9 : Int), zr), heaE c l m d ((9 : Int), zr), ())
abbrev Hear9_t2 (c : CfgD) (l : Int) (m : Int) (d : DeskD) (zr : MsgR) : Prop := (Hear9_v0, (2 : Int), ()) = Hear9_v1 c l m d zr
abbrev Hear9_v3 (m : Int) (zr : MsgR) := ((4 : Int), m, zr.1, m, zr.2.2.2.1, (0 : Int), (0 : Int), (0 : Int), (0 : Int), (0 : Int), Bool.false, (0 : Int), ()) :: vnil (Int × Int × Int × Int × Int × Int × Int × Int × Int × Int × Bool × Int × PUnit)
abbrev Hear9_v4 (d : DeskD) (zr : MsgR) := pNat (idxKeyJ d.2.1 zr.2.2.2.1)
abbrev Hear9_v5 (d : DeskD) (zr : MsgR) := pGet tyJob d.2.1 (Hear9_v4 d zr)
abbrev Hear9_v6 (m : Int) (d : DeskD) (zr : MsgR) := ((4 : Int), m, zr.1, m, (Hear9_v5 d zr).1, (0 : Int), (0 : Int), (0 : Int), (0 : Int), (0 : Int), Bool.false, (0 : Int), ()) :: vnil (Int × Int × Int × Int × Int × Int × Int × Int × Int × Int × Bool × Int × PUnit)
abbrev Hear9_v7 (m : Int) (d : DeskD) (zr : MsgR) := pGet tyMsg (pApp (vnil (Int × Int × Int × Int × Int × Int × Int × Int × Int × Int × Bool × Int × PUnit)) (Hear9_v6 m d zr)) (pNat (pSubI IntKind.i64 (pInt (pLen (pApp (vnil (Int × Int × Int × Int × Int × Int × Int × Int × Int × Int × Bool ×
 Int × PUnit)) (Hear9_v6 m d zr)))) (1 : Int)))
abbrev Hear9_t8 (c : CfgD) (l : Int) (m : Int) (d : DeskD) (zr : MsgR) : Prop := pLen d.2.1 = pLen d.2.1 ∧ ((d.1, pSet d.2.1 (Hear9_v4 d zr) (Hear9_v5 d zr), vnil (Int × Int × Int × Int × Int × Int × Int × Int × Int × Int × Bool × Int × PUnit), vnil (Int × Int × Int × Int × Int × Int × Bool × List (Int × PUnit) ×
 PUnit), vnil (Int × Int × Int × Int × Int × Int × PUnit), (0 : Int), (0 : Int), ()), (0 : Int), ()) = Hear9_v1 c l m d zr

def Hear9_VC (c : CfgD) (l : Int) (m : Int) (d : DeskD) (zr : MsgR) : Prop :=
  Nat.le (Nat.succ (pLen c.2.1)) 4611686018427387904 ∧ Nat.le (Nat.succ (pLen d.2.1)) 4611686018427387904 ∧ (∀ (q0 : Int × Int × List (Bool × Int × Int × Int × Int × Int × Bool × Bool × PUnit) × List (Int × PUnit) × Int × Int × PUnit),
 List.Mem q0 d.2.1 → Nat.le (Nat.succ (pLen q0.2.2.1)) 4611686018427387904 ∧ Nat.le (Nat.succ (pLen q0.2.2.2.1)) 4611686018427387904) ∧ bif pNe (deskF c d) (0 : Int) then bif pNe (deskF c d) (0 : Int) then (Hear9_v0, deskF c d, ()) =
 Hear9_v1 c l m d zr else Nat.le (Nat.succ (pLen c.2.1)) 4611686018427387904 ∧ msgF c ((9 : Int), zr) = (0 : Int) ∧ bif pNe zr.2.1 m then Hear9_t2 c l m d zr else bif pNe zr.2.2.1 m then Hear9_t2 c l m d zr else False else bif pLt l (0 :
 Int) then (Hear9_v0, (6 : Int), ()) = Hear9_v1 c l m d zr else bif pGe l (pInt (pLen c.2.1)) then (Hear9_v0, (6 : Int), ()) = Hear9_v1 c l m d zr else bif pLt m (0 : Int) then Hear9_t2 c l m d zr else bif pGe m c.1 then Hear9_t2 c l m d zr
 else pRoom (pLen d.2.1) 80 ∧ (∀ (q1 : Int × Int × List (Bool × Int × Int × Int × Int × Int × Bool × Bool × PUnit) × List (Int × PUnit) × Int × Int × PUnit), List.Mem q1 d.2.1 → pRoom (pLen q1.2.2.1) 56 ∧ pRoom (pLen q1.2.2.2.1) 8) ∧ Nat.le
 (Nat.succ (pLen d.2.1)) 4611686018427387904 ∧ Nat.le (Nat.succ (pLen c.2.1)) 4611686018427387904 ∧ msgF c ((9 : Int), zr) = (0 : Int) ∧ bif pNe zr.2.1 m then Hear9_t2 c l m d zr else bif pNe zr.2.2.1 m then Hear9_t2 c l m d zr else Nat.le
 (Nat.succ (pLen d.2.1)) 4611686018427387904 ∧ bif pLt (idxKeyJ d.2.1 zr.2.2.2.1) (0 : Int) then pRoom (pPlus (pLen (vnil (Int × Int × Int × Int × Int × Int × Int × Int × Int × Int × Bool × Int × PUnit))) (pLen (Hear9_v3 m zr))) 96 ∧ pIn
 (pSubI IntKind.i64 (pInt (pLen (pApp (vnil (Int × Int × Int × Int × Int × Int × Int × Int × Int × Int × Bool × Int × PUnit)) (Hear9_v3 m zr)))) (1 : Int)) (pLen (pApp (vnil (Int × Int × Int × Int × Int × Int × Int × Int × Int × Int × Bool ×
 Int × PUnit)) (Hear9_v3 m zr))) ∧ ((d.1, d.2.1, pApp (vnil (Int × Int × Int × Int × Int × Int × Int × Int × Int × Int × Bool × Int × PUnit)) (Hear9_v3 m zr), vnil (Int × Int × Int × Int × Int × Int × Bool × List (Int × PUnit) × PUnit), vnil
 (Int × Int × Int × Int × Int × Int × PUnit), (0 : Int), (0 : Int), ()), (0 : Int), ()) = Hear9_v1 c l m d zr else pIn (idxKeyJ d.2.1 zr.2.2.2.1) (pLen d.2.1) ∧ bif pEq (Hear9_v5 d zr).2.1 (3 : Int) then Nat.le (Nat.succ (pLen (Hear9_v5 d
 zr).2.2.2.1)) 4611686018427387904 ∧ bif pGe (hasF (Hear9_v5 d zr).2.2.2.1 zr.1) (0 : Int) then pRoom (pPlus (pLen (vnil (Int × Int × Int × Int × Int × Int × Int × Int × Int × Int × Bool × Int × PUnit))) (pLen (Hear9_v6 m d zr))) 96 ∧ pIn
 (pSubI IntKind.i64 (pInt (pLen (pApp (vnil (Int × Int × Int × Int × Int × Int × Int × Int × Int × Int × Bool × Int × PUnit)) (Hear9_v6 m d zr)))) (1 : Int)) (pLen (pApp (vnil (Int × Int × Int × Int × Int × Int × Int × Int × Int × Int × Bool
 × Int × PUnit)) (Hear9_v6 m d zr))) ∧ pLen d.2.1 = pLen d.2.1 ∧ ((d.1, pSet d.2.1 (Hear9_v4 d zr) (Hear9_v5 d zr), pSet (pApp (vnil (Int × Int × Int × Int × Int × Int × Int × Int × Int × Int × Bool × Int × PUnit)) (Hear9_v6 m d zr)) (pNat
 (pSubI IntKind.i64 (pInt (pLen (pApp (vnil (Int × Int × Int × Int × Int × Int × Int × Int × Int × Int × Bool × Int × PUnit)) (Hear9_v6 m d zr)))) (1 : Int))) ((Hear9_v7 m d zr).1, (Hear9_v7 m d zr).2.1, (Hear9_v7 m d zr).2.2.1, (Hear9_v7 m
 d zr).2.2.2.1, (Hear9_v7 m d zr).2.2.2.2.1, (Hear9_v7 m d zr).2.2.2.2.2.1, (Hear9_v7 m d zr).2.2.2.2.2.2.1, (Hear9_v7 m d zr).2.2.2.2.2.2.2.1, (Hear9_v7 m d zr).2.2.2.2.2.2.2.2.1, (Hear9_v7 m d zr).2.2.2.2.2.2.2.2.2.1, Bool.true, (Hear9_v7
 m d zr).2.2.2.2.2.2.2.2.2.2.2), vnil (Int × Int × Int × Int × Int × Int × Bool × List (Int × PUnit) × PUnit), vnil (Int × Int × Int × Int × Int × Int × PUnit), (0 : Int), (0 : Int), ()), (0 : Int), ()) = Hear9_v1 c l m d zr else Hear9_t8 c
 l m d zr else Hear9_t8 c l m d zr
set_option maxRecDepth 100000 in
theorem Hear9_meets (hCheckMessage0 : MtG tabsM 12 cCheckMessage0) (ikbeginN : MeetsK Tryd.prog tabsM 11 false kkbeginN) (ikplace : MeetsK Tryd.prog tabsM 13 false kkplace) (ikasked : MeetsK Tryd.prog tabsM 14 false kkasked) (h : ∀ (c : CfgD) (l : Int) (m : Int) (d : DeskD) (zr : MsgR), (∀ p ∈ Hear9_p ⟨(c, l, m, d, ((9 : Int), zr), ()), ()⟩, p) → Hear9_VC c l m d zr) : MtG tabsM 5 cHear9 :=
  meets_vcAt (E := envI Tryd.prog tabsM [(12, (false, cCheckMessage0))] [(11, (false, kkbeginN)), (13, (false, kkplace)), (14, (false, kkasked))] eqsCjV [(25, [2, 3])] [] false) (envI_ok (fun p hp => (by simp only [List.mem_cons, List.not_mem_nil, or_false] at hp; rcases hp with rfl; exact hCheckMessage0)) (fun p hp => (by simp only [List.mem_cons, List.not_mem_nil, or_false] at hp; rcases hp with rfl | rfl | rfl; exact ikbeginN; exact ikplace; exact ikasked)) (by kernel_rfl)) Hear_S (fun b => fun ky9 st9 => look [] ky9) Tryd.func5 (by kernel_rfl) (by kernel_rfl) Hear9_p [] [.agg 0 kTurn, .slot 1 false tI] Hear5_f (fun b : (CfgD) × (Int) × (Int) × (DeskD) × (MsgR) => ⟨(b.1, b.2.1, b.2.2.1, b.2.2.2.1, ((9 : Int), b.2.2.2.2), ()), ()⟩) (fun b => Hear9_VC b.1 b.2.1 b.2.2.1 b.2.2.2.1 b.2.2.2.2) (fun b => by kernel_rfl) (by
    rintro ⟨⟨c, l, m, d, ⟨zk, zr⟩, ⟨⟩⟩, ⟨⟩⟩ hp
    have e : zk = (9 : Int) := hp _ List.mem_cons_self
    subst e
    exact ⟨(c, l, m, d, zr), rfl⟩) (fun b hp => h b.1 b.2.1 b.2.2.1 b.2.2.2.1 b.2.2.2.2 hp)


end Go.Proofs.YtnkcmkegjckncaaDoor
