/- Contracts, and what the evaluator says, as plain propositions: CvV. Printed by vc.py. -/
import Derived.Test.YtnkcmkegjckncaaJ5
import Derived.Test.YtnkcmkegjckncaaJ1

/- Contracts, and what the evaluator says, as plain propositions: CvV. Printed by vc.py. -/
namespace Go.Proofs.Ytnkcmkegjckncaa
open Go.RowKit Go.ChangeShapes Go.WideShapes Go.Deep

abbrev Tick_S : Shape := ⟨[pCfg, .one (.rd tI), .one (.rd tI), pDesk], []⟩
abbrev Tick_f : Shape.den Tick_S → denVars [.agg 0 kTurn, .slot 1 false tI] := fun x => (tickF (x.1.1.1, x.1.1.2.1, x.1.1.2.2.1, ()) x.1.2.1 x.1.2.2.1 (x.1.2.2.2.1.1, x.1.2.2.2.1.2.1, ()), begE (x.1.1.1, x.1.1.2.1, x.1.1.2.2.1, ()) x.1.2.1 x.1.2.2.1 (x.1.2.2.2.1.1, x.1.2.2.2.1.2.1, ()), ())
abbrev Tick_p : Shape.den Tick_S → List Prop := fun x => [pLen x.1.1.2.1 < 4611686018427387904, pLen x.1.2.2.2.1.2.1 < 4611686018427387904, (∀ q ∈ x.1.2.2.2.1.2.1, pLen q.2.2.1 < 4611686018427387904 ∧ pLen q.2.2.2.1 < 4611686018427387904)]
def cTick : Ctr := shCtr Tick_S Tick_p [] [.agg 0 kTurn, .slot 1 false tI] Tick_f
abbrev eqsCvV : List TypeId := [96, 64, 81, 76, 62]

noncomputable abbrev ekplace : Env := envI Try.prog (fun _ => none) [(38, (false, cindexJ))] [] eqsCvV [] [] false
noncomputable def kkplace : CtrK := inlC ekplace (fun _ _ => none) Try.f15
theorem kkplace_ok (hindexJ : Mt 38 cindexJ) : MeetsK Try.prog (fun _ => none) 15 false kkplace :=
  meets_inl (E := ekplace) (envI_ok (fun p hp => (by simp only [List.mem_cons, List.not_mem_nil, or_false] at hp; rcases hp with rfl; exact hindexJ)) (fun p hp => by cases hp) (by kernel_rfl)) _ Try.func15 (by kernel_rfl) (by kernel_rfl)

noncomputable abbrev eksend : Env := envI Try.prog (fun _ => none) [] [] eqsCvV [] [] true
noncomputable def kksend : CtrK := inlC eksend (fun _ _ => none) Try.f48
theorem kksend_ok  : MeetsK Try.prog (fun _ => none) 48 true kksend :=
  meets_inlD (E := eksend) (envI_ok (fun p hp => by cases hp) (fun p hp => by cases hp) (by kernel_rfl)) rfl Try.func48 (by kernel_rfl) (by kernel_rfl)

noncomputable abbrev ekreply : Env := envI Try.prog (fun _ => none) [] [] eqsCvV [] [] true
noncomputable def kkreply : CtrK := inlC ekreply (fun _ _ => none) Try.f28
theorem kkreply_ok  : MeetsK Try.prog (fun _ => none) 28 true kkreply :=
  meets_inlD (E := ekreply) (envI_ok (fun p hp => by cases hp) (fun p hp => by cases hp) (by kernel_rfl)) rfl Try.func28 (by kernel_rfl) (by kernel_rfl)

noncomputable abbrev ekdrop : Env := envI Try.prog (fun _ => none) [(64, (true, cdelJ))] [] eqsCvV [] [] true
noncomputable def kkdrop : CtrK := inlC ekdrop (fun _ _ => none) Try.f52
theorem kkdrop_ok (hdelJ : Mt 64 cdelJ) : MeetsK Try.prog (fun _ => none) 52 true kkdrop :=
  meets_inlD (E := ekdrop) (envI_ok (fun p hp => (by simp only [List.mem_cons, List.not_mem_nil, or_false] at hp; rcases hp with rfl; exact hdelJ)) (fun p hp => by cases hp) (by kernel_rfl)) rfl Try.func52 (by kernel_rfl) (by kernel_rfl)

noncomputable abbrev ekbegin : Env := envI Try.prog (fun _ => none) [(36, (false, ccCheck)), (37, (false, ccown))] [] eqsCvV [] [] false
noncomputable def kkbegin : CtrK := inlC ekbegin (fun _ _ => none) Try.f14
theorem kkbegin_ok (hcCheck : Mt 36 ccCheck) (hcown : Mt 37 ccown) : MeetsK Try.prog (fun _ => none) 14 false kkbegin :=
  meets_inl (E := ekbegin) (envI_ok (fun p hp => (by simp only [List.mem_cons, List.not_mem_nil, or_false] at hp; rcases hp with rfl | rfl; exact hcCheck; exact hcown)) (fun p hp => by cases hp) (by kernel_rfl)) _ Try.func14 (by kernel_rfl) (by kernel_rfl)

noncomputable abbrev eksites : Env := envI Try.prog (fun _ => none) [(62, (false, chasN)), (63, (true, csort))] [] eqsCvV [] [] false
noncomputable def kksites : CtrK := inlC eksites (fun ky9 st9 => look [(3, (⟨[.slot 12 false tI, .slot 5 true tyN], sitesInv (cellD tI st9 (ptI st9 0) 0) (cellD tI st9 (ptI st9 0) 3) (rowD tyTask st9 10), sitesMu (cellD tI st9 (ptI st9 0) 0) (cellD tI st9 (ptI st9 0) 3) (rowD tyTask st9 10)⟩ : Ann))] ky9) Try.f51
theorem kksites_ok (hhasN : Mt 62 chasN) (hsort : Mt 63 csort) : MeetsK Try.prog (fun _ => none) 51 false kksites :=
  meets_inl (E := eksites) (envI_ok (fun p hp => (by simp only [List.mem_cons, List.not_mem_nil, or_false] at hp; rcases hp with rfl | rfl; exact hhasN; exact hsort)) (fun p hp => by cases hp) (by kernel_rfl)) _ Try.func51 (by kernel_rfl) (by kernel_rfl)

noncomputable abbrev ektell : Env := envI Try.prog (fun _ => none) [] [(48, (true, kksend))] eqsCvV [] [] false
noncomputable def kktell : CtrK := inlC ektell (fun ky9 st9 => look [(2, (⟨[.slot 9 false tI, .box (ptI st9 0) kWork], tellInv (boxD tyWork st9 (ptI st9 0)) (cellD tI st9 (ptI st9 3) 0) (rowD tyN st9 7), tellMu (boxD tyWork st9 (ptI st9 0)) (cellD tI st9 (ptI st9 3) 0) (rowD tyN st9 7)⟩ : Ann))] ky9) Try.f40
theorem kktell_ok  (iksend : MeetsK Try.prog (fun _ => none) 48 true kksend) : MeetsK Try.prog (fun _ => none) 40 false kktell :=
  meets_inl (E := ektell) (envI_ok (fun p hp => by cases hp) (fun p hp => (by simp only [List.mem_cons, List.not_mem_nil, or_false] at hp; rcases hp with rfl; exact iksend)) (by kernel_rfl)) _ Try.func40 (by kernel_rfl) (by kernel_rfl)

noncomputable abbrev ekend : Env := envI Try.prog (fun _ => none) [] [(48, (true, kksend)), (51, (false, kksites)), (52, (true, kkdrop))] eqsCvV [] [] false
noncomputable def kkend : CtrK := inlC ekend (fun ky9 st9 => look [(2, (⟨[.slot 20 false tI, .box (ptI st9 0) kWork], kendInv (boxD tyWork st9 (ptI st9 0)) (cellD tI st9 (ptI st9 4) 0) (rowD tyN st9 18), kendMu (boxD tyWork st9 (ptI st9 0)) (cellD tI st9 (ptI st9 4) 0) (rowD tyN st9 18)⟩ : Ann))] ky9) Try.f31
theorem kkend_ok  (iksend : MeetsK Try.prog (fun _ => none) 48 true kksend) (iksites : MeetsK Try.prog (fun _ => none) 51 false kksites) (ikdrop : MeetsK Try.prog (fun _ => none) 52 true kkdrop) : MeetsK Try.prog (fun _ => none) 31 false kkend :=
  meets_inl (E := ekend) (envI_ok (fun p hp => by cases hp) (fun p hp => (by simp only [List.mem_cons, List.not_mem_nil, or_false] at hp; rcases hp with rfl | rfl | rfl; exact iksend; exact iksites; exact ikdrop)) (by kernel_rfl)) _ Try.func31 (by kernel_rfl) (by kernel_rfl)

noncomputable abbrev eklate : Env := envI Try.prog (fun _ => none) [] [(40, (false, kktell)), (28, (true, kkreply)), (31, (false, kkend))] eqsCvV [] [] false
noncomputable def kklate : CtrK := inlC eklate (fun _ _ => none) Try.f16
theorem kklate_ok  (iktell : MeetsK Try.prog (fun _ => none) 40 false kktell) (ikreply : MeetsK Try.prog (fun _ => none) 28 true kkreply) (ikend : MeetsK Try.prog (fun _ => none) 31 false kkend) : MeetsK Try.prog (fun _ => none) 16 false kklate :=
  meets_inl (E := eklate) (envI_ok (fun p hp => by cases hp) (fun p hp => (by simp only [List.mem_cons, List.not_mem_nil, or_false] at hp; rcases hp with rfl | rfl | rfl; exact iktell; exact ikreply; exact ikend)) (by kernel_rfl)) _ Try.func16 (by kernel_rfl) (by kernel_rfl)

abbrev Tick_v0 := ((0 : Int), vnil (Int × Int × List (Bool × Int × Int × Int × Int × Int × Bool × Bool × PUnit) × List (Int × PUnit) × Int × Int × PUnit), vnil (Int × Int × Int × Int × Int × Int × Int × Int × Int × Int × Bool × Int × PUnit), vnil (Int × Int
 × Int × Int × Int × Int × Bool × List (Int × PUnit) × PUnit), vnil (Int × Int × Int × Int × Int × Int × PUnit), (0 : Int), (0 : Int), ())
abbrev Tick_v1 (cn : Int) (cl : List LabD) (cp : Int) (l : Int) (m : Int) (dn : Int) (dj : List JobD) := (tickF (cn, cl, cp, ()) l m (dn, dj, ()), begE (cn, cl, cp, ()) l m (dn, dj, ()), ())
abbrev Tick_v2 (y2 : kden Bool.false tI × denCells kWork × PUnit) := y2.2.1.2.2.2.2.2.2.1
abbrev Tick_v3 (dj : List JobD) (y2 : kden Bool.false tI × denCells kWork × PUnit) := idxKeyJ (Tick_v2 y2) (pGet tyJob dj (pNat y2.1)).1
abbrev Tick_v4 (dj : List JobD) (y2 : kden Bool.false tI × denCells kWork × PUnit) := pGet tyJob (Tick_v2 y2) (pNat (Tick_v3 dj y2))
abbrev Tick_v5 (dj : List JobD) (y2 : kden Bool.false tI × denCells kWork × PUnit) := pSet (Tick_v2 y2) (pNat (Tick_v3 dj y2)) ((Tick_v4 dj y2).1, (Tick_v4 dj y2).2.1, (Tick_v4 dj y2).2.2.1, (Tick_v4 dj y2).2.2.2.1, (Tick_v4 dj y2).2.2.2.2.1, pAdd IntKind.i64 (Tick_v4 dj y2).2.2.2.2.2.1 (1 : Int), ())
abbrev Tick_v6 (dj : List JobD) (y2 : kden Bool.false tI × denCells kWork × PUnit) := pGet tyJob (Tick_v5 dj y2) (pNat (Tick_v3 dj y2))
abbrev Tick_v7 (y2 : kden Bool.false tI × denCells kWork × PUnit) := y2.2.1.2.2.2.2.2.1
abbrev Tick_v8 (dj : List JobD) (y2 : kden Bool.false tI × denCells kWork × PUnit) := pSet (Tick_v5 dj y2) (pNat (Tick_v3 dj y2)) ((Tick_v6 dj y2).1, (Tick_v6 dj y2).2.1, (Tick_v6 dj y2).2.2.1, (Tick_v6 dj y2).2.2.2.1, (Tick_v6 dj y2).2.2.2.2.1, (0 : Int), ())
abbrev Tick_v9 (y2 : kden Bool.false tI × denCells kWork × PUnit) := y2.2.1.2.2.2.2.2.2.2
abbrev Tick_v10 (dj : List JobD) (y2 : kden Bool.false tI × denCells kWork × PUnit) := (y2.2.1.1, y2.2.1.2.1, y2.2.1.2.2.1, y2.2.1.2.2.2.1, y2.2.1.2.2.2.2.1, Tick_v7 y2, Tick_v8 dj y2, Tick_v9 y2)
abbrev Tick_v11 (dj : List JobD) (y2 : kden Bool.false tI × denCells kWork × PUnit) := pGet tyJob (Tick_v8 dj y2) (pNat (Tick_v3 dj y2))
abbrev Tick_v12 (dj : List JobD) (y2 : kden Bool.false tI × denCells kWork × PUnit) (y13 : kden Bool.false tI × denCells kWork × PUnit) := ((4 : Int), y13.2.1.2.2.2.2.1, (pGet tyN (Tick_v11 dj y2).2.2.2.1 (pNat y13.1)).1, y13.2.1.2.2.2.2.1, (Tick_v11 dj y2).1, (0 : Int), (0 : Int), (0 : Int), (0 : Int), (0 : Int), Bool.false, (0 : Int), ()) :: vnil (Int × Int × Int × Int × Int
 × Int × Int × Int × Int × Int × Bool × Int × PUnit)
abbrev Tick_v13 (dj : List JobD) (y2 : kden Bool.false tI × denCells kWork × PUnit) (y13 : kden Bool.false tI × denCells kWork × PUnit) := pApp y13.2.1.2.2.2.2.2.2.2.1 (Tick_v12 dj y2 y13)
abbrev Tick_v14 (dj : List JobD) (y2 : kden Bool.false tI × denCells kWork × PUnit) (y13 : kden Bool.false tI × denCells kWork × PUnit) := pGet tyMsg (Tick_v13 dj y2 y13) (pNat (pSubI IntKind.i64 (pInt (pLen (Tick_v13 dj y2 y13))) (1 : Int)))
abbrev Tick_v15 (_ : Int) (_ : List LabD) (_ : Int) (_ : Int) (_ : Int) (_ : Int) (dj : List JobD) (y2 : kden Bool.false tI × denCells kWork × PUnit) (y13 : kden Bool.false tI × denCells kWork × PUnit) := (pAdd IntKind.i64 y13.1 (1 : Int), (y13.2.1.1, y13.2.1.2.1, y13.2.1.2.2.1, y13.2.1.2.2.2.1, y13.2.1.2.2.2.2.1, y13.2.1.2.2.2.2.2.1, y13.2.1.2.2.2.2.2.2.1, pSet (Tick_v13 dj y2 y13) (pNat (pSubI IntKind.i64 (pInt (pLen (Tick_v13 dj y2 y13)))
 (1 : Int))) ((Tick_v14 dj y2 y13).1, (Tick_v14 dj y2 y13).2.1, (Tick_v14 dj y2 y13).2.2.1, (Tick_v14 dj y2 y13).2.2.2.1, (Tick_v14 dj y2 y13).2.2.2.2.1, (Tick_v14 dj y2 y13).2.2.2.2.2.1, (Tick_v14 dj y2 y13).2.2.2.2.2.2.1, (Tick_v14 dj y2
 y13).2.2.2.2.2.2.2.1, (Tick_v14 dj y2 y13).2.2.2.2.2.2.2.2.1, (Tick_v14 dj y2 y13).2.2.2.2.2.2.2.2.2.1, Bool.true, (Tick_v14 dj y2 y13).2.2.2.2.2.2.2.2.2.2.2), y13.2.1.2.2.2.2.2.2.2.2), ())
abbrev Tick_v16 (cn : Int) (cl : List LabD) (cp : Int) (l : Int) (m : Int) (dn : Int) (dj : List JobD) (y2 : kden Bool.false tI × denCells kWork × PUnit) := tickMu cn cl cp l m dn dj y2
abbrev Tick_v17 (dj : List JobD) (y2 : kden Bool.false tI × denCells kWork × PUnit) := (y2.2.1.2.2.2.2.1, (4 : Int), (Tick_v6 dj y2).1, (0 : Int), (0 : Int), (14 : Int), ()) :: vnil (Int × Int × Int × Int × Int × Int × PUnit)
abbrev Tick_v18 (dj : List JobD) (y2 : kden Bool.false tI × denCells kWork × PUnit) (y11 : kden Bool.false tI × kden Bool.true tyN × PUnit) := (pGet tyTask (Tick_v6 dj y2).2.2.1 (pNat y11.1)).2
abbrev Tick_v19 (dj : List JobD) (y2 : kden Bool.false tI × denCells kWork × PUnit) (y11 : kden Bool.false tI × kden Bool.true tyN × PUnit) := (pAdd IntKind.i64 y11.1 (1 : Int), pApp y11.2.1 ((pRem (Tick_v18 dj y2 y11).2.1 y2.2.1.1, ()) :: vnil (Int × PUnit)), ())
abbrev Tick_t20 (dj : List JobD) (y2 : kden Bool.false tI × denCells kWork × PUnit) (y11 : kden Bool.false tI × kden Bool.true tyN × PUnit) : Prop := sitesInv y2.2.1.1 y2.2.1.2.2.2.1 (Tick_v6 dj y2).2.2.1 (pAdd IntKind.i64 y11.1 (1 : Int), y11.2) ∧ Nat.le (Nat.succ (sitesMu y2.2.1.1 y2.2.1.2.2.2.1 (Tick_v6 dj y2).2.2.1 (pAdd IntKind.i64 y11.1 (1 : Int), y11.2))) (sitesMu y2.2.1.1
 y2.2.1.2.2.2.1 (Tick_v6 dj y2).2.2.1 y11)
abbrev Tick_v21 (dj : List JobD) (y2 : kden Bool.false tI × denCells kWork × PUnit) := (y2.2.1.1, y2.2.1.2.1, y2.2.1.2.2.1, y2.2.1.2.2.2.1, y2.2.1.2.2.2.2.1, Tick_v7 y2, Tick_v5 dj y2, (Tick_v9 y2).1, (Tick_v9 y2).2.1, pApp (Tick_v9 y2).2.2.1 (Tick_v17 dj y2), (Tick_v9 y2).2.2.2)
abbrev Tick_v22 (y12 : kden Bool.false tI × denCells kWork × PUnit) := y12.2.1.2.2.2.2.2.2.2
abbrev Tick_v23 (dj : List JobD) (y2 : kden Bool.false tI × denCells kWork × PUnit) := ((Tick_v6 dj y2).1, (0 : Int), (0 : Int), (0 : Int), (0 : Int), (0 : Int), Bool.false, (0 : Int), ())
abbrev Tick_v24 (dj : List JobD) (y2 : kden Bool.false tI × denCells kWork × PUnit) (y11 : kden Bool.false tI × kden Bool.true tyN × PUnit) (y12 : kden Bool.false tI × denCells kWork × PUnit) := ((4 : Int), y12.2.1.2.2.2.2.1, (pGet tyN (sortN y11.2.1) (pNat y12.1)).1, y12.2.1.2.2.2.2.1, Tick_v23 dj y2) :: vnil (Int × Int × Int × Int × Int × Int × Int × Int × Int × Int × Bool × Int × PUnit)
abbrev Tick_v25 (y12 : kden Bool.false tI × denCells kWork × PUnit) := y12.2.1.2.2.2.2.2.2.1
abbrev Tick_v26 (_ : Int) (_ : List LabD) (_ : Int) (_ : Int) (_ : Int) (_ : Int) (dj : List JobD) (y2 : kden Bool.false tI × denCells kWork × PUnit) (y11 : kden Bool.false tI × kden Bool.true tyN × PUnit) (y12 : kden Bool.false tI × denCells kWork × PUnit) := (pAdd IntKind.i64 y12.1 (1 : Int), (y12.2.1.1, y12.2.1.2.1, y12.2.1.2.2.1, y12.2.1.2.2.2.1, y12.2.1.2.2.2.2.1, y12.2.1.2.2.2.2.2.1, Tick_v25 y12, pApp (Tick_v22 y12).1 (Tick_v24 dj y2 y11 y12), (Tick_v22 y12).2), ())
abbrev Tick_t27 (dj : List JobD) (y2 : kden Bool.false tI × denCells kWork × PUnit) : Prop := pAdd IntKind.i64 (Tick_v3 dj y2) (1 : Int) = pAdd IntKind.i64 (Tick_v3 dj y2) (1 : Int)
abbrev Tick_v28 (_ : Int) (_ : List LabD) (_ : Int) (_ : Int) (_ : Int) (_ : Int) (dj : List JobD) (y2 : kden Bool.false tI × denCells kWork × PUnit) (y12 : kden Bool.false tI × denCells kWork × PUnit) := (pAdd IntKind.i64 y2.1 (1 : Int), (y12.2.1.1, y12.2.1.2.1, y12.2.1.2.2.1, y12.2.1.2.2.2.1, y12.2.1.2.2.2.2.1, y12.2.1.2.2.2.2.2.1, pDel (Tick_v25 y12) (pNat (Tick_v3 dj y2)), Tick_v22 y12), ())
abbrev Tick_v29 (dj : List JobD) (y2 : kden Bool.false tI × denCells kWork × PUnit) := pSubI IntKind.i64 (pInt (pLen (Tick_v6 dj y2).2.2.1)) (1 : Int)
abbrev Tick_v30 (dj : List JobD) (y2 : kden Bool.false tI × denCells kWork × PUnit) := pGet tyTask (Tick_v6 dj y2).2.2.1 (pNat (Tick_v29 dj y2))
abbrev Tick_v31 (dj : List JobD) (y2 : kden Bool.false tI × denCells kWork × PUnit) := (y2.2.1.2.2.2.2.1, (3 : Int), (Tick_v6 dj y2).1, (Tick_v30 dj y2).2.2.1, (0 : Int), (14 : Int), ()) :: vnil (Int × Int × Int × Int × Int × Int × PUnit)
abbrev Tick_v32 (dj : List JobD) (y2 : kden Bool.false tI × denCells kWork × PUnit) (y9 : kden Bool.false tI × kden Bool.true tyN × PUnit) := (pGet tyTask (Tick_v6 dj y2).2.2.1 (pNat y9.1)).2
abbrev Tick_v33 (dj : List JobD) (y2 : kden Bool.false tI × denCells kWork × PUnit) (y9 : kden Bool.false tI × kden Bool.true tyN × PUnit) := (pAdd IntKind.i64 y9.1 (1 : Int), pApp y9.2.1 ((pRem (Tick_v32 dj y2 y9).2.1 y2.2.1.1, ()) :: vnil (Int × PUnit)), ())
abbrev Tick_t34 (dj : List JobD) (y2 : kden Bool.false tI × denCells kWork × PUnit) (y9 : kden Bool.false tI × kden Bool.true tyN × PUnit) : Prop := sitesInv y2.2.1.1 y2.2.1.2.2.2.1 (Tick_v6 dj y2).2.2.1 (pAdd IntKind.i64 y9.1 (1 : Int), y9.2) ∧ Nat.le (Nat.succ (sitesMu y2.2.1.1 y2.2.1.2.2.2.1 (Tick_v6 dj y2).2.2.1 (pAdd IntKind.i64 y9.1 (1 : Int), y9.2))) (sitesMu y2.2.1.1
 y2.2.1.2.2.2.1 (Tick_v6 dj y2).2.2.1 y9)
abbrev Tick_v35 (dj : List JobD) (y2 : kden Bool.false tI × denCells kWork × PUnit) := (y2.2.1.1, y2.2.1.2.1, y2.2.1.2.2.1, y2.2.1.2.2.2.1, y2.2.1.2.2.2.2.1, Tick_v7 y2, Tick_v5 dj y2, (Tick_v9 y2).1, (Tick_v9 y2).2.1, pApp (Tick_v9 y2).2.2.1 (Tick_v31 dj y2), (Tick_v9 y2).2.2.2)
abbrev Tick_v36 (y10 : kden Bool.false tI × denCells kWork × PUnit) := y10.2.1.2.2.2.2.2.2.2
abbrev Tick_v37 (dj : List JobD) (y2 : kden Bool.false tI × denCells kWork × PUnit) (y9 : kden Bool.false tI × kden Bool.true tyN × PUnit) (y10 : kden Bool.false tI × denCells kWork × PUnit) := ((4 : Int), y10.2.1.2.2.2.2.1, (pGet tyN (sortN y9.2.1) (pNat y10.1)).1, y10.2.1.2.2.2.2.1, Tick_v23 dj y2) :: vnil (Int × Int × Int × Int × Int × Int × Int × Int × Int × Int × Bool × Int × PUnit)
abbrev Tick_v38 (y10 : kden Bool.false tI × denCells kWork × PUnit) := y10.2.1.2.2.2.2.2.2.1
abbrev Tick_v39 (_ : Int) (_ : List LabD) (_ : Int) (_ : Int) (_ : Int) (_ : Int) (dj : List JobD) (y2 : kden Bool.false tI × denCells kWork × PUnit) (y9 : kden Bool.false tI × kden Bool.true tyN × PUnit) (y10 : kden Bool.false tI × denCells kWork × PUnit) := (pAdd IntKind.i64 y10.1 (1 : Int), (y10.2.1.1, y10.2.1.2.1, y10.2.1.2.2.1, y10.2.1.2.2.2.1, y10.2.1.2.2.2.2.1, y10.2.1.2.2.2.2.2.1, Tick_v38 y10, pApp (Tick_v36 y10).1 (Tick_v37 dj y2 y9 y10), (Tick_v36 y10).2), ())
abbrev Tick_v40 (_ : Int) (_ : List LabD) (_ : Int) (_ : Int) (_ : Int) (_ : Int) (dj : List JobD) (y2 : kden Bool.false tI × denCells kWork × PUnit) (y10 : kden Bool.false tI × denCells kWork × PUnit) := (pAdd IntKind.i64 y2.1 (1 : Int), (y10.2.1.1, y10.2.1.2.1, y10.2.1.2.2.1, y10.2.1.2.2.2.1, y10.2.1.2.2.2.2.1, y10.2.1.2.2.2.2.2.1, pDel (Tick_v38 y10) (pNat (Tick_v3 dj y2)), Tick_v36 y10), ())
abbrev Tick_v41 (dj : List JobD) (y2 : kden Bool.false tI × denCells kWork × PUnit) := (y2.2.1.2.2.2.2.1, (2 : Int), (Tick_v6 dj y2).1, (Tick_v30 dj y2).2.2.1, (0 : Int), (14 : Int), ()) :: vnil (Int × Int × Int × Int × Int × Int × PUnit)
abbrev Tick_v42 (dj : List JobD) (y2 : kden Bool.false tI × denCells kWork × PUnit) (y7 : kden Bool.false tI × kden Bool.true tyN × PUnit) := (pGet tyTask (Tick_v6 dj y2).2.2.1 (pNat y7.1)).2
abbrev Tick_v43 (dj : List JobD) (y2 : kden Bool.false tI × denCells kWork × PUnit) (y7 : kden Bool.false tI × kden Bool.true tyN × PUnit) := (pAdd IntKind.i64 y7.1 (1 : Int), pApp y7.2.1 ((pRem (Tick_v42 dj y2 y7).2.1 y2.2.1.1, ()) :: vnil (Int × PUnit)), ())
abbrev Tick_t44 (dj : List JobD) (y2 : kden Bool.false tI × denCells kWork × PUnit) (y7 : kden Bool.false tI × kden Bool.true tyN × PUnit) : Prop := sitesInv y2.2.1.1 y2.2.1.2.2.2.1 (Tick_v6 dj y2).2.2.1 (pAdd IntKind.i64 y7.1 (1 : Int), y7.2) ∧ Nat.le (Nat.succ (sitesMu y2.2.1.1 y2.2.1.2.2.2.1 (Tick_v6 dj y2).2.2.1 (pAdd IntKind.i64 y7.1 (1 : Int), y7.2))) (sitesMu y2.2.1.1
 y2.2.1.2.2.2.1 (Tick_v6 dj y2).2.2.1 y7)
abbrev Tick_v45 (dj : List JobD) (y2 : kden Bool.false tI × denCells kWork × PUnit) := (y2.2.1.1, y2.2.1.2.1, y2.2.1.2.2.1, y2.2.1.2.2.2.1, y2.2.1.2.2.2.2.1, Tick_v7 y2, Tick_v5 dj y2, (Tick_v9 y2).1, (Tick_v9 y2).2.1, pApp (Tick_v9 y2).2.2.1 (Tick_v41 dj y2), (Tick_v9 y2).2.2.2)
abbrev Tick_v46 (y8 : kden Bool.false tI × denCells kWork × PUnit) := y8.2.1.2.2.2.2.2.2.2
abbrev Tick_v47 (dj : List JobD) (y2 : kden Bool.false tI × denCells kWork × PUnit) (y7 : kden Bool.false tI × kden Bool.true tyN × PUnit) (y8 : kden Bool.false tI × denCells kWork × PUnit) := ((4 : Int), y8.2.1.2.2.2.2.1, (pGet tyN (sortN y7.2.1) (pNat y8.1)).1, y8.2.1.2.2.2.2.1, Tick_v23 dj y2) :: vnil (Int × Int × Int × Int × Int × Int × Int × Int × Int × Int × Bool × Int × PUnit)
abbrev Tick_v48 (y8 : kden Bool.false tI × denCells kWork × PUnit) := y8.2.1.2.2.2.2.2.2.1
abbrev Tick_v49 (_ : Int) (_ : List LabD) (_ : Int) (_ : Int) (_ : Int) (_ : Int) (dj : List JobD) (y2 : kden Bool.false tI × denCells kWork × PUnit) (y7 : kden Bool.false tI × kden Bool.true tyN × PUnit) (y8 : kden Bool.false tI × denCells kWork × PUnit) := (pAdd IntKind.i64 y8.1 (1 : Int), (y8.2.1.1, y8.2.1.2.1, y8.2.1.2.2.1, y8.2.1.2.2.2.1, y8.2.1.2.2.2.2.1, y8.2.1.2.2.2.2.2.1, Tick_v48 y8, pApp (Tick_v46 y8).1 (Tick_v47 dj y2 y7 y8), (Tick_v46 y8).2), ())
abbrev Tick_v50 (_ : Int) (_ : List LabD) (_ : Int) (_ : Int) (_ : Int) (_ : Int) (dj : List JobD) (y2 : kden Bool.false tI × denCells kWork × PUnit) (y8 : kden Bool.false tI × denCells kWork × PUnit) := (pAdd IntKind.i64 y2.1 (1 : Int), (y8.2.1.1, y8.2.1.2.1, y8.2.1.2.2.1, y8.2.1.2.2.2.1, y8.2.1.2.2.2.2.1, y8.2.1.2.2.2.2.2.1, pDel (Tick_v48 y8) (pNat (Tick_v3 dj y2)), Tick_v46 y8), ())
abbrev Tick_v51 (dj : List JobD) (y2 : kden Bool.false tI × denCells kWork × PUnit) (y5 : kden Bool.false tI × kden Bool.true tyN × PUnit) := (pGet tyTask (Tick_v6 dj y2).2.2.1 (pNat y5.1)).2
abbrev Tick_v52 (dj : List JobD) (y2 : kden Bool.false tI × denCells kWork × PUnit) (y5 : kden Bool.false tI × kden Bool.true tyN × PUnit) := (pAdd IntKind.i64 y5.1 (1 : Int), pApp y5.2.1 ((pRem (Tick_v51 dj y2 y5).2.1 y2.2.1.1, ()) :: vnil (Int × PUnit)), ())
abbrev Tick_t53 (dj : List JobD) (y2 : kden Bool.false tI × denCells kWork × PUnit) (y5 : kden Bool.false tI × kden Bool.true tyN × PUnit) : Prop := sitesInv y2.2.1.1 y2.2.1.2.2.2.1 (Tick_v6 dj y2).2.2.1 (pAdd IntKind.i64 y5.1 (1 : Int), y5.2) ∧ Nat.le (Nat.succ (sitesMu y2.2.1.1 y2.2.1.2.2.2.1 (Tick_v6 dj y2).2.2.1 (pAdd IntKind.i64 y5.1 (1 : Int), y5.2))) (sitesMu y2.2.1.1
 y2.2.1.2.2.2.1 (Tick_v6 dj y2).2.2.1 y5)
abbrev Tick_v54 (dj : List JobD) (y2 : kden Bool.false tI × denCells kWork × PUnit) := (y2.2.1.1, y2.2.1.2.1, y2.2.1.2.2.1, y2.2.1.2.2.2.1, y2.2.1.2.2.2.2.1, Tick_v7 y2, Tick_v5 dj y2, Tick_v9 y2)
abbrev Tick_v55 (dj : List JobD) (y2 : kden Bool.false tI × denCells kWork × PUnit) := ((y2.2.1.1, y2.2.1.2.1, y2.2.1.2.2.1, y2.2.1.2.2.2.1, y2.2.1.2.2.2.2.1, Tick_v7 y2, Tick_v5 dj y2, Tick_v9 y2), ())
abbrev Tick_v56 (y6 : kden Bool.false tI × denCells kWork × PUnit) := y6.2.1.2.2.2.2.2.2.2
abbrev Tick_v57 (dj : List JobD) (y2 : kden Bool.false tI × denCells kWork × PUnit) (y5 : kden Bool.false tI × kden Bool.true tyN × PUnit) (y6 : kden Bool.false tI × denCells kWork × PUnit) := ((4 : Int), y6.2.1.2.2.2.2.1, (pGet tyN (sortN y5.2.1) (pNat y6.1)).1, y6.2.1.2.2.2.2.1, Tick_v23 dj y2) :: vnil (Int × Int × Int × Int × Int × Int × Int × Int × Int × Int × Bool × Int × PUnit)
abbrev Tick_v58 (y6 : kden Bool.false tI × denCells kWork × PUnit) := y6.2.1.2.2.2.2.2.2.1
abbrev Tick_v59 (_ : Int) (_ : List LabD) (_ : Int) (_ : Int) (_ : Int) (_ : Int) (dj : List JobD) (y2 : kden Bool.false tI × denCells kWork × PUnit) (y5 : kden Bool.false tI × kden Bool.true tyN × PUnit) (y6 : kden Bool.false tI × denCells kWork × PUnit) := (pAdd IntKind.i64 y6.1 (1 : Int), (y6.2.1.1, y6.2.1.2.1, y6.2.1.2.2.1, y6.2.1.2.2.2.1, y6.2.1.2.2.2.2.1, y6.2.1.2.2.2.2.2.1, Tick_v58 y6, pApp (Tick_v56 y6).1 (Tick_v57 dj y2 y5 y6), (Tick_v56 y6).2), ())
abbrev Tick_v60 (_ : Int) (_ : List LabD) (_ : Int) (_ : Int) (_ : Int) (_ : Int) (dj : List JobD) (y2 : kden Bool.false tI × denCells kWork × PUnit) (y6 : kden Bool.false tI × denCells kWork × PUnit) := (pAdd IntKind.i64 y2.1 (1 : Int), (y6.2.1.1, y6.2.1.2.1, y6.2.1.2.2.1, y6.2.1.2.2.2.1, y6.2.1.2.2.2.2.1, y6.2.1.2.2.2.2.2.1, pDel (Tick_v58 y6) (pNat (Tick_v3 dj y2)), Tick_v56 y6), ())
abbrev Tick_v61 (dj : List JobD) (y2 : kden Bool.false tI × denCells kWork × PUnit) (y3 : kden Bool.false tI × kden Bool.true tyN × PUnit) := (pGet tyTask (Tick_v6 dj y2).2.2.1 (pNat y3.1)).2
abbrev Tick_v62 (dj : List JobD) (y2 : kden Bool.false tI × denCells kWork × PUnit) (y3 : kden Bool.false tI × kden Bool.true tyN × PUnit) := (pAdd IntKind.i64 y3.1 (1 : Int), pApp y3.2.1 ((pRem (Tick_v61 dj y2 y3).2.1 y2.2.1.1, ()) :: vnil (Int × PUnit)), ())
abbrev Tick_t63 (dj : List JobD) (y2 : kden Bool.false tI × denCells kWork × PUnit) (y3 : kden Bool.false tI × kden Bool.true tyN × PUnit) : Prop := sitesInv y2.2.1.1 y2.2.1.2.2.2.1 (Tick_v6 dj y2).2.2.1 (pAdd IntKind.i64 y3.1 (1 : Int), y3.2) ∧ Nat.le (Nat.succ (sitesMu y2.2.1.1 y2.2.1.2.2.2.1 (Tick_v6 dj y2).2.2.1 (pAdd IntKind.i64 y3.1 (1 : Int), y3.2))) (sitesMu y2.2.1.1
 y2.2.1.2.2.2.1 (Tick_v6 dj y2).2.2.1 y3)
abbrev Tick_v64 (y4 : kden Bool.false tI × denCells kWork × PUnit) := y4.2.1.2.2.2.2.2.2.2
abbrev Tick_v65 (dj : List JobD) (y2 : kden Bool.false tI × denCells kWork × PUnit) (y3 : kden Bool.false tI × kden Bool.true tyN × PUnit) (y4 : kden Bool.false tI × denCells kWork × PUnit) := ((4 : Int), y4.2.1.2.2.2.2.1, (pGet tyN (sortN y3.2.1) (pNat y4.1)).1, y4.2.1.2.2.2.2.1, Tick_v23 dj y2) :: vnil (Int × Int × Int × Int × Int × Int × Int × Int × Int × Int × Bool × Int × PUnit)
abbrev Tick_v66 (y4 : kden Bool.false tI × denCells kWork × PUnit) := y4.2.1.2.2.2.2.2.2.1
abbrev Tick_v67 (_ : Int) (_ : List LabD) (_ : Int) (_ : Int) (_ : Int) (_ : Int) (dj : List JobD) (y2 : kden Bool.false tI × denCells kWork × PUnit) (y3 : kden Bool.false tI × kden Bool.true tyN × PUnit) (y4 : kden Bool.false tI × denCells kWork × PUnit) := (pAdd IntKind.i64 y4.1 (1 : Int), (y4.2.1.1, y4.2.1.2.1, y4.2.1.2.2.1, y4.2.1.2.2.2.1, y4.2.1.2.2.2.2.1, y4.2.1.2.2.2.2.2.1, Tick_v66 y4, pApp (Tick_v64 y4).1 (Tick_v65 dj y2 y3 y4), (Tick_v64 y4).2), ())
abbrev Tick_v68 (_ : Int) (_ : List LabD) (_ : Int) (_ : Int) (_ : Int) (_ : Int) (dj : List JobD) (y2 : kden Bool.false tI × denCells kWork × PUnit) (y4 : kden Bool.false tI × denCells kWork × PUnit) := (pAdd IntKind.i64 y2.1 (1 : Int), (y4.2.1.1, y4.2.1.2.1, y4.2.1.2.2.1, y4.2.1.2.2.2.1, y4.2.1.2.2.2.2.1, y4.2.1.2.2.2.2.2.1, pDel (Tick_v66 y4) (pNat (Tick_v3 dj y2)), Tick_v64 y4), ())

def Tick_VC (cn : Int) (cl : (List LabD)) (cp : Int) (l : Int) (m : Int) (dn : Int) (dj : (List JobD)) : Prop :=
  Nat.le (Nat.succ (pLen cl)) 4611686018427387904 ∧ Nat.le (Nat.succ (pLen dj)) 4611686018427387904 ∧ (∀ (q0 : Int × Int × List (Bool × Int × Int × Int × Int × Int × Bool × Bool × PUnit) × List (Int × PUnit) × Int × Int × PUnit), List.Mem q0
 dj → Nat.le (Nat.succ (pLen q0.2.2.1)) 4611686018427387904 ∧ Nat.le (Nat.succ (pLen q0.2.2.2.1)) 4611686018427387904) ∧ bif pNe (deskF (cn, cl, cp, ()) (dn, dj, ())) (0 : Int) then bif pNe (deskF (cn, cl, cp, ()) (dn, dj, ())) (0 : Int)
 then (Tick_v0, deskF (cn, cl, cp, ()) (dn, dj, ()), ()) = Tick_v1 cn cl cp l m dn dj else False else bif pLt l (0 : Int) then (Tick_v0, (6 : Int), ()) = Tick_v1 cn cl cp l m dn dj else bif pGe l (pInt (pLen cl)) then (Tick_v0, (6 : Int),
 ()) = Tick_v1 cn cl cp l m dn dj else bif pLt m (0 : Int) then (Tick_v0, (2 : Int), ()) = Tick_v1 cn cl cp l m dn dj else bif pGe m cn then (Tick_v0, (2 : Int), ()) = Tick_v1 cn cl cp l m dn dj else pRoom (pLen dj) 80 ∧ (∀ (q1 : Int × Int ×
 List (Bool × Int × Int × Int × Int × Int × Bool × Bool × PUnit) × List (Int × PUnit) × Int × Int × PUnit), List.Mem q1 dj → pRoom (pLen q1.2.2.1) 56 ∧ pRoom (pLen q1.2.2.2.1) 8) ∧ Nat.le (Nat.succ (pLen dj)) 4611686018427387904 ∧ tickInv cn
 cl cp l m dn dj ((0 : Int), (cn, cl, cp, l, m, dn, dj, vnil (Int × Int × Int × Int × Int × Int × Int × Int × Int × Int × Bool × Int × PUnit), vnil (Int × Int × Int × Int × Int × Int × Bool × List (Int × PUnit) × PUnit), vnil (Int × Int ×
 Int × Int × Int × Int × PUnit), (0 : Int), (0 : Int), ()), ()) ∧ ∀ (y2 : kden Bool.false tI × denCells kWork × PUnit), tickInv cn cl cp l m dn dj y2 → bif pLt y2.1 (pInt (pLen dj)) then pIn y2.1 (pLen dj) ∧ Nat.le (Nat.succ (pLen (Tick_v2
 y2))) 4611686018427387904 ∧ pIn (Tick_v3 dj y2) (pLen (Tick_v2 y2)) ∧ pIn (Tick_v3 dj y2) (pLen (Tick_v2 y2)) ∧ pIn (Tick_v3 dj y2) (pLen (Tick_v5 dj y2)) ∧ bif pGe (Tick_v6 dj y2).2.2.2.2.2.1 cp then pIn (Tick_v3 dj y2) (pLen (Tick_v5 dj
 y2)) ∧ bif pEq (Tick_v6 dj y2).2.1 (3 : Int) then tellInv (Tick_v10 dj y2) (Tick_v11 dj y2).1 (Tick_v11 dj y2).2.2.2.1 ((0 : Int), (y2.2.1.1, y2.2.1.2.1, y2.2.1.2.2.1, y2.2.1.2.2.2.1, y2.2.1.2.2.2.2.1, Tick_v7 y2, Tick_v8 dj y2, Tick_v9
 y2), ()) ∧ ∀ (y13 : kden Bool.false tI × denCells kWork × PUnit), tellInv (Tick_v10 dj y2) (Tick_v11 dj y2).1 (Tick_v11 dj y2).2.2.2.1 y13 → bif pLt y13.1 (pInt (pLen (Tick_v11 dj y2).2.2.2.1)) then pIn y13.1 (pLen (Tick_v11 dj y2).2.2.2.1)
 ∧ pRoom (pPlus (pLen y13.2.1.2.2.2.2.2.2.2.1) (pLen (Tick_v12 dj y2 y13))) 96 ∧ pIn (pSubI IntKind.i64 (pInt (pLen (Tick_v13 dj y2 y13))) (1 : Int)) (pLen (Tick_v13 dj y2 y13)) ∧ tellInv (Tick_v10 dj y2) (Tick_v11 dj y2).1 (Tick_v11 dj
 y2).2.2.2.1 (Tick_v15 cn cl cp l m dn dj y2 y13) ∧ Nat.le (Nat.succ (tellMu (Tick_v10 dj y2) (Tick_v11 dj y2).1 (Tick_v11 dj y2).2.2.2.1 (Tick_v15 cn cl cp l m dn dj y2 y13))) (tellMu (Tick_v10 dj y2) (Tick_v11 dj y2).1 (Tick_v11 dj
 y2).2.2.2.1 y13) else tickInv cn cl cp l m dn dj (pAdd IntKind.i64 y2.1 (1 : Int), y13.2) ∧ Nat.le (Nat.succ (tickMu cn cl cp l m dn dj (pAdd IntKind.i64 y2.1 (1 : Int), y13.2))) (Tick_v16 cn cl cp l m dn dj y2) else bif pEq (Tick_v6 dj
 y2).2.1 (2 : Int) then pRoom (pPlus (pLen (Tick_v9 y2).2.2.1) (pLen (Tick_v17 dj y2))) 48 ∧ pIn (Tick_v3 dj y2) (pLen (Tick_v5 dj y2)) ∧ sitesInv y2.2.1.1 y2.2.1.2.2.2.1 (Tick_v6 dj y2).2.2.1 ((0 : Int), vnil (Int × PUnit), ()) ∧ ∀ (y11 :
 kden Bool.false tI × kden Bool.true tyN × PUnit), sitesInv y2.2.1.1 y2.2.1.2.2.2.1 (Tick_v6 dj y2).2.2.1 y11 → bif pLt y11.1 (pInt (pLen (Tick_v6 dj y2).2.2.1)) then pIn y11.1 (pLen (Tick_v6 dj y2).2.2.1) ∧ pNz y2.2.1.1 ∧ bif pEq (Tick_v18
 dj y2 y11).1 y2.2.1.2.2.2.1 then Nat.le (Nat.succ (pLen y11.2.1)) 4611686018427387904 ∧ bif pNot (pGe (hasF y11.2.1 (pRem (Tick_v18 dj y2 y11).2.1 y2.2.1.1)) (0 : Int)) then pRoom (pPlus (pLen y11.2.1) (pLen ((pRem (Tick_v18 dj y2 y11).2.1
 y2.2.1.1, ()) :: vnil (Int × PUnit)))) 8 ∧ sitesInv y2.2.1.1 y2.2.1.2.2.2.1 (Tick_v6 dj y2).2.2.1 (Tick_v19 dj y2 y11) ∧ Nat.le (Nat.succ (sitesMu y2.2.1.1 y2.2.1.2.2.2.1 (Tick_v6 dj y2).2.2.1 (Tick_v19 dj y2 y11))) (sitesMu y2.2.1.1
 y2.2.1.2.2.2.1 (Tick_v6 dj y2).2.2.1 y11) else Tick_t20 dj y2 y11 else Tick_t20 dj y2 y11 else Nat.le (Nat.succ (pLen y11.2.1)) 12 ∧ pLen (sortN y11.2.1) = pLen y11.2.1 ∧ kendInv (Tick_v21 dj y2) (Tick_v6 dj y2).1 (sortN y11.2.1) ((0 :
 Int), (y2.2.1.1, y2.2.1.2.1, y2.2.1.2.2.1, y2.2.1.2.2.2.1, y2.2.1.2.2.2.2.1, Tick_v7 y2, Tick_v5 dj y2, (Tick_v9 y2).1, (Tick_v9 y2).2.1, pApp (Tick_v9 y2).2.2.1 (Tick_v17 dj y2), (Tick_v9 y2).2.2.2), ()) ∧ ∀ (y12 : kden Bool.false tI ×
 denCells kWork × PUnit), kendInv (Tick_v21 dj y2) (Tick_v6 dj y2).1 (sortN y11.2.1) y12 → bif pLt y12.1 (pInt (pLen (sortN y11.2.1))) then pIn y12.1 (pLen (sortN y11.2.1)) ∧ pRoom (pPlus (pLen (Tick_v22 y12).1) (pLen (Tick_v24 dj y2 y11
 y12))) 96 ∧ pIn (pSubI IntKind.i64 (pInt (pLen (pApp (Tick_v22 y12).1 (Tick_v24 dj y2 y11 y12)))) (1 : Int)) (pLen (pApp (Tick_v22 y12).1 (Tick_v24 dj y2 y11 y12))) ∧ kendInv (Tick_v21 dj y2) (Tick_v6 dj y2).1 (sortN y11.2.1) (Tick_v26 cn
 cl cp l m dn dj y2 y11 y12) ∧ Nat.le (Nat.succ (kendMu (Tick_v21 dj y2) (Tick_v6 dj y2).1 (sortN y11.2.1) (Tick_v26 cn cl cp l m dn dj y2 y11 y12))) (kendMu (Tick_v21 dj y2) (Tick_v6 dj y2).1 (sortN y11.2.1) y12) else pIn (Tick_v3 dj y2)
 (pLen (Tick_v25 y12)) ∧ Tick_t27 dj y2 ∧ Nat.le (Nat.succ (pLen (Tick_v25 y12))) 4611686018427387904 ∧ tickInv cn cl cp l m dn dj (Tick_v28 cn cl cp l m dn dj y2 y12) ∧ Nat.le (Nat.succ (tickMu cn cl cp l m dn dj (Tick_v28 cn cl cp l m dn
 dj y2 y12))) (Tick_v16 cn cl cp l m dn dj y2) else bif pGe (Tick_v29 dj y2) (0 : Int) then pIn (Tick_v29 dj y2) (pLen (Tick_v6 dj y2).2.2.1) ∧ bif pNot (Tick_v30 dj y2).2.2.2.2.2.2.1 then pIn (Tick_v29 dj y2) (pLen (Tick_v6 dj y2).2.2.1) ∧
 bif (Tick_v30 dj y2).1 then pIn (Tick_v29 dj y2) (pLen (Tick_v6 dj y2).2.2.1) ∧ pRoom (pPlus (pLen (Tick_v9 y2).2.2.1) (pLen (Tick_v31 dj y2))) 48 ∧ pIn (Tick_v3 dj y2) (pLen (Tick_v5 dj y2)) ∧ sitesInv y2.2.1.1 y2.2.1.2.2.2.1 (Tick_v6 dj
 y2).2.2.1 ((0 : Int), vnil (Int × PUnit), ()) ∧ ∀ (y9 : kden Bool.false tI × kden Bool.true tyN × PUnit), sitesInv y2.2.1.1 y2.2.1.2.2.2.1 (Tick_v6 dj y2).2.2.1 y9 → bif pLt y9.1 (pInt (pLen (Tick_v6 dj y2).2.2.1)) then pIn y9.1 (pLen
 (Tick_v6 dj y2).2.2.1) ∧ pNz y2.2.1.1 ∧ bif pEq (Tick_v32 dj y2 y9).1 y2.2.1.2.2.2.1 then Nat.le (Nat.succ (pLen y9.2.1)) 4611686018427387904 ∧ bif pNot (pGe (hasF y9.2.1 (pRem (Tick_v32 dj y2 y9).2.1 y2.2.1.1)) (0 : Int)) then pRoom (pPlus
 (pLen y9.2.1) (pLen ((pRem (Tick_v32 dj y2 y9).2.1 y2.2.1.1, ()) :: vnil (Int × PUnit)))) 8 ∧ sitesInv y2.2.1.1 y2.2.1.2.2.2.1 (Tick_v6 dj y2).2.2.1 (Tick_v33 dj y2 y9) ∧ Nat.le (Nat.succ (sitesMu y2.2.1.1 y2.2.1.2.2.2.1 (Tick_v6 dj
 y2).2.2.1 (Tick_v33 dj y2 y9))) (sitesMu y2.2.1.1 y2.2.1.2.2.2.1 (Tick_v6 dj y2).2.2.1 y9) else Tick_t34 dj y2 y9 else Tick_t34 dj y2 y9 else Nat.le (Nat.succ (pLen y9.2.1)) 12 ∧ pLen (sortN y9.2.1) = pLen y9.2.1 ∧ kendInv (Tick_v35 dj y2)
 (Tick_v6 dj y2).1 (sortN y9.2.1) ((0 : Int), (y2.2.1.1, y2.2.1.2.1, y2.2.1.2.2.1, y2.2.1.2.2.2.1, y2.2.1.2.2.2.2.1, Tick_v7 y2, Tick_v5 dj y2, (Tick_v9 y2).1, (Tick_v9 y2).2.1, pApp (Tick_v9 y2).2.2.1 (Tick_v31 dj y2), (Tick_v9 y2).2.2.2),
 ()) ∧ ∀ (y10 : kden Bool.false tI × denCells kWork × PUnit), kendInv (Tick_v35 dj y2) (Tick_v6 dj y2).1 (sortN y9.2.1) y10 → bif pLt y10.1 (pInt (pLen (sortN y9.2.1))) then pIn y10.1 (pLen (sortN y9.2.1)) ∧ pRoom (pPlus (pLen (Tick_v36
 y10).1) (pLen (Tick_v37 dj y2 y9 y10))) 96 ∧ pIn (pSubI IntKind.i64 (pInt (pLen (pApp (Tick_v36 y10).1 (Tick_v37 dj y2 y9 y10)))) (1 : Int)) (pLen (pApp (Tick_v36 y10).1 (Tick_v37 dj y2 y9 y10))) ∧ kendInv (Tick_v35 dj y2) (Tick_v6 dj y2).1
 (sortN y9.2.1) (Tick_v39 cn cl cp l m dn dj y2 y9 y10) ∧ Nat.le (Nat.succ (kendMu (Tick_v35 dj y2) (Tick_v6 dj y2).1 (sortN y9.2.1) (Tick_v39 cn cl cp l m dn dj y2 y9 y10))) (kendMu (Tick_v35 dj y2) (Tick_v6 dj y2).1 (sortN y9.2.1) y10)
 else pIn (Tick_v3 dj y2) (pLen (Tick_v38 y10)) ∧ Tick_t27 dj y2 ∧ Nat.le (Nat.succ (pLen (Tick_v38 y10))) 4611686018427387904 ∧ tickInv cn cl cp l m dn dj (Tick_v40 cn cl cp l m dn dj y2 y10) ∧ Nat.le (Nat.succ (tickMu cn cl cp l m dn dj
 (Tick_v40 cn cl cp l m dn dj y2 y10))) (Tick_v16 cn cl cp l m dn dj y2) else pIn (Tick_v29 dj y2) (pLen (Tick_v6 dj y2).2.2.1) ∧ pRoom (pPlus (pLen (Tick_v9 y2).2.2.1) (pLen (Tick_v41 dj y2))) 48 ∧ pIn (Tick_v3 dj y2) (pLen (Tick_v5 dj y2))
 ∧ sitesInv y2.2.1.1 y2.2.1.2.2.2.1 (Tick_v6 dj y2).2.2.1 ((0 : Int), vnil (Int × PUnit), ()) ∧ ∀ (y7 : kden Bool.false tI × kden Bool.true tyN × PUnit), sitesInv y2.2.1.1 y2.2.1.2.2.2.1 (Tick_v6 dj y2).2.2.1 y7 → bif pLt y7.1 (pInt (pLen
 (Tick_v6 dj y2).2.2.1)) then pIn y7.1 (pLen (Tick_v6 dj y2).2.2.1) ∧ pNz y2.2.1.1 ∧ bif pEq (Tick_v42 dj y2 y7).1 y2.2.1.2.2.2.1 then Nat.le (Nat.succ (pLen y7.2.1)) 4611686018427387904 ∧ bif pNot (pGe (hasF y7.2.1 (pRem (Tick_v42 dj y2
 y7).2.1 y2.2.1.1)) (0 : Int)) then pRoom (pPlus (pLen y7.2.1) (pLen ((pRem (Tick_v42 dj y2 y7).2.1 y2.2.1.1, ()) :: vnil (Int × PUnit)))) 8 ∧ sitesInv y2.2.1.1 y2.2.1.2.2.2.1 (Tick_v6 dj y2).2.2.1 (Tick_v43 dj y2 y7) ∧ Nat.le (Nat.succ
 (sitesMu y2.2.1.1 y2.2.1.2.2.2.1 (Tick_v6 dj y2).2.2.1 (Tick_v43 dj y2 y7))) (sitesMu y2.2.1.1 y2.2.1.2.2.2.1 (Tick_v6 dj y2).2.2.1 y7) else Tick_t44 dj y2 y7 else Tick_t44 dj y2 y7 else Nat.le (Nat.succ (pLen y7.2.1)) 12 ∧ pLen (sortN
 y7.2.1) = pLen y7.2.1 ∧ kendInv (Tick_v45 dj y2) (Tick_v6 dj y2).1 (sortN y7.2.1) ((0 : Int), (y2.2.1.1, y2.2.1.2.1, y2.2.1.2.2.1, y2.2.1.2.2.2.1, y2.2.1.2.2.2.2.1, Tick_v7 y2, Tick_v5 dj y2, (Tick_v9 y2).1, (Tick_v9 y2).2.1, pApp (Tick_v9
 y2).2.2.1 (Tick_v41 dj y2), (Tick_v9 y2).2.2.2), ()) ∧ ∀ (y8 : kden Bool.false tI × denCells kWork × PUnit), kendInv (Tick_v45 dj y2) (Tick_v6 dj y2).1 (sortN y7.2.1) y8 → bif pLt y8.1 (pInt (pLen (sortN y7.2.1))) then pIn y8.1 (pLen (sortN
 y7.2.1)) ∧ pRoom (pPlus (pLen (Tick_v46 y8).1) (pLen (Tick_v47 dj y2 y7 y8))) 96 ∧ pIn (pSubI IntKind.i64 (pInt (pLen (pApp (Tick_v46 y8).1 (Tick_v47 dj y2 y7 y8)))) (1 : Int)) (pLen (pApp (Tick_v46 y8).1 (Tick_v47 dj y2 y7 y8))) ∧ kendInv
 (Tick_v45 dj y2) (Tick_v6 dj y2).1 (sortN y7.2.1) (Tick_v49 cn cl cp l m dn dj y2 y7 y8) ∧ Nat.le (Nat.succ (kendMu (Tick_v45 dj y2) (Tick_v6 dj y2).1 (sortN y7.2.1) (Tick_v49 cn cl cp l m dn dj y2 y7 y8))) (kendMu (Tick_v45 dj y2) (Tick_v6
 dj y2).1 (sortN y7.2.1) y8) else pIn (Tick_v3 dj y2) (pLen (Tick_v48 y8)) ∧ Tick_t27 dj y2 ∧ Nat.le (Nat.succ (pLen (Tick_v48 y8))) 4611686018427387904 ∧ tickInv cn cl cp l m dn dj (Tick_v50 cn cl cp l m dn dj y2 y8) ∧ Nat.le (Nat.succ
 (tickMu cn cl cp l m dn dj (Tick_v50 cn cl cp l m dn dj y2 y8))) (Tick_v16 cn cl cp l m dn dj y2) else pIn (Tick_v3 dj y2) (pLen (Tick_v5 dj y2)) ∧ sitesInv y2.2.1.1 y2.2.1.2.2.2.1 (Tick_v6 dj y2).2.2.1 ((0 : Int), vnil (Int × PUnit), ()) ∧
 ∀ (y5 : kden Bool.false tI × kden Bool.true tyN × PUnit), sitesInv y2.2.1.1 y2.2.1.2.2.2.1 (Tick_v6 dj y2).2.2.1 y5 → bif pLt y5.1 (pInt (pLen (Tick_v6 dj y2).2.2.1)) then pIn y5.1 (pLen (Tick_v6 dj y2).2.2.1) ∧ pNz y2.2.1.1 ∧ bif pEq
 (Tick_v51 dj y2 y5).1 y2.2.1.2.2.2.1 then Nat.le (Nat.succ (pLen y5.2.1)) 4611686018427387904 ∧ bif pNot (pGe (hasF y5.2.1 (pRem (Tick_v51 dj y2 y5).2.1 y2.2.1.1)) (0 : Int)) then pRoom (pPlus (pLen y5.2.1) (pLen ((pRem (Tick_v51 dj y2
 y5).2.1 y2.2.1.1, ()) :: vnil (Int × PUnit)))) 8 ∧ sitesInv y2.2.1.1 y2.2.1.2.2.2.1 (Tick_v6 dj y2).2.2.1 (Tick_v52 dj y2 y5) ∧ Nat.le (Nat.succ (sitesMu y2.2.1.1 y2.2.1.2.2.2.1 (Tick_v6 dj y2).2.2.1 (Tick_v52 dj y2 y5))) (sitesMu y2.2.1.1
 y2.2.1.2.2.2.1 (Tick_v6 dj y2).2.2.1 y5) else Tick_t53 dj y2 y5 else Tick_t53 dj y2 y5 else Nat.le (Nat.succ (pLen y5.2.1)) 12 ∧ pLen (sortN y5.2.1) = pLen y5.2.1 ∧ kendInv (Tick_v54 dj y2) (Tick_v6 dj y2).1 (sortN y5.2.1) ((0 : Int),
 Tick_v55 dj y2) ∧ ∀ (y6 : kden Bool.false tI × denCells kWork × PUnit), kendInv (Tick_v54 dj y2) (Tick_v6 dj y2).1 (sortN y5.2.1) y6 → bif pLt y6.1 (pInt (pLen (sortN y5.2.1))) then pIn y6.1 (pLen (sortN y5.2.1)) ∧ pRoom (pPlus (pLen
 (Tick_v56 y6).1) (pLen (Tick_v57 dj y2 y5 y6))) 96 ∧ pIn (pSubI IntKind.i64 (pInt (pLen (pApp (Tick_v56 y6).1 (Tick_v57 dj y2 y5 y6)))) (1 : Int)) (pLen (pApp (Tick_v56 y6).1 (Tick_v57 dj y2 y5 y6))) ∧ kendInv (Tick_v54 dj y2) (Tick_v6 dj
 y2).1 (sortN y5.2.1) (Tick_v59 cn cl cp l m dn dj y2 y5 y6) ∧ Nat.le (Nat.succ (kendMu (Tick_v54 dj y2) (Tick_v6 dj y2).1 (sortN y5.2.1) (Tick_v59 cn cl cp l m dn dj y2 y5 y6))) (kendMu (Tick_v54 dj y2) (Tick_v6 dj y2).1 (sortN y5.2.1) y6)
 else pIn (Tick_v3 dj y2) (pLen (Tick_v58 y6)) ∧ Tick_t27 dj y2 ∧ Nat.le (Nat.succ (pLen (Tick_v58 y6))) 4611686018427387904 ∧ tickInv cn cl cp l m dn dj (Tick_v60 cn cl cp l m dn dj y2 y6) ∧ Nat.le (Nat.succ (tickMu cn cl cp l m dn dj
 (Tick_v60 cn cl cp l m dn dj y2 y6))) (Tick_v16 cn cl cp l m dn dj y2) else pIn (Tick_v3 dj y2) (pLen (Tick_v5 dj y2)) ∧ sitesInv y2.2.1.1 y2.2.1.2.2.2.1 (Tick_v6 dj y2).2.2.1 ((0 : Int), vnil (Int × PUnit), ()) ∧ ∀ (y3 : kden Bool.false tI
 × kden Bool.true tyN × PUnit), sitesInv y2.2.1.1 y2.2.1.2.2.2.1 (Tick_v6 dj y2).2.2.1 y3 → bif pLt y3.1 (pInt (pLen (Tick_v6 dj y2).2.2.1)) then pIn y3.1 (pLen (Tick_v6 dj y2).2.2.1) ∧ pNz y2.2.1.1 ∧ bif pEq (Tick_v61 dj y2 y3).1
 y2.2.1.2.2.2.1 then Nat.le (Nat.succ (pLen y3.2.1)) 4611686018427387904 ∧ bif pNot (pGe (hasF y3.2.1 (pRem (Tick_v61 dj y2 y3).2.1 y2.2.1.1)) (0 : Int)) then pRoom (pPlus (pLen y3.2.1) (pLen ((pRem (Tick_v61 dj y2 y3).2.1 y2.2.1.1, ()) ::
 vnil (Int × PUnit)))) 8 ∧ sitesInv y2.2.1.1 y2.2.1.2.2.2.1 (Tick_v6 dj y2).2.2.1 (Tick_v62 dj y2 y3) ∧ Nat.le (Nat.succ (sitesMu y2.2.1.1 y2.2.1.2.2.2.1 (Tick_v6 dj y2).2.2.1 (Tick_v62 dj y2 y3))) (sitesMu y2.2.1.1 y2.2.1.2.2.2.1 (Tick_v6
 dj y2).2.2.1 y3) else Tick_t63 dj y2 y3 else Tick_t63 dj y2 y3 else Nat.le (Nat.succ (pLen y3.2.1)) 12 ∧ pLen (sortN y3.2.1) = pLen y3.2.1 ∧ kendInv (Tick_v54 dj y2) (Tick_v6 dj y2).1 (sortN y3.2.1) ((0 : Int), Tick_v55 dj y2) ∧ ∀ (y4 :
 kden Bool.false tI × denCells kWork × PUnit), kendInv (Tick_v54 dj y2) (Tick_v6 dj y2).1 (sortN y3.2.1) y4 → bif pLt y4.1 (pInt (pLen (sortN y3.2.1))) then pIn y4.1 (pLen (sortN y3.2.1)) ∧ pRoom (pPlus (pLen (Tick_v64 y4).1) (pLen (Tick_v65
 dj y2 y3 y4))) 96 ∧ pIn (pSubI IntKind.i64 (pInt (pLen (pApp (Tick_v64 y4).1 (Tick_v65 dj y2 y3 y4)))) (1 : Int)) (pLen (pApp (Tick_v64 y4).1 (Tick_v65 dj y2 y3 y4))) ∧ kendInv (Tick_v54 dj y2) (Tick_v6 dj y2).1 (sortN y3.2.1) (Tick_v67 cn
 cl cp l m dn dj y2 y3 y4) ∧ Nat.le (Nat.succ (kendMu (Tick_v54 dj y2) (Tick_v6 dj y2).1 (sortN y3.2.1) (Tick_v67 cn cl cp l m dn dj y2 y3 y4))) (kendMu (Tick_v54 dj y2) (Tick_v6 dj y2).1 (sortN y3.2.1) y4) else pIn (Tick_v3 dj y2) (pLen
 (Tick_v66 y4)) ∧ Tick_t27 dj y2 ∧ Nat.le (Nat.succ (pLen (Tick_v66 y4))) 4611686018427387904 ∧ tickInv cn cl cp l m dn dj (Tick_v68 cn cl cp l m dn dj y2 y4) ∧ Nat.le (Nat.succ (tickMu cn cl cp l m dn dj (Tick_v68 cn cl cp l m dn dj y2
 y4))) (Tick_v16 cn cl cp l m dn dj y2) else tickInv cn cl cp l m dn dj (pAdd IntKind.i64 y2.1 (1 : Int), Tick_v55 dj y2) ∧ Nat.le (Nat.succ (tickMu cn cl cp l m dn dj (pAdd IntKind.i64 y2.1 (1 : Int), Tick_v55 dj y2))) (Tick_v16 cn cl cp l
 m dn dj y2) else (y2.2.1.2.2.2.2.2, (0 : Int), ()) = Tick_v1 cn cl cp l m dn dj
set_option maxRecDepth 100000 in
theorem Tick_meets  (ikbegin : MeetsK Try.prog (fun _ => none) 14 false kkbegin) (ikplace : MeetsK Try.prog (fun _ => none) 15 false kkplace) (iklate : MeetsK Try.prog (fun _ => none) 16 false kklate) (h : ∀ (cn : Int) (cl : (List LabD)) (cp : Int) (l : Int) (m : Int) (dn : Int) (dj : (List JobD)), (∀ p ∈ Tick_p ⟨((cn, cl, cp, ()), l, m, (dn, dj, ()), ()), ()⟩, p) → Tick_VC cn cl cp l m dn dj) : Mt 6 cTick :=
  meets_vc (E := envI Try.prog (fun _ => none) [] [(14, (false, kkbegin)), (15, (false, kkplace)), (16, (false, kklate))] eqsCvV [] [] false) (envI_ok (fun p hp => by cases hp) (fun p hp => (by simp only [List.mem_cons, List.not_mem_nil, or_false] at hp; rcases hp with rfl | rfl | rfl; exact ikbegin; exact ikplace; exact iklate)) (by kernel_rfl)) Tick_S (fun x => fun ky9 st9 => look [(5, (⟨[.slot 30 false tI, .box (ptI st9 10) kWork], tickInv x.1.1.1 x.1.1.2.1 x.1.1.2.2.1 x.1.2.1 x.1.2.2.1 x.1.2.2.2.1.1 x.1.2.2.2.1.2.1, tickMu x.1.1.1 x.1.1.2.1 x.1.1.2.2.1 x.1.2.1 x.1.2.2.1 x.1.2.2.2.1.1 x.1.2.2.2.1.2.1⟩ : Ann))] ky9) Try.func6 (by kernel_rfl) (by kernel_rfl) Tick_p [] [.agg 0 kTurn, .slot 1 false tI] Tick_f (fun x => Tick_VC x.1.1.1 x.1.1.2.1 x.1.1.2.2.1 x.1.2.1 x.1.2.2.1 x.1.2.2.2.1.1 x.1.2.2.2.1.2.1) (fun x => by kernel_rfl) (fun x hp => h x.1.1.1 x.1.1.2.1 x.1.1.2.2.1 x.1.2.1 x.1.2.2.1 x.1.2.2.2.1.1 x.1.2.2.2.1.2.1 hp)


end Go.Proofs.Ytnkcmkegjckncaa
