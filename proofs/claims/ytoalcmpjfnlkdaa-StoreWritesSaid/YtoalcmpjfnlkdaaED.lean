/- THE MACHINE OF READINGS, part D: the other operations that only compute or read. -/
import Derived.Test.YtoalcmpjfnlkdaaEC
import Derived.Laws.Slices
import GoSem.Builtin.Max
namespace Go.Proofs.Ytoalcmpjfnlkdaa
open Go.RowKit

section
variable {E : Env} {w0 : World} {X Z : Blk} {a : Act} {w : World} {s : St} {ρ : Nat → Pl} {N : Blk} {m : Mem}

theorem offT_some {P : Program} {T : TypeId} {f : Nat} {p : Nat × TypeId} (h : offT P T f = some p) : ∃ fs x i, P.underlying T = some (.struct fs) ∧ fs[f]? = some x ∧ p = (x.offset, x.type) ∧ P.info? x.type = some i ∧ i.size ≠ 0 := by
  unfold offT at h
  split at h
  · rename_i fs hu
    split at h
    · rename_i x hx
      split at h
      · rename_i n hn
        simp only [Option.some.injEq] at h
        obtain ⟨i, hi, hs⟩ := sizeT_some hn
        exact ⟨fs, x, i, hu, hx, h.symm, hi, by omega⟩
      · cases h
    · cases h
  · cases h

theorem run_fieldAt {T : TypeId} {f : Nat} {p : Nat × TypeId} (h : offT E.P T f = some p) (b off : Nat) (w : World) :
    (Instr.fieldAt T (.pointer (some ⟨b, off, none⟩)) f).run E.P w = .ok (.pointer (some ⟨b, off + p.1, none⟩)) w := by
  obtain ⟨fs, x, i, hu, hx, rfl, hi, hs⟩ := offT_some h
  simp [Instr.fieldAt, run_underlying hu, hx, Instr.sureAddr, fieldPlace, sizeOf, typeInfo, hi, hs, addr_add]

theorem fieldAddr_ok (h : Rel E w0 X Z a w s ρ N) {o : Oper} {T : TypeId} {x : Operand} {f : Nat} (ho : o.op = .fieldAddr T x f) {obs : List Prop} {e : Eff}
    (he : aFieldAddr E T f (s.get x) = some (obs, e)) : PureR E a o w N ρ s.obj e := by
  have hx := h.get x
  have fin : ∀ {b off : Nat} {p : Nat × TypeId} {c : C} {obs : List Prop}, a.eval x = .pointer (some ⟨b, off, none⟩) → offT E.P T f = some p → CR w N ρ s.obj c (.pointer (some ⟨b, off + p.1, none⟩)) → ret c = some (obs, e) → PureR E a o w N ρ s.obj e := by
    intro b off p c obs hev hp hc hr
    simp only [ret, Option.some.injEq, Prod.mk.injEq] at hr
    obtain ⟨_, rfl⟩ := hr
    exact ⟨_, by simp [execOp, ho, hev, run_fieldAt hp], ⟨_, rfl, hc⟩, rfl⟩
  unfold aFieldAddr at he
  split at he
  · rename_i id off hg
    rw [hg] at hx
    obtain ⟨b, hA, hv⟩ := vr1 hx
    cases hp : offT E.P T f with
    | none => simp [hp] at he
    | some p => simp only [hp, Option.bind_some] at he; exact fin (c := .pt id (off + p.1)) hv hp ⟨b, hA, rfl⟩ he
  · rename_i t xs i off hg
    rw [hg] at hx
    obtain ⟨b, o', hv, hN, hi, hr⟩ := vr1 hx
    cases hp : offT E.P T f with
    | none => simp [hp] at he
    | some p => simp only [hp, Option.bind_some] at he; exact fin (c := .pe t xs i (off + p.1)) hv hp ⟨b, o', by rw [Nat.add_assoc], hN, hi, hr⟩ he
  · rename_i id i off hg
    rw [hg] at hx
    obtain ⟨⟨ad, hv⟩, hr⟩ := vr1 hx
    cases hp : offT E.P T f with
    | none => simp [hp] at he
    | some p =>
      simp only [hp, Option.bind_some] at he
      simp only [ret, Option.some.injEq, Prod.mk.injEq] at he
      obtain ⟨_, rfl⟩ := he
      obtain ⟨fs, y, i', hu, hy, rfl, hi, hs⟩ := offT_some hp
      refine ⟨.pointer (some (ad.add y.offset)), by simp [execOp, ho, hv, Instr.fieldAt, run_underlying hu, hy, Instr.sureAddr, fieldPlace, sizeOf, typeInfo, hi, hs], ⟨_, rfl, ⟨_, rfl⟩, fun t xs hm => ?_⟩, rfl⟩
      obtain ⟨h1, b, hA, hb⟩ := hr t xs hm
      rw [hv] at hb
      simp only [Value.pointer.injEq, Option.some.injEq] at hb
      subst hb
      exact ⟨h1, b, hA, by rw [addr_add, Nat.add_assoc]⟩
  · rename_i g off hg
    rw [hg] at hx
    have hv : _ = _ := vr1 hx
    cases hp : offT E.P T f with
    | none => simp [hp] at he
    | some p => simp only [hp, Option.bind_some] at he; exact fin (c := .gp g (off + p.1)) hv hp rfl he
  · cases he

theorem field_ok (h : Rel E w0 X Z a w s ρ N) {o : Oper} {T : TypeId} {x : Operand} {f : Nat} (ho : o.op = .field T x f) {obs : List Prop} {e : Eff}
    (he : aField E T f (s.get x) = some (obs, e)) : PureR E a o w N ρ s.obj e := by
  have hx := h.get x
  unfold aField at he
  split at he
  · rename_i cs hg
    rw [hg] at hx
    obtain ⟨us, hv, ha⟩ := hx
    cases hp : offT E.P T f with
    | none => simp [hp] at he
    | some p =>
      simp only [hp, Option.bind_some] at he
      obtain ⟨fs, y, i, hu, hy, rfl, hi, hs⟩ := offT_some hp
      cases hq : part E y.type cs y.offset with
      | none => simp [hq] at he
      | some sv =>
        simp only [hq, Option.map_some, Option.some.injEq, Prod.mk.injEq] at he
        obtain ⟨_, rfl⟩ := he
        have key : ∃ v, (Go.part y.type us.toArray y.offset).run E.P w = .ok v w ∧ SVR w N ρ s.obj sv v := by
          unfold part at hq
          split at hq
          · cases hq
          · rename_i d hd
            cases hag : isAggD d with
            | true =>
              simp only [hag, cond_true] at hq
              split at hq
              · rename_i n hn
                cases hcut : cut cs y.offset n with
                | none => simp [hcut] at hq
                | some vs =>
                  simp only [hcut, Option.map_some, Option.some.injEq] at hq
                  subst hq
                  obtain ⟨hl, rfl⟩ := cut_some hcut
                  refine ⟨.agg (us.toArray.extract y.offset (y.offset + n)), by simp [Go.part, run_isAggD w hd, hag, run_sizeT w hn], (us.drop y.offset).take n, ?_, (ha.drop _).take _⟩
                  congr 1
                  apply Array.ext'
                  simp
              · cases hq
            | false =>
              simp only [hag, cond_false] at hq
              cases hgc : cs[y.offset]? with
              | none => simp [hgc] at hq
              | some c =>
                simp only [hgc, Option.map_some, Option.some.injEq] at hq
                subst hq
                obtain ⟨u, hu', hr⟩ := ha.get _ hgc
                exact ⟨u, by simp [Go.part, run_isAggD w hd, hag, hu'], c, rfl, hr⟩
        obtain ⟨v, hr, hsv⟩ := key
        exact ⟨v, by simp [execOp, ho, Instr.field, run_underlying hu, hy, hv, asAgg, hr], hsv, rfl⟩
  · cases he

theorem esizeT_some {P : Program} {T : TypeId} {n : Nat} (h : esizeT P T = some n) : ∃ e i, P.underlying T = some (.slice e) ∧ P.info? e = some i ∧ i.size = n := by
  unfold esizeT elemT at h
  split at h
  · rename_i e hu
    obtain ⟨i, hi, hs⟩ := sizeT_some (by simpa using h)
    exact ⟨e, i, hu, hi, hs⟩
  · simp at h

theorem indexAddr_ok (h : Rel E w0 X Z a w s ρ N) (hm : ∀ id ob, m id = some ob → s.obj id = some ob) {o : Oper} {T : TypeId} {x i : Operand} (ho : o.op = .indexAddr T x i) {obs : List Prop} {e : Eff}
    (he : aIndexAddr E m T (s.get x) (s.get i) = some (obs, e)) (hob : ∀ p ∈ obs, p) : PureR E a o w N ρ s.obj e := by
  have hx := h.get x
  have hi := h.get i
  unfold aIndexAddr at he
  split at he
  · rename_i t xs k n hgx hgi
    rw [hgx] at hx; rw [hgi] at hi
    have hiv : _ = _ := vr1 hi
    split at he
    · rename_i hes
      simp only [Option.some.injEq, Prod.mk.injEq] at he
      obtain ⟨rfl, rfl⟩ := he
      have hb : pIn n (pLen xs) := hob _ (by simp)
      unfold pIn pLen at hb
      obtain ⟨el, inf, hu, hinf, hsz⟩ := esizeT_some hes
      obtain ⟨A, nn, c, hv, hl, hc, hr⟩ := (vr1 hx : Rd _ _ _ _ _)
      simp only [List.cons.injEq, and_true] at hv
      obtain ⟨b, off, rfl, hN, hk⟩ := hr (by omega)
      have hlt : n.toNat < xs.length := by omega
      obtain ⟨us, hrd, _, hcell⟩ := hk n.toNat hlt
      refine ⟨.pointer (some ⟨b, off + n.toNat * t.size, none⟩), ?_, ⟨_, rfl, b, off + n.toNat * t.size, rfl, hN, by simpa [pNat] using hlt, us, ?_, hcell⟩, rfl⟩
      · have h1 : 0 ≤ n ∧ n < (nn : Int) := by omega
        simp [execOp, ho, hv, hiv, Instr.indexAt, asIntOf, run_underlying hu, h1, sizeOf, typeInfo, hinf, hsz, addr_add]
      · have : pGet t xs (pNat n) = xs[n.toNat] := by unfold pGet pNat; simp [List.getD, hlt]
        rw [this]; exact hrd
    · cases he
  · rename_i id k n hgx hgi
    rw [hgx] at hx; rw [hgi] at hi
    have hiv : _ = _ := vr1 hi
    split at he
    · rename_i t xs hmem
      split at he
      · rename_i hes
        simp only [Option.some.injEq, Prod.mk.injEq] at he
        obtain ⟨rfl, rfl⟩ := he
        have hb : pIn n (pLen xs) := hob _ (by simp)
        unfold pIn pLen at hb
        obtain ⟨el, inf, hu, hinf, hsz⟩ := esizeT_some hes
        have hso := hm id _ hmem
        have hv := (vr1 hx).2 t xs hso
        obtain ⟨b, us, hA, _, _⟩ := row_cells (h.mr.obj id _ hso) (i := n.toNat) (by omega)
        refine ⟨.pointer (some ⟨b, n.toNat * t.size, none⟩), ?_, ⟨_, rfl, ⟨_, rfl⟩, fun t' ys hy => ?_⟩, rfl⟩
        · have h1 : 0 ≤ n ∧ n < (xs.length : Int) := by omega
          simp [execOp, ho, hv, hA, hiv, Instr.indexAt, asIntOf, run_underlying hu, h1, sizeOf, typeInfo, hinf, hsz, addr_add]
        · have hso' : s.obj id = some (.row t xs) := hso
          have hy' : s.obj id = some (.row t' ys) := hy
          rw [hso'] at hy'
          simp only [Option.some.injEq, Obj.row.injEq] at hy'
          obtain ⟨rfl, hxy⟩ := hy'
          have hxy := eq_of_heq hxy
          subst hxy
          exact ⟨by unfold pNat; omega, b, hA, by simp [pNat]⟩
      · cases he
    · cases he
  · simp only [Option.some.injEq, Prod.mk.injEq] at he
    obtain ⟨rfl, rfl⟩ := he
    exact absurd (hob False (by simp)) id
  · rename_i g off k n hgx hgi
    rw [hgx] at hx; rw [hgi] at hi
    have hiv : _ = _ := vr1 hi
    have hv : _ = _ := vr1 hx
    split at he
    · rename_i len el hu
      split at he
      · rename_i z hz
        split at he
        · rename_i hn
          simp only [ret, Option.some.injEq, Prod.mk.injEq] at he
          obtain ⟨_, rfl⟩ := he
          refine ⟨_, ?_, ⟨_, rfl, rfl⟩, rfl⟩
          simp only [execOp, ho, hv, hiv, Instr.indexAt, asIntOf, Sem.run_bind, Sem.run_pure, Result.andThen_ok, run_underlying hu, Instr.sureAddr]
          simp [run_sizeT w hz, addr_add, hn]
        · cases he
      · cases he
    · cases he
  · rename_i id off k n hgx hgi
    rw [hgx] at hx; rw [hgi] at hi
    have hiv : _ = _ := vr1 hi
    obtain ⟨b, hA, hv⟩ := vr1 hx
    split at he
    · rename_i len el hu
      split at he
      · rename_i z hz
        split at he
        · rename_i hn
          simp only [ret, Option.some.injEq, Prod.mk.injEq] at he
          obtain ⟨_, rfl⟩ := he
          refine ⟨_, ?_, ⟨_, rfl, b, hA, rfl⟩, rfl⟩
          simp only [execOp, ho, hv, hiv, Instr.indexAt, asIntOf, Sem.run_bind, Sem.run_pure, Result.andThen_ok, run_underlying hu, Instr.sureAddr]
          simp [run_sizeT w hz, addr_add, hn]
        · cases he
      · cases he
    · cases he
  · cases he

end
end Go.Proofs.Ytoalcmpjfnlkdaa
