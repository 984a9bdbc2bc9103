/- THE MACHINE OF READINGS, part E: arithmetic, strings, slices of slices. -/
import Derived.Test.YtoalcmpjfnlkdaaED
namespace Go.Proofs.Ytoalcmpjfnlkdaa
open Go.RowKit

/-- structs of this type are compared cell by cell -/
def EqT (P : Program) (T : TypeId) : Prop :=
  P.eqGuardType P.depth T = false ∧ ∀ (w : World) (N : Blk) (ρ : Nat → Pl) (m : Mem) (cs ds : List C) (us vs : List Value) (b : Bool),
    fitKs ((eqKs P 16 T).getD []) cs = true → fitKs ((eqKs P 16 T).getD []) ds = true → All2 (CR w N ρ m) cs us → All2 (CR w N ρ m) ds vs → eqCells cs ds = some b → (Op.equalIn 10000 T (.agg us.toArray) (.agg vs.toArray)).run P w = .ok b w

section
variable {E : Env} {w0 : World} {X Z : Blk} {a : Act} {w : World} {s : St} {ρ : Nat → Pl} {N : Blk} {m : Mem}

theorem pure_ret {o : Oper} {c : C} {v : Value} {obs : List Prop} {e : Eff} (hr : (execOp a.eval o).run E.P w = .ok (.value v) w) (hc : CR w N ρ m c v) (he : ret c = some (obs, e)) : PureR E a o w N ρ m e := by
  simp only [ret, Option.some.injEq, Prod.mk.injEq] at he
  obtain ⟨_, rfl⟩ := he
  exact ⟨v, hr, ⟨_, rfl, hc⟩, rfl⟩

theorem pure_one {o : Oper} {c : C} {v : Value} {ps obs : List Prop} {e : Eff} (hr : (execOp a.eval o).run E.P w = .ok (.value v) w) (hc : CR w N ρ m c v) (he : some (ps, (⟨one c, []⟩ : Eff)) = some (obs, e)) : PureR E a o w N ρ m e := by
  simp only [Option.some.injEq, Prod.mk.injEq] at he
  obtain ⟨_, rfl⟩ := he
  exact ⟨v, hr, ⟨_, rfl, hc⟩, rfl⟩

theorem move_ok (h : Rel E w0 X Z a w s ρ N) {o : Oper} {x : Operand} (ho : o.op = .move x ∨ o.op = .assign x) : PureR E a o w N ρ s.obj ⟨s.get x, []⟩ :=
  ⟨a.eval x, by rcases ho with ho | ho <;> simp [execOp, ho], h.get x, rfl⟩

theorem aInt_ok {op : BinOp} {k : IntKind} {x y : Int} {obs : List Prop} {e : Eff} (he : aInt op k x y = some (obs, e)) (hob : ∀ p ∈ obs, p) :
    ∃ v, (binOp op 0 (.int k x) (.int k y)).run E.P w = .ok v w ∧ SVR w N ρ m e.res v ∧ e.upd = [] := by
  cases op <;> simp only [aInt, ret, Option.some.injEq, Prod.mk.injEq, reduceCtorEq] at he
  case quo =>
    obtain ⟨rfl, rfl⟩ := he
    have hz : pNz y := hob _ (by simp)
    unfold pNz at hz
    exact ⟨_, by simp [binOp, Op.intDiv, hz, pQuo], ⟨_, rfl, rfl⟩, rfl⟩
  case rem =>
    obtain ⟨rfl, rfl⟩ := he
    have hz : pNz y := hob _ (by simp)
    unfold pNz at hz
    exact ⟨_, by simp [binOp, Op.intDiv, hz, pRem], ⟨_, rfl, rfl⟩, rfl⟩
  all_goals
    obtain ⟨_, rfl⟩ := he
    exact ⟨_, by simp [binOp, Op.intArith, Op.intBits, Op.intCmp, pAdd, pSubI, pMul, pAnd, pOr, pEq, pNe, pLt, pLe, pGt, pGe], ⟨_, rfl, rfl⟩, rfl⟩

theorem binOp_T (op : BinOp) (T T' : TypeId) (k : IntKind) (x y : Int) : binOp op T (.int k x) (.int k y) = binOp op T' (.int k x) (.int k y) := by
  unfold binOp
  cases op <;> rfl

theorem run_eqlB (T : TypeId) (a b : Bool) (w : World) (hu : E.P.underlying T = some .bool) : (binOp .eql T (.bool a) (.bool b)).run E.P w = .ok (.bool (a == b)) w := by
  show (do pure (.bool (← Op.equal T (.bool a) (.bool b))) : Sem Value).run E.P w = _
  simp [Op.equal, Op.maxDepth, run_equalIn_bool' w 9999 T a b hu]
theorem run_neqB (T : TypeId) (a b : Bool) (w : World) (hu : E.P.underlying T = some .bool) : (binOp .neq T (.bool a) (.bool b)).run E.P w = .ok (.bool (!(a == b))) w := by
  show (do pure (.bool (!(← Op.equal T (.bool a) (.bool b)))) : Sem Value).run E.P w = _
  simp [Op.equal, Op.maxDepth, run_equalIn_bool' w 9999 T a b hu]

theorem run_guard_int (op : BinOp) (T : TypeId) (x y : Operand) (k k' : IntKind) (n n' : Int) (w : World) : (eqGuard op T x y (.int k n) (.int k' n')).run E.P w = .ok () w := by
  unfold eqGuard; split <;> rfl
theorem run_guard_bool (op : BinOp) (T : TypeId) (x y : Operand) (n n' : Bool) (w : World) : (eqGuard op T x y (.bool n) (.bool n')).run E.P w = .ok () w := by
  unfold eqGuard; split <;> rfl
theorem run_guard_str (op : BinOp) (T : TypeId) (x y : Operand) (n n' : ByteArray) (w : World) : (eqGuard op T x y (.string n) (.string n')).run E.P w = .ok () w := by
  unfold eqGuard; split <;> rfl

theorem bin_ok (h : Rel E w0 X Z a w s ρ N) (hq : ∀ T, T ∈ E.eqs → EqT E.P T) {o : Oper} {op : BinOp} {T T' : TypeId} {x y : Operand} (ho : o.op = .binOp op T x y T') {obs : List Prop} {e : Eff}
    (he : aBin E op T (s.get x) (s.get y) = some (obs, e)) (hob : ∀ p ∈ obs, p) : PureR E a o w N ρ s.obj e := by
  have hx := h.get x
  have hy := h.get y
  unfold aBin at he
  split at he
  · rename_i k n k' n' hgx hgy
    rw [hgx] at hx; rw [hgy] at hy
    have hxv : _ = _ := vr1 hx
    have hyv : _ = _ := vr1 hy
    have hg := run_guard_int (E := E) op T x y k k' n n' w
    split at he
    · have hz : pGe0 n' := by
        simp only [Option.some.injEq, Prod.mk.injEq] at he
        exact hob _ (by rw [← he.1]; simp)
      unfold pGe0 at hz
      exact pure_one (c := .int k (pShl k n n')) (v := .int k (pShl k n n')) (by simp [execOp, ho, hxv, hyv, hg, binOp, Op.shift, pShl, show ¬ n' < 0 by omega]) rfl he
    · have hz : pGe0 n' := by
        simp only [Option.some.injEq, Prod.mk.injEq] at he
        exact hob _ (by rw [← he.1]; simp)
      unfold pGe0 at hz
      exact pure_one (c := .int k (pShr k n n')) (v := .int k (pShr k n n')) (by simp [execOp, ho, hxv, hyv, hg, binOp, Op.shift, pShr, show ¬ n' < 0 by omega]) rfl he
    · split at he
      · rename_i hk; subst hk
        obtain ⟨v, hr, hv, hu⟩ := aInt_ok (E := E) (w := w) (N := N) (ρ := ρ) (m := s.obj) he hob
        exact ⟨v, by rw [binOp_T op 0 T] at hr; simp [execOp, ho, hxv, hyv, hg, hr], hv, hu⟩
      · cases he
  · rename_i b b' hgx hgy
    rw [hgx] at hx; rw [hgy] at hy
    have hxv : _ = _ := vr1 hx
    have hyv : _ = _ := vr1 hy
    have hg := run_guard_bool (E := E) op T x y b b' w
    split at he
    · rename_i hu
      exact pure_ret (c := .bool (pBeq b b')) (v := .bool (pBeq b b')) (by simp only [execOp, ho, hxv, hyv, Sem.run_bind, hg, Result.andThen_ok, run_eqlB T b b' w hu, Sem.run_pure, pBeq]) rfl he
    · rename_i hu
      exact pure_ret (c := .bool (pNot (pBeq b b'))) (v := .bool (pNot (pBeq b b'))) (by simp only [execOp, ho, hxv, hyv, Sem.run_bind, hg, Result.andThen_ok, run_neqB T b b' w hu, Sem.run_pure, pBeq, pNot]) rfl he
    · cases he
  · rename_i b b' hgx hgy
    rw [hgx] at hx; rw [hgy] at hy
    have hxv : _ = _ := vr1 hx
    have hyv : _ = _ := vr1 hy
    have hg := run_guard_str (E := E) op T x y b b' w
    split at he
    · have hz : pStrFits b b' := by
        simp only [Option.some.injEq, Prod.mk.injEq] at he
        exact hob _ (by rw [← he.1]; simp)
      unfold pStrFits at hz
      have hz' : ¬ IntKind.i64.max < ((b.size + b'.size : Nat) : Int) := by omega
      exact pure_one (c := .str (pStrApp b b')) (v := .string (pStrApp b b')) (by
        simp only [execOp, ho, hxv, hyv, Sem.run_bind, hg, Result.andThen_ok, binOp, Op.stringOp, gt_iff_lt, if_neg hz', Sem.run_pure, pStrApp]) rfl he
    · exact pure_ret (c := .bool (pStrEq b b')) (v := .bool (pStrEq b b')) (by simp [execOp, ho, hxv, hyv, hg, binOp, Op.stringOp, pStrEq]) rfl he
    · exact pure_ret (c := .bool (pNot (pStrEq b b'))) (v := .bool (pNot (pStrEq b b'))) (by simp [execOp, ho, hxv, hyv, hg, binOp, Op.stringOp, pStrEq, pNot]) rfl he
    · cases he
  · rename_i as bs hgx hgy
    rw [hgx] at hx; rw [hgy] at hy
    obtain ⟨us, hxv, hus⟩ := hx
    obtain ⟨vs, hyv, hvs⟩ := hy
    split at he
    · rename_i hin
      simp only [Bool.and_eq_true] at hin
      obtain ⟨⟨hin, hfa⟩, hfb⟩ := hin
      obtain ⟨hgu, heq⟩ := hq T (by simpa using hin)
      have hg := run_eqGuard_agg (P := E.P) w op T x y us.toArray vs.toArray hgu
      split at he
      · rename_i b hc
        have hr := heq w N ρ s.obj as bs us vs b hfa hfb hus hvs hc
        exact pure_ret (c := .bool b) (v := .bool b) (by simp [execOp, ho, hxv, hyv, hg, run_eql_struct, hr]) rfl he
      · rename_i b hc
        have hr := heq w N ρ s.obj as bs us vs b hfa hfb hus hvs hc
        exact pure_ret (c := .bool (pNot b)) (v := .bool (pNot b)) (by simp [execOp, ho, hxv, hyv, hg, run_neq_struct, hr, pNot]) rfl he
      · cases he
    · cases he
  · cases he

theorem not_ok (h : Rel E w0 X Z a w s ρ N) {o : Oper} {T : TypeId} {x : Operand} {b : Bool} (ho : o.op = .unOp .not T x) (hg : s.get x = .v false [.bool b]) : PureR E a o w N ρ s.obj ⟨one (.bool (pNot b)), []⟩ := by
  have hx := h.get x
  rw [hg] at hx
  have hxv : _ = _ := vr1 hx
  exact ⟨.bool (pNot b), by simp [execOp, ho, hxv, Op.unary, pNot], ⟨_, rfl, rfl⟩, rfl⟩

theorem neg_ok (h : Rel E w0 X Z a w s ρ N) {o : Oper} {T : TypeId} {x : Operand} {k : IntKind} {n : Int} (ho : o.op = .unOp .neg T x) (hg : s.get x = .v false [.int k n]) : PureR E a o w N ρ s.obj ⟨one (.int k (pSubI k 0 n)), []⟩ := by
  have hx := h.get x
  rw [hg] at hx
  have hxv : _ = _ := vr1 hx
  exact ⟨.int k (pSubI k 0 n), by simp [execOp, ho, hxv, Op.unary, Op.intArith, pSubI], ⟨_, rfl, rfl⟩, rfl⟩

theorem convert_ok (h : Rel E w0 X Z a w s ρ N) {o : Oper} {S D : TypeId} {x : Operand} (ho : o.op = .convert S D x) {obs : List Prop} {e : Eff}
    (he : aConvert E S D (s.get x) = some (obs, e)) : PureR E a o w N ρ s.obj e := by
  have hx := h.get x
  unfold aConvert at he
  split at he
  · rename_i k k' k2 n hs hd hg
    rw [hg] at hx
    have hxv : _ = _ := vr1 hx
    exact pure_ret (c := .int k' (pWrap k' n)) (v := .int k' (pWrap k' n)) (by simp [execOp, ho, hxv, convert, run_underlying hs, run_underlying hd, Conv.intToInt, pWrap]) rfl he
  · rename_i b hs hd hg
    rw [hg] at hx
    have hxv : _ = _ := vr1 hx
    exact pure_ret (c := .str b) (v := .string b) (by simp [execOp, ho, hxv, convert, run_underlying hs, run_underlying hd]) rfl he
  · cases he

theorem nilCheck_ok (h : Rel E w0 X Z a w s ρ N) {o : Oper} {x : Operand} {c : C} (ho : o.op = .nilCheck x) (hg : s.get x = .v false [c]) (hp : ∀ v, CR w N ρ s.obj c v → ∃ ad, v = .pointer (some ad)) : PureR E a o w N ρ s.obj ⟨one c, []⟩ := by
  have hx := h.get x
  rw [hg] at hx
  obtain ⟨ad, hv⟩ := hp _ (vr1 hx)
  have hc := vr1 hx
  rw [hv] at hc
  exact ⟨_, by simp [execOp, ho, hv], ⟨_, rfl, hc⟩, rfl⟩

theorem capsOf_ok : ∀ {xs : List SV} {vs : List Value} {l : List (Nat × Nat)}, capsOf xs = some l → All2 (SVR w N ρ m) xs vs → All2 (fun (p : Nat × Nat) u => ∃ b, (ρ p.1).A = some ⟨b, 0, none⟩ ∧ u = .pointer (some ⟨b, p.2, none⟩)) l vs
  | [], _, l, he, h => by
    cases h
    simp only [capsOf, Option.some.injEq] at he
    subst he; exact .nil
  | x :: xs, _, l, he, h => by
    cases h with
    | cons h1 h2 =>
      unfold capsOf at he
      split at he
      · rename_i heq; cases heq
      · rename_i id off r heq
        simp only [List.cons.injEq] at heq
        obtain ⟨rfl, rfl⟩ := heq
        cases hr : capsOf xs with
        | none => simp [hr] at he
        | some l' =>
          simp only [hr, Option.map_some, Option.some.injEq] at he
          subst he
          exact .cons (vr1 h1) (capsOf_ok hr h2)
      · cases he

theorem Rel.gets (h : Rel E w0 X Z a w s ρ N) : ∀ (xs : List Operand), All2 (SVR w N ρ s.obj) (xs.map s.get) (xs.map a.eval)
  | [] => .nil
  | x :: xs => .cons (h.get x) (h.gets xs)

theorem makeFunc_ok (h : Rel E w0 X Z a w s ρ N) {o : Oper} {f : FuncId} {first cs : Array Operand} (ho : o.op = .makeFunc (.func f) first cs) (hf : first.toList = []) {l : List (Nat × Nat)} (hc : capsOf (cs.toList.map s.get) = some l) :
    PureR E a o w N ρ s.obj ⟨one (.fn f l), []⟩ := by
  obtain rfl : first = #[] := by simpa using hf
  refine ⟨.func (.func f) #[] (cs.map a.eval), by simp [execOp, ho, Instr.makeFunc], ⟨_, rfl, cs.toList.map a.eval, ?_, capsOf_ok hc (h.gets _)⟩, rfl⟩
  congr 1
  apply Array.ext'
  simp

theorem extract_ok (h : Rel E w0 X Z a w s ρ N) {o : Oper} {x : Operand} {i : Nat} {vs : List (Bool × List C)} {b : Bool} {cs : List C} (ho : o.op = .extract x i) (hg : s.get x = .tup vs) (hi : vs[i]? = some (b, cs)) : PureR E a o w N ρ s.obj ⟨.v b cs, []⟩ := by
  have hx := h.get x
  rw [hg] at hx
  obtain ⟨us, hv, ha⟩ := hx
  obtain ⟨u, hu, hr⟩ := ha.get i hi
  exact ⟨u, by simp [execOp, ho, hv, Instr.extract, hu], hr, rfl⟩

theorem index_ok (h : Rel E w0 X Z a w s ρ N) {o : Oper} {T : TypeId} {x i : Operand} (ho : o.op = .index T x i) {obs : List Prop} {e : Eff}
    (he : aIndex E T (s.get x) (s.get i) = some (obs, e)) (hob : ∀ p ∈ obs, p) : PureR E a o w N ρ s.obj e := by
  have hx := h.get x
  have hi := h.get i
  unfold aIndex at he
  split at he
  · rename_i b k n hu hgx hgi
    rw [hgx] at hx; rw [hgi] at hi
    have hxv : _ = _ := vr1 hx
    have hiv : _ = _ := vr1 hi
    have hb : pIn n (pStrLen b) := by
      simp only [Option.some.injEq, Prod.mk.injEq] at he
      exact hob _ (by rw [← he.1]; simp)
    unfold pIn pStrLen at hb
    have hlt : n.toNat < b.size := by omega
    have hget : b[n.toNat]? = some b[n.toNat] := by simp [hlt]
    exact pure_one (c := .int .u8 (pStrGet b (pNat n))) (v := .int .u8 (pStrGet b (pNat n))) (by
      simp only [execOp, ho, hxv, hiv, Instr.index, asIntOf, Sem.run_bind, Sem.run_pure, Result.andThen_ok, run_underlying hu, if_pos hb.1, pStrGet, pNat]
      rw [hget]; rfl) rfl he
  · cases he

theorem len_ok (h : Rel E w0 X Z a w s ρ N) (hm : ∀ id ob, m id = some ob → s.obj id = some ob) {o : Oper} {c : Call} {T : TypeId} {Ts : List TypeId} {x : Operand} (ho : o.op = .call c) (hc : c.callee = .builtin .len) (ha : c.args.toList = [x]) (hT : c.argTypes.toList = T :: Ts)
    {obs : List Prop} {e : Eff} (he : aLen E m T (s.get x) = some (obs, e)) : PureR E a o w N ρ s.obj e := by
  have hx := h.get x
  have hargs : c.args.map a.eval = #[a.eval x] := by apply Array.ext'; simp [ha]
  have hT' : c.argTypes[0]? = some T := by rw [← Array.getElem?_toList, hT]; rfl
  have run : ∀ {v u : Value}, a.eval x = v → (Builtin.len_ c.argTypes o.type #[v]).run E.P w = .ok u w → (execOp a.eval o).run E.P w = .ok (.value u) w := by
    intro v u hv hr
    simp [execOp, ho, resolve, hc, invoke, builtin, hargs, hv, hr]
  unfold aLen at he
  split at he
  · rename_i el hu hg
    rw [hg] at hx
    obtain ⟨A, hv⟩ := vr1 hx
    exact pure_ret (run (u := goInt 0) hv (by simp [Builtin.len_, hT', run_underlying hu])) (c := .int .i64 0) rfl he
  · rename_i el t xs hu hg
    rw [hg] at hx
    obtain ⟨A, n, cap, hv, hl, _⟩ := (vr1 hx : Rd _ _ _ _ _)
    simp only [List.cons.injEq, and_true] at hv
    exact pure_ret (run (u := goInt n) hv (by simp [Builtin.len_, hT', run_underlying hu])) (c := .int .i64 (pInt (pLen xs))) (by simp [CR, goInt, pInt, pLen, hl]) he
  · rename_i el id hu hg
    rw [hg] at hx
    split at he
    · rename_i t xs hmem
      have hv := (vr1 hx).2 t xs (hm id _ hmem)
      exact pure_ret (run (u := goInt xs.length) hv (by simp [Builtin.len_, hT', run_underlying hu])) (c := .int .i64 (pInt (pLen xs))) rfl he
    · cases he
  · rename_i b hu hg
    rw [hg] at hx
    have hv : _ = _ := vr1 hx
    exact pure_ret (run (u := goInt b.size) hv (by simp [Builtin.len_, hT', run_underlying hu])) (c := .int .i64 (pInt (pStrLen b))) rfl he
  · cases he

theorem min_ok (h : Rel E w0 X Z a w s ρ N) {o : Oper} {c : Call} {k k' : IntKind} {n n' : Int} (ho : o.op = .call c) (hc : c.callee = .builtin .min) (ha : c.args.toList.map s.get = [.v false [.int k n], .v false [.int k' n']]) : PureR E a o w N ρ s.obj ⟨one (.int k (pMin n n')), []⟩ := by
  have hx := h.gets c.args.toList
  rw [ha] at hx
  have hargs : c.args.map a.eval = (c.args.toList.map a.eval).toArray := by apply Array.ext'; simp
  generalize c.args.toList.map a.eval = l at hx hargs
  obtain _ | ⟨h1, _ | ⟨h2, _ | _⟩⟩ := hx
  have h1 : _ = _ := vr1 h1
  have h2 : _ = _ := vr1 h2
  subst h1 h2
  exact ⟨.int k (pMin n n'), by simp [execOp, ho, resolve, hc, invoke, builtin, hargs, Builtin.min_, Builtin.min2, pMin], ⟨_, rfl, rfl⟩, rfl⟩

theorem max_ok (h : Rel E w0 X Z a w s ρ N) {o : Oper} {c : Call} {k k' : IntKind} {n n' : Int} (ho : o.op = .call c) (hc : c.callee = .builtin .max) (ha : c.args.toList.map s.get = [.v false [.int k n], .v false [.int k' n']]) : PureR E a o w N ρ s.obj ⟨one (.int k (pMax n n')), []⟩ := by
  have hx := h.gets c.args.toList
  rw [ha] at hx
  have hargs : c.args.map a.eval = (c.args.toList.map a.eval).toArray := by apply Array.ext'; simp
  generalize c.args.toList.map a.eval = l at hx hargs
  obtain _ | ⟨h1, _ | ⟨h2, _ | _⟩⟩ := hx
  have h1 : _ = _ := vr1 h1
  have h2 : _ = _ := vr1 h2
  subst h1 h2
  exact ⟨.int k (pMax n n'), by simp [execOp, ho, resolve, hc, invoke, builtin, hargs, Builtin.max_, Builtin.max2, pMax], ⟨_, rfl, rfl⟩, rfl⟩

end
end Go.Proofs.Ytoalcmpjfnlkdaa
