/- THE MACHINE OF READINGS, part M: append, as an operation. -/
import Derived.Test.YtoalcmpjfnlkdaaEL
namespace Go.Proofs.Ytoalcmpjfnlkdaa
open Go.RowKit

section
variable {E : Env} {w0 : World} {X Z : Blk} {a : Act} {w w' : World} {s : St} {ρ ρ' : Nat → Pl} {N N' : Blk} {m m' : Mem}

/-- The relation of objects where a new one takes over the block of one that is let go. -/
theorem MR.take (h : MR w N ρ m) {nx : Nat} {p : Pl} {t : Ty} {zs : List t.den} {D : List Nat} (hnx : m nx = none) (hnm : ∀ id o', m id = some o' → nx ∉ idsO o')
    (hp : 0 < p.cap → ∃ id ∈ D, ∃ t', ∃ ys : List (Ty.den t'), m id = some (.row t' ys) ∧ 0 < (ρ id).cap ∧ (ρ id).A = p.A)
    (hheap : ∀ k, ¬ Gone ρ m D k → w'.heap[k]? = w.heap[k]?) (hsize : w'.heap.size = w.heap.size)
    (hm' : ∀ id, m' id = if id = nx then some (.row t zs) else if id ∈ D then none else m id) (hρ' : ∀ id, ρ' id = if id = nx then p else ρ id)
    (hobj : SameOn N w w' → Turn ρ m ρ' m' (· = nx) → ObjR w' N ρ' m' nx (.row t zs)) :
    Turn ρ m ρ' m' (· = nx) ∧ SameOn N w w' ∧ MR w' N ρ' m' ∧ ∀ b, Own ρ' m' b → Own ρ m b := by
  have ht : Turn ρ m ρ' m' (· = nx) := by
    refine ⟨fun id hid => by rw [hρ', if_neg hid], fun id t xs hid hm => ?_⟩
    rw [hm', if_neg hid] at hm
    split at hm
    · cases hm
    · exact ⟨xs, hm, rfl⟩
  have hs : SameOn N w w' := fun b hb => hheap b fun hg => h.nown b hb (gone_own hg)
  have old : ∀ id o', m' id = some o' → id ≠ nx → m id = some o' ∧ id ∉ D := by
    intro id o' hm hid
    rw [hm', if_neg hid] at hm
    split at hm
    · cases hm
    · rename_i hd; exact ⟨hm, hd⟩
  have hnxo : ∀ o', m' nx = some o' → o' = .row t zs := by
    intro o' ho
    rw [hm', if_pos rfl] at ho
    exact (Option.some.inj ho).symm
  -- what a held place is
  have held : ∀ id o', m' id = some o' → Holds (ρ' id) o' → ∃ i o2, m i = some o2 ∧ Holds (ρ i) o2 ∧ (ρ i).A = (ρ' id).A ∧ (id ≠ nx → i = id ∧ id ∉ D) ∧ (id = nx → i ∈ D) := by
    intro id o' hm hh
    by_cases hid : id = nx
    · subst hid
      have := hnxo o' hm
      subst this
      rw [hρ', if_pos rfl] at hh ⊢
      obtain ⟨i, hi, t', ys, hmi, hci, hAi⟩ := hp hh
      exact ⟨i, _, hmi, hci, hAi, fun h => absurd rfl h, fun _ => hi⟩
    · obtain ⟨hmo, hd⟩ := old id o' hm hid
      rw [hρ', if_neg hid] at hh ⊢
      exact ⟨id, o', hmo, hh, rfl, fun _ => ⟨rfl, hd⟩, fun h => absurd h hid⟩
  have hown : ∀ b, Own ρ' m' b → Own ρ m b := by
    rintro b ⟨id, o', hm, hh, hA⟩
    obtain ⟨i, o2, h1, h2, h3, _⟩ := held id o' hm hh
    exact ⟨i, o2, h1, h2, by rw [h3]; exact hA⟩
  refine ⟨ht, hs, ⟨fun id o' hm => ?_, fun id id' o1 o2 hm1 hm2 hh1 hh2 hA => ?_, fun b hb ho => h.nown b hb (hown b ho), fun b hb => by rw [hsize]; exact h.nlt b hb⟩, hown⟩
  · by_cases hid : id = nx
    · subst hid
      have := hnxo o' hm
      subst this
      exact hobj hs ht
    · obtain ⟨hmo, hd⟩ := old id o' hm hid
      refine (h.obj id o' hmo).turn ht (fun _ h => h) hs hid (fun i hi hc => hnm id o' hmo (hc ▸ hi)) fun b hA hh => hheap b ?_
      rintro ⟨i, hi, t', ys, hmi, hci, hAi⟩
      have := h.inj i id _ o' hmi hmo hci hh (by rw [hAi, hA])
      subst this
      exact hd hi
  · obtain ⟨i1, q1, ha, hb, hc, hn1, hx1⟩ := held id o1 hm1 hh1
    obtain ⟨i2, q2, ha', hb', hc', hn2, hx2⟩ := held id' o2 hm2 hh2
    have e := h.inj i1 i2 q1 q2 ha ha' hb hb' (by rw [hc, hc', hA])
    by_cases h1 : id = nx <;> by_cases h2 : id' = nx
    · rw [h1, h2]
    · obtain ⟨e2, hd2⟩ := hn2 h2
      have := hx1 h1
      rw [e, e2] at this
      exact absurd this hd2
    · obtain ⟨e1, hd1⟩ := hn1 h1
      have := hx2 h2
      rw [← e, e1] at this
      exact absurd this hd1
    · rw [← (hn1 h1).1, ← (hn2 h2).1, e]

/-- a new row in the place of one that is let go -/
theorem take_good (h : Rel E w0 X Z a w s ρ N) {o : Oper} (hd : ∀ d, o.dst = some d → d < a.tmps.size) {nx : Nat} (hf : Fresh s nx) {p : Pl} {t : Ty} {zs : List t.den} {D : List Nat}
    (hr : (execOp a.eval o).run E.P w = .ok (.value (.slice p.A zs.length p.cap)) w')
    (hp : 0 < p.cap → ∃ id ∈ D, ∃ t', ∃ ys : List (Ty.den t'), s.obj id = some (.row t' ys) ∧ 0 < (ρ id).cap ∧ (ρ id).A = p.A)
    (hheap : ∀ k, ¬ Gone ρ s.obj D k → w'.heap[k]? = w.heap[k]?) (hsize : w'.heap.size = w.heap.size) (h1 : w'.os = w.os) (h2 : w'.tape = w.tape) (h3 : w'.output = w.output)
    (hobj : ∀ ρ' m', (∀ id, ρ' id = if id = nx then p else ρ id) → SameOn N w w' → Turn ρ s.obj ρ' m' (· = nx) → ObjR w' N ρ' m' nx (.row t zs)) :
    Good E w0 X Z a o w s ρ N ⟨one (.hs nx), (nx, some (.row t zs)) :: D.map fun i => (i, none)⟩ (· = nx) := by
  let ρ' : Nat → Pl := fun id => if id = nx then p else ρ id
  have hm' := fun id => obj_new (s := s) (dst := o.dst) (r := one (.hs nx)) (nx := nx) (o := .row t zs) (D := D) id
  obtain ⟨ht, hs, hmr, hown⟩ := h.mr.take (ρ' := ρ') hf.2.2 hf.2.1 hp hheap hsize hm' (fun _ => rfl) fun hs ht => hobj ρ' _ (fun _ => rfl) hs ht
  refine ⟨_, w', ρ', N, .inl hr, fun id hid => by simp only [ρ', if_neg hid], fun _ h => h, hs, h.put hd (fun id hid => by have hid : id = nx := hid; subst hid; exact hf) ht (fun _ h => h) hs ⟨_, rfl, ⟨_, _, _, rfl⟩, fun t' xs hy => ?_⟩ hmr ?_ (fun b hb => h.own b (hown b hb)) h.nn⟩
  · rw [hm', if_pos rfl] at hy
    simp only [Option.some.injEq, Obj.row.injEq] at hy
    obtain ⟨rfl, hy⟩ := hy
    have hy := eq_of_heq hy
    subst hy
    simp only [ρ', if_pos]
  · refine ⟨h1.trans h.since.os, h2.trans h.since.tape, h3.trans h.since.output, by rw [hsize]; exact h.since.size, fun k hk hx => (hheap k fun hg => ?_).trans (h.since.keep k hk hx)⟩
    rcases h.own k (gone_own hg) with h4 | h4
    · exact hx h4
    · omega

theorem append_ok (h : Rel E w0 X Z a w s ρ N) (hm : ∀ id ob, m id = some ob → s.obj id = some ob) {o : Oper} (hd : ∀ d, o.dst = some d → d < a.tmps.size) {nx : Nat} (hf : Fresh s nx) {c : Call} {T : TypeId} {x y : Operand} (ho : o.op = .call c) (hc : c.callee = .builtin .append) (ha : c.args.toList = [x, y]) (hT : c.argTypes.toList = [T, T])
    {obs : List Prop} {e : Eff} (he : aAppend E m nx T (s.get x) (s.get y) = some (obs, e)) (hob : ∀ p ∈ obs, p) : Good E w0 X Z a o w s ρ N e (· = nx) := by
  have hx := h.get x
  have hy := h.get y
  have hargs : c.args.map a.eval = #[a.eval x, a.eval y] := by apply Array.ext'; simp [ha]
  have hT' : c.argTypes = #[T, T] := by apply Array.ext'; simp [hT]
  have run : ∀ {v : Value} {w1 : World}, (Builtin.append_ #[T, T] o.type #[a.eval x, a.eval y]).run E.P w = .ok v w1 → (execOp a.eval o).run E.P w = .ok (.value v) w1 := by
    intro v w1 hr
    simp [execOp, ho, resolve, hc, invoke, builtin, hargs, hT', hr]
  unfold aAppend at he
  split at he
  · rename_i sc xc hgx hgy
    rw [hgx] at hx; rw [hgy] at hy
    replace hx := vr1 hx
    replace hy := vr1 hy
    split at he
    · rename_i el hel
      have ht : E.P.underlying T = some (.slice el) := by
        unfold elemT at hel
        split at hel
        · rename_i e' hu'; simp only [Option.some.injEq] at hel; subst hel; exact hu'
        · cases hel
      split at he
      · rename_i i hi
        split at he
        · rename_i hcond
          obtain ⟨hts, hsz0, hby0, hzero⟩ := hcond
          obtain ⟨z, hz, hzs⟩ : ∃ z, i.zero = some z ∧ z.cells.size = i.size := by
            cases hz : i.zero with
            | none => simp [hz] at hzero
            | some z => exact ⟨z, rfl, by simpa [hz] using hzero⟩
          split at he
          · rename_i xs ys hbx hey
            simp only [Option.some.injEq, Prod.mk.injEq] at he
            obtain ⟨rfl, rfl⟩ := he
            have hroom : pRoom (pLen xs + pLen ys) i.bytes := hob (pRoom (pPlus (pLen xs) (pLen ys)) i.bytes) (by simp)
            unfold pRoom pLen at hroom
            obtain ⟨news, hnews⟩ := elems_cells h.mr hm hy hey
            have hexs : aElems m (tyT E.P 8 el) sc = some xs := by
              unfold aBase at hbx
              split at hbx
              · exact hbx
              · exact hbx
              · cases hbx
            obtain ⟨olds, holds⟩ := elems_cells h.mr hm hx hexs
            have holds' := holds
            obtain ⟨A, cap, hS, hcap, hol, hA0, hoc, ho1, hoe⟩ := holds'
            have hnews' := hnews
            obtain ⟨B, c', hv, hmc, hnl, hB0, hnc, hn1, hne⟩ := hnews'
            have h63 : xs.length + ys.length ≤ 9223372036854775807 := by
              have : (xs.length + ys.length) * 1 ≤ (xs.length + ys.length) * i.bytes := Nat.mul_le_mul_left _ hby0
              omega
            by_cases hfit : xs.length + ys.length ≤ cap
            · -- there is room: the row's own block, or nothing at all
              have hplace : (cap = 0 ∨ ∃ id, sc = .hs id ∧ s.obj id = some (.row (tyT E.P 8 el) xs) ∧ (ρ id).A = A ∧ (ρ id).cap = cap) := by
                unfold aBase at hbx
                split at hbx
                · obtain ⟨A', hA'⟩ := hx
                  rw [hS] at hA'
                  simp only [Value.slice.injEq] at hA'
                  exact .inl hA'.2.2
                · rename_i id
                  right
                  unfold aElems at hbx
                  simp only at hbx
                  split at hbx
                  · rename_i t' zs hmem
                    split at hbx
                    · rename_i htt; subst htt
                      simp only [Option.some.injEq] at hbx
                      subst hbx
                      have hso := hm id _ hmem
                      have := hx.2 _ _ hso
                      rw [hS] at this
                      simp only [Value.slice.injEq] at this
                      exact ⟨id, rfl, hso, this.1.symm, this.2.2.symm⟩
                    · cases hbx
                  · cases hbx
                · cases hbx
              rcases hplace with hc0 | ⟨id, rfl, hso, hAid, hcapid⟩
              · -- nothing was there, nothing comes
                subst hc0
                have hx0 : xs = [] := List.eq_nil_of_length_eq_zero (by omega)
                have hy0 : ys = [] := List.eq_nil_of_length_eq_zero (by omega)
                subst hx0 hy0
                have hn0 : news = [] := List.eq_nil_of_length_eq_zero (by rw [hnl]; simp)
                subst hn0
                have hr := run_append_in (P := E.P) (ty := o.type) ht hi hts (A := A) (n := 0) (cap := 0) hnews (by simp) (w1 := w) (by cases A <;> rfl)
                refine take_good (p := ⟨A, 0⟩) (D := [sc].flatMap hsC) (w' := w) h hd hf ?_ (fun h0 => absurd h0 (by simp)) (fun _ _ => rfl) rfl rfl rfl rfl fun ρ' m' hρ hs htn => ?_
                · refine run ?_
                  rw [hS]
                  simpa [pApp] using hr
                · have hp : ρ' nx = ⟨A, 0⟩ := by rw [hρ, if_pos rfl]
                  exact ⟨by simp [pApp], fun h0 => by rw [hp] at h0; exact absurd h0 (by simp)⟩
              · by_cases hc0 : cap = 0
                · subst hc0
                  have hx0 : xs = [] := List.eq_nil_of_length_eq_zero (by omega)
                  have hy0 : ys = [] := List.eq_nil_of_length_eq_zero (by omega)
                  subst hx0 hy0
                  have hn0 : news = [] := List.eq_nil_of_length_eq_zero (by rw [hnl]; simp)
                  subst hn0
                  have hr := run_append_in (P := E.P) (ty := o.type) ht hi hts (A := A) (n := 0) (cap := 0) hnews (by simp) (w1 := w) (by cases A <;> rfl)
                  refine take_good (p := ⟨A, 0⟩) (D := [C.hs id].flatMap hsC) (w' := w) h hd hf ?_ (fun h0 => absurd h0 (by simp)) (fun _ _ => rfl) rfl rfl rfl rfl fun ρ' m' hρ hs htn => ?_
                  · refine run ?_
                    rw [hS]
                    simpa [pApp] using hr
                  · have hp : ρ' nx = ⟨A, 0⟩ := by rw [hρ, if_pos rfl]
                    exact ⟨by simp [pApp], fun h0 => by rw [hp] at h0; exact absurd h0 (by simp)⟩
                · obtain ⟨hl, hrr⟩ := h.mr.obj id _ hso
                  obtain ⟨b, vals, T', hA, hh, hvs, hel2⟩ := hrr (by omega)
                  rw [hAid] at hA
                  subst hA
                  have hgone : Gone ρ s.obj ([C.hs id].flatMap hsC) b := ⟨id, by simp [hsC], _, xs, hso, by omega, hAid⟩
                  have hfitv : xs.length * (tyT E.P 8 el).size + news.length ≤ vals.size := by
                    rw [hnl, hvs, hcapid, ← Nat.add_mul]; exact Nat.mul_le_mul_right _ hfit
                  have hst := run_storeCells_at E.P b (xs.length * i.size) T' news 0 vals w hh (by rw [← hts]; omega) hn1
                  simp only [Nat.add_zero] at hst
                  have hr := run_append_in (P := E.P) (ty := o.type) ht hi hts (A := some ⟨b, 0, none⟩) (n := xs.length) (cap := cap) hnews hfit (w1 := w.setRow b (vals.toList.take (xs.length * i.size) ++ news ++ vals.toList.drop (xs.length * i.size + news.length)).toArray)
                    (by simp only [addr_add, Nat.zero_add]; exact hst)
                  refine take_good (p := ⟨some ⟨b, 0, none⟩, cap⟩) (D := [C.hs id].flatMap hsC) (w' := w.setRow b (vals.toList.take (xs.length * i.size) ++ news ++ vals.toList.drop (xs.length * i.size + news.length)).toArray) h hd hf ?_ (fun _ => ⟨id, by simp [hsC], _, xs, hso, by omega, hAid⟩) (fun k hk => setRow_other w b k _ fun e => hk (e ▸ hgone)) (setRow_size _ _ _) rfl rfl rfl fun ρ' m' hρ hs htn => ?_
                  · refine run ?_
                    rw [hS]
                    simpa [pApp] using hr
                  · have hp : ρ' nx = ⟨some ⟨b, 0, none⟩, cap⟩ := by rw [hρ, if_pos rfl]
                    refine ⟨by rw [hp]; simpa [pApp] using hfit, fun _ => ⟨b, _, T', by rw [hp], setRow_heap w b vals _ T' (0, 0) hh, ?_, fun k hk => ?_⟩⟩
                    · rw [hp]
                      simp only [List.size_toArray, List.length_append, List.length_take, List.length_drop, Array.length_toList]
                      rw [← hcapid, ← hvs, ← hts]
                      omega
                    · simp only [pApp, List.length_append] at hk
                      by_cases hkx : k < xs.length
                      · obtain ⟨us, hrd, hcell⟩ := hel2 k hkx
                        refine ⟨us, ?_, fun j u hj => ?_⟩
                        · have : (pApp xs ys)[k] = xs[k] := by simp only [pApp]; exact List.getElem_append_left hkx
                          rw [this]; exact hrd.mono (fun _ h => h) hs
                        · have hj1 : j < (tyT E.P 8 el).size := by rw [← hrd.len]; exact (List.getElem?_eq_some_iff.1 hj).1
                          have hk1 : k * (tyT E.P 8 el).size + (tyT E.P 8 el).size ≤ xs.length * (tyT E.P 8 el).size := by
                            have : (k + 1) * (tyT E.P 8 el).size ≤ xs.length * (tyT E.P 8 el).size := Nat.mul_le_mul_right _ hkx
                            rw [Nat.add_mul] at this; omega
                          simp only [List.getElem?_toArray, ← hts]
                          rw [List.getElem?_append_left (by simp; omega), List.getElem?_append_left (by simp; omega), List.getElem?_take, if_pos (by omega)]
                          simpa using hcell j u hj
                      · obtain ⟨us, hrd, hcell⟩ := hne (k - xs.length) (by omega)
                        refine ⟨us, ?_, fun j u hj => ?_⟩
                        · have : (pApp xs ys)[k] = ys[k - xs.length] := by simp only [pApp]; exact List.getElem_append_right (by omega)
                          rw [this]; exact hrd.mono (fun _ h => h) hs
                        · have hj1 : j < (tyT E.P 8 el).size := by rw [← hrd.len]; exact (List.getElem?_eq_some_iff.1 hj).1
                          have hk1 : (k - xs.length) * (tyT E.P 8 el).size + (tyT E.P 8 el).size ≤ ys.length * (tyT E.P 8 el).size := by
                            have : (k - xs.length + 1) * (tyT E.P 8 el).size ≤ ys.length * (tyT E.P 8 el).size := Nat.mul_le_mul_right _ (by omega)
                            rw [Nat.add_mul] at this; omega
                          have hk2 : k * (tyT E.P 8 el).size = xs.length * (tyT E.P 8 el).size + (k - xs.length) * (tyT E.P 8 el).size := by rw [← Nat.add_mul]; congr 1; omega
                          simp only [List.getElem?_toArray, ← hts]
                          rw [List.getElem?_append_left (by simp; omega), List.getElem?_append_right (by simp; omega)]
                          have e1 : k * (tyT E.P 8 el).size + j - (vals.toList.take (xs.length * (tyT E.P 8 el).size)).length = (k - xs.length) * (tyT E.P 8 el).size + j := by
                            simp only [List.length_take, Array.length_toList]; omega
                          rw [e1]
                          exact hcell j u hj
            · -- a new block
              have hr := run_append_new (P := E.P) (ty := o.type) ht hi hz hts hS holds hnews (by omega) (by omega) h63
              have hge := grownCap_ge w (xs.length + ys.length) cap el
              refine new_good (D := [sc].flatMap hsC) (cap := grownCap w (xs.length + ys.length) cap el) (c := .hs nx) h hd hf (run hr) rfl rfl rfl rfl fun ρ' m' N' hρ htn hm' hN hG hs hsN => ?_
              have hp : ρ' nx = ⟨some ⟨w.heap.size, 0, none⟩, grownCap w (xs.length + ys.length) cap el⟩ := by rw [hρ, if_pos rfl]
              refine ⟨⟨by rw [hp]; simpa [pApp] using hge, fun _ => ⟨w.heap.size, _, el, by rw [hp], push_new rfl, ?_, fun k hk => ?_⟩⟩, ⟨_, _, _, rfl⟩, fun t' zs hy => ?_⟩
              · rw [hp]
                simp only [Array.size_append, List.size_toArray, size_zeroCells, hol, hnl, hzs, hts, ← Nat.add_mul]
                congr 1; omega
              · simp only [pApp, List.length_append] at hk
                have hcat : ∀ q, q < (xs.length + ys.length) * (tyT E.P 8 el).size → (olds.toArray ++ news.toArray ++ Builtin.zeroCells z.cells (grownCap w (xs.length + ys.length) cap el - (xs.length + ys.length)))[q]? = (olds ++ news)[q]? := by
                  intro q hq
                  rw [Nat.add_mul] at hq
                  rw [Array.getElem?_append_left (by simp; omega)]
                  simp
                have hkk : k * (tyT E.P 8 el).size + (tyT E.P 8 el).size ≤ (xs.length + ys.length) * (tyT E.P 8 el).size := by
                  have : (k + 1) * (tyT E.P 8 el).size ≤ (xs.length + ys.length) * (tyT E.P 8 el).size := Nat.mul_le_mul_right _ hk
                  rw [Nat.add_mul] at this; omega
                by_cases hkx : k < xs.length
                · obtain ⟨us, hrd, hcell⟩ := hoe k hkx
                  refine ⟨us, ?_, fun j u hj => ?_⟩
                  · have : (pApp xs ys)[k] = xs[k] := by simp only [pApp]; exact List.getElem_append_left hkx
                    rw [this]; exact hrd.mono hN hs
                  · have hj1 : j < (tyT E.P 8 el).size := by rw [← hrd.len]; exact (List.getElem?_eq_some_iff.1 hj).1
                    have hjj := hcell j u hj
                    rw [hcat _ (by omega), List.getElem?_append_left (List.getElem?_eq_some_iff.1 hjj).1]
                    exact hjj
                · obtain ⟨us, hrd, hcell⟩ := hne (k - xs.length) (by omega)
                  refine ⟨us, ?_, fun j u hj => ?_⟩
                  · have : (pApp xs ys)[k] = ys[k - xs.length] := by simp only [pApp]; exact List.getElem_append_right (by omega)
                    rw [this]; exact hrd.mono hN hs
                  · have hj1 : j < (tyT E.P 8 el).size := by rw [← hrd.len]; exact (List.getElem?_eq_some_iff.1 hj).1
                    have hk2 : k * (tyT E.P 8 el).size = xs.length * (tyT E.P 8 el).size + (k - xs.length) * (tyT E.P 8 el).size := by rw [← Nat.add_mul]; congr 1; omega
                    rw [hcat _ (by omega), List.getElem?_append_right (by omega)]
                    have e1 : k * (tyT E.P 8 el).size + j - olds.length = (k - xs.length) * (tyT E.P 8 el).size + j := by omega
                    rw [e1]
                    exact hcell j u hj
              · rw [hm'] at hy
                simp only [Option.some.injEq, Obj.row.injEq] at hy
                obtain ⟨rfl, hy⟩ := hy
                have hy := eq_of_heq hy
                subst hy
                rw [hp]
                simp [pApp]
          · cases he
        · cases he
      · cases he
    · cases he
  · cases he

end
end Go.Proofs.Ytoalcmpjfnlkdaa
