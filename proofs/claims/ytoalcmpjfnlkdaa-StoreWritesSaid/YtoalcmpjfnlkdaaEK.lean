/- THE MACHINE OF READINGS, part K: stores. -/
import Derived.Test.YtoalcmpjfnlkdaaEJ
namespace Go.Proofs.Ytoalcmpjfnlkdaa
open Go.RowKit

section
variable {E : Env} {w0 : World} {X Z : Blk} {a : Act} {w w' : World} {s : St} {ρ ρ' : Nat → Pl} {N N' : Blk} {m m' : Mem}

/-- The relation of objects behind a store into one of them, where some rows are let go. -/
theorem MR.set (h : MR w N ρ m) {id b : Nat} {o o' : Obj} {D : List Nat} (hm : m id = some o) (hho : Holds (ρ id) o) (hA : (ρ id).A = some ⟨b, 0, none⟩) (hD : id ∉ D)
    (hheap : ∀ k, k ≠ b → w'.heap[k]? = w.heap[k]?) (hsize : w'.heap.size = w.heap.size)
    (hm' : ∀ i, m' i = if i = id then some o' else if i ∈ D then none else m i) (hN' : ∀ b, N' b ↔ N b ∨ Gone ρ m D b)
    (hrow : ∀ t xs, o' = .row t xs → ∃ ys, o = .row t ys ∧ ys.length = xs.length)
    (hobj : (∀ b, N b → N' b) → SameOn N' w w' → Turn ρ m ρ m' (fun _ => False) → ObjR w' N' ρ m' id o') :
    Turn ρ m ρ m' (fun _ => False) ∧ (∀ b, N b → N' b) ∧ SameOn N' w w' ∧ MR w' N' ρ m' ∧ ∀ b, Own ρ m' b → Own ρ m b := by
  have hN : ∀ b, N b → N' b := fun b hb => (hN' b).2 (.inl hb)
  have hs : SameOn N' w w' := by
    intro k hk
    refine hheap k fun e => ?_
    subst e
    rcases (hN' _).1 hk with hk | ⟨i, hi, t, xs, hmi, hci, hAi⟩
    · exact h.nown _ hk ⟨id, o, hm, hho, hA⟩
    · have := h.inj id i o _ hm hmi hho hci (by rw [hA, hAi])
      subst this
      exact hD hi
  have ht : Turn ρ m ρ m' (fun _ => False) := by
    refine ⟨fun _ _ => rfl, fun i t xs _ hmi => ?_⟩
    rw [hm'] at hmi
    split at hmi
    · rename_i he
      simp only [Option.some.injEq] at hmi
      obtain ⟨ys, hy, hl⟩ := hrow t xs hmi
      subst he
      exact ⟨ys, by rw [hm, hy], hl⟩
    · split at hmi
      · cases hmi
      · exact ⟨xs, hmi, rfl⟩
  have hh' : ∀ {i o1}, m' i = some o1 → Holds (ρ i) o1 → ∃ o2, m i = some o2 ∧ Holds (ρ i) o2 := by
    intro i o1 hmi hho1
    rw [hm'] at hmi
    split at hmi
    · rename_i he
      subst he
      exact ⟨o, hm, hho⟩
    · split at hmi
      · cases hmi
      · exact ⟨o1, hmi, hho1⟩
  have hown : ∀ b, Own ρ m' b → Own ρ m b := by
    rintro b ⟨i, o1, hmi, hho1, hAi⟩
    obtain ⟨o2, hm2, hho2⟩ := hh' hmi hho1
    exact ⟨i, o2, hm2, hho2, hAi⟩
  refine ⟨ht, hN, hs, ⟨fun i o1 hmi => ?_, fun i i' o1 o2 h1 h2 hh1 hh2 hAA => ?_, fun k hk ho => ?_, fun k hk => ?_⟩, hown⟩
  · by_cases he : i = id
    · subst he
      have := hm' i
      rw [if_pos rfl, hmi] at this
      simp only [Option.some.injEq] at this
      subst this
      exact hobj hN hs ht
    · have hmo : m i = some o1 := by
        rw [hm', if_neg he] at hmi
        split at hmi
        · cases hmi
        · exact hmi
      refine (h.obj i o1 hmo).turn ht hN (fun k hk => hs k (hN k hk)) (fun h => h) (fun _ _ h => h) fun k hAk hhk => hheap k fun e => ?_
      subst e
      exact he (h.inj i id o1 o hmo hm hhk hho (by rw [hAk, hA]))
  · obtain ⟨o3, h3, hh3⟩ := hh' h1 hh1
    obtain ⟨o4, h4, hh4⟩ := hh' h2 hh2
    exact h.inj i i' o3 o4 h3 h4 hh3 hh4 hAA
  · rcases (hN' _).1 hk with hk | ⟨i, hi, t, xs, hmi, hci, hAi⟩
    · exact h.nown _ hk (hown k ho)
    · obtain ⟨j, o1, hmj, hhj, hAj⟩ := ho
      obtain ⟨o2, hm2, hh2⟩ := hh' hmj hhj
      have := h.inj i j _ o2 hmi hm2 hci hh2 (by rw [hAi, hAj])
      subst this
      have hne : i ≠ id := fun e => hD (e ▸ hi)
      rw [hm', if_neg hne, if_pos hi] at hmj
      cases hmj
  · rw [hsize]
    rcases (hN' _).1 hk with hk | hk
    · exact h.nlt _ hk
    · exact gone_lt h hk

theorem obj_set {dst : Option Tmp} {r : SV} {id : Nat} {o : Obj} {D : List Nat} (i : Nat) : (s.put dst ⟨r, (id, some o) :: D.map fun i => (i, none)⟩).obj i = if i = id then some o else if i ∈ D then none else s.obj i := obj_new i

theorem setRow_size (w : World) (g : Nat) (cs : Array Value) : (w.setRow g cs).heap.size = w.heap.size := by simp [World.setRow]

/-- a store into an object -/
theorem set_good (h : Rel E w0 X Z a w s ρ N) {o : Oper} (hd : ∀ d, o.dst = some d → d < a.tmps.size) {id b : Nat} {ob ob' : Obj} {D : List Nat} {cells' : Array Value} (hm : s.obj id = some ob) (hho : Holds (ρ id) ob) (hA : (ρ id).A = some ⟨b, 0, none⟩) (hD : id ∉ D)
    (hr : (execOp a.eval o).run E.P w = .ok .skip (w.setRow b cells'))
    (hrow : ∀ t xs, ob' = .row t xs → ∃ ys, ob = .row t ys ∧ ys.length = xs.length)
    (hobj : ∀ m' N', (∀ b, N b → N' b) → (∀ b, Gone ρ s.obj D b → N' b) → SameOn N' w (w.setRow b cells') → Turn ρ s.obj ρ m' (fun _ => False) → ObjR (w.setRow b cells') N' ρ m' id ob') :
    Good E w0 X Z a o w s ρ N ⟨.tup [], (id, some ob') :: D.map fun i => (i, none)⟩ (fun _ => False) := by
  let N' : Blk := fun b => N b ∨ Gone ρ s.obj D b
  have hown0 := h.own b ⟨id, ob, hm, hho, hA⟩
  obtain ⟨ht, hN, hs, hmr, hown⟩ := h.mr.set (w' := w.setRow b cells') (N' := N') hm hho hA hD (fun k hk => setRow_other w b k cells' hk) (setRow_size w b cells') (fun i => obj_set (s := s) (dst := o.dst) (r := .tup []) i) (fun _ => Iff.rfl) hrow
    fun hN hs ht => hobj _ N' hN (fun b hb => Or.inr hb) hs ht
  refine ⟨undef, w.setRow b cells', ρ, N', .inr ⟨hr, rfl⟩, fun _ _ => rfl, hN, fun k hk => hs k (hN k hk), h.put hd (fun _ hf => hf.elim) ht hN (fun k hk => hs k (hN k hk)) ⟨[], rfl, .nil⟩ hmr ?_ (fun k hk => h.own k (hown k hk)) h.nn'⟩
  refine ⟨h.since.os, h.since.tape, h.since.output, by rw [setRow_size]; exact h.since.size, fun k hk hx => ?_⟩
  rw [setRow_other w b k cells' fun e => ?_]
  · exact h.since.keep k hk hx
  · subst e
    rcases hown0 with h1 | h1
    · exact hx h1
    · omega

theorem run_storeVar {P : Program} {T : TypeId} {v : Value} {b off : Nat} {cur : Array Value} {T' : TypeId} (hsz : sizeT P T = some v.cells.size) (hg : w.heap[b]? = some (.cells cur T' (0, 0))) (hfit : off + v.cells.size ≤ cur.size) (h1 : ∀ u ∈ v.cells.toList, u.oneCell' = true) :
    (Instr.storeAt T (.pointer (some ⟨b, off, none⟩)) v).run P w = .ok () (w.setRow b (cur.toList.take off ++ v.cells.toList ++ cur.toList.drop (off + v.cells.size)).toArray) := by
  have hst := run_storeCells_at P b off T' v.cells.toList 0 cur w hg (by simpa using hfit) h1
  simp only [Nat.add_zero, Array.length_toList] at hst
  simp [Instr.storeAt, Instr.sureAddr, storeVar, run_sizeT w hsz, hst]

theorem all_one {cs : List C} {us : List Value} (h : All2 (CR w N ρ m) cs us) : ∀ u ∈ us, u.oneCell' = true := by
  induction h with
  | nil => simp
  | cons h1 _ ih => exact fun u hu => (List.mem_cons.1 hu).elim (fun e => e ▸ h1.one) (ih u)

theorem store_ok (h : Rel E w0 X Z a w s ρ N) (hm : ∀ id ob, m id = some ob → s.obj id = some ob) {o : Oper} (hd : ∀ d, o.dst = some d → d < a.tmps.size) {T : TypeId} {x y : Operand} (ho : o.op = .store T x y) {obs : List Prop} {e : Eff}
    (he : aStore E m T (s.get y) (s.get x) = some (obs, e)) : Good E w0 X Z a o w s ρ N e (fun _ => False) := by
  have hx := h.get x
  have hy := h.get y
  unfold aStore at he
  split at he
  · rename_i id off hgx
    rw [hgx] at hx
    obtain ⟨b, hA, hv⟩ := vr1 hx
    split at he
    · rename_i cs ag vs hmem hgy
      rw [hgy] at hy
      have hyc := VR.cells hy
      split at he
      · rename_i hsz
        cases hput : putAt cs off vs with
        | none => simp [hput] at he
        | some cs' =>
          simp only [hput, Option.map_some, Option.some.injEq, Prod.mk.injEq] at he
          obtain ⟨_, rfl⟩ := he
          obtain ⟨hl, rfl⟩ := putAt_some hput
          have hso := hm id _ hmem
          obtain ⟨b', vals, T', hA', hh, hc⟩ := h.mr.obj id _ hso
          rw [hA] at hA'
          simp only [Option.some.injEq, Addr.mk.injEq, and_true] at hA'
          subst hA'
          have hlen : (a.eval y).cells.size = vs.length := by have := hyc.len; simp at this; omega
          have hcl : cs.length = vals.size := by have := hc.len; simpa using this
          refine set_good (D := []) (cells' := (vals.toList.take off ++ (a.eval y).cells.toList ++ vals.toList.drop (off + (a.eval y).cells.size)).toArray) h hd hso trivial hA (by simp) ?_ (fun t xs e => by cases e) fun m' N' hN _ hs ht => ?_
          · have := run_storeVar (P := E.P) (w := w) (T := T) (v := a.eval y) (b := b) (off := off) (by rw [hlen]; exact hsz) hh (by omega) (all_one hyc)
            simp only [execOp, ho, hv, Sem.run_bind, this, Result.andThen_ok]
            rfl
          · refine ⟨b, _, T', hA, setRow_heap w b vals _ T' (0, 0) hh, ?_⟩
            have key : All2 (CR w N ρ s.obj) (cs.take off ++ vs ++ cs.drop (off + vs.length)) (vals.toList.take off ++ (a.eval y).cells.toList ++ vals.toList.drop (off + (a.eval y).cells.size)) := by
              rw [hlen]
              exact ((hc.take off).append hyc).append (hc.drop _)
            simpa using key.turn ht hN (fun k hk => hs k (hN k hk)) (fun _ _ h => h)
      · cases he
    · cases he
  · rename_i id i off hgx
    rw [hgx] at hx
    split at he
    · rename_i t xs ag vs hmem hgy
      rw [hgy] at hy
      have hyc := VR.cells hy
      split at he
      · rename_i hsz
        split at he
        · rename_i cs' hput
          cases hin : (vs.flatMap hsC).contains id with
          | true => rw [hin] at he; cases he
          | false =>
            rw [hin] at he
            cases hz : asD t cs' with
            | none => simp [hz] at he
            | some z =>
              simp only [hz, Option.map_some, cond_false, Option.some.injEq, Prod.mk.injEq] at he
              obtain ⟨_, rfl⟩ := he
              obtain ⟨hl, rfl⟩ := putAt_some hput
              have hso := hm id _ hmem
              obtain ⟨hi, b, hA, hv⟩ := (vr1 hx).2 t xs hso
              obtain ⟨hxl, hr⟩ := h.mr.obj id _ hso
              obtain ⟨b', vals, T', hA', hh, hvs, hel⟩ := hr (by omega)
              rw [hA] at hA'
              simp only [Option.some.injEq, Addr.mk.injEq, and_true] at hA'
              subst hA'
              have hlen : (a.eval y).cells.size = vs.length := by have := hyc.len; simp at this; omega
              obtain ⟨us, hrd, hcell⟩ := hel i hi
              have hpg : pGet t xs i = xs[i] := by unfold pGet; simp [List.getD, hi]
              rw [hpg] at hput hl hz
              have hcel : (cellsOf t xs[i]).length = t.size := by have := (hrd.cells (ρ := ρ) (m := s.obj)).len; rw [this]; exact hrd.len
              have hrol : (roCells m vs).length = vs.length := by simp [roCells]
              have hcap : xs.length * t.size ≤ vals.size := by rw [hvs]; exact Nat.mul_le_mul_right _ hxl
              have hi1 : i * t.size + t.size ≤ xs.length * t.size := by
                have : (i + 1) * t.size ≤ xs.length * t.size := Nat.mul_le_mul_right _ hi
                rw [Nat.add_mul] at this; omega
              refine set_good (D := vs.flatMap hsC) (cells' := (vals.toList.take (i * t.size + off) ++ (a.eval y).cells.toList ++ vals.toList.drop (i * t.size + off + (a.eval y).cells.size)).toArray) h hd hso (show 0 < (ρ id).cap by omega) hA (by simpa using hin) ?_ (fun t' ys e => ?_) fun m' N' hN hG hs ht => ?_
              · have := run_storeVar (P := E.P) (w := w) (T := T) (v := a.eval y) (b := b) (off := i * t.size + off) (by rw [hlen]; exact hsz) hh (by omega) (all_one hyc)
                simp only [execOp, ho, hv, Sem.run_bind, this, Result.andThen_ok]
                rfl
              · simp only [Obj.row.injEq] at e
                obtain ⟨rfl, e⟩ := e
                have e := eq_of_heq e
                subst e
                exact ⟨xs, rfl, by simp [pSet]⟩
              · refine ⟨by simpa [pSet] using hxl, fun _ => ⟨b, _, T', hA, setRow_heap w b vals _ T' (0, 0) hh, ?_, fun k hk => ?_⟩⟩
                · simp only [List.size_toArray, List.length_append, List.length_take, List.length_drop, Array.length_toList]
                  omega
                · have hk' : k < xs.length := by simpa [pSet] using hk
                  by_cases hki : k = i
                  · subst hki
                    have hnew : All2 (CR w N' ρ s.obj) ((cellsOf t xs[k]).take off ++ roCells m vs ++ (cellsOf t xs[k]).drop (off + (roCells m vs).length)) (us.take off ++ (a.eval y).cells.toList ++ us.drop (off + vs.length)) := by
                      have hu : All2 (CR w N' ρ s.obj) (cellsOf t xs[k]) us := (hrd.mono hN (fun _ _ => rfl)).cells
                      rw [hrol]
                      exact ((hu.take off).append (roCells_ok h.mr hyc hN hm fun b hb => hG b hb)).append (hu.drop _)
                    have hzr := asD_rd hz hnew
                    refine ⟨us.take off ++ (a.eval y).cells.toList ++ us.drop (off + vs.length), ?_, fun j u hj => ?_⟩
                    · have : (pSet xs k z)[k] = z := by simp [pSet]
                      rw [this]
                      exact hzr.mono (fun _ h => h) hs
                    · have hul : us.length = t.size := hrd.len
                      simp only [List.getElem?_toArray]
                      rw [hlen]
                      simp only [List.getElem?_append, List.getElem?_take, List.getElem?_drop, List.length_take, List.length_append, Array.length_toList, hlen, hul] at hj ⊢
                      by_cases h1 : j < off
                      · have e1 : k * t.size + j < k * t.size + off := by omega
                        rw [if_pos (by omega), if_pos (by omega), if_pos h1] at hj
                        rw [if_pos (by omega), if_pos (by omega), if_pos (by omega)]
                        have := hcell j u hj
                        simpa using this
                      · by_cases h2 : j < off + vs.length
                        · rw [if_pos (by omega), if_neg (by omega)] at hj
                          rw [if_pos (by omega), if_neg (by omega)]
                          rw [show k * t.size + j - min (k * t.size + off) vals.size = j - min off t.size by omega]
                          exact hj
                        · rw [if_neg (by omega)] at hj
                          rw [if_neg (by omega)]
                          have hj2 : us[j]? = some u := by
                            rw [show off + vs.length + (j - (min off t.size + vs.length)) = j by omega] at hj
                            exact hj
                          have := hcell j u hj2
                          rw [show k * t.size + off + vs.length + (k * t.size + j - (min (k * t.size + off) vals.size + vs.length)) = k * t.size + j by omega]
                          simpa using this
                  · obtain ⟨us', hrd', hcell'⟩ := hel k hk'
                    refine ⟨us', ?_, fun j u hj => ?_⟩
                    · have : (pSet xs i z)[k] = xs[k] := by simp only [pSet]; rw [List.getElem_set_ne (fun e => hki e.symm)]
                      rw [this]
                      exact (hrd'.mono hN (fun _ _ => rfl)).mono (fun _ h => h) hs
                    · have hj1 : j < t.size := by rw [← hrd'.len]; exact (List.getElem?_eq_some_iff.1 hj).1
                      have hk1 : k * t.size + t.size ≤ xs.length * t.size := by
                        have : (k + 1) * t.size ≤ xs.length * t.size := Nat.mul_le_mul_right _ hk'
                        rw [Nat.add_mul] at this; omega
                      have hold := hcell' j u hj
                      simp only [List.getElem?_toArray]
                      rw [hlen]
                      simp only [List.getElem?_append, List.getElem?_take, List.getElem?_drop, List.length_take, List.length_append, Array.length_toList, hlen]
                      rcases Nat.lt_or_gt_of_ne hki with hlt | hgt
                      · have hle : k * t.size + t.size ≤ i * t.size := by
                          have : (k + 1) * t.size ≤ i * t.size := Nat.mul_le_mul_right _ hlt
                          rw [Nat.add_mul] at this; omega
                        rw [if_pos (by omega), if_pos (by omega), if_pos (by omega)]
                        simpa using hold
                      · have hle : i * t.size + t.size ≤ k * t.size := by
                          have : (i + 1) * t.size ≤ k * t.size := Nat.mul_le_mul_right _ hgt
                          rw [Nat.add_mul] at this; omega
                        rw [if_neg (by omega)]
                        rw [show i * t.size + off + vs.length + (k * t.size + j - (min (i * t.size + off) vals.size + vs.length)) = k * t.size + j by omega]
                        simpa using hold
        · cases he
      · cases he
    · cases he
  · cases he

end
end Go.Proofs.Ytoalcmpjfnlkdaa
