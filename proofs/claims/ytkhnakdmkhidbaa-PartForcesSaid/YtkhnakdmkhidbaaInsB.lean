/- slices.Insert: what its walks share. It names no program. No condition. -/
import Derived.Test.YtkhnakdmkhidbaaIns
import Derived.Test.YtkhnakdmkhidbaaLib
import Derived.Shelf.Spec.SlicesInsertGrow
import Derived.Deep.RegionLaw
namespace Go.Proofs.Ytkhnakdmkhidbaa
open Go.RowKit Go.Lib

theorem run_copy_K {P : Program} (w : World) (dT sT ty elem : TypeId) (z b o dLen dCap : Nat) (a : Addr) (sLen sCap : Nat) (cs : List Value) (m : Nat)
    (hu : P.underlying dT = some (.slice elem)) (hs : (P.info? elem).map (·.size) = some z) (hm : m = Nat.min sLen dLen) (hn : cs.length = m * z)
    (hsrc : ∀ j v, cs[j]? = some v → w.cell? (a.add j) = some v) (hc : ∀ j, j < cs.length → (w.cell? ⟨b, o + j, none⟩).isSome = true) (hf : ∀ j, j < cs.length → w.frozen? ⟨b, o + j, none⟩ = false) (h1 : ∀ v ∈ cs, v.oneCell' = true) :
    (Builtin.copy_ #[dT, sT] ty #[.slice (some ⟨b, o, none⟩) dLen dCap, .slice (some a) sLen sCap]).run P w = .ok (goInt m) (w.setCells b o cs) := by
  have hl := run_loadCells_list (P := P) w a cs hsrc
  have hst := run_storeCells_cells (P := P) b o cs 0 w (by simpa using hc) (by simpa using hf) h1
  cases hq : P.info? elem with
  | none => simp [hq] at hs
  | some i =>
    have hi : i.size = z := by simpa [hq] using hs
    simp [Builtin.copy_, run_underlying hu, Builtin.lenOf, Builtin.firstCells, sizeOf, typeInfo, hq, hi, ← hm, ← hn, hl, hst]

theorem setCells_heap (b : Nat) : ∀ (vs : List Value) (o : Nat) (w : World) {vals : Array Value} {T : TypeId} {fz : Nat × Nat}, w.heap[b]? = some (.cells vals T fz) → ∃ vals', (w.setCells b o vs).heap[b]? = some (.cells vals' T fz) ∧ vals'.size = vals.size
  | [], _, _, vals, _, _, h => ⟨vals, h, rfl⟩
  | v :: r, o, w, vals, T, fz, h => by
    obtain ⟨vals', h1, h2⟩ := setCells_heap b r (o + 1) (w.setCell ⟨b, o, none⟩ v) (vals := vals.setIfInBounds o v) (T := T) (fz := fz) (by
      simp only [World.setCell, Array.getElem?_modify, if_pos, h, Option.map_some]
      rfl)
    exact ⟨vals', h1, by rw [h2]; simp⟩
theorem setCells_keep (b : Nat) : ∀ (vs : List Value) (o : Nat) (w : World), (w.setCells b o vs).heap.size = w.heap.size ∧ (w.setCells b o vs).os = w.os ∧ (w.setCells b o vs).tape = w.tape ∧ (w.setCells b o vs).output = w.output ∧ ∀ k, k ≠ b → (w.setCells b o vs).heap[k]? = w.heap[k]?
  | [], _, _ => ⟨rfl, rfl, rfl, rfl, fun _ _ => rfl⟩
  | v :: r, o, w => by
    obtain ⟨h1, h2, h3, h4, h5⟩ := setCells_keep b r (o + 1) (w.setCell ⟨b, o, none⟩ v)
    refine ⟨h1.trans (by simp [World.setCell]), h2, h3, h4, fun k hk => (h5 k hk).trans ?_⟩
    simp only [World.setCell, Array.getElem?_modify]
    rw [if_neg (fun e => hk e.symm)]
theorem cell_heap {w : World} {b j : Nat} {vals : Array Value} {T : TypeId} {fz : Nat × Nat} (h : w.heap[b]? = some (.cells vals T fz)) : w.cell? ⟨b, j, none⟩ = vals[j]? := by
  simp [World.cell?, h]
theorem frozen_heap {w : World} {b j : Nat} {vals : Array Value} {T : TypeId} (h : w.heap[b]? = some (.cells vals T (0, 0))) : w.frozen? ⟨b, j, none⟩ = false := by
  simp [World.frozen?, h]
theorem shape_heap {w : World} {b : Nat} {vals : Array Value} {T : TypeId} {fz : Nat × Nat} (h : w.heap[b]? = some (.cells vals T fz)) : w.shape? b = some (T, vals.size) := by
  simp [World.shape?, h]

/-- the first so many cells -/
theorem first_len {vals : Array Value} {k : Nat} (h : k ≤ vals.size) : (vals.toList.take k).length = k := by rw [List.length_take, Array.length_toList]; omega
theorem first_get {vals : Array Value} {k j : Nat} {v : Value} (h : (vals.toList.take k)[j]? = some v) : j < k ∧ vals[j]? = some v := by
  rw [List.getElem?_take] at h
  split at h
  · rename_i hj; exact ⟨hj, by simpa using h⟩
  · cases h
theorem first_at {vals : Array Value} {k j : Nat} (hj : j < k) : (vals.toList.take k)[j]? = vals[j]? := by
  rw [List.getElem?_take, if_pos hj]; simp

theorem insCells_of {b n i z : Nat} {vals vvals vals' : Array Value} {w2 : World} {T : TypeId} {fz : Nat × Nat} (hi : i < n) (h' : w2.heap[b]? = some (.cells vals' T fz))
    (hlow : ∀ j, j < i * z → w2.cell? ⟨b, j, none⟩ = vals[j]?) (hmid : ∀ j, j < z → w2.cell? ⟨b, i * z + j, none⟩ = vvals[j]?) (hhigh : ∀ j, j < (n - i) * z → w2.cell? ⟨b, (i + 1) * z + j, none⟩ = vals[i * z + j]?) : InsCells vals vvals n i z vals' := by
  intro j hj
  rw [← cell_heap (w := w2) (b := b) (j := j) h']
  have e1 : (i + 1) * z = i * z + z := by rw [Nat.add_mul, Nat.one_mul]
  have e2 : (n + 1) * z = i * z + z + (n - i) * z := by
    have : n + 1 = i + 1 + (n - i) := by omega
    rw [this, Nat.add_mul, e1]
  split
  · exact hlow j (by assumption)
  · split
    · have := hmid (j - i * z) (by omega)
      rwa [show i * z + (j - i * z) = j by omega] at this
    · have := hhigh (j - (i * z + z)) (by omega)
      rw [e1, show i * z + z + (j - (i * z + z)) = j by omega] at this
      rw [this]
      congr 1; omega

theorem push_of {h h' : Array Go.Obj} {o : Go.Obj} (hs : h'.size = h.size + 1) (ho : h'[h.size]? = some o) (hk : ∀ k, k < h.size → h'[k]? = h[k]?) : h' = h.push o := by
  apply Array.ext_getElem?
  intro k
  rcases Nat.lt_trichotomy k h.size with h1 | h1 | h1
  · rw [hk k h1, Array.getElem?_push, if_neg (by omega)]
  · subst h1; rw [ho, Array.getElem?_push, if_pos rfl]
  · rw [Array.getElem?_eq_none (by omega), Array.getElem?_eq_none (by rw [Array.size_push]; omega)]

theorem insWalk_of {P : Program} {K : FuncId} {z bytes : Nat} (hz : 0 < z)
    (hshift : ∀ (b n c i vb vc : Nat) (cs vs : List Value) (w : World), i < n → n + 1 ≤ c → c ≤ 9223372036854775807 → vb ≠ b → cs.length = n * z → vs.length = z →
      (∀ (j : Nat) v, cs[j]? = some v → w.cell? ⟨b, j, none⟩ = some v) → (∀ j, j < (n + 1) * z → (w.cell? ⟨b, j, none⟩).isSome = true) → (∀ j, j < (n + 1) * z → w.frozen? ⟨b, j, none⟩ = false) →
      (∀ (j : Nat) v, vs[j]? = some v → w.cell? ⟨vb, j, none⟩ = some v) → (∀ v ∈ cs, v.oneCell' = true) → (∀ v ∈ vs, v.oneCell' = true) →
      ∀ (tA tB : TypeId) (kA kB : Nat), w.shape? vb = some (tA, kA) → w.shape? b = some (tB, kB) → kB ≠ 0 → w.frozen? ⟨vb, 0, none⟩ = false → w.frozen? ⟨vb, kA, none⟩ = false →
      Calls P K #[.slice (some ⟨b, 0, none⟩) n c, .int .i64 (i : Int), .slice (some ⟨vb, 0, none⟩) 1 vc] w fun e w' =>
        e = .returned (.slice (some ⟨b, 0, none⟩) (n + 1) c) ∧ w' = (w.drew.setCells b ((i + 1) * z) (cs.drop (i * z))).setCells b (i * z) vs)
    (hgrow : ∀ (b n c i vb vc : Nat) (cs vs : List Value) (w : World), i < n → n ≤ c → c < n + 1 → (n + 1) * bytes ≤ 140737488355328 → cs.length = n * z → vs.length = z →
      (∀ (j : Nat) v, cs[j]? = some v → w.cell? ⟨b, j, none⟩ = some v) → (∀ (j : Nat) v, vs[j]? = some v → w.cell? ⟨vb, j, none⟩ = some v) → (∀ v ∈ cs, v.oneCell' = true) → (∀ v ∈ vs, v.oneCell' = true) →
      ∃ (zs : Array Value) (G : Nat) (T : TypeId), Calls P K #[.slice (some ⟨b, 0, none⟩) n c, .int .i64 (i : Int), .slice (some ⟨vb, 0, none⟩) 1 vc] w (fun e w' =>
        e = .returned (.slice (some ⟨w.heap.size, 0, none⟩) (n + 1) G) ∧ w' = (((w.alloc (.cells ((cs.take (i * z)).toArray ++ zs) T)).drew.setCells w.heap.size (i * z) vs).drew).setCells w.heap.size ((i + 1) * z) (cs.drop (i * z))) ∧ n + 1 ≤ G ∧ G ≤ 9223372036854775807 ∧ i * z + zs.size = G * z) :
    InsWalk P K z bytes := by
  intro w b vb cap vcap n i vals vvals T T' hi hnc hc63 hvc hne hroom hh hvs hh' hvs' one0 one1
  have hnz : n * z ≤ vals.size := by rw [hvs]; exact Nat.mul_le_mul_right _ hnc
  have hvz : z ≤ vvals.size := by
    rw [hvs']
    have := Nat.mul_le_mul_right z hvc
    rw [Nat.one_mul] at this; exact this
  have hcl := first_len hnz
  have hvl := first_len hvz
  have hcs : ∀ (j : Nat) v, (vals.toList.take (n * z))[j]? = some v → w.cell? ⟨b, j, none⟩ = some v := fun j v h => by rw [cell_heap hh]; exact (first_get h).2
  have hvs2 : ∀ (j : Nat) v, (vvals.toList.take z)[j]? = some v → w.cell? ⟨vb, j, none⟩ = some v := fun j v h => by rw [cell_heap hh']; exact (first_get h).2
  have h1c : ∀ v ∈ vals.toList.take (n * z), v.oneCell' = true := fun v hv => by
    obtain ⟨j, hj⟩ := List.getElem?_of_mem hv
    exact one0 j v (first_get hj).1 (first_get hj).2
  have h1v : ∀ v ∈ vvals.toList.take z, v.oneCell' = true := fun v hv => by
    obtain ⟨j, hj⟩ := List.getElem?_of_mem hv
    exact one1 j v (first_get hj).1 (first_get hj).2
  have e1 : (i + 1) * z = i * z + z := by rw [Nat.add_mul, Nat.one_mul]
  have e3 : n * z = i * z + (n - i) * z := by rw [← Nat.add_mul]; congr 1; omega
  have e2 : (n + 1) * z = n * z + z := by rw [Nat.add_mul, Nat.one_mul]
  have hdl : ((vals.toList.take (n * z)).drop (i * z)).length = (n - i) * z := by rw [List.length_drop, hcl]; omega
  by_cases hfit : n + 1 ≤ cap
  · have hcz : (n + 1) * z ≤ vals.size := by rw [hvs]; exact Nat.mul_le_mul_right _ hfit
    refine (hshift b n cap i vb vcap _ _ w hi hfit hc63 (fun e => hne e.symm) hcl hvl hcs (fun j hj => by rw [cell_heap hh, Array.getElem?_eq_getElem (by omega)]; rfl) (fun j _ => frozen_heap hh) hvs2 h1c h1v T' T vvals.size vals.size (shape_heap hh') (shape_heap hh) (by omega) (frozen_heap hh') (frozen_heap hh')).mono fun e w' hp => ?_
    obtain ⟨rfl, rfl⟩ := hp
    obtain ⟨v1, hv1, hs1⟩ := setCells_heap b ((vals.toList.take (n * z)).drop (i * z)) ((i + 1) * z) w.drew hh
    obtain ⟨v2, hv2, hs2⟩ := setCells_heap b (vvals.toList.take z) (i * z) _ hv1
    obtain ⟨k1, k2, k3, k4, k5⟩ := setCells_keep b ((vals.toList.take (n * z)).drop (i * z)) ((i + 1) * z) w.drew
    obtain ⟨m1, m2, m3, m4, m5⟩ := setCells_keep b (vvals.toList.take z) (i * z) (w.drew.setCells b ((i + 1) * z) ((vals.toList.take (n * z)).drop (i * z)))
    refine ⟨m2.trans k2, m3.trans k3, m4.trans k4, .inl ⟨hfit, rfl, m1.trans k1, fun k hk => (m5 k hk).trans (k5 k hk), v2, hv2, by rw [hs2, hs1, hvs], ?_⟩⟩
    refine insCells_of hi hv2 (fun j hj => ?_) (fun j hj => ?_) fun j hj => ?_
    · rw [World.cell?_setCells_out b _ _ _ _ (fun _ _ => .inl hj), World.cell?_setCells_out b _ _ _ _ (fun _ _ => .inl (by show j < (i + 1) * z; omega))]
      exact cell_heap (w := w.drew) hh
    · rw [World.cell?_setCells_in b (vvals.toList.take z) (i * z) _ (fun q hq => by rw [cell_heap hv1, Array.getElem?_eq_getElem (by omega)]; rfl) j (by omega), ← List.getElem?_eq_getElem, first_at hj]
    · rw [World.cell?_setCells_out b _ _ _ _ (fun _ _ => .inr (by show i * z + _ ≤ (i + 1) * z + j; omega)),
        World.cell?_setCells_in b ((vals.toList.take (n * z)).drop (i * z)) ((i + 1) * z) w.drew (fun q hq => by rw [cell_heap (w := w.drew) hh, Array.getElem?_eq_getElem (by omega)]; rfl) j (by omega), ← List.getElem?_eq_getElem, List.getElem?_drop, first_at (by omega)]
  · obtain ⟨zs, G, T2, hcall, hG, hG63, hzs⟩ := hgrow b n cap i vb vcap _ _ w hi hnc (by omega) (by omega) hcl hvl hcs hvs2 h1c h1v
    refine hcall.mono fun e w' hp => ?_
    obtain ⟨rfl, rfl⟩ := hp
    obtain ⟨ROW, hROW⟩ : ∃ ROW : Array Value, ROW = ((vals.toList.take (n * z)).take (i * z)).toArray ++ zs := ⟨_, rfl⟩
    have htl : ((vals.toList.take (n * z)).take (i * z)).length = i * z := by rw [List.length_take]; omega
    have hRs : ROW.size = G * z := by rw [hROW, Array.size_append, List.size_toArray, htl]; exact hzs
    have hGz : (n + 1) * z ≤ G * z := Nat.mul_le_mul_right _ hG
    rw [← hROW]
    have hb0 : ((w.alloc (.cells ROW T2)).drew).heap[w.heap.size]? = some (.cells ROW T2 (0, 0)) := push_new rfl
    obtain ⟨v1, hv1, hs1⟩ := setCells_heap w.heap.size (vvals.toList.take z) (i * z) ((w.alloc (.cells ROW T2)).drew) hb0
    obtain ⟨v2, hv2, hs2⟩ := setCells_heap w.heap.size ((vals.toList.take (n * z)).drop (i * z)) ((i + 1) * z) (((w.alloc (.cells ROW T2)).drew.setCells w.heap.size (i * z) (vvals.toList.take z)).drew) hv1
    obtain ⟨k1, k2, k3, k4, k5⟩ := setCells_keep w.heap.size (vvals.toList.take z) (i * z) ((w.alloc (.cells ROW T2)).drew)
    obtain ⟨m1, m2, m3, m4, m5⟩ := setCells_keep w.heap.size ((vals.toList.take (n * z)).drop (i * z)) ((i + 1) * z) (((w.alloc (.cells ROW T2)).drew.setCells w.heap.size (i * z) (vvals.toList.take z)).drew)
    refine ⟨m2.trans k2, m3.trans k3, m4.trans k4, .inr ⟨G, v2, T2, hG, hG63, rfl, push_of ((m1.trans k1).trans (by show (w.heap.push _).size = _; rw [Array.size_push])) hv2 (fun k hk => (m5 k (by omega)).trans ((k5 k (by omega)).trans (push_old rfl hk))), by rw [hs2, hs1, hRs], ?_⟩⟩
    refine insCells_of hi hv2 (fun j hj => ?_) (fun j hj => ?_) fun j hj => ?_
    · rw [World.cell?_setCells_out _ _ _ _ _ (fun _ _ => .inl (by show j < (i + 1) * z; omega))]
      show (World.cell? (((w.alloc (.cells ROW T2)).drew).setCells w.heap.size (i * z) (vvals.toList.take z)) _) = _
      rw [World.cell?_setCells_out _ _ _ _ _ (fun _ _ => .inl hj), cell_heap hb0, hROW, Array.getElem?_append_left (by rw [List.size_toArray, htl]; exact hj), List.getElem?_toArray, List.getElem?_take, if_pos hj, first_at (by omega)]
    · rw [World.cell?_setCells_out _ _ _ _ _ (fun _ _ => .inl (by show i * z + j < (i + 1) * z; omega))]
      show (World.cell? (((w.alloc (.cells ROW T2)).drew).setCells w.heap.size (i * z) (vvals.toList.take z)) _) = _
      rw [World.cell?_setCells_in _ (vvals.toList.take z) (i * z) _ (fun q hq => by rw [cell_heap hb0, Array.getElem?_eq_getElem (by omega)]; rfl) j (by omega), ← List.getElem?_eq_getElem, first_at hj]
    · rw [World.cell?_setCells_in _ ((vals.toList.take (n * z)).drop (i * z)) ((i + 1) * z) _ (fun q hq => by
          show (World.cell? (((w.alloc (.cells ROW T2)).drew).setCells w.heap.size (i * z) (vvals.toList.take z)) _).isSome = true
          rw [cell_heap hv1, Array.getElem?_eq_getElem (by omega)]; rfl) j (by omega), ← List.getElem?_eq_getElem, List.getElem?_drop, first_at (by omega)]

end Go.Proofs.Ytkhnakdmkhidbaa
