/- THE MACHINE OF READINGS, part L: append. -/
import Derived.Test.YtoalcmpjfnlkdaaEK
namespace Go.Proofs.Ytoalcmpjfnlkdaa
open Go.RowKit

/-- lists of cells, one behind the other -/
theorem gather {P : Nat → List Value → Prop} (sz : Nat) : ∀ (n : Nat), (∀ k, k < n → ∃ us : List Value, P k us ∧ us.length = sz) → ∃ L : List Value, L.length = n * sz ∧ ∀ k, k < n → ∃ us : List Value, P k us ∧ us.length = sz ∧ ∀ j, j < sz → L[k * sz + j]? = us[j]?
  | 0, _ => ⟨[], by simp, fun k hk => absurd hk (by omega)⟩
  | n + 1, h => by
    obtain ⟨L, hl, hk⟩ := gather (P := P) sz n fun k hk => h k (by omega)
    obtain ⟨us, hp, hlen⟩ := h n (by omega)
    refine ⟨L ++ us, by rw [List.length_append, hl, hlen, Nat.add_mul]; omega, fun k hk' => ?_⟩
    by_cases hkn : k = n
    · subst hkn
      refine ⟨us, hp, hlen, fun j hj => ?_⟩
      rw [List.getElem?_append_right (by omega), hl]
      congr 1; omega
    · obtain ⟨vs, h1, h2, h3⟩ := hk k (by omega)
      refine ⟨vs, h1, h2, fun j hj => ?_⟩
      have : (k + 1) * sz ≤ n * sz := Nat.mul_le_mul_right _ (by omega)
      rw [Nat.add_mul] at this
      rw [List.getElem?_append_left (by omega)]
      exact h3 j hj

section
variable {E : Env} {w0 : World} {X Z : Blk} {a : Act} {w w' : World} {s : St} {ρ ρ' : Nat → Pl} {N N' : Blk} {m m' : Mem}

/-- a slice value that reads as ys: its cells, in a list -/
def Cells (w : World) (N : Blk) (t : Ty) (v : Value) (ys : List t.den) (news : List Value) : Prop :=
  ∃ A c, v = .slice A ys.length c ∧ ys.length ≤ c ∧ news.length = ys.length * t.size ∧ (A = none → ys.length = 0) ∧ (∀ ad, A = some ad → ∀ (j : Nat) (u : Value), news[j]? = some u → w.cell? (ad.add j) = some u) ∧ (∀ u ∈ news, u.oneCell' = true) ∧
    ∀ (k : Nat) (h : k < ys.length), ∃ us : List Value, Rd t w N us ys[k] ∧ ∀ (j : Nat) (u : Value), us[j]? = some u → news[k * t.size + j]? = some u

theorem rd_cells {t : Ty} {v : Value} {ys : List t.den} (h : Rd (.sl t) w N [v] ys) : ∃ news, Cells w N t v ys news := by
  obtain ⟨A, n, c, hv, hl, hc, hr⟩ := h
  simp only [List.cons.injEq, and_true] at hv
  subst hv hl
  by_cases h0 : 0 < ys.length
  · obtain ⟨b, off, rfl, hN, hk⟩ := hr h0
    obtain ⟨L, hL, hLk⟩ := gather (P := fun k us => ∃ h : k < ys.length, Rd t w N us ys[k] ∧ ∀ (j : Nat) (u : Value), us[j]? = some u → w.cell? ⟨b, off + k * t.size + j, none⟩ = some u) t.size ys.length
      (fun k hk' => by obtain ⟨us, h1, h2, h3⟩ := hk k hk'; exact ⟨us, ⟨hk', h1, h3⟩, h2⟩)
    have dec : ∀ j u, L[j]? = some u → ∃ k, ∃ hk : k < ys.length, ∃ i us, j = k * t.size + i ∧ Rd t w N us ys[k] ∧ us[i]? = some u ∧ w.cell? ⟨b, off + j, none⟩ = some u := by
      intro j u hj
      have hjl : j < ys.length * t.size := by rw [← hL]; exact (List.getElem?_eq_some_iff.1 hj).1
      have hsz : 0 < t.size := by
        rcases Nat.eq_zero_or_pos t.size with h | h
        · rw [h] at hjl; omega
        · exact h
      have hkq : j / t.size < ys.length := Nat.div_lt_of_lt_mul (by rw [Nat.mul_comm]; exact hjl)
      obtain ⟨us, ⟨hk1, hrd, hcell⟩, hul, hget⟩ := hLk (j / t.size) hkq
      have hdm : j = j / t.size * t.size + j % t.size := by rw [Nat.mul_comm]; exact (Nat.div_add_mod j t.size).symm
      have hm := Nat.mod_lt j hsz
      have hg := hget (j % t.size) hm
      rw [← hdm, hj] at hg
      have hc := hcell (j % t.size) u hg.symm
      exact ⟨j / t.size, hk1, j % t.size, us, hdm, hrd, hg.symm, by rw [Nat.add_assoc, ← hdm] at hc; exact hc⟩
    refine ⟨L, some ⟨b, off, none⟩, c, rfl, hc, hL, (fun h => by cases h), fun ad had j u hj => ?_, fun u hu => ?_, fun k hk' => ?_⟩
    · simp only [Option.some.injEq] at had
      subst had
      rw [addr_add]
      obtain ⟨_, _, _, _, _, _, _, hc⟩ := dec j u hj
      exact hc
    · obtain ⟨j, hj, rfl⟩ := List.getElem_of_mem hu
      obtain ⟨k, hk1, i, us, _, hrd, hi, _⟩ := dec j L[j] (List.getElem?_eq_getElem hj)
      exact hrd.one _ (List.mem_of_getElem? hi)
    · obtain ⟨us, ⟨_, hrd, _⟩, hul, hget⟩ := hLk k hk'
      refine ⟨us, hrd, fun j u hj => ?_⟩
      have : j < t.size := by rw [← hul]; exact (List.getElem?_eq_some_iff.1 hj).1
      rw [hget j this]; exact hj
  · have hys : ys = [] := List.eq_nil_of_length_eq_zero (by omega)
    subst hys
    exact ⟨[], A, c, rfl, hc, by simp, fun _ => rfl, (fun _ _ j u hj => by simp at hj), by simp, fun k hk => absurd hk (by simp)⟩

theorem run_first {P : Program} {t : Ty} {v : Value} {ys : List t.den} {news : List Value} (h : Cells w N t v ys news) {w1 : World} (hc : ∀ p, w1.cell? p = w.cell? p) : (Builtin.firstCells t.size ys.length v).run P w1 = .ok news.toArray w1 := by
  obtain ⟨A, c, rfl, _, hl, hA, hcell, _⟩ := h
  cases A with
  | none =>
    have h0 : news = [] := List.eq_nil_of_length_eq_zero (by rw [hl, hA rfl]; simp)
    subst h0
    simp [Builtin.firstCells]
  | some ad => exact run_firstCells_some w1 t.size ys.length ad ys.length c news hl fun j u hj => (hc _).trans (hcell ad rfl j u hj)

theorem elems_cells (h : MR w N ρ m) {m1 : Mem} (h1 : ∀ id ob, m1 id = some ob → m id = some ob) {t : Ty} {c : C} {v : Value} {ys : List t.den} (hc : CR w N ρ m c v) (he : aElems m1 t c = some ys) : ∃ news, Cells w N t v ys news := by
  unfold aElems at he
  split at he
  · simp only [Option.some.injEq] at he
    subst he
    obtain ⟨A, rfl⟩ := hc
    exact ⟨[], A, 0, rfl, Nat.le_refl _, by simp, fun _ => rfl, (fun _ _ j u hj => by simp at hj), by simp, fun k hk => absurd hk (by simp)⟩
  · split at he
    · rename_i ht; subst ht
      simp only [Option.some.injEq] at he
      subst he
      exact rd_cells hc
    · cases he
  · rename_i id
    split at he
    · rename_i t' xs hm
      split at he
      · rename_i ht; subst ht
        simp only [Option.some.injEq] at he
        subst he
        have hm' := h1 id _ hm
        have hv := hc.2 t' xs hm'
        subst hv
        obtain ⟨hl, hr⟩ := h.obj id _ hm'
        by_cases h0 : 0 < xs.length
        · obtain ⟨b, vals, T, hA, hh, hsz, hx⟩ := hr (by omega)
          -- a row of its own: its cells, as a list
          have hbig : xs.length * t'.size ≤ vals.size := by rw [hsz]; exact Nat.mul_le_mul_right _ hl
          refine ⟨vals.toList.take (xs.length * t'.size), (ρ id).A, (ρ id).cap, rfl, hl, by simp; omega, (fun e => by rw [hA] at e; cases e), fun ad had j u hj => ?_, fun u hu => ?_, fun k hk => ?_⟩
          · rw [hA] at had
            simp only [Option.some.injEq] at had
            subst had
            rw [List.getElem?_take] at hj
            split at hj
            · rw [addr_add]; simp [World.cell?, hh]; simpa using hj
            · cases hj
          · obtain ⟨j, hj, rfl⟩ := List.getElem_of_mem hu
            have hjl : j < xs.length * t'.size := by simp at hj; omega
            have hs0 : 0 < t'.size := by
              rcases Nat.eq_zero_or_pos t'.size with h | h
              · rw [h] at hjl; omega
              · exact h
            have hkq : j / t'.size < xs.length := Nat.div_lt_of_lt_mul (by rw [Nat.mul_comm]; exact hjl)
            obtain ⟨us, hrd, hcell⟩ := hx (j / t'.size) hkq
            have hdm : j = j / t'.size * t'.size + j % t'.size := by rw [Nat.mul_comm]; exact (Nat.div_add_mod j t'.size).symm
            have hul : j % t'.size < us.length := by rw [hrd.len]; exact Nat.mod_lt j hs0
            have hc1 := hcell (j % t'.size) us[j % t'.size] (List.getElem?_eq_getElem hul)
            rw [← hdm] at hc1
            have hjv : j < vals.size := by omega
            have : vals[j] = us[j % t'.size] := by rw [Array.getElem?_eq_getElem hjv] at hc1; exact Option.some.inj hc1
            rw [List.getElem_take]
            simp only [Array.getElem_toList, this]
            exact hrd.one _ (List.getElem_mem hul)
          · obtain ⟨us, hrd, hcell⟩ := hx k hk
            refine ⟨us, hrd, fun j u hj => ?_⟩
            have hj1 : j < t'.size := by rw [← hrd.len]; exact (List.getElem?_eq_some_iff.1 hj).1
            have hk1 : k * t'.size + t'.size ≤ xs.length * t'.size := by
              have : (k + 1) * t'.size ≤ xs.length * t'.size := Nat.mul_le_mul_right _ hk
              rw [Nat.add_mul] at this; omega
            rw [List.getElem?_take, if_pos (by omega)]
            simpa using hcell j u hj
        · have hys : xs = [] := List.eq_nil_of_length_eq_zero (by omega)
          subst hys
          exact ⟨[], (ρ id).A, (ρ id).cap, rfl, hl, by simp, fun _ => rfl, (fun _ _ j u hj => by simp at hj), by simp, fun k hk => absurd hk (by simp)⟩
      · cases he
    · cases he
  · cases he

variable {P : Program}

theorem run_append_in {T ty e : TypeId} {i : TypeInfo} (ht : P.underlying T = some (.slice e)) (hi : P.info? e = some i) {t : Ty} (hts : t.size = i.size) {A : Option Addr} {n cap : Nat} {v : Value} {ys : List t.den} {news : List Value} (hc : Cells w N t v ys news)
    (hroom : n + ys.length ≤ cap) {w1 : World} (hst : (match A with | some ad => storeCells (ad.add (n * i.size)) news | none => Pure.pure ()).run P w = .ok () w1) :
    (Builtin.append_ #[T, T] ty #[.slice A n cap, v]).run P w = .ok (.slice A (n + ys.length) cap) w1 := by
  have hf := run_first (P := P) hc (w1 := w) (fun _ => rfl)
  rw [hts] at hf
  obtain ⟨B, c, rfl, _⟩ := hc
  cases A with
  | none =>
    simp only [Sem.run_pure, Result.ok.injEq, true_and] at hst
    subst hst
    simp [Builtin.append_, run_underlying ht, sizeOf, typeInfo, hi, Builtin.lenOf, hroom, hf]
  | some ad =>
    simp only at hst
    simp [Builtin.append_, run_underlying ht, sizeOf, typeInfo, hi, Builtin.lenOf, hroom, hf, hst]

theorem run_append_new {T ty e : TypeId} {i : TypeInfo} {z : Value} (ht : P.underlying T = some (.slice e)) (hi : P.info? e = some i) (hz : i.zero = some z) {t : Ty} (hts : t.size = i.size) {S v : Value} {xs ys : List t.den} {olds news : List Value} {A : Option Addr} {cap : Nat} (hS : S = .slice A xs.length cap) (ho : Cells w N t S xs olds) (hc : Cells w N t v ys news)
    (hroom : cap < xs.length + ys.length) (hb : (xs.length + ys.length) * i.bytes ≤ 140737488355328) (h63 : xs.length + ys.length ≤ 9223372036854775807) :
    (Builtin.append_ #[T, T] ty #[S, v]).run P w = .ok (.slice (some ⟨w.heap.size, 0, none⟩) (xs.length + ys.length) (grownCap w (xs.length + ys.length) cap e))
      (w.drew.alloc (.cells (olds.toArray ++ news.toArray ++ Builtin.zeroCells z.cells (grownCap w (xs.length + ys.length) cap e - (xs.length + ys.length))) e)) := by
  have hf := run_first (P := P) hc (w1 := w.drew) (fun _ => rfl)
  have hfo := run_first (P := P) ho (w1 := w.drew) (fun _ => rfl)
  rw [hts] at hf hfo
  subst hS
  obtain ⟨B, c, rfl, _⟩ := hc
  have hfit := growslice_fits hroom hb
  have hn : ¬ (xs.length + ys.length ≤ cap) := by omega
  have h63' : ¬ (9223372036854775807 < ((xs.length : Int) + (ys.length : Int))) := by omega
  have h48' : ¬ (281474976710656 < Builtin.nextslicecap (xs.length + ys.length) cap * i.bytes) := by omega
  simp [Builtin.append_, run_underlying ht, sizeOf, typeInfo, zeroValue, hi, hz, Builtin.lenOf, hn, h63', h48', Question.forced, hf, hfo, newRow, grownCap]
  congr 2
  apply Array.ext'
  simp [List.append_assoc]

end
end Go.Proofs.Ytoalcmpjfnlkdaa
