/- Reading of bytes: the document's functions meet their contracts. No condition. -/
import Derived.Test.YtkimjjndbcbiaaaDoorWhP
namespace Go.Proofs.YtkimjjndbcbiaaaDoor
open Go.RowKit

theorem drop_at {rs q : List ByteD} (h : q <:+ rs) : dropF rs (atF rs q) = q := by
  obtain ⟨p, rfl⟩ := h
  unfold dropF atF
  have : pNat (pInt ((p ++ q).length - q.length)) = p.length := by
    unfold pInt; rw [pNat_coe, List.length_append]; omega
  rw [this, List.drop_left]
theorem drop_suf (rs : List ByteD) (a : Int) : dropF rs a <:+ rs := List.drop_suffix _ _
theorem takeR_suf {rs q : List ByteD} (k : Int) (h : q <:+ rs) : takeR q k <:+ rs := by
  unfold takeR
  cases pLt (pInt q.length) k
  · exact (List.drop_suffix _ _).trans h
  · exact List.nil_suffix
theorem drop_zero (rs : List ByteD) : dropF rs 0 = rs := rfl
theorem okB_dropF {rs : List ByteD} {a : Int} (h : okB rs) : okB (dropF rs a) := okB_drop h
theorem atF_nil (rs : List ByteD) : atF rs [] = pInt (pLen rs) := rfl

theorem eyOk_at {rs q : List ByteD} {fa : Int} (h : fa = 5 → q = []) : eyOk rs (atF rs q) fa := by
  unfold eyOk atF pInt
  refine ⟨Int.natCast_nonneg _, by omega, fun h5 => ?_⟩
  rw [h h5, List.length_nil, Nat.sub_zero]
theorem short_of_five {rs : List ByteD} {a fa k : Int} (h : eyOk rs a fa) (h5 : fa = 5) : dropF rs a = [] := by
  have := h.2.2 h5
  unfold dropF
  rw [this, pNat_coe, List.drop_of_length_le (Nat.le_refl _)]
theorem takeE_five {q : List ByteD} {fa k : Int} (hk : 1 ≤ k) (h : fa = 5 → q = []) (h5 : takeE q fa k = 5) : takeR q k = [] := by
  cases hs : pLt (pInt q.length) k with
  | true => exact (take_short hs).2.1
  | false =>
    rw [(take_long hs).2.2] at h5
    have hq := h h5
    subst hq
    have h' : ¬ ((([] : List ByteD).length : Nat) : Int) < k := of_decide_eq_false hs
    simp only [List.length_nil] at h'
    omega
theorem eyOk_next {rs : List ByteD} {a fa k : Int} (h : eyOk rs a fa) (hk : 1 ≤ k) : eyOk rs (atF rs (takeR (dropF rs a) k)) (takeE (dropF rs a) fa k) :=
  eyOk_at fun h5 => takeE_five hk (fun h' => short_of_five (k := k) h h') h5

theorem ynum_ok : Meets Tryd.prog (fun _ => none) 62 cynum := ynum_meets ystop_ok fun k rs a fa hp => by
  have hk0 : inF k 1 4 = true := (hp _ List.mem_cons_self)
  have hb : okB rs := (hp _ (List.mem_cons_of_mem _ List.mem_cons_self))
  have hl : rs.length < 4611686018427387904 := (hp _ (List.mem_cons_of_mem _ (List.mem_cons_of_mem _ List.mem_cons_self)))
  have he : eyOk rs a fa := (hp _ (List.mem_cons_of_mem _ (List.mem_cons_of_mem _ (List.mem_cons_of_mem _ List.mem_cons_self))))
  have hk := inF_iff.1 hk0
  clear hp
  have hkn : (pNat k : Int) = k := by unfold pNat; omega
  obtain ⟨ha0, hal, _⟩ := id he
  have han : (pNat a : Int) = a := by unfold pNat; omega
  have hD : (dropF rs a).length = rs.length - pNat a := by unfold dropF; rw [List.length_drop]
  unfold ynum_VC
  refine bif_ok (fun h => ?_) fun h => ?_
  · have h5 : fa = 5 := by simpa [pEq] using h
    have hd := short_of_five (k := k) he h5
    have hs : pLt (pInt (dropF rs a).length) k = true := by rw [hd]; exact decide_eq_true (show ((0 : Nat) : Int) < k by omega)
    obtain ⟨e1, e2, e3⟩ := take_short hs
    rw [e1, e2, e3]
    rfl
  · refine bif_ok (fun h => ?_) fun h => ?_
    · have h' : pAdd .i64 a k > (rs.length : Int) := of_decide_eq_true h
      rw [pAdd_in (by omega)] at h'
      have hs : pLt (pInt (dropF rs a).length) k = true := decide_eq_true (show (((dropF rs a).length : Nat) : Int) < k by omega)
      obtain ⟨e1, e2, e3⟩ := take_short hs
      rw [e1, e2, e3]
      rfl
    · have h' : ¬ pAdd .i64 a k > (rs.length : Int) := of_decide_eq_false h
      rw [pAdd_in (by omega)] at h'
      have hs : pLt (pInt (dropF rs a).length) k = false := decide_eq_false (show ¬ (((dropF rs a).length : Nat) : Int) < k by omega)
      obtain ⟨e1, e2, e3⟩ := take_long hs
      rw [e1, e2, e3]
      refine ⟨⟨0, Nat.zero_le _, by simp [valB]⟩, fun y hy => ?_⟩
      obtain ⟨j, hj, rfl⟩ := hy
      simp only
      refine bif_ok (fun h => ?_) fun h => ?_
      · have hjk : j < pNat k := by
          have : (j : Int) < k := of_decide_eq_true h
          omega
        obtain ⟨b1, b2⟩ := valB_bound (okB_dropF (a := a) hb) j (by omega)
        have b3 := pow_small (j := j) (by omega)
        obtain ⟨c1, c2⟩ := byteAt_ok (okB_dropF (a := a) hb) (show j < (dropF rs a).length by omega)
        have hpa : pNat (a + (j : Int)) = pNat a + j := by unfold pNat; omega
        have hg : (pGet tyB rs (pNat (a + (j : Int)))).1 = byteAt (dropF rs a) j := by
          rw [hpa]
          have e4 : byteAt rs (pNat a + j) = byteAt (dropF rs a) j := by
            rw [byteAt_eq (by omega), byteAt_eq (by omega)]
            unfold dropF
            simp
          exact e4
        have e4 : pAdd .i64 (j : Int) 1 = ((j + 1 : Nat) : Int) := pAdd1 (by omega)
        have e5 : pWrap .i64 (byteAt (dropF rs a) j) = byteAt (dropF rs a) j := Go.IntWalk.i64_in _ (by omega)
        have e6 : pMul .i64 256 (valB ((dropF rs a).take j)) = valB ((dropF rs a).take j) * 256 := by
          unfold pMul; rw [Go.IntWalk.i64_in _ (by omega)]; omega
        have e7 : pAdd .i64 (a + (j : Int)) 1 = a + ((j + 1 : Nat) : Int) := by rw [pAdd_in (by omega)]; omega
        rw [hg, e4, e5, e6, pAdd_in (by omega), ← valB_step (by omega), e7]
        refine ⟨?_, ⟨j + 1, hjk, rfl⟩, Nat.le_of_eq ?_⟩
        · constructor
          · omega
          · show a + (j : Int) < ((rs.length : Nat) : Int); omega
        · unfold ynumMu
          simp only
          omega
      · have hjk : ¬ j < pNat k := by
          have : ¬ (j : Int) < k := of_decide_eq_false h
          omega
        have : j = pNat k := by omega
        subst this
        have e8 : atF rs ((dropF rs a).drop (pNat k)) = a + (pNat k : Int) := by
          unfold atF pInt
          rw [List.length_drop]
          omega
        rw [e8]
        rfl

theorem yyes_ok : Meets Tryd.prog (fun _ => none) 63 cyyes := yyes_meets ystop_ok ynum_ok fun rs a fa hp => by
  have hb : okB rs := (hp _ List.mem_cons_self)
  have hl : rs.length < 4611686018427387904 := (hp _ (List.mem_cons_of_mem _ List.mem_cons_self))
  have he : eyOk rs a fa := (hp _ (List.mem_cons_of_mem _ (List.mem_cons_of_mem _ List.mem_cons_self)))
  unfold yyes_VC
  refine ⟨by decide, hb, hl, he, ?_⟩
  unfold bitE
  cases pGt (takeN (dropF rs a) 1) 1 <;> cases h : pEq (takeE (dropF rs a) fa 1) 0 <;> simp [h]

theorem yfirst_ok : Meets Tryd.prog (fun _ => none) 60 cyfirst := yfirst_meets ystop_ok ynum_ok In_ok fun k rs a fa hp => by
  have hb : okB rs := (hp _ List.mem_cons_self)
  have hl : rs.length < 4611686018427387904 := (hp _ (List.mem_cons_of_mem _ List.mem_cons_self))
  have he : eyOk rs a fa := (hp _ (List.mem_cons_of_mem _ (List.mem_cons_of_mem _ List.mem_cons_self)))
  unfold yfirst_VC
  refine ⟨by decide, hb, hl, he, ?_⟩
  unfold kindE
  have h3 : pNe (3 : Int) 0 = true := by decide
  have h3' : pEq (3 : Int) 0 = false := by decide
  have hn : pNe (takeE (dropF rs a) fa 1) 0 = !(pEq (takeE (dropF rs a) fa 1) 0) := rfl
  have hq : ∀ b, pNot b = !b := fun _ => rfl
  simp only [hn, hq]
  cases inF (takeN (dropF rs a) 1) 1 k <;> cases h : pEq (takeE (dropF rs a) fa 1) 0 <;> simp [h, h3, h3']

theorem ywho_ok : Meets Tryd.prog (fun _ => none) 61 cywho := ywho_meets ynum_ok fun rs a fa hp => by
  have hb : okB rs := (hp _ List.mem_cons_self)
  have hl : rs.length < 4611686018427387904 := (hp _ (List.mem_cons_of_mem _ List.mem_cons_self))
  have he : eyOk rs a fa := (hp _ (List.mem_cons_of_mem _ (List.mem_cons_of_mem _ List.mem_cons_self)))
  unfold ywho_VC
  refine ⟨by decide, hb, hl, he, by decide, hb, hl, eyOk_next he (by decide), ?_⟩
  rw [drop_at (takeR_suf 1 (drop_suf rs a))]

end Go.Proofs.YtkimjjndbcbiaaaDoor
