/- Sorted numbers; what is the same: the functions meet their contracts. No condition. -/
import Derived.Test.YtnkcmkegjckncaaJ2
import Derived.Deep.LoopGhost
import Derived.Shelf.RegionOpenPlain
import Derived.Shelf.Spec.SlicesInsertGrow
import Derived.Test.YtnkcmkegjckncaaJ4
import Derived.Test.YtnkcmkegjckncaaJ3

/- slices.Delete at []api.Job: its walk. No condition. -/
namespace Go.Proofs.Ytnkcmkegjckncaa
open Go.RowKit Go.Lib

abbrev delJZ : Value := .agg #[.int .i64 0, .int .i64 0, .slice none 0 0, .slice none 0 0, .int .i64 0, .int .i64 0]
theorem delJI : (Try.prog.info? 47).map (fun i => (i.zero, i.size, i.bytes)) = some (some delJZ, 6, 80) := by kernel_rfl
theorem delJV : ∀ w, (zeroValue 47).run Try.prog w = .ok delJZ w := fun w => by
  obtain ⟨i0, hi0, hz0, hz1, hz2⟩ := info_parts delJI
  unfold zeroValue typeInfo
  simp [hi0, hz0]

set_option maxHeartbeats 4000000 in
set_option maxRecDepth 100000 in
theorem delJ_shift (b n c i j : Nat) (cs : List Value) (w : World) (hij : j = i + 1) (hj : j ≤ n) (hnc : n ≤ c) (hc63 : c ≤ 9223372036854775807) (hcl : cs.length = n * 6)
    (hcs : ∀ (q : Nat) v, cs[q]? = some v → w.cell? ⟨b, q, none⟩ = some v) (hfz : ∀ q, q < n * 6 → w.frozen? ⟨b, q, none⟩ = false) (h1c : ∀ v ∈ cs, v.oneCell' = true) :
    Calls Try.prog 64 #[.slice (some ⟨b, 0, none⟩) n c, .int .i64 (i : Int), .int .i64 (j : Int)] w fun e w' =>
      e = .returned (.slice (some ⟨b, 0, none⟩) (n - 1) c) ∧ w' = (w.drew.setCells b (i * 6) (cs.drop (j * 6))).setCells b ((n - 1) * 6) delJZ.cells.toList := by
  obtain ⟨i0, hi0, hz0, hz1, hz2⟩ := info_parts delJI
  have hlt : i < j := by omega
  have hcell : ∀ q, q < n * 6 → (w.cell? ⟨b, q, none⟩).isSome = true := fun q hq => by rw [hcs q _ (List.getElem?_eq_getElem (by omega))]; rfl
  obtain ⟨news, hnews⟩ : ∃ news, news = cs.drop (j * 6) := ⟨_, rfl⟩
  have hlen : news.length = (n - j) * 6 := by rw [hnews, List.length_drop, hcl, ← Nat.sub_mul]
  obtain ⟨A, hA, hsrc⟩ : ∃ A : Addr, (if c = j then some (⟨b, 0, none⟩ : Addr) else some ⟨b, j * 6, none⟩) = some A ∧ Hid (∀ t u, news[t]? = some u → w.drew.cell? (A.add t) = some u) := by
    by_cases h : c = j
    · refine ⟨⟨b, 0, none⟩, by simp [h], fun t u hu => ?_⟩
      have h0 : news.length = 0 := by rw [hlen, show n - j = 0 by omega, Nat.zero_mul]
      rw [List.length_eq_zero_iff.1 h0] at hu
      simp at hu
    · refine ⟨⟨b, j * 6, none⟩, by simp [h], fun t u hu => ?_⟩
      rw [Addr.add_lit]
      rw [hnews, List.getElem?_drop] at hu
      exact hcs _ _ hu
  have s1 : Hid (news.length = (n - j) * 6) := hlen
  have s2 : Hid (∀ u ∈ news, u.oneCell' = true) := by
    intro u hu
    rw [hnews] at hu
    exact h1c u (List.mem_of_mem_drop hu)
  have hin : i * 6 + (n - j) * 6 ≤ n * 6 := by rw [← Nat.add_mul]; exact Nat.mul_le_mul_right _ (by omega)
  have s3 : Hid (∀ t, t < news.length → (w.drew.cell? ⟨b, 0 + i * 6 + t, none⟩).isSome = true ∧ w.drew.frozen? ⟨b, 0 + i * 6 + t, none⟩ = false) := by
    intro t ht
    rw [hlen] at ht
    rw [Nat.zero_add]
    exact ⟨hcell _ (by omega), hfz _ (by omega)⟩
  obtain ⟨W1, hW1⟩ : ∃ W1, W1 = w.drew.setCells b (0 + i * 6) news := ⟨_, rfl⟩
  have hlo : (i + (n - j)) * 6 + 6 ≤ n * 6 := by
    have h := Nat.mul_le_mul_right 6 (show i + (n - j) + 1 ≤ n by omega)
    rw [Nat.add_mul (i + (n - j)) 1, Nat.one_mul] at h; exact h
  have hcl2 : ∀ ty, (Builtin.clear_ #[25] ty #[.slice (some ⟨b, (i + (n - j)) * 6, none⟩) (n - (i + (n - j))) (c - (i + (n - j)))]).run Try.prog W1 = .ok (.tuple #[]) (W1.setCells b ((i + (n - j)) * 6) delJZ.cells.toList) :=
    fun ty => run_clear_K W1 _ _ ty delJZ Try.underlying25 delJV (by decide) b _ _ _ (by omega)
      (fun t ht => by
        have ht : t < 6 := ht
        rw [hW1]
        exact isSome_setCells _ _ _ _ (fun q hq => by rw [hlen] at hq; rw [Nat.zero_add]; exact hcell _ (by omega)) _ (hcell _ (by omega)))
      (fun t ht => by
        have ht : t < 6 := ht
        rw [hW1, World.frozen?_setCells]
        exact hfz _ (by omega))
  have hW : Hid (W1 = w.drew.setCells b (0 + i * 6) news) := hW1
  have hX : Hid (W1 = w.drew.setCells b (i * 6) (cs.drop (j * 6))) := by rw [hW1, hnews, Nat.zero_add]; rfl
  have hic : i ≤ c := by omega
  have hjc : j ≤ c := by omega
  have hloc : ¬ (c = i + (n - j)) := by omega
  have mixed : Try.prog.follows Departure.mixedOrders = true := by kernel_rfl
  have heq : ¬ ((i : Int) = (j : Int)) := by omega
  have hn1 : Hid (n - 1 = i + (n - j)) := by show n - 1 = i + (n - j); omega
  clear hW1 hnews hlen hcell hcs hfz h1c hij
  go_enter Try.func64, Try.ntmps64
  go_wp2_with fail
  go_region_law_o (refine step_append_room rfl (.tmp 22) (.tmp 25) 25 rfl 47 i0 6 Try.underlying25 hi0 hz1 b 0 i c (by simp [Act.eval, Act.put]) A (n - j) (c - j) news (by simp [Act.eval, Act.put]) s1.out hsrc.out s2.out (by omega) s3.out ?_; rw [← hW.out])
  go_wp2
  go_ret
  refine ⟨by rw [hn1.out]; rfl, ?_⟩
  rw [hn1.out, ← hX.out]; rfl

theorem delJ_walk : DelWalk Try.prog 64 6 :=
  delWalk_of (zs := delJZ.cells.toList) rfl delJ_shift


end Go.Proofs.Ytnkcmkegjckncaa

/- Sorted numbers; what is the same: the functions meet their contracts. No condition. -/
namespace Go.Proofs.Ytnkcmkegjckncaa
open Go.RowKit

theorem len8_len : pStrLen len8 = 256 := by decide +kernel
theorem len64_ok : Meets Try.prog (fun _ => none) 82 clen64 := len64_meets fun a hp => by
  have h1 : a < 16 := of_decide_eq_true (hp (pLt a 16 = true) (by simp))
  have h0 : 0 ≤ a := of_decide_eq_true (hp (pLe 0 a = true) (by simp))
  clear hp
  unfold len64_VC len64_v0 len64_v1 len64_v2
  rw [bif_false (show pGe a 4294967296 = false from decide_eq_false (by omega)), bif_false (show pGe a 65536 = false from decide_eq_false (by omega)), bif_false (show pGe a 256 = false from decide_eq_false (by omega))]
  refine ⟨?_, rfl⟩
  show pIn _ (pStrLen len8)
  rw [len8_len]
  unfold pWrap
  have : IntKind.u8.wrap a = a := by
    have : a = 0 ∨ a = 1 ∨ a = 2 ∨ a = 3 ∨ a = 4 ∨ a = 5 ∨ a = 6 ∨ a = 7 ∨ a = 8 ∨ a = 9 ∨ a = 10 ∨ a = 11 ∨ a = 12 ∨ a = 13 ∨ a = 14 ∨ a = 15 := by omega
    rcases this with e | e | e | e | e | e | e | e | e | e | e | e | e | e | e | e <;> subst e <;> rfl
  rw [this]
  exact ⟨h0, by omega⟩
theorem blen_ok : Meets Try.prog (fun _ => none) 71 cblen := blen_meets len64_ok fun a hp => ⟨hp _ (by simp), hp _ (by simp), rfl⟩
theorem pdq_ok : Meets Try.prog (fun _ => none) 70 cpdq := pdq_meets insort_ok fun a b e l hp => by
  have ha : a = 0 := hp (a = 0) (by simp)
  have hb : b = pInt (pLen l) := hp (b = pInt (pLen l)) (by simp)
  have hl : l.length < 12 := hp (pLen l < 12) (by simp)
  clear hp
  unfold pdq_VC
  refine ⟨rfl, fun y hy => ?_⟩
  unfold pdqInv at hy
  subst hy ha hb
  rw [bif_true]
  · exact ⟨rfl, rfl, show l.length < 1000 by omega, sortN_len l, rfl⟩
  · unfold pInt pLen
    dsimp only
    rw [pSubI_in (by omega)]
    exact decide_eq_true (by omega)
theorem sort_ok : Meets Try.prog (fun _ => none) 63 csort := sort_meets pdq_ok blen_ok fun l hp => by
  have hl : l.length < 12 := hp (pLen l < 12) (by simp)
  clear hp
  have e : pWrap .u64 (pInt (pLen l)) = (l.length : Int) := by
    unfold pWrap pInt pLen
    generalize l.length = n at *
    have : n = 0 ∨ n = 1 ∨ n = 2 ∨ n = 3 ∨ n = 4 ∨ n = 5 ∨ n = 6 ∨ n = 7 ∨ n = 8 ∨ n = 9 ∨ n = 10 ∨ n = 11 := by omega
    rcases this with e | e | e | e | e | e | e | e | e | e | e | e <;> subst e <;> rfl
  unfold sort_VC
  rw [e]
  exact ⟨decide_eq_true (by omega), decide_eq_true (by omega), rfl, rfl, hl, sortN_len l, rfl⟩
theorem delJ_ok : Meets Try.prog (fun _ => none) 64 cdelJ :=
  meets_del (t := tyJob) Try.func64 (by kernel_rfl) (by kernel_rfl) (by decide) (fun _ => rfl) rfl delJ_walk

theorem sameTasks_ok : Meets Try.prog (fun _ => none) 24 csameTasks := sameTasks_meets fun l m hp => by
  have hl : l.length < 4611686018427387904 := hp _ List.mem_cons_self
  unfold sameTasks_VC
  refine bif_ok (fun h => leafF fun q => ?_) fun h => ?_
  · unfold sameTasksF at q; simp only [Bool.and_eq_true, decide_eq_true_eq] at q
    have : pNe (pInt l.length) (pInt m.length) = true := h
    rw [q.1] at this; simp [pNe] at this
  have hn : l.length = m.length := by
    have : pNe (pInt l.length) (pInt m.length) = false := h
    simp only [pNe, pInt, bne_eq_false_iff_eq] at this; omega
  refine ⟨⟨hn, UpInv.start⟩, fun y ⟨_, hy⟩ => ?_⟩
  rcases UpInv.round hl hy with ⟨k, rfl, hk, hb, -, hF, hT⟩ | ⟨rfl, hT⟩
  · have hk2 : k < m.length := by omega
    rw [bif_true (by simp [pLt_coe, pLen, hk]), pNat_coe]
    refine ⟨pIn_coe.2 hk, pIn_coe.2 hk2, bif_ok (fun h => leafF fun q => ?_) fun h => ?_⟩
    · have h' : eqTaskAt l m k = false := by have h2 : (!eqTaskAt l m k) = true := h; simpa using h2
      unfold sameTasksF at q
      rw [hF h'] at q; simp at q
    · have h' : eqTaskAt l m k = true := by have h2 : (!eqTaskAt l m k) = false := h; simpa using h2
      exact ⟨⟨hn, (hT h').1⟩, (hT h').2⟩
  · rw [bif_false (by simp [pLt_coe, pLen])]
    refine leafT fun q => ?_
    unfold sameTasksF at q
    rw [hT, hn] at q; simp at q
theorem sameInts_ok : Meets Try.prog (fun _ => none) 25 csameInts := sameInts_meets fun l m hp => by
  have hl : l.length < 4611686018427387904 := hp (pLen l < 4611686018427387904) (by simp)
  unfold sameInts_VC
  refine bif_ok (fun h => leafF fun q => ?_) fun h => ?_
  · unfold sameIntsF at q; simp only [Bool.and_eq_true, decide_eq_true_eq] at q
    have : pNe (pInt l.length) (pInt m.length) = true := h
    rw [q.1] at this; simp [pNe] at this
  have hn : l.length = m.length := by
    have : pNe (pInt l.length) (pInt m.length) = false := h
    simp only [pNe, pInt, bne_eq_false_iff_eq] at this; omega
  refine ⟨⟨hn, UpInv.start⟩, fun y ⟨_, hy⟩ => ?_⟩
  rcases UpInv.round hl hy with ⟨k, rfl, hk, hb, -, hF, hT⟩ | ⟨rfl, hT⟩
  · have hk2 : k < m.length := by omega
    rw [bif_true (by simp [pLt_coe, pLen, hk]), pNat_coe]
    refine ⟨pIn_coe.2 hk, pIn_coe.2 hk2, bif_ok (fun h => leafF fun q => ?_) fun h => ?_⟩
    · have h' : eqNAt l m k = false := by have h2 : (!eqNAt l m k) = true := h; simpa using h2
      unfold sameIntsF at q
      rw [hF h'] at q; simp at q
    · have h' : eqNAt l m k = true := by have h2 : (!eqNAt l m k) = false := h; simpa using h2
      exact ⟨⟨hn, (hT h').1⟩, (hT h').2⟩
  · rw [bif_false (by simp [pLt_coe, pLen])]
    refine leafT fun q => ?_
    unfold sameIntsF at q
    rw [hT] at q; simp [hn] at q

theorem sameDesk_ok : Meets Try.prog (fun _ => none) 9 csameDesk := sameDesk_meets sameTasks_ok sameInts_ok fun an aj bn bj hp => by
  have hl : aj.length < 4611686018427387904 := hp (pLen aj < 4611686018427387904) (by simp)
  have hq : ∀ q ∈ aj, pLen q.2.2.1 < 4611686018427387904 ∧ pLen q.2.2.2.1 < 4611686018427387904 := hp (∀ q ∈ aj, pLen q.2.2.1 < 4611686018427387904 ∧ pLen q.2.2.2.1 < 4611686018427387904) (by simp)
  clear hp
  unfold sameDesk_VC
  refine bif_ok (fun h => leafF fun q => ?_) fun h0 => bif_ok (fun h => leafF fun q => ?_) fun h => ?_
  · unfold sameDeskF at q
    simp only [Bool.and_eq_true] at q
    have h2 : pEq an bn = true := q.1
    simp only [pNe, pEq, bne_iff_ne, beq_iff_eq] at h h2
    exact h h2
  · unfold sameDeskF at q; simp only [Bool.and_eq_true, decide_eq_true_eq] at q
    have : pNe (pInt aj.length) (pInt bj.length) = true := h
    rw [q.2.1] at this; simp [pNe] at this
  have hn : aj.length = bj.length := by
    have : pNe (pInt aj.length) (pInt bj.length) = false := h
    simp only [pNe, pInt, bne_eq_false_iff_eq] at this; omega
  have h0' : pEq an bn = true := by simpa [pNe, pEq] using h0
  refine ⟨⟨hn, UpInv.start⟩, fun y ⟨_, hy⟩ => ?_⟩
  rcases UpInv.round hl hy with ⟨k, rfl, hk, hb, -, hF, hT⟩ | ⟨rfl, hT⟩
  · have hk2 : k < bj.length := by omega
    rw [bif_true (by simp [pLt_coe, pLen, hk]), pNat_coe]
    have hin := hq (pGet tyJob aj k) (by rw [pGet_lt (t := tyJob) hk]; exact List.getElem_mem hk)
    have no : eqJobAt aj bj k = false → (false, ()) = (sameDeskF (an, aj, ()) (bn, bj, ()), ()) := fun e => leafF fun q => by
      unfold sameDeskF at q
      simp only [Bool.and_eq_true] at q
      have := q.2.2
      rw [hF e] at this; cases this
    have ej : eqJobAt aj bj k = sameJobF (pGet tyJob aj k) (pGet tyJob bj k) := rfl
    refine ⟨pIn_coe.2 hk, pIn_coe.2 hk2, bif_ok (fun a => no (by rw [ej]; unfold sameJobF; rw [a]; rfl)) fun a => bif_ok (fun b => no (by rw [ej]; unfold sameJobF; rw [a, b]; rfl)) fun b =>
      bif_ok (fun c => no (by rw [ej]; unfold sameJobF; rw [a, b, c]; rfl)) fun c => bif_ok (fun d => no (by rw [ej]; unfold sameJobF; rw [a, b, c, d]; rfl)) fun d =>
      ⟨hin.1, bif_ok (fun e => no (by rw [ej]; unfold sameJobF; rw [a, b, c, d, e]; rfl)) fun e => ⟨hin.2, bif_ok (fun f => no (by rw [ej]; unfold sameJobF; rw [a, b, c, d, e, f]; rfl)) fun f => ?_⟩⟩⟩
    have hT' := hT (show eqJobAt aj bj k = true by rw [ej]; unfold sameJobF; rw [a, b, c, d, e, f]; rfl)
    exact ⟨⟨hn, hT'.1⟩, hT'.2⟩
  · rw [bif_false (by simp [pLt_coe, pLen])]
    refine leafT fun q => ?_
    unfold sameDeskF at q
    have q' : (pEq an bn && (decide (aj.length = bj.length) && allUpto (eqJobAt aj bj) aj.length)) = false := q
    rw [h0', hT, hn] at q'; simp at q'

theorem sameMsgs_ok : Meets Try.prog (fun _ => none) 21 csameMsgs := sameMsgs_meets fun l m hp => by
  have hl : l.length < 4611686018427387904 := hp _ List.mem_cons_self
  unfold sameMsgs_VC
  refine bif_ok (fun h => leafF fun q => ?_) fun h => ?_
  · unfold sameMsgsF at q; simp only [Bool.and_eq_true, decide_eq_true_eq] at q
    have : pNe (pInt l.length) (pInt m.length) = true := h
    rw [q.1] at this; simp [pNe] at this
  have hn : l.length = m.length := by
    have : pNe (pInt l.length) (pInt m.length) = false := h
    simp only [pNe, pInt, bne_eq_false_iff_eq] at this; omega
  refine ⟨⟨hn, UpInv.start⟩, fun y ⟨_, hy⟩ => ?_⟩
  rcases UpInv.round hl hy with ⟨k, rfl, hk, hb, -, hF, hT⟩ | ⟨rfl, hT⟩
  · have hk2 : k < m.length := by omega
    rw [bif_true (by simp [pLt_coe, pLen, hk]), pNat_coe]
    refine ⟨pIn_coe.2 hk, pIn_coe.2 hk2, bif_ok (fun h => leafF fun q => ?_) fun h => ?_⟩
    · have h' : eqMsgAt l m k = false := by have h2 : (!eqMsgAt l m k) = true := h; simpa using h2
      unfold sameMsgsF at q
      rw [hF h'] at q; simp at q
    · have h' : eqMsgAt l m k = true := by have h2 : (!eqMsgAt l m k) = false := h; simpa using h2
      exact ⟨⟨hn, (hT h').1⟩, (hT h').2⟩
  · rw [bif_false (by simp [pLt_coe, pLen])]
    refine leafT fun q => ?_
    unfold sameMsgsF at q
    rw [hT] at q; simp [hn] at q
theorem sameRecord_ok : Meets Try.prog (fun _ => none) 45 csameRecord := sameRecord_meets sameInts_ok fun xk xs xn xy xv xq xw xl zk zs zn zy zv zq zw zl hp => by
  have hl : xl.length < 4611686018427387904 := hp (pLen xl < 4611686018427387904) (by simp)
  clear hp
  unfold sameRecord_VC sameRecF
  (repeat' (first | refine bif_ok (fun h => ?_) (fun h => ?_) | with_reducible refine And.intro ?_ ?_ | fail))
  all_goals first
    | exact hl
    | (refine leafE ?_; simp only [pAndB] at *; simp [*])
theorem sameRecords_ok : Meets Try.prog (fun _ => none) 22 csameRecords := sameRecords_meets sameRecord_ok fun l m hp => by
  have hl : l.length < 4611686018427387904 := hp (pLen l < 4611686018427387904) (by simp)
  have hq := hp (∀ q ∈ l, pLen q.2.2.2.2.2.2.2.1 < 4611686018427387904) (by simp)
  unfold sameRecords_VC
  refine bif_ok (fun h => leafF fun q => ?_) fun h => ?_
  · unfold sameRecsF at q; simp only [Bool.and_eq_true, decide_eq_true_eq] at q
    have : pNe (pInt l.length) (pInt m.length) = true := h
    rw [q.1] at this; simp [pNe] at this
  have hn : l.length = m.length := by
    have : pNe (pInt l.length) (pInt m.length) = false := h
    simp only [pNe, pInt, bne_eq_false_iff_eq] at this; omega
  refine ⟨⟨hn, UpInv.start⟩, fun y ⟨_, hy⟩ => ?_⟩
  rcases UpInv.round hl hy with ⟨k, rfl, hk, hb, -, hF, hT⟩ | ⟨rfl, hT⟩
  · have hk2 : k < m.length := by omega
    rw [bif_true (by simp [pLt_coe, pLen, hk]), pNat_coe]
    refine ⟨pIn_coe.2 hk, pIn_coe.2 hk2, hq _ (by rw [pGet_lt hk]; exact List.getElem_mem hk), bif_ok (fun h => leafF fun q => ?_) fun h => ?_⟩
    · have h' : eqRecAt l m k = false := by have h2 : (!eqRecAt l m k) = true := h; simpa using h2
      unfold sameRecsF at q
      rw [hF h'] at q; simp at q
    · have h' : eqRecAt l m k = true := by have h2 : (!eqRecAt l m k) = false := h; simpa using h2
      exact ⟨⟨hn, (hT h').1⟩, (hT h').2⟩
  · rw [bif_false (by simp [pLt_coe, pLen])]
    refine leafT fun q => ?_
    unfold sameRecsF at q
    rw [hT] at q; simp [hn] at q
theorem sameReps_ok : Meets Try.prog (fun _ => none) 23 csameReps := sameReps_meets fun l m hp => by
  have hl : l.length < 4611686018427387904 := hp _ List.mem_cons_self
  unfold sameReps_VC
  refine bif_ok (fun h => leafF fun q => ?_) fun h => ?_
  · unfold sameRepsF at q; simp only [Bool.and_eq_true, decide_eq_true_eq] at q
    have : pNe (pInt l.length) (pInt m.length) = true := h
    rw [q.1] at this; simp [pNe] at this
  have hn : l.length = m.length := by
    have : pNe (pInt l.length) (pInt m.length) = false := h
    simp only [pNe, pInt, bne_eq_false_iff_eq] at this; omega
  refine ⟨⟨hn, UpInv.start⟩, fun y ⟨_, hy⟩ => ?_⟩
  rcases UpInv.round hl hy with ⟨k, rfl, hk, hb, -, hF, hT⟩ | ⟨rfl, hT⟩
  · have hk2 : k < m.length := by omega
    rw [bif_true (by simp [pLt_coe, pLen, hk]), pNat_coe]
    refine ⟨pIn_coe.2 hk, pIn_coe.2 hk2, bif_ok (fun h => leafF fun q => ?_) fun h => ?_⟩
    · have h' : eqRepAt l m k = false := by have h2 : (!eqRepAt l m k) = true := h; simpa using h2
      unfold sameRepsF at q
      rw [hF h'] at q; simp at q
    · have h' : eqRepAt l m k = true := by have h2 : (!eqRepAt l m k) = false := h; simpa using h2
      exact ⟨⟨hn, (hT h').1⟩, (hT h').2⟩
  · rw [bif_false (by simp [pLt_coe, pLen])]
    refine leafT fun q => ?_
    unfold sameRepsF at q
    rw [hT] at q; simp [hn] at q
theorem sameTurn_ok : Meets Try.prog (fun _ => none) 8 csameTurn := sameTurn_meets sameDesk_ok sameMsgs_ok sameRecords_ok sameReps_ok fun an aj am ar ap au ac bn bj bm br bp bu bc hp => by
  have h1 : aj.length < 4611686018427387904 := hp (pLen aj < 4611686018427387904) (by simp)
  have h2 : ∀ q ∈ aj, pLen q.2.2.1 < 4611686018427387904 ∧ pLen q.2.2.2.1 < 4611686018427387904 := hp (∀ q ∈ aj, pLen q.2.2.1 < 4611686018427387904 ∧ pLen q.2.2.2.1 < 4611686018427387904) (by simp)
  have h3 : am.length < 4611686018427387904 := hp (pLen am < 4611686018427387904) (by simp)
  have h4 : ar.length < 4611686018427387904 := hp (pLen ar < 4611686018427387904) (by simp)
  have h5 : ∀ q ∈ ar, pLen q.2.2.2.2.2.2.2.1 < 4611686018427387904 := hp (∀ q ∈ ar, pLen q.2.2.2.2.2.2.2.1 < 4611686018427387904) (by simp)
  have h6 : ap.length < 4611686018427387904 := hp (pLen ap < 4611686018427387904) (by simp)
  clear hp
  unfold sameTurn_VC sameTurnF
  (repeat' (first | refine bif_ok (fun h => ?_) (fun h => ?_) | with_reducible refine And.intro ?_ ?_ | fail))
  all_goals first
    | exact h1
    | exact h2
    | exact h3
    | exact h4
    | exact h5
    | exact h6
    | (refine leafE ?_; simp only [pAndB] at *; simp [*])


end Go.Proofs.Ytnkcmkegjckncaa
