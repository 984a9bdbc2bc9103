/- Acts as plain values; own memory of an act. -/
import Derived.Test.YtdldmlekjhmaaaaFoot
import Derived.Test.YtdldmlekjhmaaaaLabF
import Derived.Deep.QuietTactic
import Derived.BigQuiet
namespace Go.Proofs.Ytdldmlekjhmaaaa
open Go.RowKit Go.ChangeShapes Go.WideShapes Go.Deep

structure Act_ where
  kind : Int
  site : Int
  to : Int
  label : Int
  pick : Int
  keep : List Int
  cKind : Int
  cN : Int
  cLabel : Int
  cKey : Int
  cValue : Int
  line : ByteArray
def act0 : Act_ := ⟨0, 0, 0, 0, 0, [], 0, 0, 0, 0, 0, ⟨#[]⟩⟩
instance : Inhabited Act_ := ⟨act0⟩
def encI (n : Int) : List Value := [.int .i64 n]
theorem goodI : Good (Flat encI) 1 := Flat.good (fun _ => rfl) (fun _ u hu => by simp [encI] at hu; subst hu; rfl)
abbrev IntsAt (w : World) (B : Nat) (A : Option Addr) (n c : Nat) (xs : List Int) : Prop := SlR (Flat encI) 1 8 w B A n c xs
def encAct (A : Option Addr) (n c : Nat) (a : Act_) : List Value := [.int .i64 a.kind, .int .i64 a.site, .int .i64 a.to, .int .i64 a.label, .int .i64 a.pick, .slice A n c, .int .i64 a.cKind, .int .i64 a.cN, .int .i64 a.cLabel, .int .i64 a.cKey, .int .i64 a.cValue, .string a.line]
def RAct : ER Act_ := fun w B cs a => ∃ A n c, cs = encAct A n c a ∧ IntsAt w B A n c a.keep
def RActF : FR Act_ := fun w F cs a => ∃ A n c, cs = encAct A n c a ∧ FSl encI 1 8 w F A n c a.keep
theorem RAct.stable : Stable RAct := by
  intro w w' B B' cs x hB hk h
  obtain ⟨A, n, c, hcs, h⟩ := h
  exact ⟨A, n, c, hcs, h.keep (Flat.stable _) hB hk⟩
theorem encAct_one (A : Option Addr) (n c : Nat) (a : Act_) : ∀ u ∈ encAct A n c a, u.oneCell' = true := by
  intro u hu
  simp [encAct] at hu
  rcases hu with rfl | rfl | rfl | rfl | rfl | rfl | rfl | rfl | rfl | rfl | rfl | rfl <;> rfl
theorem RAct.good : Good RAct 12 := ⟨RAct.stable, fun _ _ _ _ h => by obtain ⟨A, n, c, rfl, _⟩ := h; rfl, fun _ _ _ _ h => by obtain ⟨A, n, c, rfl, _⟩ := h; exact encAct_one _ _ _ _⟩
theorem RActF.good : FGood RActF 12 :=
  ⟨fun w w' F F' cs x hF hk h => by obtain ⟨A, n, c, rfl, h⟩ := h; exact ⟨A, n, c, rfl, h.keep hF hk⟩,
   fun _ _ _ _ h => by obtain ⟨A, n, c, rfl, _⟩ := h; rfl, fun _ _ _ _ h => by obtain ⟨A, n, c, rfl, _⟩ := h; exact encAct_one _ _ _ _⟩
abbrev ActsAt (w : World) (B : Nat) (A : Option Addr) (n c : Nat) (xs : List Act_) : Prop := SlR RAct 12 120 w B A n c xs
/-- one act of a slice -/
theorem ActsAt.cells {w : World} {B : Nat} {A : Option Addr} {n c : Nat} {xs : List Act_} (h : ActsAt w B A n c xs) {k : Nat} (hk : k < n) :
    ∃ b off K m d, A = some ⟨b, off, none⟩ ∧ b < B ∧ IntsAt w B K m d (xs.getD k act0).keep ∧ ∀ j u, (encAct K m d (xs.getD k act0))[j]? = some u → w.cell? ⟨b, off + k * 12 + j, none⟩ = some u := by
  obtain ⟨b, off, hA, hb, hc⟩ := h.2.2.2.2 (by omega)
  have hl : k < xs.length := by have := h.1; omega
  obtain ⟨cs, _, ⟨K, m, d, rfl, hK⟩, hcell⟩ := hc k xs[k] (List.getElem?_eq_getElem hl)
  have e : xs.getD k act0 = xs[k] := by rw [List.getD_eq_getElem?_getD, List.getElem?_eq_getElem hl]; rfl
  rw [e]
  exact ⟨b, off, K, m, d, hA, hb, hK, hcell⟩

theorem infoInt : (Try.prog.info? 3).map (fun i => (i.zero, i.size, i.bytes)) = some (some (.int .i64 0), 1, 8) := by kernel_rfl
theorem tyInt : TyE Try.prog 24 3 1 8 := by
  obtain ⟨i, h1, h2, h3, h4⟩ := info_parts infoInt
  exact ⟨Try.underlying24, ⟨i, _, h1, h2, h3, h4, rfl⟩, by decide⟩
theorem infoAct : (Try.prog.info? 72).map (fun i => (i.zero, i.size, i.bytes)) = some (some (.agg #[.int .i64 0, .int .i64 0, .int .i64 0, .int .i64 0, .int .i64 0, .slice none 0 0, .int .i64 0, .int .i64 0, .int .i64 0, .int .i64 0, .int .i64 0, .string ⟨#[]⟩]), 12, 120) := by kernel_rfl
theorem tyAct : TyE Try.prog 56 72 12 120 := by
  obtain ⟨i, h1, h2, h3, h4⟩ := info_parts infoAct
  exact ⟨Try.underlying56, ⟨i, _, h1, h2, h3, h4, rfl⟩, by decide⟩

/-- an act of one's own memory -/
def RetAct (w0 : World) (a : Act_) (e : Ending) (w' : World) : Prop :=
  ∃ A n c, e = .returned (.agg (encAct A n c a).toArray) ∧ n = a.keep.length ∧ OwnL (Flat encI) 3 1 w' w0.heap.size 0 (.slice A n c) a.keep ∧ Below w0.heap.size w0 w'

set_option maxRecDepth 100000 in
set_option maxHeartbeats 1000000 in
theorem own_any (A : Option Addr) (n c : Nat) (a : Act_) (w : World) (h : IntsAt w w.heap.size A n c a.keep) :
    Calls Try.prog 50 #[.agg #[.int .i64 a.kind, .int .i64 a.site, .int .i64 a.to, .int .i64 a.label, .int .i64 a.pick, .slice A n c, .int .i64 a.cKind, .int .i64 a.cN, .int .i64 a.cLabel, .int .i64 a.cKey, .int .i64 a.cValue, .string a.line]] w (RetAct w a) := by
  have h0 := h
  obtain ⟨h1, h2, h3, h4, _⟩ := h
  have hm : n ≤ maxLen := Nat.le_trans h2 h3
  go_enter Try.func50, Try.ntmps50
  go_wp2_with (at_builtin; go_must (refine wpList_app (v := .slice none 0 0) rfl _ _ rfl goodI tyInt rfl (OwnL.nil (base := w.heap.size + 1 + 1) (B := w.heap.size)) rfl (h0.below (Flat.stable _) (by (repeat (first | exact Below.refl _ _ | assumption | refine Below.alloc ?_ (by first | omega | (simp; done) | (simp; omega)) _ | refine below_drewN ?_ _ | refine Below.drew ?_ | refine Below.setCell ?_ (by first | omega | (simp; done) | (simp; omega)) _))) (Nat.le_refl _)) (by simp; omega) (by simpa using hm) (by simp) (by omega) ?_; intro v1 w1 hown1 hg1 _; obtain ⟨K, d, rfl⟩ := hown1.form; have hb1 := (Below.refl _ _).grown hg1 (Nat.le_refl _) (by simp [Value.ownBlock]); obtain ⟨hc1, hf1⟩ := bcell hb1; have hsz1 := hb1.size; simp at hsz1; have hz1 : w.heap.size < w1.heap.size := (by omega); have hz2 : w.heap.size + 1 < w1.heap.size := (by omega); have hz3 : w.heap.size < w.heap.size + 1 + 1 := (by omega)))
  refine bodyPost_ret (v := .agg (encAct K n d a).toArray) ?_ rfl ?_
  · simp [results, Try.results50, go_sem, encAct, hc1]
  · have hown2 : OwnL (Flat encI) 3 1 w1 (w.heap.size + 1 + 1) w.heap.size (.slice K n d) a.keep := by
      have := hown1
      rw [List.nil_append, h1] at this
      exact this
    refine ⟨K, n, d, rfl, h1.symm, ?_, ?_⟩
    · refine OwnL.baseLe (base := w.heap.size + 1 + 1) (OwnL.freeB (B := w.heap.size) (FreeR.flat _) ?_ 0) (by omega)
      repeat (refine OwnL.setFree (FreeR.flat _) ?_ (by first | omega | (simp; done) | (simp; omega)) _)
      exact hown2
    · have hbw : Below w.heap.size w w1 := Below.trans (by (repeat (first | exact Below.refl _ _ | assumption | refine Below.alloc ?_ (by first | omega | (simp; done) | (simp; omega)) _ | refine below_drewN ?_ _ | refine Below.drew ?_ | refine Below.setCell ?_ (by first | omega | (simp; done) | (simp; omega)) _))) (hb1.mono (by first | omega | (simp; done) | (simp; omega)))
      clear hb1 hc1 hf1 hg1
      repeat (refine Below.setCell ?_ (by first | omega | (simp; done) | (simp; omega)) _)
      exact hbw

end Go.Proofs.Ytdldmlekjhmaaaa
