/- The law StoreStill: for every input it returns true and turns nothing. No condition. -/
import Derived.Test.YtoalcmpjfnlkdaaStoL
import Derived.Test.YtoalcmpjfnlkdaaStoG
import Derived.Test.YtoalcmpjfnlkdaaFrame
namespace Go.Proofs.Ytoalcmpjfnlkdaa
open Go.RowKit Go.ChangeShapes Go.WideShapes Go.Deep

set_option maxRecDepth 100000 in
set_option maxHeartbeats 1000000 in
theorem storeStill_walk (A1 : Option Addr) (n1 c1 : Nat) (A2 : Option Addr) (n2 c2 : Nat) (A3 : Option Addr) (n3 c3 : Nat) (A4 : Option Addr) (n4 c4 : Nat) (s : Sto) (a b key v : Int) (w : World) (hs : StoAt w w.heap.size A1 n1 c1 A2 n2 c2 A3 n3 c3 A4 n4 c4 s) :
    Calls Try.prog 7 #[.agg #[.slice A1 n1 c1, .slice A2 n2 c2, .slice A3 n3 c3, .slice A4 n4 c4], .agg #[.int .i64 a, .int .i64 b], .int .i64 key, .int .i64 v] w fun e w' => e = .returned (.bool true) ∧ Below w.heap.size w w' := by
  go_enter Try.func7, Try.ntmps7
  go_wp2_with (first | (go_at_call 23; refine (still_any _ _ _ _ _ _ _ _ _ _ _ _ s _ _ _ _ _ (hs.below (by (repeat (first | exact Below.refl _ _ | assumption | refine Below.alloc ?_ (by first | omega | (simp; done) | (simp; omega)) _ | refine below_drewN ?_ _ | refine Below.drew ?_ | refine Below.setCell ?_ (by first | omega | (simp; done) | (simp; omega)) _))) (by first | omega | (simp; done) | (simp; omega)))).mono ?_; rintro e w1 ⟨rfl, hb1⟩; obtain ⟨hc1, hf1⟩ := bcell hb1; have hbb1 : Below w.heap.size w w1 := (by refine Below.trans ?_ (hb1.mono ?_); rotate_left; (focus (first | omega | (simp; done) | (simp; omega))); (repeat (first | exact Below.refl _ _ | assumption | refine Below.alloc ?_ (by first | omega | (simp; done) | (simp; omega)) _ | refine below_drewN ?_ _ | refine Below.drew ?_ | refine Below.setCell ?_ (by first | omega | (simp; done) | (simp; omega)) _))); have hsz1 := hb1.size; (try simp at hsz1); have z_w_w1_0 : w.heap.size < w1.heap.size := (by omega)) | (go_at_call 24; refine (stillOf_any _ _ _ _ _ _ _ _ _ _ _ _ s _ _ _ _ _ (hs.below (by (repeat (first | exact Below.refl _ _ | assumption | refine Below.alloc ?_ (by first | omega | (simp; done) | (simp; omega)) _ | refine below_drewN ?_ _ | refine Below.drew ?_ | refine Below.setCell ?_ (by first | omega | (simp; done) | (simp; omega)) _))) (by first | omega | (simp; done) | (simp; omega)))).mono ?_; rintro e w2 ⟨rfl, hb2⟩; obtain ⟨hc2, hf2⟩ := bcell hb2; have hbb2 : Below w.heap.size w w2 := (by refine Below.trans ?_ (hb2.mono ?_); rotate_left; (focus (first | omega | (simp; done) | (simp; omega))); (repeat (first | exact Below.refl _ _ | assumption | refine Below.alloc ?_ (by first | omega | (simp; done) | (simp; omega)) _ | refine below_drewN ?_ _ | refine Below.drew ?_ | refine Below.setCell ?_ (by first | omega | (simp; done) | (simp; omega)) _))); have hsz2 := hb2.size; (try simp at hsz2); have z_w_w2_0 : w.heap.size < w2.heap.size := (by omega)))
  all_goals
    go_ret
    exact ⟨by simp, hbb2⟩

theorem storeStill_lifted (os : Os) (started : os.Started) (H : Type) (enc : TypeId × Value → H) :
    ReturnsInHanded {} Try.checked os 7 .any (Rows.storeStillSpec.pre6 enc Try.prog Try.f7 Rows.storeStillRow.domain false) (Rows.storeStillSpec.post enc Try.prog Try.f7 false true false false) := by
  refine lift_law started _ _ Rows.storeStillSpec Try.func7 (by kernel_rfl) rfl rfl (by kernel_rfl) ?_
    (ChangeSpec.witness6 (enc := enc) (C := Try.checked) false ⟨#[], #[.agg #[.slice none 0 0, .slice none 0 0, .slice none 0 0, .slice none 0 0], .agg #[.int .i64 0, .int .i64 0], .int .i64 0, .int .i64 0], []⟩ 8 (by kernel_rfl) (by kernel_rfl) (by kernel_rfl) (by kernel_rfl)) ?_
  · intro ds hds
    match ds, hds with
    | [_, _, _, _], _ => rfl
  · intro W base args ds p hA hval hlt hsz
    rw [Try.params7] at hA hval hsz
    obtain ⟨v0, v1, v2, v3, d0, d1, d2, d3, p0, p1, p2, p3, rfl, rfl, rfl, h0, h1, h2, h3⟩ := trodAll_four hA
    obtain ⟨s, A1, n1, c1, A2, n2, c2, A3, n3, c3, A4, n4, c4, rfl, hs⟩ := arg_sto (hval 0 _ v0 rfl rfl) h0 (weightsEach_get hsz (i := 0) rfl rfl)
    obtain ⟨a, b, rfl⟩ := arg_txn (hval 1 _ v1 rfl rfl) h1 (weightsEach_get hsz (i := 1) rfl rfl)
    obtain ⟨key, rfl, rfl, rfl, wkey⟩ := open_int Try.underlying3 (hval 2 _ v2 rfl rfl) h2
    obtain ⟨v, rfl, rfl, rfl, wv⟩ := open_int Try.underlying3 (hval 3 _ v3 rfl rfl) h3
    exact storeStill_walk _ _ _ _ _ _ _ _ _ _ _ _ s _ _ _ _ _ hs

/-- StoreStill: the statement. -/
theorem storeStill_holds : Rows.StoreStillSaid :=
  OpenClaim.holds_of_wide 7 Try.f7 rfl rfl rfl rfl rfl rfl rfl ⟨rfl, rfl, rfl, rfl, rfl⟩ rfl rfl rfl rfl rfl (by kernel_rfl) Try.func7 (by kernel_rfl)
    (of_decide_eq_true (by kernel_rfl)) (by unfold Func.isWrapper; rw [if_neg (of_decide_eq_false (by kernel_rfl))]; exact ⟨rfl, rfl⟩)
    (fun os started H enc _ => storeStill_lifted os started H enc)



end Go.Proofs.Ytoalcmpjfnlkdaa
