/- Bytes of messages: the program's function meets its contract. No condition. -/
import Derived.Test.YtkimjjndbcbiaaaDoorWmV
import Derived.Test.YtkimjjndbcbiaaaDoorWiQ
namespace Go.Proofs.YtkimjjndbcbiaaaDoor
open Go.RowKit

theorem cond_t {b : Bool} {X Y : Prop} (h : b = true) (hx : X) : bif b then X else Y := by subst h; exact hx
theorem cond_f {b : Bool} {X Y : Prop} (h : b = false) (hy : Y) : bif b then X else Y := by subst h; exact hy

set_option maxHeartbeats 8000000 in
theorem EncodeMessage_ok : Meets Tryd.prog tabsM 16 cEncodeMessage := EncodeMessage_meets CheckMessage_ok put0_ok.any put_ok.any wtxnB_ok.any wbit_ok.any fun cn cl cp mk mf mt ms mn ml my mv me ma md mc hp => by
  have hl : cl.length < 4611686018427387904 := (hp _ List.mem_cons_self)
  clear hp
  unfold EncodeMessage_VC
  refine ⟨hl, bif_ok (fun h => ?_) fun hc => ?_⟩
  · have e : msgB (cn, cl, cp, ()) (mk, mf, mt, ms, mn, ml, my, mv, me, ma, md, mc, ()) = [] := by
      unfold msgB; rw [show pEq _ 0 = false by simpa [pNe, pEq] using h]; rfl
    rw [e]
  obtain ⟨hk, h4, a1, a2, a3, a4, a5, a6, a7, a8, a9, a10, hl6, h0, _⟩ := msgF_all hc
  rw [h0, msgB_eq h0]
  clear hc h0
  have hk9 : mk = 1 ∨ mk = 2 ∨ mk = 3 ∨ mk = 4 ∨ mk = 5 ∨ mk = 6 ∨ mk = 7 ∨ mk = 8 ∨ mk = 9 := by omega
  have hml : ml < 6 := by omega
  rcases hk9 with rfl | rfl | rfl | rfl | rfl | rfl | rfl | rfl | rfl
  all_goals
    first | rw [row1] | rw [row2] | rw [row3] | rw [row4] | rw [row5] | rw [row6] | rw [row7] | rw [row8] | rw [row9]
    (repeat' (first | with_reducible refine cond_t rfl ?_ | with_reducible refine cond_f rfl ?_ | with_reducible refine And.intro ?_ ?_ | fail))
    all_goals first
      | (unfold pGe0; omega)
      | (simp only [pLt, decide_eq_true_eq]; omega)
      | decide
      | (refine nle ?_; simp [pLen, pApp, txB_len, bN_len, bitB_len, pNat]; done)
      | (simp [pIn, pLen, messagesT]; done)
      | (simp only [msgBR, optB, cond_true, cond_false]; simp [pApp, bN_1, wrap_u8]; done)
      | skip

end Go.Proofs.YtkimjjndbcbiaaaDoor
