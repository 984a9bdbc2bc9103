/- THE MACHINE OF READINGS, part O: calls by contract. -/
import Derived.Test.YtoalcmpjfnlkdaaEN
namespace Go.Proofs.Ytoalcmpjfnlkdaa
open Go.RowKit

/-- WHAT A CALL COMES TO: of arguments and objects by their numbers, 0, 1, .. -/
def SpecR (P : Program) (glob : Nat → Option (List C)) (K : FuncId) (args : List SV) (m0 : List (Nat × Option Obj)) (r : SV) (m1 : List (Nat × Option Obj)) : Prop :=
  ∀ (w : World) (N : Blk) (ρ : Nat → Pl) (vs : List Value), (∀ g cs, glob g = some cs → GlobR w N g cs) → MR w N ρ (memOf m0) → All2 (SVR w N ρ (memOf m0)) args vs →
    (∀ s ∈ args, ∀ id ∈ idsS s, id < m0.length) → (∀ n o, memOf m0 n = some o → n < m0.length ∧ ∀ id ∈ idsO o, id < m0.length) →
    Calls P K vs.toArray w fun e w' => ∃ v ρ' N', e = .returned v ∧ (∀ n, n < m0.length → ρ' n = ρ n) ∧ (∀ b, N b → N' b) ∧ MR w' N' ρ' (memOf (m1 ++ m0)) ∧ SVR w' N' ρ' (memOf (m1 ++ m0)) r v ∧
      Since w (Own ρ (memOf m0)) w' ∧ (∀ b, Own ρ' (memOf (m1 ++ m0)) b → Own ρ (memOf m0) b ∨ w.heap.size ≤ b) ∧ ∀ b, N' b → N b ∨ w.heap.size ≤ b ∨ Own ρ (memOf m0) b

/-- A function meets a contract. -/
def Meets (P : Program) (glob : Nat → Option (List C)) (K : FuncId) (c : Ctr) : Prop :=
  (∃ fn, P.funcs[K]? = some fn ∧ fn.body.isSome = true ∧ (fn.name == "runtime.NumGoroutine") = false) ∧
    ∀ args m0 obs r m1, c args m0 = some (obs, r, m1) → (∀ p ∈ obs, p) → SpecR P glob K args m0 r m1

/-- The environment is sound. -/
structure Env.Ok (E : Env) : Prop where
  ctr : ∀ K keep c, E.ctr K = some (keep, c) → Meets E.P E.glob K c
  eqs : ∀ T, T ∈ E.eqs → EqT E.P T

section
variable {E : Env} {w0 : World} {X Z : Blk} {a : Act} {w w' : World} {s : St} {ρ ρ' : Nat → Pl} {N N' : Blk} {m m' : Mem}

/-- what an operation comes to, calls among them -/
def OpGood (E : Env) (w0 : World) (X Z : Blk) (a : Act) (o : Oper) (w : World) (s : St) (ρ : Nat → Pl) (N : Blk) (e : Eff) (F : Nat → Prop) : Prop :=
  ∀ (K : Act → World → Prop) (Q : Exit → Act → World → Prop),
    (∀ v w' ρ' N', (∀ id, ¬ F id → ρ' id = ρ id) → (∀ b, N b → N' b) → SameOn N w w' → Rel E w0 X Z (a.put o.dst v) w' (s.put o.dst e) ρ' N' → K (a.put o.dst v) w') → o.wp E.P a w K Q

theorem Good.op {o : Oper} {e : Eff} {F F' : Nat → Prop} (h : Good E w0 X Z a o w s ρ N e F) (hF : ∀ id, F id → F' id) : OpGood E w0 X Z a o w s ρ N e F' := by
  intro K Q hK
  obtain ⟨v, w', ρ', N', hr, hp, hN, hs, hrel⟩ := h
  have := hK v w' ρ' N' (fun id hid => hp id fun h => hid (hF id h)) hN hs hrel
  unfold Oper.wp
  rcases hr with hr | ⟨hr, rfl⟩
  · rw [hr]; exact this
  · rw [hr]; exact this

theorem roS_ok (h : MR w N ρ m) {m1 : Mem} (h1 : ∀ id ob, m1 id = some ob → m id = some ob) {sv : SV} {v : Value} (hv : SVR w N ρ m sv v) {D : List Nat} (hD : ∀ id ∈ hsS sv, id ∈ D) : SVR w (fun b => N b ∨ Gone ρ m D b) ρ m (roS m1 sv) v := by
  cases sv with
  | un => trivial
  | v ag cs =>
    have hG : ∀ b, Gone ρ m (cs.flatMap hsC) b → N b ∨ Gone ρ m D b := fun b ⟨id, hid, r⟩ => .inr ⟨id, hD id hid, r⟩
    cases ag with
    | true => obtain ⟨vs, hv, ha⟩ := hv; exact ⟨vs, hv, roCells_ok h ha (fun b hb => .inl hb) h1 hG⟩
    | false =>
      obtain ⟨c, rfl, hc⟩ := hv
      have := roCells_ok (N' := fun b => N b ∨ Gone ρ m D b) h (All2.cons hc .nil) (fun b hb => .inl hb) h1 hG
      cases this with
      | cons h2 _ => exact ⟨_, rfl, h2⟩
  | tup l =>
    obtain ⟨vs, hv, ha⟩ := hv
    exact ⟨vs, hv, ha.mono fun p u hu => VR.turn (F := fun _ => False) (.same rfl rfl) (fun b hb => Or.inl hb) (fun _ _ => rfl) (fun _ _ h => h) hu⟩

theorem roSs_ok (h : MR w N ρ m) {m1 : Mem} (h1 : ∀ id ob, m1 id = some ob → m id = some ob) {svs : List SV} {vs : List Value} (hv : All2 (SVR w N ρ m) svs vs) {D : List Nat} (hD : ∀ id ∈ svs.flatMap hsS, id ∈ D) : All2 (SVR w (fun b => N b ∨ Gone ρ m D b) ρ m) (svs.map (roS m1)) vs := by
  induction hv with
  | nil => exact .nil
  | @cons sv v svs vs h2 _ ih =>
    exact .cons (roS_ok h h1 h2 fun id hid => hD id (by simp only [List.flatMap_cons, List.mem_append]; exact Or.inl hid)) (ih fun id hid => hD id (by simp only [List.flatMap_cons, List.mem_append]; exact Or.inr hid))

theorem back_inj {ids : List Nat} {nx : Nat} (hd : distinct ids = true) (hlt : ∀ id ∈ ids, id < nx ∨ nx + 8 ≤ id) : ∀ i j k, back ids nx i = some k → back ids nx j = some k → i = j := by
  intro i j k h1 h2
  unfold back at h1 h2
  split at h1
  · rename_i hi
    have hk : k ∈ ids := List.mem_of_getElem? h1
    split at h2
    · exact distinct_inj hd h1 h2
    · split at h2
      · simp only [Option.some.injEq] at h2
        have := hlt k hk
        omega
      · cases h2
  · split at h1
    · simp only [Option.some.injEq] at h1
      split at h2
      · have := hlt k (List.mem_of_getElem? h2)
        omega
      · split at h2
        · simp only [Option.some.injEq] at h2; omega
        · cases h2
    · cases h1

theorem turnAll_look {m1 : List (Nat × Option Obj)} : ∀ {m0 : List (Nat × Option Obj)} {obs : List Prop}, turnAll m1 m0 = some obs → (∀ p ∈ obs, p) → ∀ n o, look m0 n = some (some o) → ∀ o', look m1 n = some o' → match o, o' with
    | _, none => True
    | .box _, some (.box _) => True
    | .row t xs, some (.row t' ys) => t = t' ∧ ys.length = xs.length
    | _, _ => False
  | [], _, _, _, n, o, hl => by simp [look] at hl
  | (n0, some o0) :: m0, obs, he, hob, n, o, hl => by
    intro o' ho'
    simp only [turnAll] at he
    split at he
    · rename_i l e2
      rw [look_cons] at hl
      split at hl
      · rename_i hn
        subst hn
        simp only [Option.some.injEq] at hl
        subst hl
        rw [ho'] at he
        simp only at he
        split at he
        · rename_i l' e3
          simp only [Option.some.injEq] at he
          subst he
          cases o0 with
          | box cs =>
            cases o' with
            | none => trivial
            | some o1 => cases o1 with
              | box _ => trivial
              | row _ _ => simp [turnO] at e3
          | row t xs =>
            cases o' with
            | none => trivial
            | some o1 => cases o1 with
              | box _ => simp [turnO] at e3
              | row t' ys =>
                simp only [turnO] at e3
                split at e3
                · rename_i ht
                  simp only [Option.some.injEq] at e3
                  subst e3
                  exact ⟨ht, hob (pLen ys = pLen xs) (by simp)⟩
                · cases e3
        · cases he
      · have hob2 : ∀ p ∈ l, p := by
          split at he
          · simp only [Option.some.injEq] at he; subst he; exact hob
          · split at he
            · simp only [Option.some.injEq] at he; subst he; exact fun p hp => hob p (by simp [hp])
            · cases he
        exact turnAll_look e2 hob2 n o hl o' ho'
    · cases he
  | (n0, none) :: m0, obs, he, _, n, o, _ => by simp [turnAll] at he

end
end Go.Proofs.Ytoalcmpjfnlkdaa
