/- THE MACHINE OF READINGS, arguments: whatever reads as a datum of a type, within the reach, is a plain value of that type's readings. -/
import Derived.Test.YtoalcmpjfnlkdaaFB
import Derived.Test.YtoalcmpjfnlkdaaDec
namespace Go.Proofs.Ytoalcmpjfnlkdaa
open Go.RowKit Go.ChangeShapes Go.WideShapes Go.Deep

def catFst : {a b : Ty} → (Ty.cat a b).den → a.den
  | .unit, _, _ => ()
  | .pair _ _, _, x => (x.1, catFst x.2)
  | .int _, _, x => x.1
  | .bool, _, x => x.1
  | .str, _, x => x.1
  | .sl _, _, x => x.1
def catSnd : {a b : Ty} → (Ty.cat a b).den → b.den
  | .unit, _, x => x
  | .pair _ _, _, x => catSnd x.2
  | .int _, _, x => x.2
  | .bool, _, x => x.2
  | .str, _, x => x.2
  | .sl _, _, x => x.2
def catMk : {a b : Ty} → a.den → b.den → (Ty.cat a b).den
  | .unit, _, _, y => y
  | .pair _ _, _, x, y => (x.1, catMk x.2 y)
  | .int _, _, x, y => (x, y)
  | .bool, _, x, y => (x, y)
  | .str, _, x, y => (x, y)
  | .sl _, _, x, y => (x, y)

/-- a type, and what holds of data of it -/
structure TyW where
  ty : Ty
  ok : ty.den → Prop
def TyW.cat (a b : TyW) : TyW := ⟨Ty.cat a.ty b.ty, fun x => a.ok (catFst x) ∧ b.ok (catSnd x)⟩

/-- the type of data that a type's values read as, and its bounds -/
def tyW (P : Program) : Nat → TypeId → TyW
  | 0, _ => ⟨.unit, fun _ => True⟩
  | n + 1, t => match P.underlying t with
    | some .bool => ⟨.pair .bool .unit, fun _ => True⟩
    | some (.int k) => ⟨.pair (.int k) .unit, fun x => k.min ≤ x.1 ∧ x.1 ≤ k.max⟩
    | some .string => ⟨.pair .str .unit, fun x => x.1.size ≤ 140737488351232⟩
    | some (.slice e) => ⟨.pair (.sl (tyW P n e).ty) .unit, fun x => x.1.length * P.bytesOf e ≤ 140737488351232 ∧ ∀ y ∈ x.1, (tyW P n e).ok y⟩
    | some (.struct fs) => fs.toList.foldr (fun f r => (tyW P n f.type).cat r) ⟨.unit, fun _ => True⟩
    | _ => ⟨.unit, fun _ => True⟩

/-- a check: the type reads so -/
def fieldsOk (P : Program) (g : TypeId → Bool) (sz : TypeId → Nat) : List Field → Nat → Nat → Bool
  | [], off, total => Nat.beq off total
  | f :: fs, off, total => Nat.beq f.offset off && g f.type && fieldsOk P g sz fs (off + sz f.type) total
def readOk (P : Program) : Nat → TypeId → Bool
  | 0, _ => false
  | n + 1, t => match P.underlying t with
    | some .bool => Nat.beq (P.cellsOf t) 1
    | some (.int _) => Nat.beq (P.cellsOf t) 1
    | some .string => Nat.beq (P.cellsOf t) 1
    | some (.slice e) => Nat.beq (P.cellsOf t) 1 && readOk P n e && Nat.blt 0 (tyW P n e).ty.size
    | some (.struct fs) => fieldsOk P (readOk P n) (fun t => (tyW P n t).ty.size) fs.toList 0 (P.cellsOf t) && Nat.beq (P.cellsOf t) (tyW P (n + 1) t).ty.size
    | _ => false

def RdR (t : TyW) : ER t.ty.den := fun w B cs x => Rd t.ty w (fun b => b < B) cs x ∧ t.ok x

theorem rd_cat {w : World} {N : Blk} : ∀ {a b : Ty} {u v : List Value} {x : a.den} {y : b.den}, Rd a w N u x → Rd b w N v y → Rd (Ty.cat a b) w N (u ++ v) (catMk x y)
  | .unit, _, _, _, _, _, h, h2 => by have h : _ = _ := h; subst h; exact h2
  | .pair _ _, _, _, _, x, y, h, h2 => by
    obtain ⟨v1, v2, rfl, h3, h4⟩ := h
    exact ⟨v1, _, by rw [List.append_assoc], h3, rd_cat h4 h2⟩
  | .int _, _, _, _, x, y, h, h2 => ⟨_, _, rfl, h, h2⟩
  | .bool, _, _, _, x, y, h, h2 => ⟨_, _, rfl, h, h2⟩
  | .str, _, _, _, x, y, h, h2 => ⟨_, _, rfl, h, h2⟩
  | .sl _, _, _, _, x, y, h, h2 => ⟨_, _, rfl, h, h2⟩
theorem catFst_mk : ∀ {a b : Ty} {x : a.den} {y : b.den}, catFst (a := a) (b := b) (catMk x y) = x
  | .unit, _, _, _ => rfl
  | .pair _ _, _, x, y => by simp only [catMk, catFst]; rw [catFst_mk]
  | .int _, _, _, _ => rfl
  | .bool, _, _, _ => rfl
  | .str, _, _, _ => rfl
  | .sl _, _, _, _ => rfl
theorem catSnd_mk : ∀ {a b : Ty} {x : a.den} {y : b.den}, catSnd (a := a) (b := b) (catMk x y) = y
  | .unit, _, _, _ => rfl
  | .pair _ _, _, x, y => by simp only [catMk, catSnd]; exact catSnd_mk
  | .int _, _, _, _ => rfl
  | .bool, _, _, _ => rfl
  | .str, _, _, _ => rfl
  | .sl _, _, _, _ => rfl

theorem rd_nilPair {t : Ty} {w : World} {N : Blk} {us : List Value} {x : t.den} (h : Rd t w N us x) : Rd (.pair t .unit) w N us (x, ()) := ⟨us, [], by simp, h, rfl⟩

theorem fields_dec {P : Program} {n : Nat} (hD : ∀ t, readOk P n t = true → Dec P t (tyW P n t).ty.size (RdR (tyW P n t))) :
    ∀ {fs : List Field} {off total : Nat}, fieldsOk P (readOk P n) (fun t => (tyW P n t).ty.size) fs off total = true → FDec P fs off total (RdR (fs.foldr (fun f r => (tyW P n f.type).cat r) ⟨.unit, fun _ => True⟩))
  | [], off, total, h => by
    simp only [fieldsOk, Nat.beq_eq] at h
    intro H enc w held fuel cs hl _
    exact ⟨(), List.drop_eq_nil_of_le (by omega), trivial⟩
  | f :: fs, off, total, h => by
    simp only [fieldsOk, Bool.and_eq_true, Nat.beq_eq] at h
    obtain ⟨⟨h1, h2⟩, h3⟩ := h
    have := FDec.cons h1 (hD _ h2) (fields_dec hD h3)
    intro H enc w held fuel cs hl hf
    obtain ⟨⟨x, y⟩, a, b, e, ⟨ha, hx⟩, hb, hy⟩ := this H enc w held fuel cs hl hf
    refine ⟨catMk x y, ?_, ?_, ?_⟩
    · rw [e]; exact rd_cat ha hb
    · rw [catFst_mk]; exact hx
    · rw [catSnd_mk]; exact hy

theorem dec_any {P : Program} {t : TypeId} {sz : Nat} {α : Type} {R S : ER α} (h : Dec P t sz R) (hi : ∀ w B cs x, R w B cs x → S w B cs x) : Dec P t sz S := h.imp fun w B cs x hx => ⟨x, hi w B cs x hx⟩

/-- WHAT PASSES THE CHECK READS SO. -/
theorem dec_ty {P : Program} : ∀ {n : Nat} {t : TypeId}, readOk P n t = true → Dec P t (tyW P n t).ty.size (RdR (tyW P n t))
  | 0, _, h => by simp [readOk] at h
  | n + 1, t, h => by
    have h0 := h
    unfold readOk at h
    split at h
    · rename_i hu
      simp only [Nat.beq_eq] at h
      have e : tyW P (n + 1) t = ⟨.pair .bool .unit, fun _ => True⟩ := by unfold tyW; rw [hu]
      rw [e]
      exact (dec_bool hu h).imp fun w B cs x hx => ⟨(x, ()), rd_nilPair (t := .bool) hx, trivial⟩
    · rename_i k hu
      simp only [Nat.beq_eq] at h
      have e : tyW P (n + 1) t = ⟨.pair (.int k) .unit, fun x => k.min ≤ x.1 ∧ x.1 ≤ k.max⟩ := by unfold tyW; rw [hu]
      rw [e]
      refine ⟨h, fun H enc w held fuel cs y hy _ => ?_⟩
      obtain ⟨m, rfl, _, hw⟩ := DataW.trod_int hu hy
      refine ⟨rfl, (m, ()), rd_nilPair (t := .int k) rfl, ?_⟩
      simpa [Lit.wf] using hw
    · rename_i hu
      simp only [Nat.beq_eq] at h
      have e : tyW P (n + 1) t = ⟨.pair .str .unit, fun x => x.1.size ≤ 140737488351232⟩ := by unfold tyW; rw [hu]
      rw [e]
      exact (dec_str hu h).imp fun w B cs x hx => ⟨(x, ()), rd_nilPair (t := .str) hx.1, hx.2⟩
    · rename_i el hu
      simp only [Bool.and_eq_true, Nat.beq_eq, Nat.blt_eq] at h
      obtain ⟨⟨h1, h2⟩, h3⟩ := h
      have e : tyW P (n + 1) t = ⟨.pair (.sl (tyW P n el).ty) .unit, fun x => x.1.length * P.bytesOf el ≤ 140737488351232 ∧ ∀ y ∈ x.1, (tyW P n el).ok y⟩ := by
        conv => lhs; unfold tyW
        rw [hu]
      rw [e]
      letI : Inhabited (tyW P n el).ty.den := ⟨Ty.dflt _⟩
      refine (dec_slice hu h1 rfl h3 (dec_ty h2)).imp fun w B cs x hx => ?_
      obtain ⟨A, m, c, rfl, hl, hc, hmax, hby, hat⟩ := hx
      refine ⟨(x, ()), rd_nilPair (t := .sl _) ⟨A, m, c, rfl, hl, hc, fun hm => ?_⟩, by rw [hl]; exact hby, fun y hy => ?_⟩
      · obtain ⟨b, off, hA, hb, he⟩ := hat hm
        refine ⟨b, off, hA, hb, fun k hk => ?_⟩
        obtain ⟨us, hul, hr, hcells⟩ := he k x[k] (List.getElem?_eq_getElem hk)
        exact ⟨us, hr.1, hul, hcells⟩
      · obtain ⟨k, hk, rfl⟩ := List.getElem_of_mem hy
        have hk' : k < m := by rw [← hl]; exact hk
        obtain ⟨b, off, hA, hb, he⟩ := hat (Nat.lt_of_le_of_lt (Nat.zero_le k) hk')
        obtain ⟨us, hul, hr, hcells⟩ := he k x[k] (List.getElem?_eq_getElem hk)
        exact hr.2
    · rename_i fs hu
      simp only [Bool.and_eq_true, Nat.beq_eq] at h
      have e : tyW P (n + 1) t = fs.toList.foldr (fun f r => (tyW P n f.type).cat r) ⟨.unit, fun _ => True⟩ := by
        conv => lhs; unfold tyW
        rw [hu]
      rw [← h.2, e]
      exact dec_struct hu rfl (fields_dec (fun t ht => dec_ty ht) h.1)
    · cases h

end Go.Proofs.Ytoalcmpjfnlkdaa
