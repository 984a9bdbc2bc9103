/- Functions of the program that meet contracts: a short word for it. -/
import Derived.Test.YtedjlbcclhgfmaaDoorFF
import Derived.Test.YtedjlbcclhgfmaaDoorFH
import Derived.Test.YtedjlbcclhgfmaaDoorLib

/- Functions of the program that meet contracts: a short word for it. -/
namespace Go.Proofs.YtedjlbcclhgfmaaDoor

abbrev vnil (α : Type) : List α := []
/-- a text, by its bytes -/
def bs (l : List Nat) : ByteArray := ⟨(l.map UInt8.ofNat).toArray⟩
abbrev Mt (f : FuncId) (c : Ctr) : Prop := Meets Tryd.prog (fun _ => none) f c
abbrev MtG (g : Nat → Option Gl) (f : FuncId) (c : Ctr) : Prop := Meets Tryd.prog g f c


end Go.Proofs.YtedjlbcclhgfmaaDoor
