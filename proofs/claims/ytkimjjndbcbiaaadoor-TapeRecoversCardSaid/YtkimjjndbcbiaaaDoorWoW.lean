/- Plain words of records out of their bytes: the loops over sites. No condition. -/
import Derived.Test.YtkimjjndbcbiaaaDoorWhW
namespace Go.Proofs.YtkimjjndbcbiaaaDoor
open Go.RowKit

def stK (s : RdS) : Nat → RdS
  | 0 => s
  | j + 1 => stepS (stK s j) 1
def siK (s : RdS) : Nat → List NumD
  | 0 => []
  | j + 1 => siK s j ++ [(takeN (stK s j).1 1, ())]
/-- the state behind the number of sites; that number -/
def rBase (l : List ByteD) : RdS := stepS (rS3 l) 1
def rCnt (l : List ByteD) : Int := takeN (rS3 l).1 1
def rCells (l : List ByteD) (j : Nat) : RecD := (3, takeN (kindS 6 l).1 1, takeN (stepS (kindS 6 l) 1).1 3, 0, 0, 0, false, siK (rBase l) j, ())
def decSInv (_ : Int) (_ : List LabD) (_ : Int) (l : List ByteD) : Int × (List ByteD × Int × Unit) × RecD × Unit → Prop := fun y =>
  ∃ j : Nat, (j : Int) ≤ rCnt l ∧ (∀ i, i < j → (stK (rBase l) i).2 = 0) ∧ y = (rCnt l - (j : Int), ((stK (rBase l) j).1, (stK (rBase l) j).2, ()), rCells l j, ())
def decSMu (_ : Int) (_ : List LabD) (_ : Int) (_ : List ByteD) : Int × (List ByteD × Int × Unit) × RecD × Unit → Nat := fun y => y.1.toNat
def recOInv (_ : Int) (_ : List LabD) (_ : Int) (l : List ByteD) : Int × (List ByteD × Int × Int × Unit) × RecD × Unit → Prop := fun y =>
  ∃ j : Nat, (j : Int) ≤ rCnt l ∧ (∀ i, i < j → (stK (rBase l) i).2 = 0) ∧ y = ((j : Int), (l, atF l (stK (rBase l) j).1, (stK (rBase l) j).2, ()), rCells l j, ())
def recOMu (_ : Int) (_ : List LabD) (_ : Int) (l : List ByteD) : Int × (List ByteD × Int × Int × Unit) × RecD × Unit → Nat := fun y => (rCnt l - y.1).toNat

end Go.Proofs.YtkimjjndbcbiaaaDoor
