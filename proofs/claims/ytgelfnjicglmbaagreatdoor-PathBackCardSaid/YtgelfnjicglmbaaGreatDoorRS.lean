/- A slice of texts that comes in, as the row of a law opens it. -/
import Derived.Test.YtgelfnjicglmbaaGreatDoorV
import Derived.SliceStrings
namespace Go.Proofs.YtgelfnjicglmbaaGreatDoorW.PrintWords
open Go.RowKit Go.ChangeShapes Go.WideShapes
def IsRowS (w : World) (a : Option Addr) (len cap : Nat) (zs : List ByteArray) : Prop :=
 (a = none ∧ len = 0 ∧ cap = 0 ∧ zs = []) ∨
 ∃ x, a = some x ∧ len ≤ cap ∧ cap ≤ maxLen ∧ zs.length = cap ∧ (∀ i, i < zs.length → w.cell? (x.add i) = some (.string (zs.getD i ByteArray.empty))) ∧ ∀ s ∈ zs, s.size ≤ maxLen
end Go.Proofs.YtgelfnjicglmbaaGreatDoorW.PrintWords

