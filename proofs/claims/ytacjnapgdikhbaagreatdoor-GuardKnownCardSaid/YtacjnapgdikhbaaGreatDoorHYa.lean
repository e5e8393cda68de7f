/- A field laid anew, by the program and by the document. -/
import Derived.Test.YtacjnapgdikhbaaGreatDoorHAb
import Derived.Test.YtacjnapgdikhbaaGreatDoorQx10
namespace Go.Proofs.YtacjnapgdikhbaaGreatDoor.S
open Go.RowKit Go.Proofs.YtacjnapgdikhbaaGreatDoor.Q Go.Proofs.YtacjnapgdikhbaaGreatDoorW.PrintWords Go.Proofs.YtacjnapgdikhbaaGreatDoorW.PrintLast Go.Proofs.YtacjnapgdikhbaaGreatDoorW.PrintMore
set_option linter.unusedVariables false
set_option linter.unusedSimpArgs false
def cnd (l : List UInt8) (i : Nat) : Bool := l[i]? == some 32 && l[i - 1]? == some 44
def stp (l : List UInt8) (b : Int) (i : Nat) : Int := if cnd l i = true then (if i ≤ 78 then (i : Int) else if b < 0 then (i : Int) else b) else b
def fld (l : List UInt8) : Nat → Nat → Int → Int
  | 0, _, b => b
  | d + 1, i, b => fld l d (i + 1) (stp l b i)
def fldV (l : List UInt8) (least : Nat) : Int := if l.length ≤ 78 then -1 else fld l (l.length - least) least (-1)
end Go.Proofs.YtacjnapgdikhbaaGreatDoor.S

