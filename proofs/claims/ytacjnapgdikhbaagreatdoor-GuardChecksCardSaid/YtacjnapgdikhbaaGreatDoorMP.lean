/- Map literals: a map that is made of entries in a row reads as just them; a range over it meets each. -/
import Derived.Maps.RangeWalk
import Derived.Maps.StringElems
import Derived.Maps.Views
import Derived.Sort.EncStr
import Derived.Sort.KeysCollected
import Derived.Test.YtacjnapgdikhbaaGreatDoorV
namespace Go.Proofs.YtacjnapgdikhbaaGreatDoorW.PrintWords
open Go.RowKit Go.Maps Go.ChangeShapes
section
variable {H : Type}
def litMap (l : List (Lit × DataW H)) : DataW H := l.foldl (fun m p => m.put p.1 p.2) (.map [])
end
section
variable {H : Type} {P : Program} {ops : Array Oper} {Q : Exit → Act → World → Prop}
def InsOk (a : Act) (t : TypeId) (m : Operand) : List Oper → List (Value × Value) → Prop
 | o :: os, e :: es => (o.guard = none ∧ o.dst = none ∧ ∃ kx vx, o.op = Op.insert t m kx vx ∧ a.eval kx = e.1 ∧ a.eval vx = e.2) ∧ InsOk a t m os es
 | [], [] => True
 | _, _ => False
def InsRd (P : Program) (k : TypeId) (R : Value → Option (DataW H × List MemPlace)) : List (Value × Value) → List (Lit × DataW H) → Prop
 | e :: es, d :: ds => (keyOf P k e.1 = some d.1 ∧ ∃ ps, R e.2 = some (d.2, ps)) ∧ InsRd P k R es ds
 | [], [] => True
 | _, _ => False
end
section
variable {P : Program} {k e : TypeId}
def rowSI (l : List (ByteArray × Int)) : List (Lit × DataW Unit) := l.map fun z => (.string z.1.data.toList, .lit (.int .i64 z.2))
def insSI (l : List (ByteArray × Int)) : List (Value × Value) := l.map fun z => (.string z.1, .int .i64 z.2)
end
end Go.Proofs.YtacjnapgdikhbaaGreatDoorW.PrintWords

