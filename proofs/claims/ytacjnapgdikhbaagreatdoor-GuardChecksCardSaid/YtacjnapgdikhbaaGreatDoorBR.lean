/- A row of bytes that a conversion of a text has made: the model marks it behind its last cell, so it is no row of the usual make. Its words, under the names that the printed walks ask for. -/
import Derived.Test.YtacjnapgdikhbaaGreatDoorV
import Derived.Lib.ConvBytes
import Derived.Lib.Strings
namespace Go.Proofs.YtacjnapgdikhbaaGreatDoorW.PrintWords
open Go.RowKit
namespace Kd
def B {α : Type} (d : Kd α) (e : Nat) (w : World) (base : Nat) (ok : Nat → Prop) (v : Value) (xs : List α) : Prop :=
 (∀ k, v.ownBlock = some k → ok k) ∧ ∃ g cap cur, v = .slice (some ⟨g, 0, none⟩) xs.length cap ∧ base ≤ g ∧ w.heap[g]? = some (.cells cur e (cur.size, cur.size + 1)) ∧ xs.length ≤ cap ∧ xs.length ≤ 9223372036854775807 ∧ cur.size = cap * d.sz ∧ Reps (fun x cs => ∀ W, d.K W x cs) d.sz xs (cur.toList.take (xs.length * d.sz))
section
variable {α : Type} {d : Kd α} {e : Nat} {w w1 W W2 : World} {base : Nat} {ok ok' S : Nat → Prop} {v : Value} {xs : List α}
end
section
variable {α : Type} {enc : α → Value} {h1 : ∀ x, (enc x).oneCell' = true} {e base g n cap : Nat} {ok : Nat → Prop} {W : World} {xs : List α}
end
def numsOf (s : ByteArray) : List Int := s.data.toList.map fun b => (b.toNat : Int)
section
variable {P : Program} {ops : Array Oper} {rest : List Oper} {o : Oper} {a : Act} {Q : Exit → Act → World → Prop} {Kc : Act → World → Prop}
end
end Kd
end Go.Proofs.YtacjnapgdikhbaaGreatDoorW.PrintWords

