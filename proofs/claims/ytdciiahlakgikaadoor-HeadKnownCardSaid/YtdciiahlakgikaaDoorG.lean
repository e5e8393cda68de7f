/- What the walks know of the listed variables: the machine's longest search word is an int. -/
import Derived.Test.YtdciiahlakgikaaDoorProg
import Derived.Test.YtdciiahlakgikaaDoorV
import Derived.Test.YtdciiahlakgikaaDoorSh
import Derived.Test.YtdciiahlakgikaaDoorH
namespace Go.Proofs.YtdciiahlakgikaaDoor.Q
open Go.RowKit Go.Proofs.YtdciiahlakgikaaDoorW.PrintWords
structure Glob (w : World) : Prop where
  mx : ∃ m, w.cell? ⟨0, 0, none⟩ = some (.int .i64 m)
theorem Glob.below {w w' : World} (h : Glob w) (hb : Below w.heap.size w w') : Glob w' :=
  ⟨let ⟨m, hm⟩ := h.mx; ⟨m, pw_cell_below hb hm⟩⟩
theorem Glob.drawn {w w' : World} (h : Glob w) (hd : Drawn0 w w') : Glob w' := h.below hd.below
end Go.Proofs.YtdciiahlakgikaaDoor.Q
