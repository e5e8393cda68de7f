/- What the walks know of the listed variables: the machine's longest search word is an int. -/
import Derived.Test.YtgabcckljhnocaaDoorProg
import Derived.Test.YtgabcckljhnocaaDoorV
import Derived.Test.YtgabcckljhnocaaDoorSh
import Derived.Test.YtgabcckljhnocaaDoorH
namespace Go.Proofs.YtgabcckljhnocaaDoor.Q
open Go.RowKit Go.Proofs.YtgabcckljhnocaaDoorW.PrintWords
structure Glob (w : World) : Prop where
  mx : ∃ m, w.cell? ⟨1, 0, none⟩ = some (.int .i64 m)
theorem Glob.below {w w' : World} (h : Glob w) (hb : Below w.heap.size w w') : Glob w' :=
  ⟨let ⟨m, hm⟩ := h.mx; ⟨m, pw_cell_below hb hm⟩⟩
theorem Glob.drawn {w w' : World} (h : Glob w) (hd : Drawn0 w w') : Glob w' := h.below hd.below
end Go.Proofs.YtgabcckljhnocaaDoor.Q
