/- What the walks know of the listed variables: the table of the letters of atoms lies as the program's text lays it. -/
import Derived.Test.YtfeihligcondgaaDoorProg
import Derived.Test.YtfeihligcondgaaDoorV
import Derived.Test.YtfeihligcondgaaDoorSh
namespace Go.Proofs.YtfeihligcondgaaDoor.Q
open Go.RowKit Go.Proofs.YtfeihligcondgaaDoorW.PrintWords
structure Glob (w : World) : Prop where
  a0 : w.cell? ⟨0, 0, none⟩ = some (.int .u32 0)
  a1 : w.cell? ⟨0, 1, none⟩ = some (.int .u32 2751442170)
  a2 : w.cell? ⟨0, 2, none⟩ = some (.int .u32 3355443198)
  a3 : w.cell? ⟨0, 3, none⟩ = some (.int .u32 2147483647)
  mx : ∃ m, w.cell? ⟨1, 0, none⟩ = some (.int .i64 m)
theorem Glob.below {w w' : World} (h : Glob w) (hb : Below w.heap.size w w') : Glob w' :=
  ⟨pw_cell_below hb h.a0, pw_cell_below hb h.a1, pw_cell_below hb h.a2, pw_cell_below hb h.a3, let ⟨m, hm⟩ := h.mx; ⟨m, pw_cell_below hb hm⟩⟩
theorem Glob.drawn {w w' : World} (h : Glob w) (hd : Drawn0 w w') : Glob w' := h.below hd.below
end Go.Proofs.YtfeihligcondgaaDoor.Q
