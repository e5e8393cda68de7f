/- What the walks know of the listed variables (GuardChecks): the table of the letters of atoms, the powers of ten, the machine's longest search word. -/
import Derived.Test.YtacjnapgdikhbaaGreatDoorProg
import Derived.Test.YtacjnapgdikhbaaGreatDoorV
import Derived.Test.YtacjnapgdikhbaaGreatDoorSh
import Derived.Test.YtacjnapgdikhbaaGreatDoorH
import Derived.Lib.AppendIntMem
namespace Go.Proofs.YtacjnapgdikhbaaGreatDoor.Q
open Go.RowKit Go.Proofs.YtacjnapgdikhbaaGreatDoorW.PrintWords
theorem tab_below {name : String} {k : IntKind} {zs : List Int} {w w' : World} (h : Lib.TabIs Tryz.prog w name k zs) (hb : Below w.heap.size w w') : Lib.TabIs Tryz.prog w' name k zs := by
 unfold Lib.TabIs World.var? at *
 cases hg : Tryz.prog.globalNamed name with
 | none => rw [hg] at h; cases h
 | some g =>
  rw [hg] at h
  rw [Option.bind_some] at h ⊢
  by_cases hlt : g < w.heap.size
  ·rw [hb.block g hlt]; exact h
  ·rw [Array.getElem?_eq_none (by omega)] at h; cases h
structure Glob (w : World) : Prop where
 a0 : w.cell? ⟨8, 0, none⟩ = some (.int .u32 0)
 a1 : w.cell? ⟨8, 1, none⟩ = some (.int .u32 2751442170)
 a2 : w.cell? ⟨8, 2, none⟩ = some (.int .u32 3355443198)
 a3 : w.cell? ⟨8, 3, none⟩ = some (.int .u32 2147483647)
 p10 : Lib.TabIs Tryz.prog w "internal/strconv.uint64pow10" .u64 Lib.pow10Tab
 mx : ∃ m, w.cell? ⟨5, 0, none⟩ = some (.int .i64 m)
theorem Glob.below {w w' : World} (h : Glob w) (hb : Below w.heap.size w w') : Glob w' :=
 ⟨pw_cell_below hb h.a0, pw_cell_below hb h.a1, pw_cell_below hb h.a2, pw_cell_below hb h.a3, tab_below h.p10 hb, let ⟨m, hm⟩ := h.mx; ⟨m, pw_cell_below hb hm⟩⟩
theorem Glob.drawn {w w' : World} (h : Glob w) (hd : Drawn0 w w') : Glob w' := h.below hd.below
end Go.Proofs.YtacjnapgdikhbaaGreatDoor.Q
