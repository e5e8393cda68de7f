/- What the walks know of the listed variables: the table of the letters of atoms, the names of days and months, the months' lengths, the powers of ten, the machine's longest search word. -/
import Derived.Test.YtacjnapgdikhbaaGreatDoorProg
import Derived.Test.YtacjnapgdikhbaaGreatDoorV
import Derived.Test.YtacjnapgdikhbaaGreatDoorSh
import Derived.Test.YtacjnapgdikhbaaGreatDoorH
import Derived.Lib.AppendIntMem
namespace Go.Proofs.YtacjnapgdikhbaaGreatDoor.Q
open Go.RowKit Go.Proofs.YtacjnapgdikhbaaGreatDoorW.PrintWords
def wdT : List ByteArray := [⟨#[83, 117, 110]⟩, ⟨#[77, 111, 110]⟩, ⟨#[84, 117, 101]⟩, ⟨#[87, 101, 100]⟩, ⟨#[84, 104, 117]⟩, ⟨#[70, 114, 105]⟩, ⟨#[83, 97, 116]⟩]
def moT : List ByteArray := [⟨#[74, 97, 110]⟩, ⟨#[70, 101, 98]⟩, ⟨#[77, 97, 114]⟩, ⟨#[65, 112, 114]⟩, ⟨#[77, 97, 121]⟩, ⟨#[74, 117, 110]⟩, ⟨#[74, 117, 108]⟩, ⟨#[65, 117, 103]⟩, ⟨#[83, 101, 112]⟩, ⟨#[79, 99, 116]⟩, ⟨#[78, 111, 118]⟩, ⟨#[68, 101, 99]⟩]
def lnT : List Int := [31, 28, 31, 30, 31, 30, 31, 31, 30, 31, 30, 31]
theorem tab_below {name : String} {k : IntKind} {zs : List Int} {w w' : World} (h : Lib.TabIs Tryz.prog w name k zs) (hb : Below w.heap.size w w') : Lib.TabIs Tryz.prog w' name k zs := by
  unfold Lib.TabIs World.var? at *
  cases hg : Tryz.prog.globalNamed name with
  | none => rw [hg] at h; cases h
  | some g =>
    rw [hg] at h
    rw [Option.bind_some] at h ⊢
    by_cases hlt : g < w.heap.size
    · rw [hb.block g hlt]; exact h
    · rw [Array.getElem?_eq_none (by omega)] at h; cases h
structure Glob (w : World) : Prop where
  a0 : w.cell? ⟨8, 0, none⟩ = some (.int .u32 0)
  a1 : w.cell? ⟨8, 1, none⟩ = some (.int .u32 2751442170)
  a2 : w.cell? ⟨8, 2, none⟩ = some (.int .u32 3355443198)
  a3 : w.cell? ⟨8, 3, none⟩ = some (.int .u32 2147483647)
  wd : ∀ i : Nat, i < 7 → w.cell? ⟨0, i, none⟩ = some (.string (wdT.getD i ByteArray.empty))
  mo : ∀ i : Nat, i < 12 → w.cell? ⟨1, i, none⟩ = some (.string (moT.getD i ByteArray.empty))
  ln : ∀ i : Nat, i < 12 → w.cell? ⟨2, i, none⟩ = some (.int .i64 (lnT.getD i 0))
  p10 : Lib.TabIs Tryz.prog w "internal/strconv.uint64pow10" .u64 Lib.pow10Tab
  mx : ∃ m, w.cell? ⟨5, 0, none⟩ = some (.int .i64 m)
theorem Glob.below {w w' : World} (h : Glob w) (hb : Below w.heap.size w w') : Glob w' :=
  ⟨pw_cell_below hb h.a0, pw_cell_below hb h.a1, pw_cell_below hb h.a2, pw_cell_below hb h.a3, fun i hi => pw_cell_below hb (h.wd i hi), fun i hi => pw_cell_below hb (h.mo i hi), fun i hi => pw_cell_below hb (h.ln i hi), tab_below h.p10 hb, let ⟨m, hm⟩ := h.mx; ⟨m, pw_cell_below hb hm⟩⟩
theorem cells_C {α : Type} {enc : α → Value} (d : α) {h1 : ∀ x, (enc x).oneCell' = true} {w : World} {b : Nat} {xs : List α} (hl : xs.length ≤ 9223372036854775807) (h : ∀ i : Nat, i < xs.length → w.cell? ⟨b, i, none⟩ = some (enc (xs.getD i d))) : (Kd.scalar enc h1).C w (some ⟨b, 0, none⟩) xs.length xs :=
  Kd.C_of_reads (d := d) (h1 := h1) ⟨rfl, hl, fun _ => ⟨_, rfl, fun j hj => by
    have e : (⟨b, 0, none⟩ : Addr).add j = ⟨b, j, none⟩ := by unfold Addr.add; split <;> simp_all
    rw [e]; exact h j hj⟩⟩
/-- An array of numbers in memory, as a row that is read. -/
theorem arr_C {w : World} {g T : Nat} (xs : List Int) (h : w.heap[g]? = some (.cells (xs.map (Value.int .i64)).toArray T (0, 0))) (hl : xs.length ≤ 100) : Kd.C (Kd.int .i64) w (some ⟨g, 0, none⟩) xs.length xs :=
  cells_C (0 : Int) (by omega) (fun i hi => by
    have := blk_cell h i
    rw [this]
    simp [List.getD_eq_getElem?_getD, hi])
theorem Glob.c0 {w : World} (h : Glob w) : Kd.C Kd.string w (some ⟨0, 0, none⟩) wdT.length wdT := cells_C ByteArray.empty (by decide) (fun i hi => h.wd i hi)
theorem Glob.c1 {w : World} (h : Glob w) : Kd.C Kd.string w (some ⟨1, 0, none⟩) moT.length moT := cells_C ByteArray.empty (by decide) (fun i hi => h.mo i hi)
theorem Glob.c2 {w : World} (h : Glob w) : Kd.C (Kd.int .i64) w (some ⟨2, 0, none⟩) lnT.length lnT := cells_C 0 (by decide) (fun i hi => h.ln i hi)
theorem Glob.drawn {w w' : World} (h : Glob w) (hd : Drawn0 w w') : Glob w' := h.below hd.below
end Go.Proofs.YtacjnapgdikhbaaGreatDoor.Q
