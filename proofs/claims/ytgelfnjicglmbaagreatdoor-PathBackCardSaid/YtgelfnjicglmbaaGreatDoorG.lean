/- What the walks know of the listed variables (chapter 06): the table of the letters of atoms, the powers of ten, the machine's longest search word, the table of what parameters say. -/
import Derived.Test.YtgelfnjicglmbaaGreatDoorProg
import Derived.Test.YtgelfnjicglmbaaGreatDoorV
import Derived.Test.YtgelfnjicglmbaaGreatDoorSh
import Derived.Test.YtgelfnjicglmbaaGreatDoorH
import Derived.Lib.AppendIntMem
namespace Go.Proofs.YtgelfnjicglmbaaGreatDoor.Q
open Go.RowKit Go.Proofs.YtgelfnjicglmbaaGreatDoorW.PrintWords
theorem tab_below {name : String} {k : IntKind} {zs : List Int} {w w' : World} (h : Lib.TabIs Tryz.prog w name k zs) (hb : Below w.heap.size w w') : Lib.TabIs Tryz.prog w' name k zs := by
 unfold Lib.TabIs World.var? at *
 cases hg : Tryz.prog.globalNamed name with
 | none => rw [hg] at h; cases h
 | some g =>
  rw [hg] at h
  rw [Option.bind_some] at h ⊢
  by_cases hlt : g < w.heap.size
  ·rw [hb.block g hlt]; exact h
  ·rw [Array.getElem?_eq_none (by omega)] at h; cases h
def saysIx (s : ByteArray) : Int := if s.data.toList = [115, 105, 122, 101] then 1 else if s.data.toList = [98, 111, 100, 121] then 2 else 0
def saysFn (i : Int) : Value := if i = 1 then .func (.func 167) #[] #[] else if i = 2 then .func (.func 168) #[] #[] else .nilFunc
def SaysIs (w : World) : Prop := ∃ b es clock, w.cell? ⟨0, 0, none⟩ = some (.map (some b)) ∧ w.heap[b]? = some (.map es clock) ∧
 ∀ (w' : World) (s : ByteArray), w'.heap[b]? = some (.map es clock) → s.size ≤ maxLen →
  (Instr.lookup 92 (.map (some b)) (.string s) true).run Tryz.prog w' = .ok (.tuple #[saysFn (saysIx s), .bool (saysIx s != 0)]) w'
theorem SaysIs.below {w w' : World} (h : SaysIs w) (hb : Below w.heap.size w w') : SaysIs w' := by
 obtain ⟨b, es, clock, h1, h2, h3⟩ := h
 refine ⟨b, es, clock, pw_cell_below hb h1, ?_, h3⟩
 rw [hb.block b (by rcases Nat.lt_or_ge b w.heap.size with h | h; exact h; rw [Array.getElem?_eq_none h] at h2; cases h2)]
 exact h2
theorem SaysIs.at {w : World} (h : SaysIs w) : ∃ b, w.cell? ⟨0, 0, none⟩ = some (.map (some b)) ∧ ∀ s : ByteArray, s.size ≤ maxLen →
  (Instr.lookup 92 (.map (some b)) (.string s) true).run Tryz.prog w = .ok (.tuple #[saysFn (saysIx s), .bool (saysIx s != 0)]) w := by
 obtain ⟨b, es, clock, h1, h2, h3⟩ := h
 exact ⟨b, h1, fun s hs => h3 w s h2 hs⟩
structure Glob (w : World) : Prop where
 a0 : w.cell? ⟨5, 0, none⟩ = some (.int .u32 0)
 a1 : w.cell? ⟨5, 1, none⟩ = some (.int .u32 2751442170)
 a2 : w.cell? ⟨5, 2, none⟩ = some (.int .u32 3355443198)
 a3 : w.cell? ⟨5, 3, none⟩ = some (.int .u32 2147483647)
 p10 : Lib.TabIs Tryz.prog w "internal/strconv.uint64pow10" .u64 Lib.pow10Tab
 mx : ∃ m, w.cell? ⟨4, 0, none⟩ = some (.int .i64 m)
 says : SaysIs w
theorem Glob.below {w w' : World} (h : Glob w) (hb : Below w.heap.size w w') : Glob w' :=
 ⟨pw_cell_below hb h.a0, pw_cell_below hb h.a1, pw_cell_below hb h.a2, pw_cell_below hb h.a3, tab_below h.p10 hb, let ⟨m, hm⟩ := h.mx; ⟨m, pw_cell_below hb hm⟩, h.says.below hb⟩
theorem Glob.drawn {w w' : World} (h : Glob w) (hd : Drawn0 w w') : Glob w' := h.below hd.below
end Go.Proofs.YtgelfnjicglmbaaGreatDoor.Q
