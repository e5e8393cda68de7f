/- A small array in memory: stored as a whole. -/
import Derived.Test.YtoigafnaoaafeaaDoorV
import Derived.Laws.Tables
namespace Go.Proofs.YtoigafnaoaafeaaDoor.Q
open Go.RowKit Go.Proofs.YtoigafnaoaafeaaDoorW.PrintWords Go.Proofs.YtoigafnaoaafeaaDoorW.PrintLast
theorem chain7 {w : World} {g T : Nat} {c0 c1 c2 c3 c4 c5 c6 v0 v1 v2 v3 v4 v5 v6 : Value} (hg : w.heap[g]? = some (.cells #[c0, c1, c2, c3, c4, c5, c6] T (0, 0))) :
    ((((((w.setCell ⟨g, 0, none⟩ v0).setCell ⟨g, 1, none⟩ v1).setCell ⟨g, 2, none⟩ v2).setCell ⟨g, 3, none⟩ v3).setCell ⟨g, 4, none⟩ v4).setCell ⟨g, 5, none⟩ v5).setCell ⟨g, 6, none⟩ v6 = w.setRow g #[v0, v1, v2, v3, v4, v5, v6] := by
  have st : ∀ (cs : Array Value) (i : Nat) (v : Value), (w.setRow g cs).setCell ⟨g, i, none⟩ v = w.setRow g (cs.setIfInBounds i v) := fun cs i v => by
    rw [setCell_eq_setRow _ g i cs T (0, 0) v (setRow_heap w g _ cs T (0, 0) hg), setRow_setRow]
  rw [setCell_eq_setRow w g 0 _ T (0, 0) v0 hg, st, st, st, st, st, st]
  rfl
theorem store_arr7 {P : Program} {a : Act} {oi : Oper} {w : World} {T ty : Nat} {x y : Operand} {g : Nat} {c0 c1 c2 c3 c4 c5 c6 v0 v1 v2 v3 v4 v5 v6 : Value} (hg : w.heap[g]? = some (.cells #[c0, c1, c2, c3, c4, c5, c6] T (0, 0)))
    (ho : oi.op = .store ty x y) (hx : a.eval x = .pointer (some ⟨g, 0, none⟩)) (hy : a.eval y = .agg #[v0, v1, v2, v3, v4, v5, v6]) (hi : (P.info? ty).map (·.size) = some 7) (h1 : (v0.oneCell' && (v1.oneCell' && (v2.oneCell' && (v3.oneCell' && (v4.oneCell' && (v5.oneCell' && v6.oneCell')))))) = true) :
    (execOp a.eval oi).run P w = .ok .skip (((((((w.setCell ⟨g, 0, none⟩ v0).setCell ⟨g, 1, none⟩ v1).setCell ⟨g, 2, none⟩ v2).setCell ⟨g, 3, none⟩ v3).setCell ⟨g, 4, none⟩ v4).setCell ⟨g, 5, none⟩ v5).setCell ⟨g, 6, none⟩ v6) := by
  have h2 : (#[v0, v1, v2, v3, v4, v5, v6] : Array Value).all (·.oneCell') = true := by
    simp only [Bool.and_eq_true] at h1
    simp [h1]
  rw [chain7 hg]
  unfold execOp
  simp only [ho, hx, hy, Instr.storeAt, Instr.sureAddr, Sem.run_bind, Sem.run_pure, Result.andThen_ok, run_storeVar_row w g T ty #[c0, c1, c2, c3, c4, c5, c6] #[v0, v1, v2, v3, v4, v5, v6] hg hi rfl h2]
theorem far7 {w : World} {p : Addr} {g : Nat} {v v0 v1 v2 v3 v4 v5 v6 : Value} (h : p.block ≠ g) (hc : w.cell? p = some v) :
    (((((((w.setCell ⟨g, 0, none⟩ v0).setCell ⟨g, 1, none⟩ v1).setCell ⟨g, 2, none⟩ v2).setCell ⟨g, 3, none⟩ v3).setCell ⟨g, 4, none⟩ v4).setCell ⟨g, 5, none⟩ v5).setCell ⟨g, 6, none⟩ v6).cell? p = some v := by
  rw [cell_far h, cell_far h, cell_far h, cell_far h, cell_far h, cell_far h, cell_far h]
  exact hc
end Go.Proofs.YtoigafnaoaafeaaDoor.Q
