/- Map literals from whole numbers to texts. -/
import Derived.Test.YtoigafnaoaafeaaDoorMP
namespace Go.Proofs.YtoigafnaoaafeaaDoorW.PrintWords
open Go.RowKit Go.Maps Go.ChangeShapes
section
variable {P : Program} {k e : TypeId}
def rowIS (l : List (Int × ByteArray)) : List (Lit × DataW Unit) := l.map fun z => (.int .i64 z.1, .lit (.string z.2.data.toList))
def insIS (l : List (Int × ByteArray)) : List (Value × Value) := l.map fun z => (.int .i64 z.1, .string z.2)
theorem rd_is (hk : P.underlying k = some (.int .i64)) (he : P.underlying e = some .string) : ∀ l : List (Int × ByteArray), (l.all fun z => (Lit.int .i64 z.1).wf && decide (z.2.size ≤ maxLen)) = true → InsRd P k (plainElem (H := Unit) P e) (insIS l) (rowIS l)
  | [], _ => trivial
  | z :: l, h => by
    rw [List.all_cons, Bool.and_eq_true, Bool.and_eq_true, decide_eq_true_eq] at h
    exact ⟨⟨keyOf_int_mk hk h.1.1, [], plainElem_string he h.1.2⟩, rd_is hk he l h.2⟩
theorem key_is (l : List (Int × ByteArray)) : ∀ p ∈ rowIS l, WideAt.IsKeyLit p.1 := by
  intro p hp
  obtain ⟨z, _, rfl⟩ := List.mem_map.1 hp
  trivial
theorem mem_is (hk : P.underlying k = some (.int .i64)) (he : P.underlying e = some .string) {l : List (Int × ByteArray)} {x : Int} {c : ByteArray} {kl : Lit} {y : DataW Unit × List MemPlace} (hkey : keyOf P k (.int .i64 x) = some kl) (hv : plainElem P e (.string c) = some y)
    (hat : ∀ zd, (litMap (rowIS l)).atKey kl zd = y.1) : (x, c) ∈ l := by
  obtain ⟨p, hp, h1, h2⟩ := lit_mem (rowIS l) (key_is l) hat
  obtain ⟨z, hz, rfl⟩ := List.mem_map.1 hp
  obtain ⟨x', hx, rfl, _⟩ := Maps.keyOf_int_inv hk hkey
  obtain ⟨c', hc, rfl, _⟩ := plainElem_string_inv he hv
  injection hx with _ hx
  injection hc with hc
  subst hx hc
  injection h1 with _ h1
  injection h2 with h2
  injection h2 with h2
  have e2 : z.2 = c := by
    obtain ⟨b, ⟨⟨a⟩⟩⟩ := z
    obtain ⟨⟨d⟩⟩ := c
    simp at h2
    rw [h2]
  rw [← h1, ← e2]
  exact hz
theorem inv_ik (hk : P.underlying k = some (.int .i64)) (key : Value) (kl : Lit) (h : keyOf P k key = some kl) : ∃ x : Int, key = .int .i64 x := by
  obtain ⟨x, hx, _⟩ := Maps.keyOf_int_inv hk h
  exact ⟨x, hx⟩
theorem inv_sv (he : P.underlying e = some .string) (v : Value) (y : DataW Unit × List MemPlace) (h : plainElem P e v = some y) : ∃ c : ByteArray, v = .string c := by
  obtain ⟨c, hc, _⟩ := plainElem_string_inv he h
  exact ⟨c, hc⟩
end
end Go.Proofs.YtoigafnaoaafeaaDoorW.PrintWords
