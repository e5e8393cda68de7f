/- What comes in, of whatever make, as the row of a law opens it. -/
import Derived.Test.YtgelfnjicglmbaaGreatDoorV
import Derived.SliceStrings
import Derived.Deep.Slices
import Derived.ChangeArms
namespace Go.Proofs.YtgelfnjicglmbaaGreatDoorW.PrintWords
open Go.RowKit Go.ChangeShapes Go.WideShapes
section
variable {H : Type} {enc : TypeId × Value → H} {P : Program} {w : World}
def Opens (enc : TypeId × Value → H) (P : Program) (w : World) (t : TypeId) {α : Type} (d : Kd α) (ok : α → Prop) : Prop :=
 ∀ (fuel : Nat) (cs : List Value) (x : DataW H × List MemPlace), DataW.trod enc P w 0 (fun _ => true) true fuel t cs = some x → ∃ y : α, d.K w y cs ∧ ok y
theorem opens_string {t : TypeId} (ht : P.underlying t = some .string) : Opens enc P w t Kd.string (fun s => s.size ≤ maxLen) := fun fuel cs x h => by
 obtain ⟨s, rfl, _, hs⟩ := DataW.trod_string ht h
 exact ⟨s, rfl, hs⟩
def OpensAt (enc : TypeId × Value → H) (P : Program) (w : World) (N o : Nat) (fs : List Field) {α : Type} (d : Kd α) (ok : α → Prop) : Prop :=
 ∀ (n : Nat) (cs : List Value), cs.length = N → (∀ f ∈ fs, ∃ x, DataW.trod enc P w 0 (fun _ => true) true n f.type ((cs.drop f.offset).take (P.cellsOf f.type)) = some x) → ∃ y : α, d.K w y (cs.drop o) ∧ ok y
theorem at_last {N o : Nat} {f : Field} {α : Type} {d : Kd α} {ok : α → Prop} (ho : f.offset = o) (hN : o + P.cellsOf f.type = N) (h : Opens enc P w f.type d ok) : OpensAt enc P w N o [f] d ok := fun n cs hl hf => by
 obtain ⟨x, hx⟩ := hf f (by simp)
 obtain ⟨y, h1, h2⟩ := h n _ x hx
 refine ⟨y, ?_, h2⟩
 rw [ho, List.take_of_length_le (by rw [List.length_drop]; omega)] at h1
 exact h1
theorem at_cons {N o o' : Nat} {f : Field} {fs : List Field} {α β : Type} {d0 : Kd α} {d1 : Kd β} {ok0 : α → Prop} {ok1 : β → Prop} (ho : f.offset = o) (hs : o + P.cellsOf f.type = o') (h : Opens enc P w f.type d0 ok0) (h2 : OpensAt enc P w N o' fs d1 ok1) :
  OpensAt enc P w N o (f :: fs) (Kd.pair d0 d1) (fun y => ok0 y.1 ∧ ok1 y.2) := fun n cs hl hf => by
 obtain ⟨x, hx⟩ := hf f (by simp)
 obtain ⟨y0, h3, h4⟩ := h n _ x hx
 obtain ⟨y1, h5, h6⟩ := h2 n cs hl (fun g hg => hf g (by simp [hg]))
 rw [ho] at h3
 exact ⟨(y0, y1), ⟨_, _, (by rw [← hs, ← List.drop_drop, List.take_append_drop]), h3, h5⟩, h4, h6⟩
theorem opens_struct {t : TypeId} {fs : Array Field} {α : Type} {d : Kd α} {ok : α → Prop} (ht : P.underlying t = some (.struct fs)) (h : OpensAt enc P w (P.cellsOf t) 0 fs.toList d ok) : Opens enc P w t d ok := fun fuel cs x hx => by
 obtain ⟨xs, n, _, _, hl, hlen, hf⟩ := DataW.trod_struct ht hx
 obtain ⟨y, h1, h2⟩ := h n cs hl (fun f hfm => by
  obtain ⟨i, hi, rfl⟩ := List.getElem_of_mem hfm
  have hi' : i < fs.size := by simpa using hi
  refine ⟨xs[i]'(by omega), ?_⟩
  rw [hf i _ (by simp [hi'])]
  simp)
 exact ⟨y, by simpa using h1, h2⟩
end
end Go.Proofs.YtgelfnjicglmbaaGreatDoorW.PrintWords

