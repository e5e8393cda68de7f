/- Words for the walks of library functions that are handed a function. -/
import Derived.Test.YtgelfnjicglmbaaGreatDoorProg
import Derived.Test.YtgelfnjicglmbaaGreatDoorV
namespace Go.Proofs.YtgelfnjicglmbaaGreatDoor.Q
open Go.RowKit Go.Proofs.YtgelfnjicglmbaaGreatDoorW.PrintWords
def anyF {α : Type} (p : α → Option Bool) : List α → Option Bool
 | [] => some false
 | x :: t => (p x).bind fun b => if b = true then some true else anyF p t
theorem anyF_cons {α : Type} {p : α → Option Bool} {x : α} {t : List α} {r : Bool} (h : anyF p (x :: t) = some r) : ∃ b, p x = some b ∧ (b = true ∧ r = true ∨ b = false ∧ anyF p t = some r) := by
 unfold anyF at h
 obtain ⟨b, hb, h⟩ := Option.bind_eq_some_iff.mp h
 refine ⟨b, hb, ?_⟩
 cases b with
 | true => left; simpa using h.symm
 | false => right; exact ⟨rfl, by simpa using h⟩
theorem anyF_all {α : Type} {p : α → Option Bool} {f : α → Bool} : ∀ l : List α, (∀ x ∈ l, p x = some (f x)) → anyF p l = some (l.any f)
 | [], _ => rfl
 | x :: t, h => by
  unfold anyF
  rw [h x (by simp), Option.bind_some, anyF_all t (fun y hy => h y (List.mem_cons_of_mem _ hy)), List.any_cons]
  cases f x <;> rfl
theorem bneNil (l : List UInt8) : (l != []) = !l.isEmpty := by cases l <;> rfl
def IdxPost (r : Bool) (w : World) (e : Ending) (w' : World) : Prop := ∃ i : Int, e = .returned (.int .i64 i) ∧ decide (0 ≤ i) = r ∧ Below w.heap.size w w'
theorem cells_at {w : World} {A : Option Addr} {l : List ByteArray} (h : Kd.C Kd.string w A l.length l) (hl : 0 < l.length) : ∃ bk o, A = some ⟨bk, o, none⟩ ∧ bk < w.heap.size ∧ ∀ (j : Nat) x, l[j]? = some x → w.cell? ⟨bk, o + j, none⟩ = some (.string x) := by
 obtain ⟨_, _, h3⟩ : ReadsOf Value.string ByteArray.empty w A l.length l := Kd.reads_of_C h
 obtain ⟨⟨bk, o, sp⟩, rfl, hc⟩ := h3 hl
 have hsp : sp = none := by
  have h0 := hc 0 hl
  have := World.block_lt_of_cell? w _ h0
  cases sp with
  | none => rfl
  | some q =>
   exfalso
   unfold Addr.add at h0
   simp [World.cell?] at h0
   revert h0
   split <;> simp
 subst hsp
 refine ⟨bk, o, rfl, World.block_lt_of_cell? w _ (hc 0 hl), ?_⟩
 intro j x hj
 have hj' : j < l.length := (List.getElem?_eq_some_iff.1 hj).1
 have := hc j hj'
 have e : (⟨bk, o, none⟩ : Addr).add j = ⟨bk, o + j, none⟩ := by unfold Addr.add; split <;> simp_all
 rw [e] at this
 rw [this, List.getD_eq_getElem?_getD, hj]; rfl
end Go.Proofs.YtgelfnjicglmbaaGreatDoor.Q

