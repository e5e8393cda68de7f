/- Splitting at a byte, trimming, small lists: plain facts. -/
import Derived.Test.YtgelfnjicglmbaaGreatDoorS
import Derived.Lib.Bytealg
import Derived.Lib.TrimAscii
namespace Go.Proofs.YtgelfnjicglmbaaGreatDoor.S
open Go.RowKit Go.Proofs.YtgelfnjicglmbaaGreatDoorW.PrintWords Go.Proofs.YtgelfnjicglmbaaGreatDoorW.PrintLast Go.Proofs.YtgelfnjicglmbaaGreatDoorW.PrintMore
set_option linter.unusedVariables false
set_option linter.unusedSimpArgs false
def spL (c : UInt8) : List UInt8 → List UInt8 → List (List UInt8)
 | [], cur => [cur]
 | x :: l, cur => if x = c then cur :: spL c l [] else spL c l (cur ++ [x])
theorem ix_none {c : UInt8} : ∀ {l : List UInt8}, Lib.indexByte l c < 0 → c ∉ l
 | [], _ => by simp
 | b :: l, h => by
  unfold Lib.indexByte at h
  by_cases e : b == c
  ·rw [if_pos e] at h; omega
  ·rw [if_neg e] at h
   have hge := Lib.indexByte_ge l c
   have : Lib.indexByte l c < 0 := by
    split at h
    ·rename_i h2; simp at h2; omega
    ·omega
   have := ix_none this
   simp at e
   simp [this]
   exact fun h => e h.symm
theorem ix_some {c : UInt8} : ∀ {l : List UInt8} {k : Nat}, Lib.indexByte l c = (k : Int) → k < l.length ∧ c ∉ l.take k ∧ l.drop k = c :: l.drop (k + 1)
 | [], k, h => by simp [Lib.indexByte] at h
 | b :: l, k, h => by
  unfold Lib.indexByte at h
  by_cases e : b == c
  ·rw [if_pos e] at h
   obtain rfl : k = 0 := by omega
   simp at e; subst e; simp
  ·rw [if_neg e] at h
   have hge := Lib.indexByte_ge l c
   split at h
   ·omega
   ·rename_i h2
    simp at h2 e
    obtain ⟨j, rfl⟩ : ∃ j, k = j + 1 := ⟨k - 1, by omega⟩
    have := ix_some (l := l) (k := j) (c := c) (by omega)
    obtain ⟨h3, h4, h5⟩ := this
    refine ⟨by simp; omega, ?_, by simpa using h5⟩
    simp [h4]
    exact fun h => e h.symm
theorem sp_none {c : UInt8} : ∀ (l cur : List UInt8), c ∉ l → spL c l cur = [cur ++ l]
 | [], cur, _ => by simp [spL]
 | x :: l, cur, h => by
  simp at h
  rw [spL, if_neg (fun e => h.1 e.symm), sp_none l _ h.2]; simp
theorem sp_some {c : UInt8} : ∀ (a b cur : List UInt8), c ∉ a → spL c (a ++ c :: b) cur = (cur ++ a) :: spL c b []
 | [], b, cur, _ => by simp [spL]
 | x :: a, b, cur, h => by
  simp at h
  rw [List.cons_append, spL, if_neg (fun e => h.1 e.symm), sp_some a b _ h.2]; simp
theorem sp_len (c : UInt8) : ∀ (l cur : List UInt8), (spL c l cur).length ≤ l.length + 1
 | [], cur => by simp [spL]
 | x :: l, cur => by
  rw [spL]; split
  ·have := sp_len c l []; simp; omega
  ·have := sp_len c l (cur ++ [x]); simp; omega
theorem sp_small (c : UInt8) : ∀ (l cur : List UInt8), ∀ p ∈ spL c l cur, p.length ≤ cur.length + l.length
 | [], cur, p, h => by simp [spL] at h; subst h; simp
 | x :: l, cur, p, h => by
  rw [spL] at h
  split at h
  ·rcases List.mem_cons.1 h with rfl | h
   ·simp
   ·have := sp_small c l [] p h; simp at this ⊢; omega
  ·have := sp_small c l (cur ++ [x]) p h; simp at this ⊢; omega
theorem dropW_nil {p : UInt8 → Bool} : ∀ {l : List UInt8}, l.dropWhile p = [] ↔ ∀ x ∈ l, p x = true
 | [] => by simp
 | a :: l => by
  by_cases h : p a = true
  ·simp [List.dropWhile_cons, h, dropW_nil (l := l)]
  ·simp [List.dropWhile_cons, h]
theorem trim_nil (p : UInt8 → Bool) (l : List UInt8) : ((l.reverse.dropWhile p).reverse.dropWhile p = []) ↔ l.all p = true := by
 constructor
 ·intro h
  have h1 : ∀ x ∈ (l.reverse.dropWhile p).reverse, p x = true := by simpa using dropW_nil.1 h
  have h2 : l.reverse.dropWhile p = [] := by
   cases hd : l.reverse.dropWhile p with
   | nil => rfl
   | cons a t =>
    have ha := h1 a (by rw [hd]; simp)
    have := List.head?_dropWhile_not p l.reverse
    rw [hd] at this
    simp [ha] at this
  rw [List.all_eq_true]
  intro x hx
  have := dropW_nil.1 h2 x (by simpa using hx)
  exact this
 ·intro h
  have : l.reverse.dropWhile p = [] := dropW_nil.2 (fun x hx => List.all_eq_true.1 h x (by simpa using hx))
  rw [this]; rfl
def blC (c : UInt8) : Bool := c == 32 || c == 9
def trimL (l : List UInt8) : List UInt8 := ((l.dropWhile blC).reverse.dropWhile blC).reverse
def rdL (l : List UInt8) : List UInt8 := (l.reverse.dropWhile blC).reverse
def nmx (l : List UInt8) : List Int := l.map fun c => (c.toNat : Int)
end Go.Proofs.YtgelfnjicglmbaaGreatDoor.S

