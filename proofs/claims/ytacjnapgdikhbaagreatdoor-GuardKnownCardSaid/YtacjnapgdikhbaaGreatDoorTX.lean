/- Splitting at a byte, trimming, small lists: plain facts. -/
import Derived.Test.YtacjnapgdikhbaaGreatDoorS
import Derived.Lib.Bytealg
import Derived.Lib.TrimAscii
namespace Go.Proofs.YtacjnapgdikhbaaGreatDoor.S
open Go.RowKit Go.Proofs.YtacjnapgdikhbaaGreatDoorW.PrintWords Go.Proofs.YtacjnapgdikhbaaGreatDoorW.PrintLast Go.Proofs.YtacjnapgdikhbaaGreatDoorW.PrintMore
set_option linter.unusedVariables false
set_option linter.unusedSimpArgs false
def spL (c : UInt8) : List UInt8 → List UInt8 → List (List UInt8)
  | [], cur => [cur]
  | x :: l, cur => if x = c then cur :: spL c l [] else spL c l (cur ++ [x])
theorem dropW_nil {p : UInt8 → Bool} : ∀ {l : List UInt8}, l.dropWhile p = [] ↔ ∀ x ∈ l, p x = true
  | [] => by simp
  | a :: l => by
    by_cases h : p a = true
    · simp [List.dropWhile_cons, h, dropW_nil (l := l)]
    · simp [List.dropWhile_cons, h]
theorem trim_nil (p : UInt8 → Bool) (l : List UInt8) : ((l.reverse.dropWhile p).reverse.dropWhile p = []) ↔ l.all p = true := by
  constructor
  · intro h
    have h1 : ∀ x ∈ (l.reverse.dropWhile p).reverse, p x = true := by simpa using dropW_nil.1 h
    have h2 : l.reverse.dropWhile p = [] := by
      cases hd : l.reverse.dropWhile p with
      | nil => rfl
      | cons a t =>
        have ha := h1 a (by rw [hd]; simp)
        have := List.head?_dropWhile_not p l.reverse
        rw [hd] at this
        simp [ha] at this
    rw [List.all_eq_true]
    intro x hx
    have := dropW_nil.1 h2 x (by simpa using hx)
    exact this
  · intro h
    have : l.reverse.dropWhile p = [] := dropW_nil.2 (fun x hx => List.all_eq_true.1 h x (by simpa using hx))
    rw [this]; rfl
theorem dropW_app {p : UInt8 → Bool} : ∀ (u v : List UInt8), u.all p = false → (u ++ v).dropWhile p = u.dropWhile p ++ v
  | [], v, h => by simp at h
  | x :: u, v, h => by
    rw [List.cons_append, List.dropWhile_cons, List.dropWhile_cons]
    by_cases hx : p x
    · rw [if_pos hx, if_pos hx]; exact dropW_app u v (by simpa [hx] using h)
    · rw [if_neg hx, if_neg hx]; rfl
theorem dropW_all {p : UInt8 → Bool} : ∀ (u v : List UInt8), u.all p = true → (u ++ v).dropWhile p = v.dropWhile p
  | [], v, _ => by simp
  | x :: u, v, h => by
    simp only [List.all_cons, Bool.and_eq_true] at h
    rw [List.cons_append, List.dropWhile_cons, if_pos h.1]; exact dropW_all u v h.2
theorem take_all (p : UInt8 → Bool) : ∀ l : List UInt8, (l.takeWhile p).all p = true
  | [] => rfl
  | x :: l => by
    rw [List.takeWhile_cons]
    by_cases h : p x
    · rw [if_pos h, List.all_cons, h, take_all p l]; rfl
    · rw [if_neg h]; rfl
theorem trim_both (p : UInt8 → Bool) (l : List UInt8) : (l.reverse.dropWhile p).reverse.dropWhile p = ((l.dropWhile p).reverse.dropWhile p).reverse := by
  by_cases ha : l.all p = true
  · rw [(trim_nil p l).2 ha]
    have : l.dropWhile p = [] := dropW_nil.2 (fun x hx => List.all_eq_true.1 ha x hx)
    rw [this]; rfl
  · obtain ⟨a, r, rfl, h1, h2⟩ : ∃ a r, l = a ++ r ∧ a.all p = true ∧ l.dropWhile p = r := by
      refine ⟨l.takeWhile p, l.dropWhile p, (List.takeWhile_append_dropWhile).symm, ?_, rfl⟩
      exact take_all p l
    have hr : r.all p = false := by
      rw [List.all_append, h1, Bool.true_and] at ha; simpa using ha
    have hrr : r.reverse.all p = false := by rw [List.all_reverse]; exact hr
    rw [h2, List.reverse_append, dropW_app _ _ hrr, List.reverse_append, List.reverse_reverse, dropW_all _ _ h1]
    cases hx : r with
    | nil => rw [hx] at hr; simp at hr
    | cons x m =>
      have hpx : p x = false := by
        have := List.head?_dropWhile_not p (a ++ r)
        rw [h2, hx] at this; simpa using this
      have hne : (x :: m).reverse.dropWhile p = m.reverse.dropWhile p ++ [x] ∨ (x :: m).reverse.dropWhile p = [x] := by
        rw [List.reverse_cons]
        by_cases hm : m.reverse.all p = true
        · right; rw [dropW_all _ _ hm, List.dropWhile_cons, if_neg (by simp [hpx])]
        · left; exact dropW_app _ _ (by simpa using hm)
      rcases hne with e | e
      · rw [e, List.reverse_append]; simp [List.dropWhile_cons, hpx]
      · rw [e]; simp [List.dropWhile_cons, hpx]
def blC (c : UInt8) : Bool := c == 32 || c == 9
def trimL (l : List UInt8) : List UInt8 := ((l.dropWhile blC).reverse.dropWhile blC).reverse
theorem bl_has (c : UInt8) : [32, 9].contains c = blC c := by
  have : ∀ n, n < 256 → [32, 9].contains (UInt8.ofNat n) = blC (UInt8.ofNat n) := by decide +kernel
  have h := this c.toNat (UInt8.toNat_lt c)
  rwa [UInt8.ofNat_toNat] at h
def rdL (l : List UInt8) : List UInt8 := (l.reverse.dropWhile blC).reverse
theorem bl_num (b : UInt8) : blC b = true ↔ ((b.toNat : Int) = 32 ∨ (b.toNat : Int) = 9) := by
  unfold blC
  simp only [Bool.or_eq_true, beq_iff_eq]
  constructor
  · rintro (h | h)
    · left; rw [h]; rfl
    · right; rw [h]; rfl
  · rintro (h | h)
    · left; exact (c_eq b 32).1 h
    · right; exact (c_eq b 9).1 h
def nmx (l : List UInt8) : List Int := l.map fun c => (c.toNat : Int)
end Go.Proofs.YtacjnapgdikhbaaGreatDoor.S

