/- What is read of a text: its text again; its fields' names. -/
import Derived.Test.YtacjnapgdikhbaaGreatDoorHP
import Derived.Test.YtacjnapgdikhbaaGreatDoorQx10
namespace Go.Proofs.YtacjnapgdikhbaaGreatDoor.S
open Go.RowKit Go.Proofs.YtacjnapgdikhbaaGreatDoor.Q Go.Proofs.YtacjnapgdikhbaaGreatDoorW.PrintWords Go.Proofs.YtacjnapgdikhbaaGreatDoorW.PrintLast Go.Proofs.YtacjnapgdikhbaaGreatDoorW.PrintMore
set_option linter.unusedVariables false
set_option linter.unusedSimpArgs false
theorem ms_sub {p q : List UInt8 → Bool} (h : ∀ x, p x = true → q x = true) : ∀ t : List (List UInt8), (t.takeWhile q).takeWhile p = t.takeWhile p ∧ (t.takeWhile q).dropWhile p = (t.dropWhile p).takeWhile q ∧ (t.dropWhile p).dropWhile q = t.dropWhile q
  | [] => ⟨rfl, rfl, rfl⟩
  | x :: t => by
    have ih := ms_sub h t
    by_cases hp : p x = true
    · have hq := h x hp
      simp only [List.takeWhile_cons, List.dropWhile_cons, hp, hq, if_true]
      exact ⟨by rw [ih.1], ih.2.1, ih.2.2⟩
    · have hp' : p x = false := by simpa using hp
      by_cases hq : q x = true
      · simp [List.takeWhile_cons, List.dropWhile_cons, hp', hq]
      · simp [List.takeWhile_cons, List.dropWhile_cons, hp', hq]
theorem ms_wh (x : List UInt8) (h : whL x = true) : noE x = true := by
  cases x with
  | nil => cases h
  | cons c t => rfl
theorem ms_nil : msL [] = some ([], [], true) := by unfold msL; rw [show ([] : List (List UInt8)).takeWhile noE = [] from rfl, fsS]; rfl
theorem ms_end (t : List (List UInt8)) : msL ([] :: t) = some ([], flat t, false) := by
  unfold msL
  have h1 : (([] : List UInt8) :: t).takeWhile noE = [] := by rw [List.takeWhile_cons, if_neg (by simp [noE])]
  have h2 : (([] : List UInt8) :: t).dropWhile noE = [] :: t := by rw [List.dropWhile_cons, if_neg (by simp [noE])]
  rw [h1, h2, fsS]; rfl
theorem ms_cons {a : List UInt8} (ha : a ≠ []) (t : List (List UInt8)) : msL (a :: t) = if fdB (a :: t.takeWhile whL) then (msL (t.dropWhile whL)).map (fun m => (fdV (a :: t.takeWhile whL) :: m.1, m.2.1, m.2.2)) else none := by
  have hn : noE a = true := by cases a with
    | nil => exact absurd rfl ha
    | cons c t => rfl
  obtain ⟨s1, s2, s3⟩ := ms_sub ms_wh t
  unfold msL
  rw [List.takeWhile_cons, if_pos hn, List.dropWhile_cons, if_pos hn, fsS_cons, s1, s2, s3]
  cases fdB (a :: t.takeWhile whL) with
  | false => rfl
  | true =>
    simp only [if_true]
    cases fsS ((t.dropWhile whL).takeWhile noE) with
    | none => rfl
    | some fs => cases t.dropWhile noE <;> rfl
def MsOk (ls : List (List UInt8)) (m : List Fld × List UInt8 × Bool) : Prop :=
  (m.1.map (·.2.2)).flatten ++ (if m.2.2 = true then [] else 13 :: 10 :: m.2.1) = flat ls ∧ m.1.length ≤ ls.length ∧ ∀ f ∈ m.1, fnL f.1 = true ∧ f.1.length ≤ (flat ls).length ∧ f.2.1.length ≤ (flat ls).length
theorem text_f {l : List S72} {b : ByteArray} {e : Bool} (h : (headText l b e).length ≤ 100000000) (hl : l.length ≤ 100000000) (hb : b.size ≤ 100000000) : head_Message_Text.f l b e = some (B (headText l b e)) := by
  unfold head_Message_Text.f
  rw [if_pos ⟨by omega, by omega, by omega⟩]; rfl
end Go.Proofs.YtacjnapgdikhbaaGreatDoor.S

