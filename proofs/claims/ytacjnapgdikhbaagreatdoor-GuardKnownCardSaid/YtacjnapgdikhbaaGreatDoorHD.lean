/- Headers: fields and messages as rows of lines, in plain words. -/
import Derived.Test.YtacjnapgdikhbaaGreatDoorSP
import Derived.Test.YtacjnapgdikhbaaGreatDoorTX
namespace Go.Proofs.YtacjnapgdikhbaaGreatDoor.S
set_option linter.unusedVariables false
def fnC (c : UInt8) : Bool := decide (33 ≤ c.toNat) && decide (c.toNat ≤ 126) && decide (c.toNat ≠ 58)
def fnL (l : List UInt8) : Bool := !l.isEmpty && l.all fnC
def col (c : UInt8) : Bool := c != 58
theorem bl_fn {c : UInt8} (h : blC c = true) : fnC c = false := by
  unfold blC at h
  simp at h
  rcases h with rfl | rfl <;> decide
abbrev Fld := List UInt8 × List UInt8 × List UInt8
def fdV (ls : List (List UInt8)) : Fld := (rdL (ls.flatten.takeWhile col), trimL (ls.flatten.dropWhile col).tail, flat ls)
def fdB : List (List UInt8) → Bool
  | [] => false
  | a :: t => a.any (· == 58) && fnL (rdL (a.takeWhile col))
theorem tw_some (p : UInt8 → Bool) : ∀ (a b : List UInt8), a.all p = false → (a ++ b).takeWhile p = a.takeWhile p
  | [], b, h => by simp at h
  | x :: a, b, h => by
    rw [List.cons_append, List.takeWhile_cons, List.takeWhile_cons]
    by_cases hx : p x = true
    · rw [if_pos hx, if_pos hx, tw_some p a b (by simpa [hx] using h)]
    · rw [if_neg hx, if_neg hx]
theorem col_any (a : List UInt8) : a.any (· == 58) = !a.all col := by
  induction a with
  | nil => rfl
  | cons c t ih => rw [List.any_cons, List.all_cons, ih]; unfold col; cases h : c == 58 <;> simp [h, bne]
theorem col_no {a : List UInt8} (h : a.all col = true) : (58 : UInt8) ∉ a := fun hm => by
  have := List.all_eq_true.1 h _ hm
  simp [col] at this
theorem rd_pre (l : List UInt8) : (rdL l).isPrefixOf l = true := by
  rw [List.isPrefixOf_iff_prefix]
  unfold rdL
  have : l.reverse.dropWhile blC <:+ l.reverse := List.dropWhile_suffix _
  have := List.reverse_prefix.2 this
  rwa [List.reverse_reverse] at this
theorem name_prog (p : List UInt8) : (fnL (trimL p) && (trimL p).isPrefixOf p) = fnL (rdL p) ∧ (fnL (rdL p) = true → trimL p = rdL p) := by
  cases p with
  | nil => exact ⟨rfl, fun h => by cases h⟩
  | cons c t =>
    by_cases hc : blC c = true
    · have hf : fnL (rdL (c :: t)) = false := by
        rcases hr : rdL (c :: t) with _ | ⟨d, r⟩
        · rfl
        · have hp := rd_pre (c :: t)
          rw [hr] at hp
          simp only [List.isPrefixOf, Bool.and_eq_true, beq_iff_eq] at hp
          unfold fnL
          rw [List.all_cons, hp.1, bl_fn hc]; simp
      refine ⟨?_, fun h => by rw [hf] at h; cases h⟩
      rw [hf]
      rcases ht : trimL (c :: t) with _ | ⟨d, r⟩
      · rfl
      · have hd : blC d = false := by
          have h1 : trimL (c :: t) = rdL ((c :: t).dropWhile blC) := rfl
          have h2 := rd_pre ((c :: t).dropWhile blC)
          rw [← h1, ht] at h2
          have h3 := List.head?_dropWhile_not blC (c :: t)
          cases hx : (c :: t).dropWhile blC with
          | nil => rw [hx] at h2; simp at h2
          | cons x y =>
            rw [hx] at h2 h3
            simp only [List.isPrefixOf, Bool.and_eq_true, beq_iff_eq] at h2
            rw [h2.1]
            simpa using h3
        have : (d :: r).isPrefixOf (c :: t) = false := by
          rw [Bool.eq_false_iff]
          intro hp
          simp only [List.isPrefixOf, Bool.and_eq_true, beq_iff_eq] at hp
          rw [hp.1, hc] at hd; cases hd
        rw [this, Bool.and_false]
    · have e : trimL (c :: t) = rdL (c :: t) := by
        unfold trimL rdL
        rw [List.dropWhile_cons, if_neg hc]
      rw [e, rd_pre, Bool.and_true]
      exact ⟨rfl, fun _ => rfl⟩
theorem cut_hit1 {p q : List UInt8} (h : (58 : UInt8) ∉ p) : Lib.cut (p ++ (58 :: q)) [58] = (p, q, true) := by
  have hi : Lib.index (p ++ (58 :: q)) [58] = (p.length : Int) := ix_hit (t := []) (b := q) h
  unfold Lib.cut
  rw [hi, if_pos (by omega), Int.toNat_natCast, List.take_left, ← List.drop_drop, List.drop_left]
  rfl
theorem has_colon (a : List UInt8) : Lib.contains a [58] = a.any (· == 58) := by
  rw [col_any]
  unfold Lib.contains
  cases h : a.all col with
  | true => rw [ix_miss (col_no h)]; rfl
  | false =>
    obtain ⟨q, hq⟩ : ∃ q, a = a.takeWhile col ++ (58 :: q) := by
      have h1 := (List.takeWhile_append_dropWhile (p := col) (l := a)).symm
      cases hd : a.dropWhile col with
      | nil =>
        have := dropW_nil.1 hd
        rw [List.all_eq_true.2 this] at h; cases h
      | cons x y =>
        have h3 := List.head?_dropWhile_not col a
        rw [hd] at h1 h3
        have : x = 58 := by simpa [col] using h3
        rw [this] at h1
        exact ⟨y, h1⟩
    have hi : Lib.index (a.takeWhile col ++ (58 :: q)) [58] = ((a.takeWhile col).length : Int) := ix_hit (t := []) (b := q) (col_no (take_all col a))
    rw [← hq] at hi
    rw [hi]
    simp
theorem first_colon {a : List UInt8} (h : a.all col = false) : ∃ q, a = a.takeWhile col ++ (58 :: q) ∧ (a.dropWhile col).tail = q := by
  have h1 := (List.takeWhile_append_dropWhile (p := col) (l := a)).symm
  cases hd : a.dropWhile col with
  | nil =>
    have := dropW_nil.1 hd
    rw [List.all_eq_true.2 this] at h; cases h
  | cons x y =>
    have h3 := List.head?_dropWhile_not col a
    rw [hd] at h1 h3
    have : x = 58 := by simpa [col] using h3
    rw [this] at h1
    exact ⟨y, h1, rfl⟩
theorem fd_prog (a : List UInt8) (t : List (List UInt8)) :
    ((Lib.cut (a :: t).flatten [58]).2.2 && (Lib.contains a [58] && (fnL (trimL (Lib.cut (a :: t).flatten [58]).1) && (trimL (Lib.cut (a :: t).flatten [58]).1).isPrefixOf (Lib.cut (a :: t).flatten [58]).1))) = fdB (a :: t) ∧
    (fdB (a :: t) = true → (trimL (Lib.cut (a :: t).flatten [58]).1, trimL (Lib.cut (a :: t).flatten [58]).2.1, Lib.join (a :: t) [13, 10] ++ [13, 10]) = fdV (a :: t)) := by
  have hfl : (a :: t).flatten = a ++ t.flatten := rfl
  rw [hfl, ← flat_join (a :: t) (by simp), has_colon]
  unfold fdB fdV
  rw [hfl]
  cases h : a.all col with
  | true =>
    have hany : a.any (· == 58) = false := by rw [col_any, h]; rfl
    simp only [hany, Bool.false_and, Bool.and_false]
    exact ⟨trivial, fun hb => by cases hb⟩
  | false =>
    have hany : a.any (· == 58) = true := by rw [col_any, h]; rfl
    obtain ⟨q, hq, hq2⟩ := first_colon h
    have hc : Lib.cut (a ++ t.flatten) [58] = (a.takeWhile col, q ++ t.flatten, true) := by
      have := cut_hit1 (q := q ++ t.flatten) (col_no (take_all col a))
      rw [← this]
      congr 1
      rw [show a.takeWhile col ++ 58 :: (q ++ t.flatten) = (a.takeWhile col ++ (58 :: q)) ++ t.flatten by simp, ← hq]
    rw [hc]
    simp only [hany, Bool.true_and]
    obtain ⟨n1, n2⟩ := name_prog (a.takeWhile col)
    refine ⟨n1, fun hb' => ?_⟩
    rw [n2 hb', tw_some col a _ h, dropW_app _ _ h]
    have hne : a.dropWhile col ≠ [] := fun e => by
      have := dropW_nil.1 e
      rw [List.all_eq_true.2 this] at h; cases h
    have : (a.dropWhile col ++ t.flatten).tail = q ++ t.flatten := by
      rw [← hq2]
      cases hd : a.dropWhile col with
      | nil => exact absurd hd hne
      | cons x y => rfl
    rw [this]
def whL (l : List UInt8) : Bool := match l with | [] => false | c :: _ => blC c
def fsS : List (List UInt8) → Option (List Fld)
  | [] => some []
  | a :: t => if fdB (a :: t.takeWhile whL) then (fsS (t.dropWhile whL)).map (fdV (a :: t.takeWhile whL) :: ·) else none
termination_by ls => ls.length
decreasing_by
  have := (List.dropWhile_suffix (l := t) whL).length_le
  simp only [List.length_cons]; omega
theorem fsS_cons (a : List UInt8) (t : List (List UInt8)) : fsS (a :: t) = if fdB (a :: t.takeWhile whL) then (fsS (t.dropWhile whL)).map (fdV (a :: t.takeWhile whL) :: ·) else none := by rw [fsS]
def noE (l : List UInt8) : Bool := !l.isEmpty
def msL (ls : List (List UInt8)) : Option (List Fld × List UInt8 × Bool) :=
  (fsS (ls.takeWhile noE)).map fun f => match ls.dropWhile noE with | [] => (f, [], true) | _ :: t => (f, flat t, false)
def msS (s : List UInt8) : Option (List Fld × List UInt8 × Bool) := (lnG s []).bind msL
end Go.Proofs.YtacjnapgdikhbaaGreatDoor.S

