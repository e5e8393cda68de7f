/- What quoting and reading quoted strings have to do with one another: lists alone. -/
import Derived.Test.YtfeihligcondgaaS
namespace Go.Proofs.Ytfeihligcondgaa.S
set_option linter.unusedVariables false
set_option linter.unusedSimpArgs false
theorem qtM_cons (c : UInt8) (l : List UInt8) : qtM (c :: l) = qtC c ++ qtM l := by simp [qtM]
theorem qtC_pair {c : UInt8} (h : c = 34 ∨ c = 92) : qtC c = [92, c] := by simp [qtC, h]
theorem qtC_one {c : UInt8} (h : ¬ (c = 34 ∨ c = 92)) : qtC c = [c] := by simp [qtC, h]
theorem qtM_len (l : List UInt8) : l.length ≤ (qtM l).length ∧ (qtM l).length ≤ 2 * l.length := by
  induction l with
  | nil => simp [qtM]
  | cons c l ih =>
    rw [qtM_cons, List.length_append, List.length_cons]
    by_cases h : c = 34 ∨ c = 92
    · rw [qtC_pair h]; simp; omega
    · rw [qtC_one h]; simp; omega
theorem qd_quote (b : List UInt8) : ∀ (l out : List UInt8) (n : Nat), l.all plC = true → qdL (qtM l ++ 34 :: b) out n = (out ++ l, n + (qtM l).length + 1, 0) := by
  intro l
  induction l with
  | nil => intro out n _; simp [qtM, qd_end]
  | cons c l ih =>
    intro out n h
    simp only [List.all_cons, Bool.and_eq_true] at h
    rw [qtM_cons]
    by_cases hc : c = 34 ∨ c = 92
    · rw [qtC_pair hc]
      simp only [List.cons_append, List.nil_append, List.length_cons]
      rw [qd_pair, if_pos h.1, ih (out ++ [c]) (n + 2) h.2]
      simp only [List.append_assoc, List.cons_append, List.nil_append, Prod.mk.injEq, true_and, and_true]
      omega
    · rw [qtC_one hc]
      simp only [List.cons_append, List.nil_append, List.length_cons]
      rw [qd_else (fun e => hc (.inl e)) (fun e => hc (.inr e)), if_pos h.1, ih (out ++ [c]) (n + 1) h.2]
      simp only [List.append_assoc, List.cons_append, List.nil_append, Prod.mk.injEq, true_and, and_true]
      omega
theorem qd_cut : ∀ (l out : List UInt8) (n j : Nat), l.all plC = true → j ≤ (qtM l).length → qdL ((qtM l).take j) out n = ([], 0, 4) := by
  intro l
  induction l with
  | nil => intro out n j _ _; simp [qtM, qd_nil]
  | cons c l ih =>
    intro out n j h hj
    simp only [List.all_cons, Bool.and_eq_true] at h
    rw [qtM_cons] at hj ⊢
    by_cases hc : c = 34 ∨ c = 92
    · rw [qtC_pair hc] at hj ⊢
      simp only [List.cons_append, List.nil_append, List.length_cons] at hj ⊢
      match j with
      | 0 => rw [List.take_zero, qd_nil]
      | 1 => rw [List.take_succ_cons, List.take_zero, qd_back]
      | j + 2 => rw [List.take_succ_cons, List.take_succ_cons, qd_pair, if_pos h.1]; exact ih _ _ _ h.2 (by omega)
    · rw [qtC_one hc] at hj ⊢
      simp only [List.cons_append, List.nil_append, List.length_cons] at hj ⊢
      match j with
      | 0 => rw [List.take_zero, qd_nil]
      | j + 1 => rw [List.take_succ_cons, qd_else (fun e => hc (.inl e)) (fun e => hc (.inr e)), if_pos h.1]; exact ih _ _ _ h.2 (by omega)
/-- What reading tells: nothing beside an error; else plain bytes, written no shorter than they must be, and the sign at the end. -/
theorem qd_tells : ∀ (N : Nat) (l out : List UInt8) (n : Nat), l.length ≤ N →
    ((qdL l out n).2.2 ≠ 0 ∧ (qdL l out n).1 = [] ∧ (qdL l out n).2.1 = 0) ∨
    ((qdL l out n).2.2 = 0 ∧ ∃ x j, (qdL l out n).1 = out ++ x ∧ x.all plC = true ∧ (qdL l out n).2.1 = n + j + 1 ∧ (qtM x).length ≤ j ∧ l[j]? = some 34) := by
  intro N
  induction N with
  | zero => intro l out n h; obtain rfl : l = [] := List.eq_nil_of_length_eq_zero (by omega); left; simp [qd_nil]
  | succ N ih =>
    intro l out n h
    cases l with
    | nil => left; simp [qd_nil]
    | cons c l =>
      simp only [List.length_cons] at h
      by_cases c1 : c = 34
      · rw [c1, qd_end]
        exact .inr ⟨rfl, [], 0, by simp, rfl, rfl, by simp [qtM], rfl⟩
      · by_cases c2 : c = 92
        · cases l with
          | nil => left; rw [c2, qd_back]; simp
          | cons d l =>
            simp only [List.length_cons] at h
            rw [c2, qd_pair]
            by_cases c3 : plC d
            · rw [if_pos c3]
              rcases ih l (out ++ [d]) (n + 2) (by omega) with h1 | ⟨h1, x, j, h2, h3, h4, h5, h6⟩
              · exact .inl h1
              · refine .inr ⟨h1, d :: x, j + 2, by rw [h2]; simp, by simp [c3, h3], by omega, ?_, by simpa using h6⟩
                rw [qtM_cons, List.length_append]
                have : (qtC d).length ≤ 2 := by unfold qtC; split <;> simp
                omega
            · rw [if_neg c3]; left; simp
        · rw [qd_else c1 c2]
          by_cases c3 : plC c
          · rw [if_pos c3]
            rcases ih l (out ++ [c]) (n + 1) (by omega) with h1 | ⟨h1, x, j, h2, h3, h4, h5, h6⟩
            · exact .inl h1
            · refine .inr ⟨h1, c :: x, j + 1, by rw [h2]; simp, by simp [c3, h3], by omega, ?_, by simpa using h6⟩
              rw [qtM_cons, List.length_append, qtC_one (fun e => e.elim c1 c2)]
              simp only [List.length_singleton]
              omega
          · rw [if_neg c3]; left; simp
end Go.Proofs.Ytfeihligcondgaa.S
