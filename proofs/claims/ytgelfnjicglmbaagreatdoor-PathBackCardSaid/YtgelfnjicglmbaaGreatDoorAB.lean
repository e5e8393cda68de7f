/- An address's text, there and back; no program in sight. -/
import Derived.Test.YtgelfnjicglmbaaGreatDoorAT
namespace Go.Proofs.YtgelfnjicglmbaaGreatDoor.S
open Go.RowKit Go.Proofs.YtgelfnjicglmbaaGreatDoor.Q Go.Proofs.YtgelfnjicglmbaaGreatDoorW.PrintWords Go.Proofs.YtgelfnjicglmbaaGreatDoorW.PrintLast Go.Proofs.YtgelfnjicglmbaaGreatDoorW.PrintMore
set_option linter.unusedVariables false
set_option linter.unusedSimpArgs false
theorem atHead_app {a b : List UInt8} (h : (64 : UInt8) ∉ a) : atHead (a ++ 64 :: b) = a := by
 unfold atHead
 rw [List.takeWhile_append_of_pos (fun x hx => by simpa using fun (e : x = 64) => h (e ▸ hx)), List.takeWhile_cons]
 simp
theorem atHead_none {a : List UInt8} (h : (64 : UInt8) ∉ a) : atHead a = a := by
 unfold atHead
 have := List.takeWhile_append_of_pos (p := fun x => x != 64) (l₁ := a) (l₂ := []) (fun x hx => by simpa using fun (e : x = 64) => h (e ▸ hx))
 simpa using this
theorem qtM_cons (c : UInt8) (l : List UInt8) : qtM (c :: l) = qtC c ++ qtM l := by simp [qtM]
theorem qtC_pair {c : UInt8} (h : c = 34 ∨ c = 92) : qtC c = [92, c] := by simp [qtC, h]
theorem qtC_one {c : UInt8} (h : ¬ (c = 34 ∨ c = 92)) : qtC c = [c] := by simp [qtC, h]
theorem qtM_len2 (l : List UInt8) : l.length ≤ (qtM l).length ∧ (qtM l).length ≤ 2 * l.length := by
 induction l with
 | nil => simp [qtM]
 | cons c l ih =>
  rw [qtM_cons, List.length_append, List.length_cons]
  by_cases h : c = 34 ∨ c = 92
  ·rw [qtC_pair h]; simp; omega
  ·rw [qtC_one h]; simp; omega
theorem qd_quote (b : List UInt8) : ∀ (l out : List UInt8) (n : Nat), l.all plC = true → qdL (qtM l ++ 34 :: b) out n = (out ++ l, n + (qtM l).length + 1, 0) := by
 intro l
 induction l with
 | nil => intro out n _; simp [qtM, qd_end]
 | cons c l ih =>
  intro out n h
  simp only [List.all_cons, Bool.and_eq_true] at h
  rw [qtM_cons]
  by_cases hc : c = 34 ∨ c = 92
  ·rw [qtC_pair hc]
   simp only [List.cons_append, List.nil_append, List.length_cons]
   rw [qd_pair, if_pos h.1, ih (out ++ [c]) (n + 2) h.2]
   simp only [List.append_assoc, List.cons_append, List.nil_append, Prod.mk.injEq, true_and, and_true]
   omega
  ·rw [qtC_one hc]
   simp only [List.cons_append, List.nil_append, List.length_cons]
   rw [qd_else (fun e => hc (.inl e)) (fun e => hc (.inr e)), if_pos h.1, ih (out ++ [c]) (n + 1) h.2]
   simp only [List.append_assoc, List.cons_append, List.nil_append, Prod.mk.injEq, true_and, and_true]
   omega
/-- What reading tells: nothing beside an error; else plain bytes, written no shorter than they must be, and the sign at the end. -/
theorem qd_tells : ∀ (N : Nat) (l out : List UInt8) (n : Nat), l.length ≤ N →
  ((qdL l out n).2.2 ≠ 0 ∧ (qdL l out n).1 = [] ∧ (qdL l out n).2.1 = 0) ∨
  ((qdL l out n).2.2 = 0 ∧ ∃ x j, (qdL l out n).1 = out ++ x ∧ x.all plC = true ∧ (qdL l out n).2.1 = n + j + 1 ∧ (qtM x).length ≤ j ∧ l[j]? = some 34) := by
 intro N
 induction N with
 | zero => intro l out n h; obtain rfl : l = [] := List.eq_nil_of_length_eq_zero (by omega); left; simp [qd_nil]
 | succ N ih =>
  intro l out n h
  cases l with
  | nil => left; simp [qd_nil]
  | cons c l =>
   simp only [List.length_cons] at h
   by_cases c1 : c = 34
   ·rw [c1, qd_end]
    exact .inr ⟨rfl, [], 0, by simp, rfl, rfl, by simp [qtM], rfl⟩
   ·by_cases c2 : c = 92
    ·cases l with
     | nil => left; rw [c2, qd_back]; simp
     | cons d l =>
      simp only [List.length_cons] at h
      rw [c2, qd_pair]
      by_cases c3 : plC d
      ·rw [if_pos c3]
       rcases ih l (out ++ [d]) (n + 2) (by omega) with h1 | ⟨h1, x, j, h2, h3, h4, h5, h6⟩
       ·exact .inl h1
       ·refine .inr ⟨h1, d :: x, j + 2, by rw [h2]; simp, by simp [c3, h3], by omega, ?_, by simpa using h6⟩
        rw [qtM_cons, List.length_append]
        have : (qtC d).length ≤ 2 := by unfold qtC; split <;> simp
        omega
      ·rw [if_neg c3]; left; simp
    ·rw [qd_else c1 c2]
     by_cases c3 : plC c
     ·rw [if_pos c3]
      rcases ih l (out ++ [c]) (n + 1) (by omega) with h1 | ⟨h1, x, j, h2, h3, h4, h5, h6⟩
      ·exact .inl h1
      ·refine .inr ⟨h1, c :: x, j + 1, by rw [h2]; simp, by simp [c3, h3], by omega, ?_, by simpa using h6⟩
       rw [qtM_cons, List.length_append, qtC_one (fun e => e.elim c1 c2)]
       simp only [List.length_singleton]
       omega
     ·rw [if_neg c3]; left; simp
theorem qd_q (l b : List UInt8) (h : l.all plC = true) : qd (34 :: (qtM l ++ [34]) ++ b) = (l, (qtM l).length + 2, 0) := by
 simp only [qd, List.cons_append, if_true]
 rw [List.append_assoc, List.singleton_append, qd_quote b l [] 1 h]
 simp only [List.nil_append, Prod.mk.injEq, true_and, and_true]
 omega
theorem dt_mem : ∀ (l : List UInt8) (p : Bool), dtL l p = true → ∀ c ∈ l, c = 46 ∨ letC c = true
 | [], _, _, c, h => by cases h
 | x :: l, p, h, c, hc => by
  rw [dtL] at h
  rcases List.mem_cons.1 hc with rfl | hc
  ·by_cases e : c = 46
   ·exact .inl e
   ·rw [if_neg e] at h
    by_cases e2 : letC c = true
    ·exact .inr e2
    ·rw [if_neg e2] at h; cases h
  ·by_cases e : x = 46
   ·rw [if_pos e] at h
    cases p with
    | true => simp at h
    | false => exact dt_mem l true (by simpa using h) c hc
   ·rw [if_neg e] at h
    by_cases e2 : letC x = true
    ·rw [if_pos e2] at h; exact dt_mem l false h c hc
    ·rw [if_neg e2] at h; cases h
theorem dt_ne {l : List UInt8} (h : dtL l true = true) : l ≠ [] := fun e => by rw [e] at h; simp [dtL] at h
theorem let_pl (c : UInt8) : letC c = true → plC c = true := byte_all (p := fun c => letC c = true → plC c = true) (by decide +kernel) c
theorem let_no (d : UInt8) (h : letC d = false) (h2 : d ≠ 46) {l : List UInt8} {p : Bool} (hd : dtL l p = true) : d ∉ l := fun hm => by
 rcases dt_mem l p hd d hm with e | e
 ·exact h2 e
 ·rw [h] at e; cases e
theorem dt_plain {l : List UInt8} {p : Bool} (h : dtL l p = true) : l.all plC = true := List.all_eq_true.2 fun c hc => by
 rcases dt_mem l p h c hc with rfl | e
 ·decide
 ·exact let_pl c e
theorem dt_head {l : List UInt8} (h : dtL l true = true) (d : UInt8) (hd : letC d = false) (h2 : d ≠ 46) (r : List UInt8) : (l ++ r).head? ≠ some d := by
 cases l with
 | nil => exact absurd rfl (dt_ne h)
 | cons x t =>
  intro e
  have : x = d := by simpa using e
  exact let_no d hd h2 h (by rw [this]; exact List.mem_cons_self)
theorem may_parts {a b : List UInt8} (h : mayB a b = true) : a ≠ [] ∧ a.length ≤ 64 ∧ a.all plC = true ∧ dmL b = 0 := by
 unfold mayB at h
 simp only [Bool.and_eq_true, Bool.not_eq_true', decide_eq_true_eq] at h
 exact ⟨fun e => by rw [e] at h; simp at h, h.2.1, h.2.2.1, h.2.2.2⟩
/-- What stands ahead of the @ of an address's text. -/
theorem lc_text {a b : List UInt8} (h : mayB a b = true) (r : List UInt8) : lcL (wdT5 a ++ (64 :: r)) = (a, (wdT5 a).length, true) := by
 obtain ⟨h0, h1, h2, h3⟩ := may_parts h
 unfold wdT5 lcL
 by_cases hd : dtL a true = true
 ·rw [if_pos hd, if_neg (dt_head hd 34 (by decide) (by decide) _), atHead_app (let_no 64 (by decide) (by decide) hd), hd]
 ·rw [if_neg hd]
  have hq := qd_q a (64 :: r) h2
  rw [if_pos (by simp)]
  rw [hq]
  have he : a.isEmpty = false := by cases a with | nil => exact absurd rfl h0 | cons _ _ => rfl
  simp [he]
theorem tx_yes {a b : List UInt8} (h : mayB a b = true) : txA a b = wdT5 a ++ (64 :: b) := by unfold txA; rw [if_pos h]
theorem pa_text {a b : List UInt8} (h : mayB a b = true) : paL (txA a b) = (a, b, 0) := by
 obtain ⟨h0, h1, h2, h3⟩ := may_parts h
 rw [tx_yes h]
 unfold paL
 rw [lc_text h]
 rw [List.drop_left]
 simp [h3, h1]
theorem pa_ok {l a b : List UInt8} (h : paL l = (a, b, 0)) : mayB a b = true ∧ (txA a b).length ≤ l.length := by
 unfold paL at h
 by_cases hc : (lcL l).2.2 = true ∧ (l.drop (lcL l).2.1).head? = some 64
 ·rw [if_pos hc] at h
  obtain ⟨hc1, hc2⟩ := hc
  obtain ⟨t, ht⟩ : ∃ t, l.drop (lcL l).2.1 = 64 :: t := by
   cases hd : l.drop (lcL l).2.1 with
   | nil => rw [hd] at hc2; cases hc2
   | cons x t => rw [hd] at hc2; simp at hc2; exact ⟨t, by rw [hc2]⟩
  rw [ht, List.tail_cons] at h
  by_cases h5 : dmL t = 5
  ·rw [if_pos h5] at h; simp at h
  ·rw [if_neg h5] at h
   by_cases h6 : dmL t = 0 ∧ (lcL l).1.length ≤ 64
   ·rw [if_pos h6] at h
    simp only [Prod.mk.injEq, and_true] at h
    obtain ⟨e1, e2⟩ := h
    subst e2
    have hlen : (lcL l).2.1 + (1 + t.length) = l.length := by
     have := congrArg List.length ht
     rw [List.length_drop, List.length_cons] at this
     omega
    unfold lcL at hc1 e1 hlen h6
    by_cases hq : l.head? = some 34
    ·rw [if_pos hq] at hc1 e1 hlen h6
     simp only [Bool.and_eq_true, decide_eq_true_eq, Bool.not_eq_true'] at hc1
     have key : ∃ j, (qd l).1.all plC = true ∧ (qd l).2.1 = j + 2 ∧ (qtM (qd l).1).length ≤ j := by
      have hz := hc1.1
      unfold qd at hz ⊢
      cases l with
      | nil => cases hq
      | cons x tl =>
       have hx : x = 34 := by simpa using hq
       subst hx
       simp only [if_true] at hz ⊢
       rcases qd_tells tl.length tl [] 1 (Nat.le_refl _) with ⟨g1, _, _⟩ | ⟨_, y, j, g2, g3, g4, g5, _⟩
       ·exact absurd hz g1
       ·rw [List.nil_append] at g2
        exact ⟨j, by rw [g2]; exact g3, by rw [g4]; omega, by rw [g2]; exact g5⟩
     obtain ⟨j, k1, k2, k3⟩ := key
     dsimp only at hlen h6 e1
     subst e1
     have hm : mayB (qd l).1 t = true := by
      unfold mayB
      rw [hc1.2, decide_eq_true h6.2, k1, decide_eq_true h6.1]; rfl
     refine ⟨hm, ?_⟩
     rw [tx_yes hm, List.length_append, List.length_cons]
     have hq2 := (qtM_len2 (qd l).1).1
     unfold wdT5
     split
     ·omega
     ·simp only [List.length_cons, List.length_append, List.length_nil]; omega
    ·rw [if_neg hq] at hc1 e1 hlen h6
     subst e1
     have hd : dtL (atHead l) true = true := hc1
     have hm : mayB (atHead l) t = true := by
      unfold mayB
      have he : (atHead l).isEmpty = false := by cases hh : atHead l with | nil => exact absurd hh (dt_ne hd) | cons _ _ => rfl
      rw [he, decide_eq_true h6.2, dt_plain hd, decide_eq_true h6.1]; rfl
     refine ⟨hm, ?_⟩
     rw [tx_yes hm, List.length_append, List.length_cons]
     unfold wdT5
     rw [if_pos hd]
     dsimp only at hlen
     omega
   ·rw [if_neg h6] at h; simp at h
 ·rw [if_neg hc] at h; simp at h
/-! ### No '>' in a domain -/
theorem sp_mem (c : UInt8) : ∀ (l cur : List UInt8) (x : UInt8), x ∈ cur ∨ x ∈ l → x = c ∨ ∃ p ∈ spL c l cur, x ∈ p
 | [], cur, x, h => by
  rcases h with h | h
  ·exact .inr ⟨cur, by simp [spL], h⟩
  ·cases h
 | y :: l, cur, x, h => by
  rw [spL]
  by_cases e : y = c
  ·rw [if_pos e]
   rcases h with h | h
   ·exact .inr ⟨cur, List.mem_cons_self, h⟩
   ·rcases List.mem_cons.1 h with h | h
    ·exact .inl (h.trans e)
    ·rcases sp_mem c l [] x (.inr h) with q | ⟨p, q1, q2⟩
     ·exact .inl q
     ·exact .inr ⟨p, List.mem_cons_of_mem _ q1, q2⟩
  ·rw [if_neg e]
   refine sp_mem c l (cur ++ [y]) x ?_
   rcases h with h | h
   ·exact .inl (List.mem_append_left _ h)
   ·rcases List.mem_cons.1 h with h | h
    ·exact .inl (List.mem_append_right _ (by rw [h]; exact List.mem_singleton.2 rfl))
    ·exact .inr h
theorem no_sp (d : UInt8) (h1 : d ≠ 46) {p : List UInt8 → Bool} (hp : ∀ q, p q = true → d ∉ q) {l : List UInt8} (h : (partsL l).all p = true) : d ∉ l := fun hm => by
 rcases sp_mem 46 l [] d (.inr hm) with e | ⟨q, e1, e2⟩
 ·exact h1 e
 ·exact hp q (List.all_eq_true.1 h q e1) e2
theorem dm_no {d : UInt8} (h1 : d ≠ 46) (h2 : lbC d = false) (h3 : digB d = false) (h4 : d ≠ 91) (h5 : d ≠ 93) {b : List UInt8} (h : dmL b = 0) : d ∉ b := by
 have hlb : ∀ q, lbB q = true → d ∉ q := fun q hq hm => by
  unfold lbB at hq
  simp only [Bool.and_eq_true] at hq
  have := List.all_eq_true.1 hq.1.1.2 d hm
  rw [h2] at this; cases this
 have hoc : ∀ q, ocB q = true → d ∉ q := fun q hq hm => by
  unfold ocB at hq
  simp only [Bool.and_eq_true] at hq
  have := List.all_eq_true.1 hq.1.1.2 d hm
  rw [h3] at this; cases this
 unfold dmL at h
 by_cases c : b.head? = some 91
 ·rw [if_pos c] at h
  by_cases c2 : 2 ≤ b.length ∧ b.getLast? = some 93 ∧ liB (b.tail.dropLast) = true
  ·obtain ⟨k1, k2, k3⟩ := c2
   have hm : d ∉ b.tail.dropLast := by
    unfold liB at k3
    simp only [Bool.and_eq_true] at k3
    exact no_sp d h1 hoc k3.2
   intro hd
   obtain ⟨t, ht⟩ : ∃ t, b = 91 :: t := by
    cases b with
    | nil => cases c
    | cons x t => exact ⟨t, by simp at c; rw [c]⟩
   subst ht
   rw [List.tail_cons] at hm
   rcases List.mem_cons.1 hd with e | e
   ·exact h4 e
   ·have hne : t ≠ [] := by rintro rfl; cases e
    rw [← List.dropLast_concat_getLast hne] at e
    rcases List.mem_append.1 e with e | e
    ·exact hm e
    ·have : d = t.getLast hne := by simpa using e
     rw [List.getLast?_cons_of_ne_nil hne, List.getLast?_eq_some_getLast hne] at k2
     exact h5 (this.trans (Option.some.inj k2))
  ·rw [if_neg c2] at h; cases h
 ·rw [if_neg c] at h
  by_cases c2 : (partsL b).all lbB = true
  ·exact no_sp d h1 hlb c2
  ·rw [if_neg c2] at h; cases h
end Go.Proofs.YtgelfnjicglmbaaGreatDoor.S
