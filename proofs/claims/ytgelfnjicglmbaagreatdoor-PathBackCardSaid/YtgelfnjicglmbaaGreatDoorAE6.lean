/- An address's text, as the program reads it. -/
import Derived.Test.YtgelfnjicglmbaaGreatDoorAB
import Derived.Test.YtgelfnjicglmbaaGreatDoorQx0
import Derived.Test.YtgelfnjicglmbaaGreatDoorQx7
namespace Go.Proofs.YtgelfnjicglmbaaGreatDoor.S
open Go.RowKit Go.Proofs.YtgelfnjicglmbaaGreatDoor.Q Go.Proofs.YtgelfnjicglmbaaGreatDoorW.PrintWords Go.Proofs.YtgelfnjicglmbaaGreatDoorW.PrintLast Go.Proofs.YtgelfnjicglmbaaGreatDoorW.PrintMore
set_option linter.unusedVariables false
set_option linter.unusedSimpArgs false
theorem qdL_le : ∀ (N : Nat) (l out : List UInt8) (n : Nat), l.length ≤ N → (qdL l out n).2.1 ≤ n + l.length ∧ (qdL l out n).1.length ≤ out.length + l.length ∧ ((qdL l out n).2.2 ≠ 0 → (qdL l out n).2.1 = 0)
 | 0, l, out, n, h => by
  have : l = [] := List.eq_nil_of_length_eq_zero (by omega)
  subst this
  rw [qd_nil]; simp
 | N + 1, [], out, n, h => by rw [qd_nil]; simp
 | N + 1, c :: l, out, n, h => by
  have hl : l.length ≤ N := by simp at h; omega
  by_cases h1 : c = 34
  ·subst h1
   rw [qd_end]; simp
  ·by_cases h2 : c = 92
   ·subst h2
    cases l with
    | nil => rw [qd_back]; simp
    | cons d t =>
     rw [qd_pair]
     have ht : t.length ≤ N := by simp at hl; omega
     have := qdL_le N t (out ++ [d]) (n + 2) ht
     by_cases hp : plC d = true
     ·rw [if_pos hp]
      simp only [List.length_append, List.length_cons, List.length_nil] at this ⊢
      refine ⟨by omega, by omega, this.2.2⟩
     ·rw [if_neg hp]; simp
   ·rw [qd_else h1 h2]
    have := qdL_le N l (out ++ [c]) (n + 1) hl
    by_cases hp : plC c = true
    ·rw [if_pos hp]
     simp only [List.length_append, List.length_cons, List.length_nil] at this ⊢
     refine ⟨by omega, by omega, this.2.2⟩
    ·rw [if_neg hp]; simp
theorem qd_le (l : List UInt8) : (qd l).2.1 ≤ l.length ∧ (qd l).1.length ≤ l.length ∧ ((qd l).2.2 ≠ 0 → (qd l).2.1 = 0) := by
 unfold qd
 split
 ·rename_i t
  have := qdL_le t.length t [] 1 (Nat.le_refl _)
  simp only [List.length_nil, Nat.zero_add, List.length_cons] at this ⊢
  split
  ·exact ⟨by omega, by omega, this.2.2⟩
  ·simp
 ·simp
def finA (is : Bool) (w : ByteArray) (r : List UInt8) : ByteArray × ByteArray × Int :=
 if is = true ∧ r.head? = some 64 then (if dmL r.tail = 5 then (B [], B [], 5) else if dmL r.tail = 0 ∧ w.size ≤ 64 then (w, B r.tail, 0) else (B [], B [], 3)) else (B [], B [], 5)
theorem dmL_vals (l : List UInt8) : dmL l = 0 ∨ dmL l = 3 ∨ dmL l = 5 := by
 unfold dmL
 split
 ·split <;> simp
 ·split
  ·split <;> simp
  ·simp
theorem tail_f {w r : ByteArray} {is : Bool} (hr : r.size ≤ 1000000) :
  Ev (fun k => (strings_CutPrefix.f r (⟨#[64]⟩ : ByteArray)).bind fun bt177 => ((addr_domain.f bt177.1).bind fun t179 => (if is = true then (if bt177.2 = true then (addr_Parse.j0 k w bt177.1 t179 (t179 == 5)) else (addr_Parse.j0 k w bt177.1 t179 true)) else (addr_Parse.j0 k w bt177.1 t179 true)))) (finA is w (L r)) := by
 have hl := L_len r
 refine Ev.bindc (cutP1 64 (by omega)) ?_
 have j5 : ∀ (x : ByteArray) (t : Int), Ev (fun k => addr_Parse.j0 k w x t true) ((B [], B [], 5) : ByteArray × ByteArray × Int) := fun x t =>
  Ev.eq (f := fun _ => some (B [], B [], 5)) (fun k => by simp only [addr_Parse.j0, if_true]; rfl) (Ev.pure _)
 by_cases hh : (L r).head? = some 64
 ·rw [if_pos hh]
  have hd := domain_f (s := B (L r).tail) (by rw [B_size, List.length_tail]; omega)
  rw [L_B] at hd
  refine Ev.bindc hd ?_
  cases is with
  | false =>
   simp only [Bool.false_eq_true, if_false]
   unfold finA
   rw [if_neg (by simp)]
   exact j5 _ _
  | true =>
   simp only [if_true]
   unfold finA
   rw [if_pos ⟨rfl, hh⟩]
   rcases dmL_vals (L r).tail with h | h | h
   ·rw [h, if_neg (by decide)]
    refine Ev.eq (f := fun _ => some (if (0 : Nat) = 0 ∧ w.size ≤ 64 then (w, B (L r).tail, (0 : Int)) else (B [], B [], 3))) (fun k => ?_) (Ev.pure _)
    simp only [addr_Parse.j0]
    rw [if_neg (by simp), if_pos (show ((0 : Nat) : Int) = 0 from rfl)]
    by_cases hw : w.size ≤ 64
    ·rw [if_neg (by omega), if_pos ⟨trivial, hw⟩]
    ·rw [if_pos (by omega), if_neg (by simp [hw])]; rfl
   ·rw [h, if_neg (by decide), if_neg (by simp)]
    refine Ev.eq (f := fun _ => some ((B [], B [], (3 : Int)))) (fun k => ?_) (Ev.pure _)
    simp only [addr_Parse.j0]
    rw [if_neg (by simp), if_neg (by decide)]; rfl
   ·rw [h, if_pos rfl]
    have := j5 (B (L r).tail) ((5 : Nat) : Int)
    exact this
 ·rw [if_neg hh]
  refine Ev.bindc (domain_f hr) ?_
  unfold finA
  rw [if_neg (fun h => hh h.2)]
  cases is with
  | false => simp only [Bool.false_eq_true, if_false]; exact j5 _ _
  | true => simp only [Bool.false_eq_true, if_false, if_true]; exact j5 _ _
theorem parse_f {s : ByteArray} (hs : s.size ≤ 1000000) : Ev (fun k => addr_Parse.f k s) (B (paL (L s)).1, B (paL (L s)).2.1, ((paL (L s)).2.2 : Int)) := by
 have hl := L_len s
 have fin_eq : ∀ (w : List UInt8) (r : List UInt8) (is : Bool), finA is (B w) r = (let p : List UInt8 × List UInt8 × Nat := if is = true ∧ r.head? = some 64 then (if dmL r.tail = 5 then ([], [], 5) else if dmL r.tail = 0 ∧ w.length ≤ 64 then (w, r.tail, 0) else ([], [], 3)) else ([], [], 5); (B p.1, B p.2.1, (p.2.2 : Int))) := by
  intro w r is
  unfold finA
  rw [B_size]
  split
  ·split
   ·rfl
   ·split <;> rfl
  ·rfl
 unfold addr_Parse.f
 by_cases h34 : (L s).head? = some 34
 ·have hq := quoted_f (s := s) (by omega)
  obtain ⟨q1, q2, q3⟩ := qd_le (L s)
  have hloc : Ev (fun k => addr_local.f k s) (B (qd (L s)).1, B ((L s).drop (qd (L s)).2.1), (lcL (L s)).2.2) := by
   unfold addr_local.f strings_HasPrefix.f
   rw [hpre1 34 (by omega), Option.bind_some]
   refine Ev.bindc rfl ?_
   refine Ev.cong (fun k => if_pos (decide_eq_true h34)) ?_
   refine Ev.bind2 hq ?_
   unfold res3
   refine Ev.cong (fun k => if_pos (by simp)) ?_
   refine Ev.cong (fun k => if_pos (by simp only; omega)) ?_
   have e2 : s.extract ((((qd (L s)).2.1 : Nat) : Int)).toNat s.size = B ((L s).drop (qd (L s)).2.1) := by
    rw [Int.toNat_natCast, ext_B, List.take_of_length_le (by rw [List.length_drop]; omega)]
   simp only [e2]
   have e3 : (lcL (L s)).2.2 = (decide ((qd (L s)).2.2 = 0) && !(qd (L s)).1.isEmpty) := by unfold lcL; rw [if_pos h34]
   rw [e3]
   by_cases h0 : (qd (L s)).2.2 = 0
   ·refine Ev.cong (fun k => if_pos (by omega)) ?_
    rw [decide_eq_true h0, Bool.true_and, toL, L_B]
    have : ((qd (L s)).1 != ([] : List UInt8)) = !(qd (L s)).1.isEmpty := by cases (qd (L s)).1 <;> rfl
    rw [this]
    exact Ev.pure _
   ·refine Ev.cong (fun k => if_neg (by omega)) ?_
    rw [decide_eq_false h0, Bool.false_and]
    exact Ev.pure _
  refine Ev.bind2 hloc ?_
  have := tail_f (w := B (qd (L s)).1) (r := B ((L s).drop (qd (L s)).2.1)) (is := (lcL (L s)).2.2) (by rw [B_size, List.length_drop]; omega)
  rw [L_B, fin_eq] at this
  have e : paL (L s) = (if (lcL (L s)).2.2 = true ∧ ((L s).drop (qd (L s)).2.1).head? = some 64 then (if dmL ((L s).drop (qd (L s)).2.1).tail = 5 then ([], [], 5) else if dmL ((L s).drop (qd (L s)).2.1).tail = 0 ∧ (qd (L s)).1.length ≤ 64 then ((qd (L s)).1, ((L s).drop (qd (L s)).2.1).tail, 0) else ([], [], 3)) else ([], [], 5)) := by
   unfold paL
   have a1 : (lcL (L s)).1 = (qd (L s)).1 := by unfold lcL; rw [if_pos h34]
   have a2 : (lcL (L s)).2.1 = (qd (L s)).2.1 := by unfold lcL; rw [if_pos h34]
   rw [a1, a2]
  rw [e]
  exact this
 ·have hix : strings_IndexByte.f s 64 = some (Lib.indexByte (L s) 64) := rfl
  have lc : lcL (L s) = (atHead (L s), (atHead (L s)).length, dtL (atHead (L s)) true) := by unfold lcL; rw [if_neg h34]
  have hk : ∀ (n : Nat), n ≤ s.size → mx (Lib.indexByte (L s) 64) 0 = (n : Int) → Ev (fun k => addr_local.f k s) (B ((L s).take n), B ((L s).drop n), dtL ((L s).take n) true) := by
   intro n hn hm
   unfold addr_local.f strings_HasPrefix.f
   rw [hpre1 34 (by omega), Option.bind_some]
   refine Ev.bindc rfl ?_
   refine Ev.cong (fun k => if_neg (by simp [h34])) ?_
   refine Ev.bindc hix ?_
   rw [hm]
   refine Ev.cong (fun k => if_pos (by omega)) ?_
   refine Ev.cong (fun k => if_pos (by omega)) ?_
   have e1 : s.extract 0 ((n : Int)).toNat = B ((L s).take n) := by rw [Int.toNat_natCast, ext_B, List.drop_zero, Nat.sub_zero]
   have e2 : s.extract ((n : Int)).toNat s.size = B ((L s).drop n) := by
    rw [Int.toNat_natCast, ext_B, List.take_of_length_le (by rw [List.length_drop]; omega)]
   simp only [e1, e2]
   have hd := dot_f (x := B ((L s).take n)) (by rw [B_size, List.length_take]; omega)
   rw [L_B] at hd
   refine Ev.bind2 hd (Ev.pure _)
  by_cases hc : (64 : UInt8) ∈ L s
  ·have hx : 0 ≤ Lib.indexByte (L s) 64 := by
    rcases Int.lt_or_le (Lib.indexByte (L s) 64) 0 with h1 | h1
    ·exact absurd hc (ix_none h1)
    ·exact h1
   obtain ⟨n, hn⟩ : ∃ n : Nat, Lib.indexByte (L s) 64 = n := ⟨_, (Int.toNat_of_nonneg hx).symm⟩
   obtain ⟨h1, h2, h3⟩ := ix_some hn
   have hm : mx (Lib.indexByte (L s) 64) 0 = (n : Int) := by rw [hn]; unfold mx; split <;> omega
   have ha : atHead (L s) = (L s).take n := by
    have := atHead_app (b := (L s).drop (n + 1)) h2
    rwa [← h3, List.take_append_drop] at this
   refine Ev.bind2 (hk n (by omega) hm) ?_
   have := tail_f (w := B ((L s).take n)) (r := B ((L s).drop n)) (is := dtL ((L s).take n) true) (by rw [B_size, List.length_drop]; omega)
   rw [L_B, fin_eq] at this
   have e : paL (L s) = (if dtL ((L s).take n) true = true ∧ ((L s).drop n).head? = some 64 then (if dmL ((L s).drop n).tail = 5 then ([], [], 5) else if dmL ((L s).drop n).tail = 0 ∧ ((L s).take n).length ≤ 64 then ((L s).take n, ((L s).drop n).tail, 0) else ([], [], 3)) else ([], [], 5)) := by
    unfold paL
    rw [lc, ha]
    simp only [show ((L s).take n).length = n by rw [List.length_take]; omega]
   rw [e]
   exact this
  ·have hx : Lib.indexByte (L s) 64 < 0 := by
    rcases Int.lt_or_le (Lib.indexByte (L s) 64) 0 with h1 | h1
    ·exact h1
    ·obtain ⟨n, hn⟩ : ∃ n : Nat, Lib.indexByte (L s) 64 = n := ⟨_, (Int.toNat_of_nonneg h1).symm⟩
     obtain ⟨h1, h2, h3⟩ := ix_some hn
     exact absurd (List.mem_of_mem_drop (by rw [h3]; simp)) hc
   have hm : mx (Lib.indexByte (L s) 64) 0 = ((0 : Nat) : Int) := by unfold mx; split <;> omega
   refine Ev.bind2 (hk 0 (by omega) hm) ?_
   have := tail_f (w := B ((L s).take 0)) (r := B ((L s).drop 0)) (is := dtL ((L s).take 0) true) (by rw [B_size, List.length_drop]; omega)
   rw [L_B, fin_eq] at this
   have e : paL (L s) = ([], [], 5) := by
    unfold paL
    rw [lc, atHead_none hc, List.drop_length]
    simp
   have e2 : dtL ((L s).take 0) true = false := by rw [List.take_zero]; rfl
   rw [e]
   rw [e2] at this ⊢
   simpa using this
end Go.Proofs.YtgelfnjicglmbaaGreatDoor.S
