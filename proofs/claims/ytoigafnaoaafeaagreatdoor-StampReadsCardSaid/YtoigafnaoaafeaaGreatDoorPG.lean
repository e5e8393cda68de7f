/- Dates read: the document's way, any text. -/
import Derived.Test.YtoigafnaoaafeaaGreatDoorPF
import Derived.Test.YtoigafnaoaafeaaGreatDoorQx7
namespace Go.Proofs.YtoigafnaoaafeaaGreatDoor.S
open Go.RowKit Go.Proofs.YtoigafnaoaafeaaGreatDoor.Q Go.Proofs.YtoigafnaoaafeaaGreatDoorW.PrintWords Go.Proofs.YtoigafnaoaafeaaGreatDoorW.PrintLast Go.Proofs.YtoigafnaoaafeaaGreatDoorW.PrintMore
set_option linter.unusedVariables false
set_option linter.unusedSimpArgs false
theorem two_of {l : List UInt8} (h : l.length = 2) : ∃ a b, l = [a, b] := by
  match l, h with
  | [a, b], _ => exact ⟨a, b, rfl⟩
theorem three_of {l : List UInt8} (h : l.length = 3) : ∃ a b c, l = [a, b, c] := by
  match l, h with
  | [a, b, c], _ => exact ⟨a, b, c, rfl⟩
theorem dw_all {p : UInt8 → Bool} : ∀ (a r : List UInt8), a.all p = true → (a ++ r).dropWhile p = r.dropWhile p
  | [], r, _ => rfl
  | x :: a, r, h => by
    simp only [List.all_cons, Bool.and_eq_true] at h
    rw [List.cons_append, List.dropWhile_cons, if_pos h.1, dw_all a r h.2]
/-- The tail of the way, from the year on. -/
theorem rf_tail {l Y l5 : List UInt8} (hl : l.length ≤ 1000) (h4 : l.drop 12 = Y ++ l5) (h12 : 12 ≤ l.length) (hY : Y.all dC = true) (hY5 : l5.takeWhile dC = []) {i b c : Int} {X : Int × Int}
    (h : ¬ b < 0 → ¬ c < 0 → 4 ≤ Y.length → Y.length ≤ 10 → (4 < Y.length → Y.head? ≠ some 48) → ∀ u0 u1 g0 g1 s0 s1, l5 = 32 :: u0 :: u1 :: 58 :: g0 :: g1 :: 58 :: s0 :: s1 :: 32 :: zoL → ([u0, u1] : List UInt8).all dC = true → ([g0, g1] : List UInt8).all dC = true → ([s0, s1] : List UInt8).all dC = true → Ev (fun k => postriderref09_ParseDate.j5 k i b c (dgN 0 Y : Int) (dgN 0 [u0, u1] : Int) (dgN 0 [g0, g1] : Int) (dgN 0 [s0, s1] : Int) false) X)
    (hb : (b < 0 ∨ c < 0 ∨ ¬ (4 ≤ Y.length ∧ Y.length ≤ 10 ∧ (4 < Y.length → Y.head? ≠ some 48)) ∨ ¬ ∃ u0 u1 g0 g1 s0 s1, l5 = 32 :: u0 :: u1 :: 58 :: g0 :: g1 :: 58 :: s0 :: s1 :: 32 :: zoL ∧ ([u0, u1] : List UInt8).all dC = true ∧ ([g0, g1] : List UInt8).all dC = true ∧ ([s0, s1] : List UInt8).all dC = true) → X = (0, 5)) :
    Ev (fun k => postriderref09_ParseDate.l0 k (B l) i b c 0) X := by
  have hz : (B l).size = l.length := B_size l
  have h4' : (L (B l)).drop 12 = Y ++ l5 := by rw [L_B]; exact h4
  have htw : ((Y ++ l5).takeWhile dC).length = Y.length := by rw [tw_all Y l5 hY, hY5, List.append_nil]
  have key : Ev (fun k => postriderref09_ParseDate.j2 k (B l) i b c (Y.length : Int)) X := by
    refine rf_j2 (by omega) h4' (by omega) hY (fun a1 a2 a3 a4 a5 => ?_) (fun g => hb (by rcases g with g | g | g; exact .inl g; exact .inr (.inl g); exact .inr (.inr (.inl g))))
    refine rf_j3 (by omega) h4' (by omega) hY a4 (fun e0 u0 u1 e1 g0 g1 e2 s0 s1 z0 z1 z2 z3 z4 z5 q1 q2 q3 q4 q5 q6 q7 q8 => ?_) (fun g => hb (.inr (.inr (.inr g))))
    refine h a1 a2 a3 a4 a5 u0 u1 g0 g1 s0 s1 ?_ q6 q7 q8
    rw [q1, q2, q3, q4, ← q5]
  have := rf_l0 (s := B l) (by omega) h4' (by omega) (a := i) (b := b) (c := c) (X := X) (by rw [htw]; exact key) (Y ++ l5) [] rfl rfl
  exact this
theorem ref_f (l : List UInt8) (hl : l.length ≤ 1000) : (∀ p : Pc, p.Ok → l = p.txt → Ev (fun k => postriderref09_ParseDate.f k (B l)) p.val) ∧ ((∀ p : Pc, p.Ok → l ≠ p.txt) → Ev (fun k => postriderref09_ParseDate.f k (B l)) (0, 5)) := by
  have hsm : ∀ w : List UInt8, w.length = 2 → w.all dC = true → 0 ≤ (dgN 0 w : Int) ∧ (dgN 0 w : Int) < 100 := fun w h1 h2 => by
    have := dgN_small h2 (n := 2) (by omega)
    have e : (10 : Nat) ^ 2 = 100 := rfl
    omega
  constructor
  · intro p ok e
    obtain ⟨i, j, D, Y, H, M, S⟩ := p
    obtain ⟨hi, hj, ⟨hD, hDd⟩, ⟨hY1, hY2, hYd, hY4⟩, ⟨hH, hHd⟩, ⟨hM, hMd⟩, ⟨hS, hSd⟩⟩ := ok
    simp only [] at hi hj hD hDd hY1 hY2 hYd hY4 hH hHd hM hMd hS hSd
    obtain ⟨w0, w1, w2, hw⟩ := three_of (wdN_len i hi).1
    obtain ⟨m0, m1, m2, hm⟩ := three_of (moN_len j hj).1
    obtain ⟨d0, d1, rfl⟩ := two_of hD
    obtain ⟨u0, u1, rfl⟩ := two_of hH
    obtain ⟨g0, g1, rfl⟩ := two_of hM
    obtain ⟨s0, s1, rfl⟩ := two_of hS
    have e1 : l = w0 :: w1 :: w2 :: 44 :: 32 :: d0 :: d1 :: 32 :: m0 :: m1 :: m2 :: 32 :: (Y ++ 32 :: u0 :: u1 :: 58 :: g0 :: g1 :: 58 :: s0 :: s1 :: 32 :: zoL) := by
      rw [e]
      unfold Pc.txt Pc.clock
      rw [hw, hm]
      simp
    have hpw : plX l wdT 0 = (i : Int) := by
      rw [e]
      unfold Pc.txt
      exact plW _ i hi
    have hpm : plX (m0 :: m1 :: m2 :: 32 :: (Y ++ 32 :: u0 :: u1 :: 58 :: g0 :: g1 :: 58 :: s0 :: s1 :: 32 :: zoL)) moT 0 = (j : Int) := by
      have := plM (32 :: (Y ++ 32 :: u0 :: u1 :: 58 :: g0 :: g1 :: 58 :: s0 :: s1 :: 32 :: zoL)) j hj
      rw [hm] at this
      exact this
    have hrd : rwS (d0 :: d1 :: 32 :: m0 :: m1 :: m2 :: 32 :: (Y ++ 32 :: u0 :: u1 :: 58 :: g0 :: g1 :: 58 :: s0 :: s1 :: 32 :: zoL)) 2 = (dgN 0 [d0, d1] : Int) := by rw [rw2, if_pos hDd]
    have h12 : 12 ≤ l.length := by rw [e1]; simp only [List.length_cons]; omega
    refine rf_front e1 hl (fun _ _ _ _ _ => ?_) (fun g => ?_)
    · rw [hpw, hrd, hpm]
      refine rf_tail hl (Y := Y) (l5 := 32 :: u0 :: u1 :: 58 :: g0 :: g1 :: 58 :: s0 :: s1 :: 32 :: zoL) (by rw [e1]; rfl) h12 hYd (by rw [List.takeWhile_cons, if_neg (by decide)]) (fun _ _ _ _ _ u0' u1' g0' g1' s0' s1' q q1 q2 q3 => ?_) (fun g => ?_)
      · simp only [List.cons.injEq, true_and, and_true] at q
        obtain ⟨rfl, rfl, rfl, rfl, rfl, rfl⟩ := q
        have hy := dgN_small hYd hY2
        have e10 : (10 : Nat) ^ 10 = 10000000000 := rfl
        have aD := hsm _ hD hDd
        have aH := hsm _ hH hHd
        have aM := hsm _ hM hMd
        have aS := hsm _ hS hSd
        exact rf_j5 hj (by omega) (by omega) aD.1 aD.2 aH.1 aM.1 aS.1
      · exfalso
        rcases g with g | g | g | g
        · omega
        · omega
        · exact g ⟨hY1, hY2, hY4⟩
        · exact g ⟨u0, u1, g0, g1, s0, s1, rfl, hHd, hMd, hSd⟩
    · exfalso
      rcases g with g | g | g | g | g
      · rw [hpw] at g; omega
      · exact g rfl
      · exact g rfl
      · exact g rfl
      · exact g rfl
  · intro hno
    by_cases h12 : 12 ≤ l.length
    · obtain ⟨x0, x1, x2, x3, x4, x5, x6, x7, x8, x9, x10, x11, l4, e⟩ := twelve h12
      refine rf_front e hl (fun c0 c3 c4 c7 c11 => ?_) (fun _ => rfl)
      refine rf_tail hl (Y := l4.takeWhile dC) (l5 := l4.dropWhile dC) (by rw [e, List.takeWhile_append_dropWhile]; rfl) h12 (take_all dC l4) ?_ (fun a1 a2 a3 a4 a5 u0 u1 g0 g1 s0 s1 q q1 q2 q3 => ?_) (fun _ => rfl)
      · cases hd : l4.dropWhile dC with
        | nil => rfl
        | cons y t =>
          have := List.head?_dropWhile_not dC l4
          rw [hd] at this
          rw [List.takeWhile_cons, if_neg (by simpa using this)]
      · exfalso
        obtain ⟨i, r, hi, hr⟩ := plW_ge c0
        obtain ⟨j, r2, hj, hr2⟩ := plM_ge a2
        obtain ⟨w0, w1, w2, hw⟩ := three_of (wdN_len i hi).1
        obtain ⟨m0, m1, m2, hm⟩ := three_of (moN_len j hj).1
        rw [hw, e] at hr
        rw [hm] at hr2
        simp only [List.cons_append, List.nil_append, List.cons.injEq] at hr hr2
        obtain ⟨rfl, rfl, rfl, _⟩ := hr
        obtain ⟨rfl, rfl, rfl, _⟩ := hr2
        rw [rw2] at a1
        have hD : ([x5, x6] : List UInt8).all dC = true := by
          cases hd : ([x5, x6] : List UInt8).all dC with
          | true => rfl
          | false => rw [hd] at a1; simp at a1
        refine hno ⟨i, j, [x5, x6], l4.takeWhile dC, [u0, u1], [g0, g1], [s0, s1]⟩ ⟨hi, hj, ⟨rfl, hD⟩, ⟨a3, a4, take_all dC l4, a5⟩, ⟨rfl, q1⟩, ⟨rfl, q2⟩, ⟨rfl, q3⟩⟩ ?_
        unfold Pc.txt Pc.clock
        rw [e, hw, hm, c3, c4, c7, c11]
        simp only [List.cons_append, List.nil_append]
        have := List.takeWhile_append_dropWhile (p := dC) (l := l4)
        rw [q] at this
        rw [← this]
        have e2 : (l4.takeWhile dC ++ 32 :: u0 :: u1 :: 58 :: g0 :: g1 :: 58 :: s0 :: s1 :: 32 :: zoL).takeWhile dC = l4.takeWhile dC := by rw [this]
        rw [e2]
    · unfold postriderref09_ParseDate.f
      have hz : (B l).size = l.length := B_size l
      refine Ev.bindc rnames_f ?_
      have hp := place_f (s := B l) (by omega) (at_ := 0) (Nat.zero_le _) wd_ok (by decide)
      refine Ev.bind2 hp ?_
      by_cases c0 : plX ((L (B l)).drop 0) wdT 0 < 0
      · simp only [if_pos c0]; exact rf_j0t _ _ _
      · simp only [if_neg c0, if_pos (show ((B l).size : Int) < 12 by omega)]; exact rf_j0t _ _ _
end Go.Proofs.YtoigafnaoaafeaaGreatDoor.S
