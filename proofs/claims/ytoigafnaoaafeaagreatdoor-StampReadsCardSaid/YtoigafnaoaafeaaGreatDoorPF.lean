/- Dates read: the document's way, from a text to its tick. -/
import Derived.Test.YtoigafnaoaafeaaGreatDoorPE
import Derived.Test.YtoigafnaoaafeaaGreatDoorQx5
import Derived.Test.YtoigafnaoaafeaaGreatDoorQx7
namespace Go.Proofs.YtoigafnaoaafeaaGreatDoor.S
open Go.RowKit Go.Proofs.YtoigafnaoaafeaaGreatDoor.Q Go.Proofs.YtoigafnaoaafeaaGreatDoorW.PrintWords Go.Proofs.YtoigafnaoaafeaaGreatDoorW.PrintLast Go.Proofs.YtoigafnaoaafeaaGreatDoorW.PrintMore
set_option linter.unusedVariables false
set_option linter.unusedSimpArgs false
theorem rnames_f : postriderref09_names.f = some (wdT, moT) := rfl
theorem rw2 (a b : UInt8) (r : List UInt8) : rwS (a :: b :: r) 2 = if ([a, b] : List UInt8).all dC = true then (dgN 0 [a, b] : Int) else -1 := by
  unfold rwS
  by_cases h : ([a, b] : List UInt8).all dC = true
  · rw [if_pos h, if_pos ⟨by simp, h⟩]; rfl
  · rw [if_neg h, if_neg (fun g => h g.2)]
theorem twelve {l : List UInt8} (h : 12 ≤ l.length) : ∃ x0 x1 x2 x3 x4 x5 x6 x7 x8 x9 x10 x11 r, l = x0 :: x1 :: x2 :: x3 :: x4 :: x5 :: x6 :: x7 :: x8 :: x9 :: x10 :: x11 :: r := by
  match l, h with
  | x0 :: x1 :: x2 :: x3 :: x4 :: x5 :: x6 :: x7 :: x8 :: x9 :: x10 :: x11 :: r, _ => exact ⟨_, _, _, _, _, _, _, _, _, _, _, _, _, rfl⟩
theorem fifteen {l : List UInt8} (h : l.length = 15) : ∃ x0 x1 x2 x3 x4 x5 x6 x7 x8 x9 x10 x11 x12 x13 x14, l = [x0, x1, x2, x3, x4, x5, x6, x7, x8, x9, x10, x11, x12, x13, x14] := by
  match l, h with
  | [x0, x1, x2, x3, x4, x5, x6, x7, x8, x9, x10, x11, x12, x13, x14], _ => exact ⟨_, _, _, _, _, _, _, _, _, _, _, _, _, _, _, rfl⟩
/-! ### the front -/
theorem rf_j0t (s : ByteArray) (ms : List ByteArray) (i : Int) : Ev (fun k => postriderref09_ParseDate.j0 k s ms i true) (0, 5) := Ev.eq (f := fun _ => some _) (fun k => by simp only [postriderref09_ParseDate.j0, if_true]) (Ev.pure _)
theorem rf_front {x0 x1 x2 x3 x4 x5 x6 x7 x8 x9 x10 x11 : UInt8} {l4 l : List UInt8} (e : l = x0 :: x1 :: x2 :: x3 :: x4 :: x5 :: x6 :: x7 :: x8 :: x9 :: x10 :: x11 :: l4) (hl : l.length ≤ 1000) {X : Int × Int}
    (h : ¬ plX l wdT 0 < 0 → x3 = 44 → x4 = 32 → x7 = 32 → x11 = 32 → Ev (fun k => postriderref09_ParseDate.l0 k (B l) (plX l wdT 0) (rwS (x5 :: x6 :: x7 :: x8 :: x9 :: x10 :: x11 :: l4) 2) (plX (x8 :: x9 :: x10 :: x11 :: l4) moT 0) 0) X)
    (hb : (plX l wdT 0 < 0 ∨ x3 ≠ 44 ∨ x4 ≠ 32 ∨ x7 ≠ 32 ∨ x11 ≠ 32) → X = (0, 5)) : Ev (fun k => postriderref09_ParseDate.f k (B l)) X := by
  have hz : (B l).size = l.length := B_size l
  have hlen : l.length = l4.length + 12 := by rw [e]; simp
  unfold postriderref09_ParseDate.f
  refine Ev.bindc rnames_f ?_
  have hp := place_f (s := B l) (by omega) (at_ := 0) (Nat.zero_le _) wd_ok (by decide)
  rw [L_B, List.drop_zero] at hp
  refine Ev.bind2 hp ?_
  have hx : ((B l).extract 3 5).toList = [x3, x4] := by rw [toL, L_ext, L_B, e]; rfl
  have b7 : bt (B l) 7 = (x7.toNat : Int) := bt_of (s := B l) (n := 7) (l := x8 :: x9 :: x10 :: x11 :: l4) (by rw [L_B, e]; rfl)
  have b11 : bt (B l) 11 = (x11.toNat : Int) := bt_of (s := B l) (n := 11) (l := l4) (by rw [L_B, e]; rfl)
  by_cases c0 : plX l wdT 0 < 0
  · simp only [if_pos c0]
    rw [hb (.inl c0)]
    exact rf_j0t _ _ _
  · simp only [if_neg c0, hx, b7, b11, if_neg (show ¬ ((B l).size : Int) < 12 by omega), if_pos (show (3 : Nat) ≤ 5 by omega), if_pos (show (5 : Int) ≤ ((B l).size : Int) by omega), if_pos (show (7 : Int) < ((B l).size : Int) by omega), if_pos (show (11 : Int) < ((B l).size : Int) by omega)]
    by_cases c1 : ([x3, x4] : List UInt8) = [44, 32]
    · simp only [if_pos c1]
      simp only [List.cons.injEq, and_true] at c1
      by_cases c7 : (x7.toNat : Int) = 32
      · simp only [if_pos c7]
        have c7' : x7 = 32 := (c_eq x7 32).1 c7
        by_cases c11 : x11 = 32
        · have hf : ((x11.toNat : Int) != 32) = false := by rw [c11]; rfl
          rw [hf]
          have hr := row_f (s := B l) (by omega) (at_ := 5) (many := 2) (by omega) (by omega)
          rw [L_B, show l.drop 5 = x5 :: x6 :: x7 :: x8 :: x9 :: x10 :: x11 :: l4 by rw [e]; rfl] at hr
          have hm := place_f (s := B l) (by omega) (at_ := 8) (by omega) mo_ok (by decide)
          rw [L_B, show l.drop 8 = x8 :: x9 :: x10 :: x11 :: l4 by rw [e]; rfl] at hm
          refine Ev.eq (f := fun k => (postriderref09_row.f k (B l) 5 2).bind fun t171 => ((postriderref09_place.f k (B l) 8 moT).bind fun t172 => (postriderref09_ParseDate.l0 k (B l) (plX l wdT 0) t171 t172 0))) (fun k => by simp only [postriderref09_ParseDate.j0, Bool.false_eq_true, if_false]) ?_
          exact Ev.bind2 hr (Ev.bind2 hm (h c0 c1.1 c1.2 c7' c11))
        · have hf : ((x11.toNat : Int) != 32) = true := by rw [bne_iff_ne]; exact fun g => c11 ((c_eq x11 32).1 g)
          rw [hf, hb (.inr (.inr (.inr (.inr c11))))]
          exact rf_j0t _ _ _
      · simp only [if_neg c7]
        rw [hb (.inr (.inr (.inr (.inl (fun g => c7 (by rw [g]; rfl))))))]
        exact rf_j0t _ _ _
    · simp only [if_neg c1]
      have : x3 ≠ 44 ∨ x4 ≠ 32 := by
        by_cases g : x3 = 44
        · right; intro g2; exact c1 (by rw [g, g2])
        · exact .inl g
      rw [hb (by rcases this with g | g; exact .inr (.inl g); exact .inr (.inr (.inl g)))]
      exact rf_j0t _ _ _
/-! ### the year's digits -/
theorem tw_all {p : UInt8 → Bool} : ∀ (a r : List UInt8), a.all p = true → (a ++ r).takeWhile p = a ++ r.takeWhile p
  | [], r, _ => rfl
  | x :: a, r, h => by
    simp only [List.all_cons, Bool.and_eq_true] at h
    rw [List.cons_append, List.takeWhile_cons, if_pos h.1, tw_all a r h.2]; rfl
theorem rf_l0 {s : ByteArray} (hs : s.size ≤ 1000) {l4 : List UInt8} (h4 : (L s).drop 12 = l4) (h12 : 12 ≤ s.size) {a b c : Int} {X : Int × Int}
    (hX : Ev (fun k => postriderref09_ParseDate.j2 k s a b c ((l4.takeWhile dC).length : Int)) X) : ∀ (rest pre : List UInt8), l4 = pre ++ rest → pre.all dC = true → Ev (fun k => postriderref09_ParseDate.l0 k s a b c (pre.length : Int)) X := by
  have hl := L_len s
  have hl4 : l4.length + 12 = s.size := by rw [← h4, List.length_drop]; omega
  intro rest
  induction rest with
  | nil =>
    intro pre h hp
    rw [List.append_nil] at h
    have htw : (l4.takeWhile dC).length = pre.length := by
      have := tw_all pre [] hp
      rw [List.append_nil] at this
      rw [h, this]; simp
    rw [htw] at hX
    have hlen := congrArg List.length h
    have e1 : wrap64 (12 + (pre.length : Int)) = 12 + (pre.length : Int) := wk (by omega) (by omega)
    refine Ev.eq (fun k => ?_) hX
    simp only [postriderref09_ParseDate.l0]
    rw [e1, if_neg (by clear e1; omega)]
  | cons x rest ih =>
    intro pre h hp
    have hlen := congrArg List.length h
    rw [List.length_append, List.length_cons] at hlen
    have hb : bt s (((12 + pre.length : Nat)) : Int) = (x.toNat : Int) := bt_of (l := rest) (by rw [← List.drop_drop, h4, h, List.drop_left])
    have g0 : (((12 + pre.length : Nat)) : Int) < (s.size : Int) := by omega
    have e1 : wrap64 (12 + (pre.length : Int)) = ((12 + pre.length : Nat) : Int) := by rw [wk (by omega) (by omega)]; omega
    by_cases hd : dC x = true
    · have hd' := (dC_iff x).1 hd
      have key := ih (pre ++ [x]) (by rw [h]; simp) (by rw [List.all_append, hp]; simp [hd])
      have e2 : wrap64 ((pre.length : Int) + 1) = ((pre ++ [x]).length : Int) := by
        clear e1
        rw [wk (by omega) (by omega)]; simp
      refine Ev.eq (fun k => ?_) key
      simp only [postriderref09_ParseDate.l0]
      rw [e1, if_pos g0, if_pos (Int.natCast_nonneg _), hb, if_pos (by clear e1 e2; omega), if_pos (by clear e1 e2; omega), e2]
    · have hd' : ¬ (48 ≤ x.toNat ∧ x.toNat ≤ 57) := fun g => hd ((dC_iff x).2 g)
      have htw : (l4.takeWhile dC).length = pre.length := by
        rw [h, tw_all pre _ hp, List.takeWhile_cons, if_neg hd]; simp
      rw [htw] at hX
      refine Ev.eq (fun k => ?_) hX
      simp only [postriderref09_ParseDate.l0]
      rw [e1, if_pos g0, if_pos (Int.natCast_nonneg _), hb]
      by_cases c1 : (x.toNat : Int) ≥ 48
      · rw [if_pos c1, if_neg (by clear e1; omega)]
      · rw [if_neg c1]
theorem rf_j3t (s : ByteArray) (a b c d : Int) : Ev (fun k => postriderref09_ParseDate.j3 k s a b c d true) (0, 5) := Ev.eq (f := fun _ => some _) (fun k => by simp only [postriderref09_ParseDate.j3, if_true]) (Ev.pure _)
theorem rf_j4t (s : ByteArray) (a b c d e : Int) : Ev (fun k => postriderref09_ParseDate.j4 k s a b c d e true) (0, 5) := Ev.eq (f := fun _ => some _) (fun k => by simp only [postriderref09_ParseDate.j4, if_true]) (Ev.pure _)
theorem rf_j5t (a b c d e f g : Int) : Ev (fun k => postriderref09_ParseDate.j5 k a b c d e f g true) (0, 5) := Ev.eq (f := fun _ => some _) (fun k => by simp only [postriderref09_ParseDate.j5, if_true]) (Ev.pure _)
/-- Behind the year's digits. -/
theorem rf_j2 {s : ByteArray} (hs : s.size ≤ 1000) {Y l5 : List UInt8} (h4 : (L s).drop 12 = Y ++ l5) (h12 : 12 ≤ s.size) (hY : Y.all dC = true) {i b c : Int} {X : Int × Int}
    (h : ¬ b < 0 → ¬ c < 0 → 4 ≤ Y.length → Y.length ≤ 10 → (4 < Y.length → Y.head? ≠ some 48) → Ev (fun k => postriderref09_ParseDate.j3 k s i b c (Y.length : Int) false) X)
    (hb : (b < 0 ∨ c < 0 ∨ ¬ (4 ≤ Y.length ∧ Y.length ≤ 10 ∧ (4 < Y.length → Y.head? ≠ some 48))) → X = (0, 5)) : Ev (fun k => postriderref09_ParseDate.j2 k s i b c (Y.length : Int)) X := by
  have hl := L_len s
  have hl4 := congrArg List.length h4
  rw [List.length_drop, List.length_append] at hl4
  refine Ev.eq (f := fun k => if b < 0 then (postriderref09_ParseDate.j3 k s i b c (Y.length : Int) true) else (if c < 0 then (postriderref09_ParseDate.j3 k s i b c (Y.length : Int) true) else (if (Y.length : Int) < 4 then (postriderref09_ParseDate.j3 k s i b c (Y.length : Int) true) else (if (Y.length : Int) > 10 then (postriderref09_ParseDate.j3 k s i b c (Y.length : Int) true) else (if (Y.length : Int) > 4 then (if 12 < (s.size : Int) then (postriderref09_ParseDate.j3 k s i b c (Y.length : Int) ((bt s 12) == 48)) else (none)) else (postriderref09_ParseDate.j3 k s i b c (Y.length : Int) false)))))) (fun k => by simp only [postriderref09_ParseDate.j2]) ?_
  by_cases c1 : b < 0
  · simp only [if_pos c1]; rw [hb (.inl c1)]; exact rf_j3t _ _ _ _ _
  · simp only [if_neg c1]
    by_cases c2 : c < 0
    · simp only [if_pos c2]; rw [hb (.inr (.inl c2))]; exact rf_j3t _ _ _ _ _
    · simp only [if_neg c2]
      by_cases c3 : (Y.length : Int) < 4
      · simp only [if_pos c3]; rw [hb (.inr (.inr (fun g => by omega)))]; exact rf_j3t _ _ _ _ _
      · simp only [if_neg c3]
        by_cases c4 : (Y.length : Int) > 10
        · simp only [if_pos c4]; rw [hb (.inr (.inr (fun g => by omega)))]; exact rf_j3t _ _ _ _ _
        · simp only [if_neg c4]
          by_cases c5 : (Y.length : Int) > 4
          · simp only [if_pos c5, if_pos (show (12 : Int) < (s.size : Int) by omega)]
            obtain ⟨y, Y', rfl⟩ : ∃ y Y', Y = y :: Y' := by
              cases Y with
              | nil => simp at c5
              | cons y Y' => exact ⟨y, Y', rfl⟩
            have hbt : bt s 12 = (y.toNat : Int) := bt_of (s := s) (n := 12) (l := Y' ++ l5) (by rw [h4]; rfl)
            rw [hbt]
            by_cases c6 : y = 48
            · rw [show ((y.toNat : Int) == 48) = true by rw [c6]; rfl, hb (.inr (.inr (fun g => g.2.2 (by omega) (by rw [c6]; rfl))))]
              exact rf_j3t _ _ _ _ _
            · rw [show ((y.toNat : Int) == 48) = false by rw [beq_eq_false_iff_ne]; exact fun g => c6 ((c_eq y 48).1 g)]
              exact h c1 c2 (by omega) (by omega) (fun _ g => c6 (by simpa using g))
          · simp only [if_neg c5]
            exact h c1 c2 (by omega) (by omega) (fun g => by omega)
/-- The clock and the zone. -/
theorem rf_j3 {s : ByteArray} (hs : s.size ≤ 1000) {Y l5 : List UInt8} (h4 : (L s).drop 12 = Y ++ l5) (h12 : 12 ≤ s.size) (hY : Y.all dC = true) (hY10 : Y.length ≤ 10) {i b c : Int} {X : Int × Int}
    (h : ∀ e0 u0 u1 e1 g0 g1 e2 s0 s1 z0 z1 z2 z3 z4 z5, l5 = [e0, u0, u1, e1, g0, g1, e2, s0, s1, z0, z1, z2, z3, z4, z5] → e0 = 32 → e1 = 58 → e2 = 58 → ([z0, z1, z2, z3, z4, z5] : List UInt8) = 32 :: zoL → ([u0, u1] : List UInt8).all dC = true → ([g0, g1] : List UInt8).all dC = true → ([s0, s1] : List UInt8).all dC = true → Ev (fun k => postriderref09_ParseDate.j5 k i b c (dgN 0 Y : Int) (dgN 0 [u0, u1] : Int) (dgN 0 [g0, g1] : Int) (dgN 0 [s0, s1] : Int) false) X)
    (hb : (¬ ∃ u0 u1 g0 g1 s0 s1, l5 = 32 :: u0 :: u1 :: 58 :: g0 :: g1 :: 58 :: s0 :: s1 :: 32 :: zoL ∧ ([u0, u1] : List UInt8).all dC = true ∧ ([g0, g1] : List UInt8).all dC = true ∧ ([s0, s1] : List UInt8).all dC = true) → X = (0, 5)) : Ev (fun k => postriderref09_ParseDate.j3 k s i b c (Y.length : Int) false) X := by
  have hl := L_len s
  have hl4 := congrArg List.length h4
  rw [List.length_drop, List.length_append] at hl4
  have hr := row_f (s := s) (by omega) (at_ := 12) (many := Y.length) h12 hY10
  have hrv : rwS ((L s).drop 12) Y.length = (dgN 0 Y : Int) := by
    unfold rwS
    rw [h4, List.take_left, if_pos ⟨by simp, hY⟩]
  rw [hrv] at hr
  have hd5 : (L s).drop (12 + Y.length) = l5 := by rw [← List.drop_drop, h4, List.drop_left]
  have en : wrap64 (12 + (Y.length : Int)) = ((12 + Y.length : Nat) : Int) := by rw [wk (by omega) (by omega)]; omega
  have e15 : wrap64 (((12 + Y.length : Nat) : Int) + 15) = ((12 + Y.length + 15 : Nat) : Int) := by clear en; rw [wk (by omega) (by omega)]; omega
  have e3 : wrap64 (((12 + Y.length : Nat) : Int) + 3) = ((12 + Y.length + 3 : Nat) : Int) := by clear en e15; rw [wk (by omega) (by omega)]; omega
  have e6 : wrap64 (((12 + Y.length : Nat) : Int) + 6) = ((12 + Y.length + 6 : Nat) : Int) := by clear en e15 e3; rw [wk (by omega) (by omega)]; omega
  have e9 : wrap64 (((12 + Y.length : Nat) : Int) + 9) = ((12 + Y.length + 9 : Nat) : Int) := by clear en e15 e3 e6; rw [wk (by omega) (by omega)]; omega
  have w1' : wrap64 (((12 + Y.length : Nat) : Int) + 1) = ((12 + Y.length + 1 : Nat) : Int) := by clear en e15 e3 e6 e9; rw [wk (by omega) (by omega)]; omega
  have w4' : wrap64 (((12 + Y.length : Nat) : Int) + 4) = ((12 + Y.length + 4 : Nat) : Int) := by clear en e15 e3 e6 e9 w1'; rw [wk (by omega) (by omega)]; omega
  have w7' : wrap64 (((12 + Y.length : Nat) : Int) + 7) = ((12 + Y.length + 7 : Nat) : Int) := by clear en e15 e3 e6 e9 w1' w4'; rw [wk (by omega) (by omega)]; omega
  obtain ⟨q, hq⟩ : ∃ q, q = 12 + Y.length := ⟨_, rfl⟩
  rw [← hq] at en e15 e3 e6 e9 w1' w4' w7' hd5
  refine Ev.eq (f := fun k => (postriderref09_row.f k s 12 (Y.length : Int)).bind fun t173 => (if (s.size : Int) = ((q + 15 : Nat) : Int) then (if 0 ≤ ((q : Nat) : Int) then (if ((q : Nat) : Int) < (s.size : Int) then (if (bt s ((q : Nat) : Int)) = 32 then (if 0 ≤ ((q + 3 : Nat) : Int) then (if ((q + 3 : Nat) : Int) < (s.size : Int) then (if (bt s ((q + 3 : Nat) : Int)) = 58 then (if 0 ≤ ((q + 6 : Nat) : Int) then (if ((q + 6 : Nat) : Int) < (s.size : Int) then (if (bt s ((q + 6 : Nat) : Int)) = 58 then (if 0 ≤ ((q + 9 : Nat) : Int) then (if ((q + 9 : Nat) : Int) ≤ (s.size : Int) then (postriderref09_ParseDate.j4 k s i b c t173 ((q : Nat) : Int) ((s.extract ((((q + 9 : Nat) : Int)) : Int).toNat s.size).toList != ([32, 43, 48, 48, 48, 48] : List UInt8))) else (none)) else (none)) else (postriderref09_ParseDate.j4 k s i b c t173 ((q : Nat) : Int) true)) else (none)) else (none)) else (postriderref09_ParseDate.j4 k s i b c t173 ((q : Nat) : Int) true)) else (none)) else (none)) else (postriderref09_ParseDate.j4 k s i b c t173 ((q : Nat) : Int) true)) else (none)) else (none)) else (postriderref09_ParseDate.j4 k s i b c t173 ((q : Nat) : Int) true))) (fun k => by simp only [postriderref09_ParseDate.j3, Bool.false_eq_true, if_false, en, e15, e3, e6, e9]) ?_
  clear en e15 e3 e6 e9
  refine Ev.bind2 hr ?_
  by_cases c15 : l5.length = 15
  · obtain ⟨e0, u0, u1, e1, g0, g1, e2, s0, s1, z0, z1, z2, z3, z4, z5, rfl⟩ := fifteen c15
    have hsz : s.size = q + 15 := by clear w1' w4' w7'; omega
    have b0 : bt s ((q : Nat) : Int) = (e0.toNat : Int) := bt_of hd5
    have b3 : bt s ((q + 3 : Nat) : Int) = (e1.toNat : Int) := bt_of (l := [g0, g1, e2, s0, s1, z0, z1, z2, z3, z4, z5]) (by rw [← List.drop_drop, hd5]; rfl)
    have b6 : bt s ((q + 6 : Nat) : Int) = (e2.toNat : Int) := bt_of (l := [s0, s1, z0, z1, z2, z3, z4, z5]) (by rw [← List.drop_drop, hd5]; rfl)
    have b9 : (s.extract (((q + 9 : Nat) : Int)).toNat s.size).toList = [z0, z1, z2, z3, z4, z5] := by rw [toL, Int.toNat_natCast, L_ext_end, ← List.drop_drop, hd5]; rfl
    have i15 : ((s.size : Int) = ((q + 15 : Nat) : Int)) := by rw [hsz]
    have i0 : ((q : Nat) : Int) < (s.size : Int) := by rw [hsz]; clear w1' w4' w7'; omega
    have i3 : ((q + 3 : Nat) : Int) < (s.size : Int) := by rw [hsz]; clear w1' w4' w7'; omega
    have i6 : ((q + 6 : Nat) : Int) < (s.size : Int) := by rw [hsz]; clear w1' w4' w7'; omega
    have i9 : ((q + 9 : Nat) : Int) ≤ (s.size : Int) := by rw [hsz]; clear w1' w4' w7'; omega
    have no : ∀ P : Prop, (∀ u0' u1' g0' g1' s0' s1', ([e0, u0, u1, e1, g0, g1, e2, s0, s1, z0, z1, z2, z3, z4, z5] : List UInt8) = 32 :: u0' :: u1' :: 58 :: g0' :: g1' :: 58 :: s0' :: s1' :: 32 :: zoL → ([u0', u1'] : List UInt8).all dC = true → ([g0', g1'] : List UInt8).all dC = true → ([s0', s1'] : List UInt8).all dC = true → False) → X = (0, 5) := fun P g => hb (fun ⟨u0', u1', g0', g1', s0', s1', a1, a2, a3, a4⟩ => g u0' u1' g0' g1' s0' s1' a1 a2 a3 a4)
    simp only [if_pos i15, if_pos (Int.natCast_nonneg q), if_pos i0, b0, if_pos (Int.natCast_nonneg (q + 3)), if_pos i3, b3, if_pos (Int.natCast_nonneg (q + 6)), if_pos i6, b6, if_pos (Int.natCast_nonneg (q + 9)), if_pos i9, b9]
    by_cases c0 : e0 = 32
    · simp only [if_pos (show (e0.toNat : Int) = 32 by rw [c0]; rfl)]
      by_cases c1 : e1 = 58
      · simp only [if_pos (show (e1.toNat : Int) = 58 by rw [c1]; rfl)]
        by_cases c2 : e2 = 58
        · simp only [if_pos (show (e2.toNat : Int) = 58 by rw [c2]; rfl)]
          by_cases c3 : ([z0, z1, z2, z3, z4, z5] : List UInt8) = 32 :: zoL
          · have hf : (([z0, z1, z2, z3, z4, z5] : List UInt8) != [32, 43, 48, 48, 48, 48]) = false := by rw [c3]; rfl
            rw [hf]
            have r1 := row_f (s := s) (by omega) (at_ := q + 1) (many := 2) (by clear w1' w4' w7'; omega) (by omega)
            rw [← List.drop_drop, hd5, show ([e0, u0, u1, e1, g0, g1, e2, s0, s1, z0, z1, z2, z3, z4, z5] : List UInt8).drop 1 = u0 :: u1 :: [e1, g0, g1, e2, s0, s1, z0, z1, z2, z3, z4, z5] from rfl, rw2] at r1
            have r4 := row_f (s := s) (by omega) (at_ := q + 4) (many := 2) (by clear w1' w4' w7'; omega) (by omega)
            rw [← List.drop_drop, hd5, show ([e0, u0, u1, e1, g0, g1, e2, s0, s1, z0, z1, z2, z3, z4, z5] : List UInt8).drop 4 = g0 :: g1 :: [e2, s0, s1, z0, z1, z2, z3, z4, z5] from rfl, rw2] at r4
            have r7 := row_f (s := s) (by omega) (at_ := q + 7) (many := 2) (by clear w1' w4' w7'; omega) (by omega)
            rw [← List.drop_drop, hd5, show ([e0, u0, u1, e1, g0, g1, e2, s0, s1, z0, z1, z2, z3, z4, z5] : List UInt8).drop 7 = s0 :: s1 :: [z0, z1, z2, z3, z4, z5] from rfl, rw2] at r7
            refine Ev.eq (f := fun k => (postriderref09_row.f k s ((q + 1 : Nat) : Int) 2).bind fun t174 => ((postriderref09_row.f k s ((q + 4 : Nat) : Int) 2).bind fun t175 => ((postriderref09_row.f k s ((q + 7 : Nat) : Int) 2).bind fun t176 => (if t174 < 0 then (postriderref09_ParseDate.j5 k i b c (dgN 0 Y : Int) t174 t175 t176 true) else (if t175 < 0 then (postriderref09_ParseDate.j5 k i b c (dgN 0 Y : Int) t174 t175 t176 true) else (postriderref09_ParseDate.j5 k i b c (dgN 0 Y : Int) t174 t175 t176 (decide (t176 < 0)))))))) (fun k => by simp only [postriderref09_ParseDate.j4, Bool.false_eq_true, if_false, w1', w4', w7']) ?_
            refine Ev.bind2 r1 (Ev.bind2 r4 (Ev.bind2 r7 ?_))
            clear w1' w4' w7'
            by_cases d1 : ([u0, u1] : List UInt8).all dC = true
            · simp only [if_pos d1, if_neg (show ¬ (dgN 0 [u0, u1] : Int) < 0 by omega)]
              by_cases d2 : ([g0, g1] : List UInt8).all dC = true
              · simp only [if_pos d2, if_neg (show ¬ (dgN 0 [g0, g1] : Int) < 0 by omega)]
                by_cases d3 : ([s0, s1] : List UInt8).all dC = true
                · simp only [if_pos d3, decide_eq_false (show ¬ (dgN 0 [s0, s1] : Int) < 0 by omega)]
                  exact h e0 u0 u1 e1 g0 g1 e2 s0 s1 z0 z1 z2 z3 z4 z5 rfl c0 c1 c2 c3 d1 d2 d3
                · simp only [if_neg d3]
                  rw [no True (fun _ _ _ _ _ _ a1 _ _ a4 => by simp only [List.cons.injEq] at a1; obtain ⟨_, rfl, rfl, _, rfl, rfl, _, rfl, rfl, _⟩ := a1; exact d3 a4)]
                  exact rf_j5t _ _ _ _ _ _ _
              · simp only [if_neg d2, if_pos (show (-1 : Int) < 0 by omega)]
                rw [no True (fun _ _ _ _ _ _ a1 _ a3 _ => by simp only [List.cons.injEq] at a1; obtain ⟨_, rfl, rfl, _, rfl, rfl, _, rfl, rfl, _⟩ := a1; exact d2 a3)]
                exact rf_j5t _ _ _ _ _ _ _
            · simp only [if_neg d1, if_pos (show (-1 : Int) < 0 by omega)]
              rw [no True (fun _ _ _ _ _ _ a1 a2 _ _ => by simp only [List.cons.injEq] at a1; obtain ⟨_, rfl, rfl, _, rfl, rfl, _, rfl, rfl, _⟩ := a1; exact d1 a2)]
              exact rf_j5t _ _ _ _ _ _ _
          · have hf : (([z0, z1, z2, z3, z4, z5] : List UInt8) != [32, 43, 48, 48, 48, 48]) = true := by rw [bne_iff_ne]; exact c3
            rw [hf, no True (fun _ _ _ _ _ _ a1 _ _ _ => c3 (by simp only [List.cons.injEq] at a1; obtain ⟨_, _, _, _, _, _, _, _, _, a⟩ := a1; simp only [List.cons.injEq]; exact a))]
            exact rf_j4t _ _ _ _ _ _
        · simp only [if_neg (show ¬ (e2.toNat : Int) = 58 from fun g => c2 ((c_eq e2 58).1 g))]
          rw [no True (fun _ _ _ _ _ _ a1 _ _ _ => c2 (by simp only [List.cons.injEq] at a1; exact a1.2.2.2.2.2.2.1))]
          exact rf_j4t _ _ _ _ _ _
      · simp only [if_neg (show ¬ (e1.toNat : Int) = 58 from fun g => c1 ((c_eq e1 58).1 g))]
        rw [no True (fun _ _ _ _ _ _ a1 _ _ _ => c1 (by simp only [List.cons.injEq] at a1; exact a1.2.2.2.1))]
        exact rf_j4t _ _ _ _ _ _
    · simp only [if_neg (show ¬ (e0.toNat : Int) = 32 from fun g => c0 ((c_eq e0 32).1 g))]
      rw [no True (fun _ _ _ _ _ _ a1 _ _ _ => c0 (by simp only [List.cons.injEq] at a1; exact a1.1))]
      exact rf_j4t _ _ _ _ _ _
  · simp only [if_neg (show ¬ (s.size : Int) = ((q + 15 : Nat) : Int) by clear w1' w4' w7'; omega)]
    rw [hb (fun ⟨u0, u1, g0, g1, s0, s1, a1, _⟩ => c15 (by rw [a1]; rfl))]
    exact rf_j4t _ _ _ _ _ _
end Go.Proofs.YtoigafnaoaafeaaGreatDoor.S
