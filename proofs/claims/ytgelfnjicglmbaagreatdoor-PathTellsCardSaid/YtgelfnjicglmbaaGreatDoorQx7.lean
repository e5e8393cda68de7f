/- Walks of functions. -/
import Derived.Test.YtgelfnjicglmbaaGreatDoorQx0
set_option linter.unusedSimpArgs false
set_option linter.unusedVariables false
open Go.RowKit Go.Proofs.YtgelfnjicglmbaaGreatDoorW.PrintWords Go.Proofs.YtgelfnjicglmbaaGreatDoorW.PrintLast Go.Proofs.YtgelfnjicglmbaaGreatDoorW.PrintMore
set_option maxHeartbeats 8000000
set_option maxRecDepth 100000
attribute [local go_sem] max2_int min2_int max_two min_two max_three min_three max_four min_four
section
namespace Go.Proofs.YtgelfnjicglmbaaGreatDoor.Q

/-! ### postriderref04_Letter: function 85 -/
mutual
def postriderref04_Letter.j0 : Nat → Int → Bool → Option (Bool)
 | 0, _, _ => none
 | k + 1, x0, x26 => if x26 = true then (some true) else (postriderref04_Letter.l0 k x0 (⟨#[33, 35, 36, 37, 38, 39, 42, 43, 45, 47, 61, 63, 94, 95, 96, 123, 124, 125, 126]⟩ : ByteArray) 0)
def postriderref04_Letter.l0 : Nat → Int → ByteArray → Int → Option (Bool)
 | 0, _, _, _ => none
 | k + 1, x0, x3, x4 => if x4 < (x3.size : Int) then (if 0 ≤ x4 then (if (bt x3 x4) = x0 then (some true) else (postriderref04_Letter.l0 k x0 x3 (wrap64 (x4 + 1)))) else (none)) else (some false)
end
def postriderref04_Letter.f (k : Nat) (a0 : Int) : Option (Bool) := if a0 ≥ 97 then (if a0 ≤ 122 then (postriderref04_Letter.j0 k a0 true) else (if a0 ≥ 65 then (if a0 ≤ 90 then (postriderref04_Letter.j0 k a0 true) else (if a0 ≥ 48 then (postriderref04_Letter.j0 k a0 (decide (a0 ≤ 57))) else (postriderref04_Letter.j0 k a0 false))) else (if a0 ≥ 48 then (postriderref04_Letter.j0 k a0 (decide (a0 ≤ 57))) else (postriderref04_Letter.j0 k a0 false)))) else (if a0 ≥ 65 then (if a0 ≤ 90 then (postriderref04_Letter.j0 k a0 true) else (if a0 ≥ 48 then (postriderref04_Letter.j0 k a0 (decide (a0 ≤ 57))) else (postriderref04_Letter.j0 k a0 false))) else (if a0 ≥ 48 then (postriderref04_Letter.j0 k a0 (decide (a0 ≤ 57))) else (postriderref04_Letter.j0 k a0 false)))
theorem postriderref04_Letter.mono_l : ∀ k, (∀ y0 y1, LeO (postriderref04_Letter.j0 k y0 y1) (postriderref04_Letter.j0 (k + 1) y0 y1)) ∧ (∀ y0 y1 y2, LeO (postriderref04_Letter.l0 k y0 y1 y2) (postriderref04_Letter.l0 (k + 1) y0 y1 y2))
 | 0 => ⟨fun _ _ r h => by simp [postriderref04_Letter.j0] at h, fun _ _ _ r h => by simp [postriderref04_Letter.l0] at h⟩
 | k + 1 => by
  obtain ⟨ih0, ih1⟩ := postriderref04_Letter.mono_l k
  refine ⟨?_, ?_⟩
  ·intro y0 y1
   unfold postriderref04_Letter.j0
   repeat' first
   | (with_reducible first | exact ih0 _ _ | exact ih1 _ _ _ | exact LeO.refl _ | exact LeO.none _ | refine LeO.ite ?_ ?_ | refine LeO.bind ?_ (fun _ => ?_))
  ·intro y0 y1 y2
   unfold postriderref04_Letter.l0
   repeat' first
   | (with_reducible first | exact ih0 _ _ | exact ih1 _ _ _ | exact LeO.refl _ | exact LeO.none _ | refine LeO.ite ?_ ?_ | refine LeO.bind ?_ (fun _ => ?_))
theorem postriderref04_Letter.mono : ∀ a0 k, LeO (postriderref04_Letter.f k a0) (postriderref04_Letter.f (k + 1) a0) := by
 intro a0 k
 obtain ⟨ih0, ih1⟩ := postriderref04_Letter.mono_l k
 unfold postriderref04_Letter.f
 repeat' first
   | (with_reducible first | exact ih0 _ _ | exact ih1 _ _ _ | exact LeO.refl _ | exact LeO.none _ | refine LeO.ite ?_ ?_ | refine LeO.bind ?_ (fun _ => ?_))
theorem postriderref04_Letter.calls (k : Nat) (a0 : Int) (r : Bool) (w : World) (h : postriderref04_Letter.f k a0 = some r) :
  Calls Tryz.prog 85 #[.int .u8 a0] w fun e w' => e = .returned (.bool r) ∧ Drawn0 w w' := by
 have H : (if a0 ≥ 97 then (if a0 ≤ 122 then (postriderref04_Letter.j0 k a0 true) else (if a0 ≥ 65 then (if a0 ≤ 90 then (postriderref04_Letter.j0 k a0 true) else (if a0 ≥ 48 then (postriderref04_Letter.j0 k a0 (decide (a0 ≤ 57))) else (postriderref04_Letter.j0 k a0 false))) else (if a0 ≥ 48 then (postriderref04_Letter.j0 k a0 (decide (a0 ≤ 57))) else (postriderref04_Letter.j0 k a0 false)))) else (if a0 ≥ 65 then (if a0 ≤ 90 then (postriderref04_Letter.j0 k a0 true) else (if a0 ≥ 48 then (postriderref04_Letter.j0 k a0 (decide (a0 ≤ 57))) else (postriderref04_Letter.j0 k a0 false))) else (if a0 ≥ 48 then (postriderref04_Letter.j0 k a0 (decide (a0 ≤ 57))) else (postriderref04_Letter.j0 k a0 false)))) = some r := h
 clear h
 have HC2 := Aside0.mk H
 clear H
 go_enter Tryz.func85, Tryz.ntmps85
 go_upto_region 1 with (fail)
 go_cut [26] (fun v26 wc => ∃ (kq : Nat) (x26_1 : Bool), v26 = .bool x26_1 ∧ Aside0 (postriderref04_Letter.j0 kq a0 x26_1 = some r) ∧ Aside0 (kq ≤ k) ∧ Drawn0 w wc)
 case first =>
  have H := HC2.out
  clear HC2
  by_cases c3 : a0 ≥ 97
  ·rw [if_pos c3] at H
   have c3b0 : decide (97 ≤ a0) = true := decide_eq_true c3
   clear c3
   (first | rw [c3b0] | (simp only [i64_w, i32_w]; rw [c3b0]) | skip)
   by_cases c4 : a0 ≤ 122
   ·rw [if_pos c4] at H
    have c4b0 : decide (a0 ≤ 122) = true := decide_eq_true c4
    clear c4
    have H' := Aside0.mk H
    clear H
    go_wp2
    go_meet
    case rel => exact ⟨_, (true), rs, H', ⟨by first | omega | exact Nat.le_refl _⟩, dr⟩
   ·rw [if_neg c4] at H
    have c4b0 : decide (a0 ≤ 122) = false := decide_eq_false c4
    clear c4
    by_cases c5 : a0 ≥ 65
    ·rw [if_pos c5] at H
     have c5b0 : decide (65 ≤ a0) = true := decide_eq_true c5
     clear c5
     by_cases c6 : a0 ≤ 90
     ·rw [if_pos c6] at H
      have c6b0 : decide (a0 ≤ 90) = true := decide_eq_true c6
      clear c6
      have H' := Aside0.mk H
      clear H
      go_wp2
      go_meet
      case rel => exact ⟨_, (true), rs, H', ⟨by first | omega | exact Nat.le_refl _⟩, dr⟩
     ·rw [if_neg c6] at H
      have c6b0 : decide (a0 ≤ 90) = false := decide_eq_false c6
      clear c6
      by_cases c7 : a0 ≥ 48
      ·rw [if_pos c7] at H
       have c7b0 : decide (48 ≤ a0) = true := decide_eq_true c7
       clear c7
       have H' := Aside0.mk H
       clear H
       go_wp2
       go_meet
       case rel => exact ⟨_, (decide (a0 ≤ 57)), rs, H', ⟨by first | omega | exact Nat.le_refl _⟩, dr⟩
      ·rw [if_neg c7] at H
       have c7b0 : decide (48 ≤ a0) = false := decide_eq_false c7
       clear c7
       have H' := Aside0.mk H
       clear H
       go_wp2
       go_meet
       case rel => exact ⟨_, (false), rs, H', ⟨by first | omega | exact Nat.le_refl _⟩, dr⟩
    ·rw [if_neg c5] at H
     have c5b0 : decide (65 ≤ a0) = false := decide_eq_false c5
     clear c5
     by_cases c8 : a0 ≥ 48
     ·rw [if_pos c8] at H
      have c8b0 : decide (48 ≤ a0) = true := decide_eq_true c8
      clear c8
      have H' := Aside0.mk H
      clear H
      go_wp2
      go_meet
      case rel => exact ⟨_, (decide (a0 ≤ 57)), rs, H', ⟨by first | omega | exact Nat.le_refl _⟩, dr⟩
     ·rw [if_neg c8] at H
      have c8b0 : decide (48 ≤ a0) = false := decide_eq_false c8
      clear c8
      have H' := Aside0.mk H
      clear H
      go_wp2
      go_meet
      case rel => exact ⟨_, (false), rs, H', ⟨by first | omega | exact Nat.le_refl _⟩, dr⟩
  ·rw [if_neg c3] at H
   have c3b0 : decide (97 ≤ a0) = false := decide_eq_false c3
   clear c3
   (first | rw [c3b0] | (simp only [i64_w, i32_w]; rw [c3b0]) | skip)
   by_cases c9 : a0 ≥ 65
   ·rw [if_pos c9] at H
    have c9b0 : decide (65 ≤ a0) = true := decide_eq_true c9
    clear c9
    by_cases c10 : a0 ≤ 90
    ·rw [if_pos c10] at H
     have c10b0 : decide (a0 ≤ 90) = true := decide_eq_true c10
     clear c10
     have H' := Aside0.mk H
     clear H
     go_wp2
     go_meet
     case rel => exact ⟨_, (true), rs, H', ⟨by first | omega | exact Nat.le_refl _⟩, dr⟩
    ·rw [if_neg c10] at H
     have c10b0 : decide (a0 ≤ 90) = false := decide_eq_false c10
     clear c10
     by_cases c11 : a0 ≥ 48
     ·rw [if_pos c11] at H
      have c11b0 : decide (48 ≤ a0) = true := decide_eq_true c11
      clear c11
      have H' := Aside0.mk H
      clear H
      go_wp2
      go_meet
      case rel => exact ⟨_, (decide (a0 ≤ 57)), rs, H', ⟨by first | omega | exact Nat.le_refl _⟩, dr⟩
     ·rw [if_neg c11] at H
      have c11b0 : decide (48 ≤ a0) = false := decide_eq_false c11
      clear c11
      have H' := Aside0.mk H
      clear H
      go_wp2
      go_meet
      case rel => exact ⟨_, (false), rs, H', ⟨by first | omega | exact Nat.le_refl _⟩, dr⟩
   ·rw [if_neg c9] at H
    have c9b0 : decide (65 ≤ a0) = false := decide_eq_false c9
    clear c9
    by_cases c12 : a0 ≥ 48
    ·rw [if_pos c12] at H
     have c12b0 : decide (48 ≤ a0) = true := decide_eq_true c12
     clear c12
     have H' := Aside0.mk H
     clear H
     go_wp2
     go_meet
     case rel => exact ⟨_, (decide (a0 ≤ 57)), rs, H', ⟨by first | omega | exact Nat.le_refl _⟩, dr⟩
    ·rw [if_neg c12] at H
     have c12b0 : decide (48 ≤ a0) = false := decide_eq_false c12
     clear c12
     have H' := Aside0.mk H
     clear H
     go_wp2
     go_meet
     case rel => exact ⟨_, (false), rs, H', ⟨by first | omega | exact Nat.le_refl _⟩, dr⟩
 case rest =>
  clear HC2
  try clear c1
  try clear p2
  try clear c3
  try clear c3b0
  try clear c4
  try clear c4b0
  try clear c5
  try clear c5b0
  try clear c6
  try clear c6b0
  try clear c7
  try clear c7b0
  try clear c8
  try clear c8b0
  try clear c9
  try clear c9b0
  try clear c10
  try clear c10b0
  try clear c11
  try clear c11b0
  try clear c12
  try clear c12b0
  obtain ⟨kq, x26_1, rfl, HA, HJ1, ⟨mc1, rfl⟩⟩ := hcut
  cases kq with
  | zero => exact absurd HA.out (by simp [postriderref04_Letter.j0])
  | succ kj1 =>
   have H := HA.out
   clear HA
   simp only [postriderref04_Letter.j0] at H
   by_cases c13 : x26_1 = true
   ·subst c13
    replace H : (some true) = some r := by rw [if_pos rfl] at H; exact H
    obtain rfl := Option.some.inj H
    go_wp2
    go_ret
    exact ⟨by first | rfl | (simp [bneNil]; done) | (simp; done) | (simp [*]; done), dr⟩
   ·replace c13 := Bool.eq_false_iff.mpr c13
    subst c13
    replace H : (postriderref04_Letter.l0 kj1 a0 (⟨#[33, 35, 36, 37, 38, 39, 42, 43, 45, 47, 61, 63, 94, 95, 96, 123, 124, 125, 126]⟩ : ByteArray) 0) = some r := by rw [if_neg (show ¬ (false = true) by decide)] at H; exact H
    have H' := Aside0.mk H
    clear H
    go_wp2
    go_loopg [4] kj1 (fun kq v4 w' => ∃ (x4_2 : Int), v4 = .int .i64 x4_2 ∧ Aside0 (postriderref04_Letter.l0 kq a0 (⟨#[33, 35, 36, 37, 38, 39, 42, 43, 45, 47, 61, 63, 94, 95, 96, 123, 124, 125, 126]⟩ : ByteArray) x4_2 = some r) ∧ Aside0 (kq ≤ kj1) ∧ Drawn0 w w')
    case atStart => exact ⟨(0), rs, H', ⟨Nat.le_refl _⟩, dr⟩
    case round =>
     clear H'
     try clear c1
     try clear p2
     try clear c3
     try clear c3b0
     try clear c4
     try clear c4b0
     try clear c5
     try clear c5b0
     try clear c6
     try clear c6b0
     try clear c7
     try clear c7b0
     try clear c8
     try clear c8b0
     try clear c9
     try clear c9b0
     try clear c10
     try clear c10b0
     try clear c11
     try clear c11b0
     try clear c12
     try clear c12b0
     try clear c13
     try clear p2
     obtain ⟨x4_2, rfl, HA, HK2, ⟨m2, rfl⟩⟩ := hrel
     cases gk with
     | zero => exact absurd HA.out (by simp [postriderref04_Letter.l0])
     | succ k2 =>
      have H := HA.out
      clear HA
      simp only [postriderref04_Letter.l0] at H
      by_cases c14 : x4_2 < ((⟨#[33, 35, 36, 37, 38, 39, 42, 43, 45, 47, 61, 63, 94, 95, 96, 123, 124, 125, 126]⟩ : ByteArray).size : Int)
      ·rw [if_pos c14] at H
       have c14b0 : decide (x4_2 < ((⟨#[33, 35, 36, 37, 38, 39, 42, 43, 45, 47, 61, 63, 94, 95, 96, 123, 124, 125, 126]⟩ : ByteArray).size : Int)) = true := decide_eq_true c14
       have c14b0n : decide (x4_2 < 19) = true := c14b0
       clear c14
       by_cases c15 : 0 ≤ x4_2
       rotate_left
       ·rw [if_neg c15] at H
        exact ab H
       rw [if_pos c15] at H
       have c15b0 : decide (0 ≤ x4_2) = true := decide_eq_true c15
       clear c15
       by_cases c17 : (bt (⟨#[33, 35, 36, 37, 38, 39, 42, 43, 45, 47, 61, 63, 94, 95, 96, 123, 124, 125, 126]⟩ : ByteArray) x4_2) = a0
       ·rw [if_pos c17] at H
        have c17b0 : ((bt (⟨#[33, 35, 36, 37, 38, 39, 42, 43, 45, 47, 61, 63, 94, 95, 96, 123, 124, 125, 126]⟩ : ByteArray) x4_2) == a0) = true := beq_iff_eq.mpr c17
        have c17b1 : ((bt (⟨#[33, 35, 36, 37, 38, 39, 42, 43, 45, 47, 61, 63, 94, 95, 96, 123, 124, 125, 126]⟩ : ByteArray) x4_2) != a0) = false := bne_eq_false_iff_eq.mpr c17
        clear c17
        obtain rfl := Option.some.inj H
        have p16 : 0 ≤ (x4_2 : Int) := od
        have q16 : x4_2 < (19 : Int) := od
        have hx16 := bt_at (⟨#[33, 35, 36, 37, 38, 39, 42, 43, 45, 47, 61, 63, 94, 95, 96, 123, 124, 125, 126]⟩ : ByteArray) x4_2
        replace p16 := eq_true p16
        replace q16 := eq_true q16
        go_wp2
        go_ret
        exact ⟨by first | rfl | (simp [bneNil]; done) | (simp; done) | (simp [*]; done), dr⟩
       ·rw [if_neg c17] at H
        have c17b0 : ((bt (⟨#[33, 35, 36, 37, 38, 39, 42, 43, 45, 47, 61, 63, 94, 95, 96, 123, 124, 125, 126]⟩ : ByteArray) x4_2) == a0) = false := beq_eq_false_iff_ne.mpr c17
        have c17b1 : ((bt (⟨#[33, 35, 36, 37, 38, 39, 42, 43, 45, 47, 61, 63, 94, 95, 96, 123, 124, 125, 126]⟩ : ByteArray) x4_2) != a0) = true := bne_iff_ne.mpr c17
        have H' := Aside0.mk H
        clear H
        have p16 : 0 ≤ (x4_2 : Int) := od
        have q16 : x4_2 < (19 : Int) := od
        have hx16 := bt_at (⟨#[33, 35, 36, 37, 38, 39, 42, 43, 45, 47, 61, 63, 94, 95, 96, 123, 124, 125, 126]⟩ : ByteArray) x4_2
        replace p16 := eq_true p16
        replace q16 := eq_true q16
        go_wp2
        go_roundg k2
        case measure => have := HJ1.out; have := HK2.out; omega
        case rel => exact ⟨(wrap64 (x4_2 + 1)), rs, H', ⟨by have := HJ1.out; have := HK2.out; omega⟩, dr⟩
      ·rw [if_neg c14] at H
       have c14b0 : decide (x4_2 < ((⟨#[33, 35, 36, 37, 38, 39, 42, 43, 45, 47, 61, 63, 94, 95, 96, 123, 124, 125, 126]⟩ : ByteArray).size : Int)) = false := decide_eq_false c14
       have c14b0n : decide (x4_2 < 19) = false := c14b0
       clear c14
       obtain rfl := Option.some.inj H
       go_wp2
       go_ret
       exact ⟨by first | rfl | (simp [bneNil]; done) | (simp; done) | (simp [*]; done), dr⟩

/-! ### postriderref04_DotAtom: function 56 -/
def postriderref04_DotAtom.l0 : Nat → ByteArray → Bool → Int → Option (Bool)
 | 0, _, _, _ => none
 | k + 1, x0, x3, x4 => if x4 < (x0.size : Int) then (if 0 ≤ x4 then (if (bt x0 x4) = 46 then (if x3 = true then (some false) else (postriderref04_DotAtom.l0 k x0 true (wrap64 (x4 + 1)))) else ((postriderref04_Letter.f k (bt x0 x4)).bind fun t158 => (if t158 = true then (postriderref04_DotAtom.l0 k x0 false (wrap64 (x4 + 1))) else (some false)))) else (none)) else (some (!x3))
def postriderref04_DotAtom.f (k : Nat) (a0 : ByteArray) : Option (Bool) := postriderref04_DotAtom.l0 k a0 true 0
theorem postriderref04_DotAtom.mono_l : ∀ k, (∀ y0 y1 y2, LeO (postriderref04_DotAtom.l0 k y0 y1 y2) (postriderref04_DotAtom.l0 (k + 1) y0 y1 y2))
 | 0 => fun _ _ _ r h => by simp [postriderref04_DotAtom.l0] at h
 | k + 1 => by
  have ih0 := postriderref04_DotAtom.mono_l k
  ·intro y0 y1 y2
   unfold postriderref04_DotAtom.l0
   repeat' first
   | (with_reducible first | exact ih0 _ _ _ | exact postriderref04_Letter.mono _ _ | exact LeO.refl _ | exact LeO.none _ | refine LeO.ite ?_ ?_ | refine LeO.bind ?_ (fun _ => ?_))
theorem postriderref04_DotAtom.mono : ∀ a0 k, LeO (postriderref04_DotAtom.f k a0) (postriderref04_DotAtom.f (k + 1) a0) := by
 intro a0 k
 have ih0 := postriderref04_DotAtom.mono_l k
 unfold postriderref04_DotAtom.f
 repeat' first
   | (with_reducible first | exact ih0 _ _ _ | exact postriderref04_Letter.mono _ _ | exact LeO.refl _ | exact LeO.none _ | refine LeO.ite ?_ ?_ | refine LeO.bind ?_ (fun _ => ?_))
theorem postriderref04_DotAtom.calls (k : Nat) (a0 : ByteArray) (r : Bool) (w : World) (h : postriderref04_DotAtom.f k a0 = some r) :
  Calls Tryz.prog 56 #[.string a0] w fun e w' => e = .returned (.bool r) ∧ Drawn0 w w' := by
 have H : (postriderref04_DotAtom.l0 k a0 true 0) = some r := h
 clear h
 have H' := Aside0.mk H
 clear H
 go_enter Tryz.func56, Tryz.ntmps56
 go_wp2
 go_loopg [3, 4] k (fun kq v3 v4 w' => ∃ (x3_1 : Bool) (x4_1 : Int), v3 = .bool x3_1 ∧ v4 = .int .i64 x4_1 ∧ Aside0 (postriderref04_DotAtom.l0 kq a0 x3_1 x4_1 = some r) ∧ Aside0 (kq ≤ k) ∧ Drawn0 w w')
 case atStart => exact ⟨(true), (0), rs, rs, H', ⟨Nat.le_refl _⟩, dr⟩
 case round =>
  clear H'
  obtain ⟨x3_1, x4_1, rfl, rfl, HA, HK1, ⟨m1, rfl⟩⟩ := hrel
  cases gk with
  | zero => exact absurd HA.out (by simp [postriderref04_DotAtom.l0])
  | succ k1 =>
   have H := HA.out
   clear HA
   simp only [postriderref04_DotAtom.l0] at H
   by_cases c2 : x4_1 < (a0.size : Int)
   ·rw [if_pos c2] at H
    have c2b0 : decide (x4_1 < (a0.size : Int)) = true := decide_eq_true c2
    clear c2
    by_cases c3 : 0 ≤ x4_1
    rotate_left
    ·rw [if_neg c3] at H
     exact ab H
    rw [if_pos c3] at H
    have c3b0 : decide (0 ≤ x4_1) = true := decide_eq_true c3
    clear c3
    by_cases c5 : (bt a0 x4_1) = 46
    ·rw [if_pos c5] at H
     have c5b0 : ((bt a0 x4_1) == 46) = true := beq_iff_eq.mpr c5
     have c5b1 : ((bt a0 x4_1) != 46) = false := bne_eq_false_iff_eq.mpr c5
     clear c5
     by_cases c6 : x3_1 = true
     ·subst c6
      replace H : (some false) = some r := by rw [if_pos rfl] at H; exact H
      obtain rfl := Option.some.inj H
      have p4 : 0 ≤ (x4_1 : Int) := od
      have q4 : x4_1 < (a0.size : Int) := od
      have hx4 := bt_at a0 x4_1
      replace p4 := eq_true p4
      replace q4 := eq_true q4
      go_wp2
      go_ret
      exact ⟨by first | rfl | (simp [bneNil]; done) | (simp; done) | (simp [*]; done), dr⟩
     ·replace c6 := Bool.eq_false_iff.mpr c6
      subst c6
      replace H : (postriderref04_DotAtom.l0 k1 a0 true (wrap64 (x4_1 + 1))) = some r := by rw [if_neg (show ¬ (false = true) by decide)] at H; exact H
      have H' := Aside0.mk H
      clear H
      have p4 : 0 ≤ (x4_1 : Int) := od
      have q4 : x4_1 < (a0.size : Int) := od
      have hx4 := bt_at a0 x4_1
      replace p4 := eq_true p4
      replace q4 := eq_true q4
      go_wp2
      go_roundg k1
      case measure => have := HK1.out; omega
      case rel => exact ⟨(true), (wrap64 (x4_1 + 1)), rs, rs, H', ⟨by have := HK1.out; omega⟩, dr⟩
    ·rw [if_neg c5] at H
     have c5b0 : ((bt a0 x4_1) == 46) = false := beq_eq_false_iff_ne.mpr c5
     have c5b1 : ((bt a0 x4_1) != 46) = true := bne_iff_ne.mpr c5
     obtain ⟨t158, A80, H⟩ := Option.bind_eq_some_iff.mp H
     replace H : (if t158 = true then (postriderref04_DotAtom.l0 k1 a0 false (wrap64 (x4_1 + 1))) else (some false)) = some r := H
     have A8 := Aside0.mk A80
     clear A80
     by_cases c9 : t158 = true
     ·subst c9
      replace H : (postriderref04_DotAtom.l0 k1 a0 false (wrap64 (x4_1 + 1))) = some r := by rw [if_pos rfl] at H; exact H
      have H' := Aside0.mk H
      clear H
      have p4 : 0 ≤ (x4_1 : Int) := od
      have q4 : x4_1 < (a0.size : Int) := od
      have hx4 := bt_at a0 x4_1
      replace p4 := eq_true p4
      replace q4 := eq_true q4
      have p7 : 0 ≤ (x4_1 : Int) := od
      have q7 : x4_1 < (a0.size : Int) := od
      have hx7 := bt_at a0 x4_1
      replace p7 := eq_true p7
      replace q7 := eq_true q7
      go_wp2_with (first | ((with_reducible refine gate_callee (f := 85) rfl ?_); refine goesL_ (some 19) rfl rfl Tryz.func85 kf rfl #[.int .u8 (bt a0 x4_1)] rfl ml ?_; (with_reducible refine (postriderref04_Letter.calls k1 (bt a0 x4_1) true _ A8.out).mono ?_); rintro e w' ⟨rfl, ⟨nd, rfl⟩⟩; refine ⟨_, rfl, ?_⟩))
      go_roundg k1
      case measure => have := HK1.out; omega
      case rel => exact ⟨(false), (wrap64 (x4_1 + 1)), rs, rs, H', ⟨by have := HK1.out; omega⟩, dr⟩
     ·replace c9 := Bool.eq_false_iff.mpr c9
      subst c9
      replace H : (some false) = some r := by rw [if_neg (show ¬ (false = true) by decide)] at H; exact H
      obtain rfl := Option.some.inj H
      have p4 : 0 ≤ (x4_1 : Int) := od
      have q4 : x4_1 < (a0.size : Int) := od
      have hx4 := bt_at a0 x4_1
      replace p4 := eq_true p4
      replace q4 := eq_true q4
      have p7 : 0 ≤ (x4_1 : Int) := od
      have q7 : x4_1 < (a0.size : Int) := od
      have hx7 := bt_at a0 x4_1
      replace p7 := eq_true p7
      replace q7 := eq_true q7
      go_wp2_with (first | ((with_reducible refine gate_callee (f := 85) rfl ?_); refine goesL_ (some 19) rfl rfl Tryz.func85 kf rfl #[.int .u8 (bt a0 x4_1)] rfl ml ?_; (with_reducible refine (postriderref04_Letter.calls k1 (bt a0 x4_1) false _ A8.out).mono ?_); rintro e w' ⟨rfl, ⟨nd, rfl⟩⟩; refine ⟨_, rfl, ?_⟩))
      go_ret
      exact ⟨by first | rfl | (simp [bneNil]; done) | (simp; done) | (simp [*]; done), dr⟩
   ·rw [if_neg c2] at H
    have c2b0 : decide (x4_1 < (a0.size : Int)) = false := decide_eq_false c2
    clear c2
    obtain rfl := Option.some.inj H
    go_wp2
    go_ret
    exact ⟨by first | rfl | (simp [bneNil]; done) | (simp; done) | (simp [*]; done), dr⟩

/-! ### postriderref04_Quote: function 57 -/
def postriderref04_Quote.l0 : Nat → ByteArray → ByteArray → Int → Option (ByteArray × Int)
 | 0, _, _, _ => none
 | k + 1, x0, x4, x5 => if x5 < (x0.size : Int) then (if 0 ≤ x5 then (if (bt x0 x5) = 34 then (if x4.size + 1 ≤ 9223372036854775807 then (if x5 ≤ (wrap64 (x5 + 1)) then (if (wrap64 (x5 + 1)) ≤ (x0.size : Int) then (if (x4 ++ (⟨#[92]⟩ : ByteArray)).size + (x0.extract (x5 : Int).toNat ((wrap64 (x5 + 1)) : Int).toNat).size ≤ 9223372036854775807 then (postriderref04_Quote.l0 k x0 ((x4 ++ (⟨#[92]⟩ : ByteArray)) ++ (x0.extract (x5 : Int).toNat ((wrap64 (x5 + 1)) : Int).toNat)) (wrap64 (x5 + 1))) else (none)) else (none)) else (none)) else (none)) else (if (bt x0 x5) = 92 then (if x4.size + 1 ≤ 9223372036854775807 then (if x5 ≤ (wrap64 (x5 + 1)) then (if (wrap64 (x5 + 1)) ≤ (x0.size : Int) then (if (x4 ++ (⟨#[92]⟩ : ByteArray)).size + (x0.extract (x5 : Int).toNat ((wrap64 (x5 + 1)) : Int).toNat).size ≤ 9223372036854775807 then (postriderref04_Quote.l0 k x0 ((x4 ++ (⟨#[92]⟩ : ByteArray)) ++ (x0.extract (x5 : Int).toNat ((wrap64 (x5 + 1)) : Int).toNat)) (wrap64 (x5 + 1))) else (none)) else (none)) else (none)) else (none)) else (if x5 ≤ (wrap64 (x5 + 1)) then (if (wrap64 (x5 + 1)) ≤ (x0.size : Int) then (if x4.size + (x0.extract (x5 : Int).toNat ((wrap64 (x5 + 1)) : Int).toNat).size ≤ 9223372036854775807 then (postriderref04_Quote.l0 k x0 (x4 ++ (x0.extract (x5 : Int).toNat ((wrap64 (x5 + 1)) : Int).toNat)) (wrap64 (x5 + 1))) else (none)) else (none)) else (none)))) else (none)) else (if x4.size + 1 ≤ 9223372036854775807 then (some (x4 ++ (⟨#[34]⟩ : ByteArray), 0)) else (none))
def postriderref04_Quote.f (k : Nat) (a0 : ByteArray) : Option (ByteArray × Int) := (postriderref04_Plain.f k a0).bind fun t159 => (if t159 = true then (postriderref04_Quote.l0 k a0 (⟨#[34]⟩ : ByteArray) 0) else (some ((⟨#[]⟩ : ByteArray), 5)))
theorem postriderref04_Quote.mono_l : ∀ k, (∀ y0 y1 y2, LeO (postriderref04_Quote.l0 k y0 y1 y2) (postriderref04_Quote.l0 (k + 1) y0 y1 y2))
 | 0 => fun _ _ _ r h => by simp [postriderref04_Quote.l0] at h
 | k + 1 => by
  have ih0 := postriderref04_Quote.mono_l k
  ·intro y0 y1 y2
   unfold postriderref04_Quote.l0
   repeat' first
   | (with_reducible first | exact ih0 _ _ _ | exact postriderref04_Plain.mono _ _ | exact LeO.refl _ | exact LeO.none _ | refine LeO.ite ?_ ?_ | refine LeO.bind ?_ (fun _ => ?_))
theorem postriderref04_Quote.mono : ∀ a0 k, LeO (postriderref04_Quote.f k a0) (postriderref04_Quote.f (k + 1) a0) := by
 intro a0 k
 have ih0 := postriderref04_Quote.mono_l k
 unfold postriderref04_Quote.f
 repeat' first
   | (with_reducible first | exact ih0 _ _ _ | exact postriderref04_Plain.mono _ _ | exact LeO.refl _ | exact LeO.none _ | refine LeO.ite ?_ ?_ | refine LeO.bind ?_ (fun _ => ?_))
theorem postriderref04_Quote.calls (k : Nat) (a0 : ByteArray) (r1 : ByteArray) (r2 : Int) (w : World) (h : postriderref04_Quote.f k a0 = some (r1, r2)) :
  Calls Tryz.prog 57 #[.string a0] w fun e w' => e = .returned (.tuple #[.string r1, .int .i64 r2]) ∧ Drawn0 w w' := by
 have H : ((postriderref04_Plain.f k a0).bind fun t159 => (if t159 = true then (postriderref04_Quote.l0 k a0 (⟨#[34]⟩ : ByteArray) 0) else (some ((⟨#[]⟩ : ByteArray), 5)))) = some (r1, r2) := h
 clear h
 obtain ⟨t159, A20, H⟩ := Option.bind_eq_some_iff.mp H
 replace H : (if t159 = true then (postriderref04_Quote.l0 k a0 (⟨#[34]⟩ : ByteArray) 0) else (some ((⟨#[]⟩ : ByteArray), 5))) = some (r1, r2) := H
 have A2 := Aside0.mk A20
 clear A20
 by_cases c3 : t159 = true
 ·subst c3
  replace H : (postriderref04_Quote.l0 k a0 (⟨#[34]⟩ : ByteArray) 0) = some (r1, r2) := by rw [if_pos rfl] at H; exact H
  have H' := Aside0.mk H
  clear H
  go_enter Tryz.func57, Tryz.ntmps57
  go_wp2_with (first | ((with_reducible refine gate_callee (f := 54) rfl ?_); refine goesL_ (some 7) rfl rfl Tryz.func54 kf rfl #[.string a0] rfl ml ?_; (with_reducible refine (postriderref04_Plain.calls k a0 true _ A2.out).mono ?_); rintro e w' ⟨rfl, ⟨nd, rfl⟩⟩; refine ⟨_, rfl, ?_⟩))
  go_loopg [4, 5] k (fun kq v4 v5 w' => ∃ (x4_1 : ByteArray) (x5_1 : Int), v4 = .string x4_1 ∧ v5 = .int .i64 x5_1 ∧ Aside0 (postriderref04_Quote.l0 kq a0 x4_1 x5_1 = some (r1, r2)) ∧ Aside0 (kq ≤ k) ∧ Drawn0 w w')
  case atStart => exact ⟨((⟨#[34]⟩ : ByteArray)), (0), rs, rs, H', ⟨Nat.le_refl _⟩, dr⟩
  case round =>
   clear H'
   try clear p2
   try clear c3
   obtain ⟨x4_1, x5_1, rfl, rfl, HA, HK1, ⟨m1, rfl⟩⟩ := hrel
   cases gk with
   | zero => exact absurd HA.out (by simp [postriderref04_Quote.l0])
   | succ k1 =>
    have H := HA.out
    clear HA
    simp only [postriderref04_Quote.l0] at H
    by_cases c4 : x5_1 < (a0.size : Int)
    ·rw [if_pos c4] at H
     have c4b0 : decide (x5_1 < (a0.size : Int)) = true := decide_eq_true c4
     clear c4
     by_cases c5 : 0 ≤ x5_1
     rotate_left
     ·rw [if_neg c5] at H
      exact ab H
     rw [if_pos c5] at H
     have c5b0 : decide (0 ≤ x5_1) = true := decide_eq_true c5
     clear c5
     by_cases c7 : (bt a0 x5_1) = 34
     ·rw [if_pos c7] at H
      have c7b0 : ((bt a0 x5_1) == 34) = true := beq_iff_eq.mpr c7
      have c7b1 : ((bt a0 x5_1) != 34) = false := bne_eq_false_iff_eq.mpr c7
      clear c7
      by_cases c8 : x4_1.size + 1 ≤ 9223372036854775807
      rotate_left
      ·rw [if_neg c8] at H
       exact ab H
      rw [if_pos c8] at H
      have c8b0 := eq_true c8
      have c8b1 : decide (x4_1.size + 1 ≤ 9223372036854775807) = true := decide_eq_true c8
      try have c8b2 : (9223372036854775807 < x4_1.size + 1) = False := eq_false (Nat.not_lt.2 c8)
      have c9b0 := eq_true (od : 0 ≤ x5_1)
      by_cases c10 : x5_1 ≤ (wrap64 (x5_1 + 1))
      rotate_left
      ·rw [if_neg c10] at H
       exact ab H
      rw [if_pos c10] at H
      have c10b0 := eq_true c10
      have c10b1 : decide (x5_1 ≤ (wrap64 (x5_1 + 1))) = true := decide_eq_true c10
      by_cases c11 : (wrap64 (x5_1 + 1)) ≤ (a0.size : Int)
      rotate_left
      ·rw [if_neg c11] at H
       exact ab H
      rw [if_pos c11] at H
      have c11b0 := eq_true c11
      have c11b1 : decide ((wrap64 (x5_1 + 1)) ≤ (a0.size : Int)) = true := decide_eq_true c11
      by_cases c12 : (x4_1 ++ (⟨#[92]⟩ : ByteArray)).size + (a0.extract (x5_1 : Int).toNat ((wrap64 (x5_1 + 1)) : Int).toNat).size ≤ 9223372036854775807
      rotate_left
      ·rw [if_neg c12] at H
       exact ab H
      rw [if_pos c12] at H
      have c12b0 := eq_true c12
      have c12b1 : decide ((x4_1 ++ (⟨#[92]⟩ : ByteArray)).size + (a0.extract (x5_1 : Int).toNat ((wrap64 (x5_1 + 1)) : Int).toNat).size ≤ 9223372036854775807) = true := decide_eq_true c12
      try have c12b2 : (9223372036854775807 < (x4_1 ++ (⟨#[92]⟩ : ByteArray)).size + (a0.extract (x5_1 : Int).toNat ((wrap64 (x5_1 + 1)) : Int).toNat).size) = False := eq_false (Nat.not_lt.2 c12)
      try (have c12b2y := c12b2; rw [ByteArray.size_append] at c12b2y)
      try have c12b2z : (9223372036854775807 < x4_1.size + 1 + ((a0.extract (x5_1 : Int).toNat ((wrap64 (x5_1 + 1)) : Int).toNat).size)) = False := eq_false (fun h_ => by have g_ := c12; simp only [ByteArray.size_append, show (⟨#[92]⟩ : ByteArray).size = 1 from rfl] at g_; omega)
      have H' := Aside0.mk H
      clear H
      have p6 : 0 ≤ (x5_1 : Int) := od
      have q6 : x5_1 < (a0.size : Int) := od
      have hx6 := bt_at a0 x5_1
      replace p6 := eq_true p6
      replace q6 := eq_true q6
      go_wp2
      go_roundg k1
      case measure => have := HK1.out; omega
      case rel => exact ⟨((x4_1 ++ (⟨#[92]⟩ : ByteArray)) ++ (a0.extract (x5_1 : Int).toNat ((wrap64 (x5_1 + 1)) : Int).toNat)), (wrap64 (x5_1 + 1)), rs, rs, H', ⟨by have := HK1.out; omega⟩, dr⟩
     ·rw [if_neg c7] at H
      have c7b0 : ((bt a0 x5_1) == 34) = false := beq_eq_false_iff_ne.mpr c7
      have c7b1 : ((bt a0 x5_1) != 34) = true := bne_iff_ne.mpr c7
      by_cases c14 : (bt a0 x5_1) = 92
      ·rw [if_pos c14] at H
       have c14b0 : ((bt a0 x5_1) == 92) = true := beq_iff_eq.mpr c14
       have c14b1 : ((bt a0 x5_1) != 92) = false := bne_eq_false_iff_eq.mpr c14
       clear c14
       by_cases c15 : x4_1.size + 1 ≤ 9223372036854775807
       rotate_left
       ·rw [if_neg c15] at H
        exact ab H
       rw [if_pos c15] at H
       have c15b0 := eq_true c15
       have c15b1 : decide (x4_1.size + 1 ≤ 9223372036854775807) = true := decide_eq_true c15
       try have c15b2 : (9223372036854775807 < x4_1.size + 1) = False := eq_false (Nat.not_lt.2 c15)
       have c16b0 := eq_true (od : 0 ≤ x5_1)
       by_cases c17 : x5_1 ≤ (wrap64 (x5_1 + 1))
       rotate_left
       ·rw [if_neg c17] at H
        exact ab H
       rw [if_pos c17] at H
       have c17b0 := eq_true c17
       have c17b1 : decide (x5_1 ≤ (wrap64 (x5_1 + 1))) = true := decide_eq_true c17
       by_cases c18 : (wrap64 (x5_1 + 1)) ≤ (a0.size : Int)
       rotate_left
       ·rw [if_neg c18] at H
        exact ab H
       rw [if_pos c18] at H
       have c18b0 := eq_true c18
       have c18b1 : decide ((wrap64 (x5_1 + 1)) ≤ (a0.size : Int)) = true := decide_eq_true c18
       by_cases c19 : (x4_1 ++ (⟨#[92]⟩ : ByteArray)).size + (a0.extract (x5_1 : Int).toNat ((wrap64 (x5_1 + 1)) : Int).toNat).size ≤ 9223372036854775807
       rotate_left
       ·rw [if_neg c19] at H
        exact ab H
       rw [if_pos c19] at H
       have c19b0 := eq_true c19
       have c19b1 : decide ((x4_1 ++ (⟨#[92]⟩ : ByteArray)).size + (a0.extract (x5_1 : Int).toNat ((wrap64 (x5_1 + 1)) : Int).toNat).size ≤ 9223372036854775807) = true := decide_eq_true c19
       try have c19b2 : (9223372036854775807 < (x4_1 ++ (⟨#[92]⟩ : ByteArray)).size + (a0.extract (x5_1 : Int).toNat ((wrap64 (x5_1 + 1)) : Int).toNat).size) = False := eq_false (Nat.not_lt.2 c19)
       try (have c19b2y := c19b2; rw [ByteArray.size_append] at c19b2y)
       try have c19b2z : (9223372036854775807 < x4_1.size + 1 + ((a0.extract (x5_1 : Int).toNat ((wrap64 (x5_1 + 1)) : Int).toNat).size)) = False := eq_false (fun h_ => by have g_ := c19; simp only [ByteArray.size_append, show (⟨#[92]⟩ : ByteArray).size = 1 from rfl] at g_; omega)
       have H' := Aside0.mk H
       clear H
       have p6 : 0 ≤ (x5_1 : Int) := od
       have q6 : x5_1 < (a0.size : Int) := od
       have hx6 := bt_at a0 x5_1
       replace p6 := eq_true p6
       replace q6 := eq_true q6
       have p13 : 0 ≤ (x5_1 : Int) := od
       have q13 : x5_1 < (a0.size : Int) := od
       have hx13 := bt_at a0 x5_1
       replace p13 := eq_true p13
       replace q13 := eq_true q13
       go_wp2
       go_roundg k1
       case measure => have := HK1.out; omega
       case rel => exact ⟨((x4_1 ++ (⟨#[92]⟩ : ByteArray)) ++ (a0.extract (x5_1 : Int).toNat ((wrap64 (x5_1 + 1)) : Int).toNat)), (wrap64 (x5_1 + 1)), rs, rs, H', ⟨by have := HK1.out; omega⟩, dr⟩
      ·rw [if_neg c14] at H
       have c14b0 : ((bt a0 x5_1) == 92) = false := beq_eq_false_iff_ne.mpr c14
       have c14b1 : ((bt a0 x5_1) != 92) = true := bne_iff_ne.mpr c14
       have c20b0 := eq_true (od : 0 ≤ x5_1)
       by_cases c21 : x5_1 ≤ (wrap64 (x5_1 + 1))
       rotate_left
       ·rw [if_neg c21] at H
        exact ab H
       rw [if_pos c21] at H
       have c21b0 := eq_true c21
       have c21b1 : decide (x5_1 ≤ (wrap64 (x5_1 + 1))) = true := decide_eq_true c21
       by_cases c22 : (wrap64 (x5_1 + 1)) ≤ (a0.size : Int)
       rotate_left
       ·rw [if_neg c22] at H
        exact ab H
       rw [if_pos c22] at H
       have c22b0 := eq_true c22
       have c22b1 : decide ((wrap64 (x5_1 + 1)) ≤ (a0.size : Int)) = true := decide_eq_true c22
       by_cases c23 : x4_1.size + (a0.extract (x5_1 : Int).toNat ((wrap64 (x5_1 + 1)) : Int).toNat).size ≤ 9223372036854775807
       rotate_left
       ·rw [if_neg c23] at H
        exact ab H
       rw [if_pos c23] at H
       have c23b0 := eq_true c23
       have c23b1 : decide (x4_1.size + (a0.extract (x5_1 : Int).toNat ((wrap64 (x5_1 + 1)) : Int).toNat).size ≤ 9223372036854775807) = true := decide_eq_true c23
       try have c23b2 : (9223372036854775807 < x4_1.size + (a0.extract (x5_1 : Int).toNat ((wrap64 (x5_1 + 1)) : Int).toNat).size) = False := eq_false (Nat.not_lt.2 c23)
       have H' := Aside0.mk H
       clear H
       have p6 : 0 ≤ (x5_1 : Int) := od
       have q6 : x5_1 < (a0.size : Int) := od
       have hx6 := bt_at a0 x5_1
       replace p6 := eq_true p6
       replace q6 := eq_true q6
       have p13 : 0 ≤ (x5_1 : Int) := od
       have q13 : x5_1 < (a0.size : Int) := od
       have hx13 := bt_at a0 x5_1
       replace p13 := eq_true p13
       replace q13 := eq_true q13
       go_wp2
       go_roundg k1
       case measure => have := HK1.out; omega
       case rel => exact ⟨(x4_1 ++ (a0.extract (x5_1 : Int).toNat ((wrap64 (x5_1 + 1)) : Int).toNat)), (wrap64 (x5_1 + 1)), rs, rs, H', ⟨by have := HK1.out; omega⟩, dr⟩
    ·rw [if_neg c4] at H
     have c4b0 : decide (x5_1 < (a0.size : Int)) = false := decide_eq_false c4
     clear c4
     by_cases c24 : x4_1.size + 1 ≤ 9223372036854775807
     rotate_left
     ·rw [if_neg c24] at H
      exact ab H
     rw [if_pos c24] at H
     have c24b0 := eq_true c24
     have c24b1 : decide (x4_1.size + 1 ≤ 9223372036854775807) = true := decide_eq_true c24
     try have c24b2 : (9223372036854775807 < x4_1.size + 1) = False := eq_false (Nat.not_lt.2 c24)
     simp only [Option.some.injEq, Prod.mk.injEq] at H
     obtain ⟨rfl, rfl⟩ := H
     go_wp2
     go_ret2
     exact ⟨by first | rfl | (simp [bneNil]; done) | (simp; done) | (simp [*]; done), dr⟩
 ·replace c3 := Bool.eq_false_iff.mpr c3
  subst c3
  replace H : (some ((⟨#[]⟩ : ByteArray), 5)) = some (r1, r2) := by rw [if_neg (show ¬ (false = true) by decide)] at H; exact H
  simp only [Option.some.injEq, Prod.mk.injEq] at H
  obtain ⟨rfl, rfl⟩ := H
  go_enter Tryz.func57, Tryz.ntmps57
  go_wp2_with (first | ((with_reducible refine gate_callee (f := 54) rfl ?_); refine goesL_ (some 7) rfl rfl Tryz.func54 kf rfl #[.string a0] rfl ml ?_; (with_reducible refine (postriderref04_Plain.calls k a0 false _ A2.out).mono ?_); rintro e w' ⟨rfl, ⟨nd, rfl⟩⟩; refine ⟨_, rfl, ?_⟩))
  go_ret2
  exact ⟨by first | rfl | (simp [bneNil]; done) | (simp; done) | (simp [*]; done), dr⟩

/-! ### postriderref05_Text: function 27 -/
def postriderref05_Text.f (k : Nat) (a0_0 : ByteArray) (a0_1 : ByteArray) : Option (ByteArray) := (postriderref05_May.f k a0_0 a0_1).bind fun t161 => (if t161 = true then ((postriderref04_DotAtom.f k a0_0).bind fun t162 => (if t162 = true then (if a0_0.size + 1 ≤ 9223372036854775807 then (if (a0_0 ++ (⟨#[64]⟩ : ByteArray)).size + a0_1.size ≤ 9223372036854775807 then (some ((a0_0 ++ (⟨#[64]⟩ : ByteArray)) ++ a0_1)) else (none)) else (none)) else ((postriderref04_Quote.f k a0_0).bind fun bt163 => (if bt163.1.size + 1 ≤ 9223372036854775807 then (if (bt163.1 ++ (⟨#[64]⟩ : ByteArray)).size + a0_1.size ≤ 9223372036854775807 then (some ((bt163.1 ++ (⟨#[64]⟩ : ByteArray)) ++ a0_1)) else (none)) else (none))))) else (some (⟨#[]⟩ : ByteArray)))
theorem postriderref05_Text.mono : ∀ a0 a1 k, LeO (postriderref05_Text.f k a0 a1) (postriderref05_Text.f (k + 1) a0 a1) := by
 intro a0 a1 k
 unfold postriderref05_Text.f
 repeat' first
   | (with_reducible first | exact postriderref04_DotAtom.mono _ _ | exact postriderref04_Quote.mono _ _ | exact postriderref05_May.mono _ _ _ | exact LeO.refl _ | exact LeO.none _ | refine LeO.ite ?_ ?_ | refine LeO.bind ?_ (fun _ => ?_))
theorem postriderref05_Text.calls (k : Nat) (a0_0 : ByteArray) (a0_1 : ByteArray) (r : ByteArray) (w : World) (h : postriderref05_Text.f k a0_0 a0_1 = some r) :
  Calls Tryz.prog 27 #[.agg #[.string a0_0, .string a0_1]] w fun e w' => e = .returned (.string r) ∧ Below w.heap.size w w' := by
 have hu29 := Tryz.underlying29
 have HB := Aside0.mk (Below.refl w.heap.size w)
 have H : ((postriderref05_May.f k a0_0 a0_1).bind fun t161 => (if t161 = true then ((postriderref04_DotAtom.f k a0_0).bind fun t162 => (if t162 = true then (if a0_0.size + 1 ≤ 9223372036854775807 then (if (a0_0 ++ (⟨#[64]⟩ : ByteArray)).size + a0_1.size ≤ 9223372036854775807 then (some ((a0_0 ++ (⟨#[64]⟩ : ByteArray)) ++ a0_1)) else (none)) else (none)) else ((postriderref04_Quote.f k a0_0).bind fun bt163 => (if bt163.1.size + 1 ≤ 9223372036854775807 then (if (bt163.1 ++ (⟨#[64]⟩ : ByteArray)).size + a0_1.size ≤ 9223372036854775807 then (some ((bt163.1 ++ (⟨#[64]⟩ : ByteArray)) ++ a0_1)) else (none)) else (none))))) else (some (⟨#[]⟩ : ByteArray)))) = some r := h
 clear h
 obtain ⟨t161, A20, H⟩ := Option.bind_eq_some_iff.mp H
 replace H : (if t161 = true then ((postriderref04_DotAtom.f k a0_0).bind fun t162 => (if t162 = true then (if a0_0.size + 1 ≤ 9223372036854775807 then (if (a0_0 ++ (⟨#[64]⟩ : ByteArray)).size + a0_1.size ≤ 9223372036854775807 then (some ((a0_0 ++ (⟨#[64]⟩ : ByteArray)) ++ a0_1)) else (none)) else (none)) else ((postriderref04_Quote.f k a0_0).bind fun bt163 => (if bt163.1.size + 1 ≤ 9223372036854775807 then (if (bt163.1 ++ (⟨#[64]⟩ : ByteArray)).size + a0_1.size ≤ 9223372036854775807 then (some ((bt163.1 ++ (⟨#[64]⟩ : ByteArray)) ++ a0_1)) else (none)) else (none))))) else (some (⟨#[]⟩ : ByteArray))) = some r := H
 have A2 := Aside0.mk A20
 clear A20
 by_cases c3 : t161 = true
 ·subst c3
  replace H : ((postriderref04_DotAtom.f k a0_0).bind fun t162 => (if t162 = true then (if a0_0.size + 1 ≤ 9223372036854775807 then (if (a0_0 ++ (⟨#[64]⟩ : ByteArray)).size + a0_1.size ≤ 9223372036854775807 then (some ((a0_0 ++ (⟨#[64]⟩ : ByteArray)) ++ a0_1)) else (none)) else (none)) else ((postriderref04_Quote.f k a0_0).bind fun bt163 => (if bt163.1.size + 1 ≤ 9223372036854775807 then (if (bt163.1 ++ (⟨#[64]⟩ : ByteArray)).size + a0_1.size ≤ 9223372036854775807 then (some ((bt163.1 ++ (⟨#[64]⟩ : ByteArray)) ++ a0_1)) else (none)) else (none))))) = some r := by rw [if_pos rfl] at H; exact H
  obtain ⟨t162, A40, H⟩ := Option.bind_eq_some_iff.mp H
  replace H : (if t162 = true then (if a0_0.size + 1 ≤ 9223372036854775807 then (if (a0_0 ++ (⟨#[64]⟩ : ByteArray)).size + a0_1.size ≤ 9223372036854775807 then (some ((a0_0 ++ (⟨#[64]⟩ : ByteArray)) ++ a0_1)) else (none)) else (none)) else ((postriderref04_Quote.f k a0_0).bind fun bt163 => (if bt163.1.size + 1 ≤ 9223372036854775807 then (if (bt163.1 ++ (⟨#[64]⟩ : ByteArray)).size + a0_1.size ≤ 9223372036854775807 then (some ((bt163.1 ++ (⟨#[64]⟩ : ByteArray)) ++ a0_1)) else (none)) else (none)))) = some r := H
  have A4 := Aside0.mk A40
  clear A40
  by_cases c5 : t162 = true
  ·subst c5
   replace H : (if a0_0.size + 1 ≤ 9223372036854775807 then (if (a0_0 ++ (⟨#[64]⟩ : ByteArray)).size + a0_1.size ≤ 9223372036854775807 then (some ((a0_0 ++ (⟨#[64]⟩ : ByteArray)) ++ a0_1)) else (none)) else (none)) = some r := by rw [if_pos rfl] at H; exact H
   by_cases c6 : a0_0.size + 1 ≤ 9223372036854775807
   rotate_left
   ·rw [if_neg c6] at H
    exact ab H
   rw [if_pos c6] at H
   have c6b0 := eq_true c6
   have c6b1 : decide (a0_0.size + 1 ≤ 9223372036854775807) = true := decide_eq_true c6
   try have c6b2 : (9223372036854775807 < a0_0.size + 1) = False := eq_false (Nat.not_lt.2 c6)
   by_cases c7 : (a0_0 ++ (⟨#[64]⟩ : ByteArray)).size + a0_1.size ≤ 9223372036854775807
   rotate_left
   ·rw [if_neg c7] at H
    exact ab H
   rw [if_pos c7] at H
   have c7b0 := eq_true c7
   have c7b1 : decide ((a0_0 ++ (⟨#[64]⟩ : ByteArray)).size + a0_1.size ≤ 9223372036854775807) = true := decide_eq_true c7
   try have c7b2 : (9223372036854775807 < (a0_0 ++ (⟨#[64]⟩ : ByteArray)).size + a0_1.size) = False := eq_false (Nat.not_lt.2 c7)
   try (have c7b2y := c7b2; rw [ByteArray.size_append] at c7b2y)
   try have c7b2z : (9223372036854775807 < a0_0.size + 1 + a0_1.size) = False := eq_false (fun h_ => by have g_ := c7; simp only [ByteArray.size_append, show (⟨#[64]⟩ : ByteArray).size = 1 from rfl] at g_; omega)
   obtain rfl := Option.some.inj H
   go_enter Tryz.func27, Tryz.ntmps27
   go_wp2_with (first | ((with_reducible refine gate_dst (N := 1) rfl ?_); refine box_event ?hg (N := 1) ?hd (cs := #[.string a0_0, .string a0_1]) (t := 29) ?hr ?_; (case hd => rfl); (case hg => rfl); (case hr => first | (go_simp; done) | (go_simp; rfl)); intro gb160 hg w8 hbox hb; have BK160 := Aside0.mk (hbox); have GW160 := Aside0.mk (gz hg : w.heap.size ≤ gb160); have GE160 := Aside0.mk (gz hg : w.heap.size ≤ gb160); replace HB := Aside0.mk (below_step bl hb); clear hb hbox hg; have hcz9_0 := cz BK160.out 0 (.string a0_0); have hcz9_1 := cz BK160.out 1 (.string a0_1); have hfz9_0 := blk_frozen BK160.out 0; have hfz9_1 := blk_frozen BK160.out 1) | ((with_reducible refine gate_callee (f := 26) rfl ?_); refine goesL_ (some 5) rfl rfl Tryz.func26 kf rfl #[.agg #[.string a0_0, .string a0_1]] rfl ml ?_; (with_reducible refine (postriderref05_May.calls k a0_0 a0_1 true _ A2.out).mono ?_); rintro e w10 ⟨rfl, hb⟩; refine ⟨_, rfl, ?_⟩; replace BK160 := Aside0.mk (kb BK160.out hb); replace HB := Aside0.mk (below_step bl hb); (try clear hb); (try clear hb2); (try clear hk); (try clear hi); have hcz11_0 := cz BK160.out 0 (.string a0_0); have hcz11_1 := cz BK160.out 1 (.string a0_1); have hfz11_0 := blk_frozen BK160.out 0; have hfz11_1 := blk_frozen BK160.out 1) | ((with_reducible refine gate_callee (f := 56) rfl ?_); refine goesL_ (some 10) rfl rfl Tryz.func56 kf rfl #[.string a0_0] rfl ml ?_; (with_reducible refine (postriderref04_DotAtom.calls k a0_0 true _ A4.out).mono ?_); rintro e w' ⟨rfl, ⟨nd, rfl⟩⟩; refine ⟨_, rfl, ?_⟩))
   go_ret
   exact ⟨rf, bl⟩
  ·replace c5 := Bool.eq_false_iff.mpr c5
   subst c5
   replace H : ((postriderref04_Quote.f k a0_0).bind fun bt163 => (if bt163.1.size + 1 ≤ 9223372036854775807 then (if (bt163.1 ++ (⟨#[64]⟩ : ByteArray)).size + a0_1.size ≤ 9223372036854775807 then (some ((bt163.1 ++ (⟨#[64]⟩ : ByteArray)) ++ a0_1)) else (none)) else (none))) = some r := by rw [if_neg (show ¬ (false = true) by decide)] at H; exact H
   obtain ⟨⟨t163, t164⟩, A120, H⟩ := Option.bind_eq_some_iff.mp H
   replace H : (if t163.size + 1 ≤ 9223372036854775807 then (if (t163 ++ (⟨#[64]⟩ : ByteArray)).size + a0_1.size ≤ 9223372036854775807 then (some ((t163 ++ (⟨#[64]⟩ : ByteArray)) ++ a0_1)) else (none)) else (none)) = some r := H
   have A12 := Aside0.mk A120
   clear A120
   by_cases c13 : t163.size + 1 ≤ 9223372036854775807
   rotate_left
   ·rw [if_neg c13] at H
    exact ab H
   rw [if_pos c13] at H
   have c13b0 := eq_true c13
   have c13b1 : decide (t163.size + 1 ≤ 9223372036854775807) = true := decide_eq_true c13
   try have c13b2 : (9223372036854775807 < t163.size + 1) = False := eq_false (Nat.not_lt.2 c13)
   by_cases c14 : (t163 ++ (⟨#[64]⟩ : ByteArray)).size + a0_1.size ≤ 9223372036854775807
   rotate_left
   ·rw [if_neg c14] at H
    exact ab H
   rw [if_pos c14] at H
   have c14b0 := eq_true c14
   have c14b1 : decide ((t163 ++ (⟨#[64]⟩ : ByteArray)).size + a0_1.size ≤ 9223372036854775807) = true := decide_eq_true c14
   try have c14b2 : (9223372036854775807 < (t163 ++ (⟨#[64]⟩ : ByteArray)).size + a0_1.size) = False := eq_false (Nat.not_lt.2 c14)
   try (have c14b2y := c14b2; rw [ByteArray.size_append] at c14b2y)
   try have c14b2z : (9223372036854775807 < t163.size + 1 + a0_1.size) = False := eq_false (fun h_ => by have g_ := c14; simp only [ByteArray.size_append, show (⟨#[64]⟩ : ByteArray).size = 1 from rfl] at g_; omega)
   obtain rfl := Option.some.inj H
   go_enter Tryz.func27, Tryz.ntmps27
   go_wp2_with (first | ((with_reducible refine gate_dst (N := 1) rfl ?_); refine box_event ?hg (N := 1) ?hd (cs := #[.string a0_0, .string a0_1]) (t := 29) ?hr ?_; (case hd => rfl); (case hg => rfl); (case hr => first | (go_simp; done) | (go_simp; rfl)); intro gb160 hg w15 hbox hb; have BK160 := Aside0.mk (hbox); have GW160 := Aside0.mk (gz hg : w.heap.size ≤ gb160); have GE160 := Aside0.mk (gz hg : w.heap.size ≤ gb160); replace HB := Aside0.mk (below_step bl hb); clear hb hbox hg; have hcz16_0 := cz BK160.out 0 (.string a0_0); have hcz16_1 := cz BK160.out 1 (.string a0_1); have hfz16_0 := blk_frozen BK160.out 0; have hfz16_1 := blk_frozen BK160.out 1) | ((with_reducible refine gate_callee (f := 26) rfl ?_); refine goesL_ (some 5) rfl rfl Tryz.func26 kf rfl #[.agg #[.string a0_0, .string a0_1]] rfl ml ?_; (with_reducible refine (postriderref05_May.calls k a0_0 a0_1 true _ A2.out).mono ?_); rintro e w17 ⟨rfl, hb⟩; refine ⟨_, rfl, ?_⟩; replace BK160 := Aside0.mk (kb BK160.out hb); replace HB := Aside0.mk (below_step bl hb); (try clear hb); (try clear hb2); (try clear hk); (try clear hi); have hcz18_0 := cz BK160.out 0 (.string a0_0); have hcz18_1 := cz BK160.out 1 (.string a0_1); have hfz18_0 := blk_frozen BK160.out 0; have hfz18_1 := blk_frozen BK160.out 1) | ((with_reducible refine gate_callee (f := 56) rfl ?_); refine goesL_ (some 10) rfl rfl Tryz.func56 kf rfl #[.string a0_0] rfl ml ?_; (with_reducible refine (postriderref04_DotAtom.calls k a0_0 false _ A4.out).mono ?_); rintro e w' ⟨rfl, ⟨nd, rfl⟩⟩; refine ⟨_, rfl, ?_⟩) | ((with_reducible refine gate_callee (f := 57) rfl ?_); refine goesL_ (some 14) rfl rfl Tryz.func57 kf rfl #[.string a0_0] rfl ml ?_; (with_reducible refine (postriderref04_Quote.calls k a0_0 t163 t164 _ A12.out).mono ?_); rintro e w' ⟨rfl, ⟨nd, rfl⟩⟩; refine ⟨_, rfl, ?_⟩))
   go_ret
   exact ⟨rf, bl⟩
 ·replace c3 := Bool.eq_false_iff.mpr c3
  subst c3
  replace H : (some (⟨#[]⟩ : ByteArray)) = some r := by rw [if_neg (show ¬ (false = true) by decide)] at H; exact H
  obtain rfl := Option.some.inj H
  go_enter Tryz.func27, Tryz.ntmps27
  go_wp2_with (first | ((with_reducible refine gate_dst (N := 1) rfl ?_); refine box_event ?hg (N := 1) ?hd (cs := #[.string a0_0, .string a0_1]) (t := 29) ?hr ?_; (case hd => rfl); (case hg => rfl); (case hr => first | (go_simp; done) | (go_simp; rfl)); intro gb160 hg w19 hbox hb; have BK160 := Aside0.mk (hbox); have GW160 := Aside0.mk (gz hg : w.heap.size ≤ gb160); have GE160 := Aside0.mk (gz hg : w.heap.size ≤ gb160); replace HB := Aside0.mk (below_step bl hb); clear hb hbox hg; have hcz20_0 := cz BK160.out 0 (.string a0_0); have hcz20_1 := cz BK160.out 1 (.string a0_1); have hfz20_0 := blk_frozen BK160.out 0; have hfz20_1 := blk_frozen BK160.out 1) | ((with_reducible refine gate_callee (f := 26) rfl ?_); refine goesL_ (some 5) rfl rfl Tryz.func26 kf rfl #[.agg #[.string a0_0, .string a0_1]] rfl ml ?_; (with_reducible refine (postriderref05_May.calls k a0_0 a0_1 false _ A2.out).mono ?_); rintro e w21 ⟨rfl, hb⟩; refine ⟨_, rfl, ?_⟩; replace BK160 := Aside0.mk (kb BK160.out hb); replace HB := Aside0.mk (below_step bl hb); (try clear hb); (try clear hb2); (try clear hk); (try clear hi)))
  go_ret
  exact ⟨rf, bl⟩

/-! ### postriderref06_Text: function 9 -/
def postriderref06_Text.f (k : Nat) (a0_0 : Bool) (a0_1 : Bool) (l0_2 : List ByteArray) (a0_3 : ByteArray) (a0_4 : ByteArray) : Option (ByteArray) := if a0_0 = true then (some (⟨#[60, 62]⟩ : ByteArray)) else (if a0_1 = true then (some (⟨#[60, 80, 111, 115, 116, 109, 97, 115, 116, 101, 114, 62]⟩ : ByteArray)) else ((postriderref05_May.f k a0_3 a0_4).bind fun t166 => (if t166 = true then ((postriderref05_Text.f k a0_3 a0_4).bind fun t167 => (if 1 + t167.size ≤ 9223372036854775807 then (if ((⟨#[60]⟩ : ByteArray) ++ t167).size + 1 ≤ 9223372036854775807 then (some (((⟨#[60]⟩ : ByteArray) ++ t167) ++ (⟨#[62]⟩ : ByteArray))) else (none)) else (none))) else (some (⟨#[]⟩ : ByteArray)))))
theorem postriderref06_Text.mono : ∀ a0 a1 a2 a3 a4 k, LeO (postriderref06_Text.f k a0 a1 a2 a3 a4) (postriderref06_Text.f (k + 1) a0 a1 a2 a3 a4) := by
 intro a0 a1 a2 a3 a4 k
 unfold postriderref06_Text.f
 repeat' first
   | (with_reducible first | exact postriderref05_May.mono _ _ _ | exact postriderref05_Text.mono _ _ _ | exact LeO.refl _ | exact LeO.none _ | refine LeO.ite ?_ ?_ | refine LeO.bind ?_ (fun _ => ?_))
theorem postriderref06_Text.calls (k : Nat) (a0_0 : Bool) (a0_1 : Bool) (A0_2 : Option Addr) (c0_2 : Nat) (l0_2 : List ByteArray) (a0_3 : ByteArray) (a0_4 : ByteArray) (r : ByteArray) (w : World) (hr0_2 : Kd.C Kd.string w A0_2 l0_2.length l0_2) (hc0_2 : l0_2.length ≤ c0_2) (h : postriderref06_Text.f k a0_0 a0_1 l0_2 a0_3 a0_4 = some r) :
  Calls Tryz.prog 9 #[.agg #[.bool a0_0, .bool a0_1, .slice A0_2 l0_2.length c0_2, .string a0_3, .string a0_4]] w fun e w' => e = .returned (.string r) ∧ Below w.heap.size w w' := by
 have hu31 := Tryz.underlying31
 have hu29 := Tryz.underlying29
 have HR0_2 := Aside0.mk hr0_2
 have HC0_2 := Aside0.mk hc0_2
 clear hr0_2 hc0_2
 have HB := Aside0.mk (Below.refl w.heap.size w)
 have H : (if a0_0 = true then (some (⟨#[60, 62]⟩ : ByteArray)) else (if a0_1 = true then (some (⟨#[60, 80, 111, 115, 116, 109, 97, 115, 116, 101, 114, 62]⟩ : ByteArray)) else ((postriderref05_May.f k a0_3 a0_4).bind fun t166 => (if t166 = true then ((postriderref05_Text.f k a0_3 a0_4).bind fun t167 => (if 1 + t167.size ≤ 9223372036854775807 then (if ((⟨#[60]⟩ : ByteArray) ++ t167).size + 1 ≤ 9223372036854775807 then (some (((⟨#[60]⟩ : ByteArray) ++ t167) ++ (⟨#[62]⟩ : ByteArray))) else (none)) else (none))) else (some (⟨#[]⟩ : ByteArray)))))) = some r := h
 clear h
 by_cases c2 : a0_0 = true
 ·subst c2
  replace H : (some (⟨#[60, 62]⟩ : ByteArray)) = some r := by rw [if_pos rfl] at H; exact H
  obtain rfl := Option.some.inj H
  go_enter Tryz.func9, Tryz.ntmps9
  go_wp2_with (first | ((with_reducible refine gate_dst (N := 1) rfl ?_); refine box_event ?hg (N := 1) ?hd (cs := #[.bool true, .bool a0_1, .slice A0_2 l0_2.length c0_2, .string a0_3, .string a0_4]) (t := 31) ?hr ?_; (case hd => rfl); (case hg => rfl); (case hr => first | (go_simp; done) | (go_simp; rfl)); intro gb165 hg w3 hbox hb; have BK165 := Aside0.mk (hbox); have GW165 := Aside0.mk (gz hg : w.heap.size ≤ gb165); have GE165 := Aside0.mk (gz hg : w.heap.size ≤ gb165); replace HB := Aside0.mk (below_step bl hb); clear hb hbox hg; have hcz4_0 := cz BK165.out 0 (.bool true); have hcz4_1 := cz BK165.out 1 (.bool a0_1); have hcz4_2 := cz BK165.out 2 (.slice A0_2 l0_2.length c0_2); have hcz4_3 := cz BK165.out 3 (.string a0_3); have hcz4_4 := cz BK165.out 4 (.string a0_4); have hfz4_0 := blk_frozen BK165.out 0; have hfz4_1 := blk_frozen BK165.out 1; have hfz4_2 := blk_frozen BK165.out 2; have hfz4_3 := blk_frozen BK165.out 3; have hfz4_4 := blk_frozen BK165.out 4))
  go_ret
  exact ⟨rf, bl⟩
 ·replace c2 := Bool.eq_false_iff.mpr c2
  subst c2
  replace H : (if a0_1 = true then (some (⟨#[60, 80, 111, 115, 116, 109, 97, 115, 116, 101, 114, 62]⟩ : ByteArray)) else ((postriderref05_May.f k a0_3 a0_4).bind fun t166 => (if t166 = true then ((postriderref05_Text.f k a0_3 a0_4).bind fun t167 => (if 1 + t167.size ≤ 9223372036854775807 then (if ((⟨#[60]⟩ : ByteArray) ++ t167).size + 1 ≤ 9223372036854775807 then (some (((⟨#[60]⟩ : ByteArray) ++ t167) ++ (⟨#[62]⟩ : ByteArray))) else (none)) else (none))) else (some (⟨#[]⟩ : ByteArray))))) = some r := by rw [if_neg (show ¬ (false = true) by decide)] at H; exact H
  by_cases c5 : a0_1 = true
  ·subst c5
   replace H : (some (⟨#[60, 80, 111, 115, 116, 109, 97, 115, 116, 101, 114, 62]⟩ : ByteArray)) = some r := by rw [if_pos rfl] at H; exact H
   obtain rfl := Option.some.inj H
   go_enter Tryz.func9, Tryz.ntmps9
   go_wp2_with (first | ((with_reducible refine gate_dst (N := 1) rfl ?_); refine box_event ?hg (N := 1) ?hd (cs := #[.bool false, .bool true, .slice A0_2 l0_2.length c0_2, .string a0_3, .string a0_4]) (t := 31) ?hr ?_; (case hd => rfl); (case hg => rfl); (case hr => first | (go_simp; done) | (go_simp; rfl)); intro gb165 hg w6 hbox hb; have BK165 := Aside0.mk (hbox); have GW165 := Aside0.mk (gz hg : w.heap.size ≤ gb165); have GE165 := Aside0.mk (gz hg : w.heap.size ≤ gb165); replace HB := Aside0.mk (below_step bl hb); clear hb hbox hg; have hcz7_0 := cz BK165.out 0 (.bool false); have hcz7_1 := cz BK165.out 1 (.bool true); have hcz7_2 := cz BK165.out 2 (.slice A0_2 l0_2.length c0_2); have hcz7_3 := cz BK165.out 3 (.string a0_3); have hcz7_4 := cz BK165.out 4 (.string a0_4); have hfz7_0 := blk_frozen BK165.out 0; have hfz7_1 := blk_frozen BK165.out 1; have hfz7_2 := blk_frozen BK165.out 2; have hfz7_3 := blk_frozen BK165.out 3; have hfz7_4 := blk_frozen BK165.out 4))
   go_ret
   exact ⟨rf, bl⟩
  ·replace c5 := Bool.eq_false_iff.mpr c5
   subst c5
   replace H : ((postriderref05_May.f k a0_3 a0_4).bind fun t166 => (if t166 = true then ((postriderref05_Text.f k a0_3 a0_4).bind fun t167 => (if 1 + t167.size ≤ 9223372036854775807 then (if ((⟨#[60]⟩ : ByteArray) ++ t167).size + 1 ≤ 9223372036854775807 then (some (((⟨#[60]⟩ : ByteArray) ++ t167) ++ (⟨#[62]⟩ : ByteArray))) else (none)) else (none))) else (some (⟨#[]⟩ : ByteArray)))) = some r := by rw [if_neg (show ¬ (false = true) by decide)] at H; exact H
   obtain ⟨t166, A80, H⟩ := Option.bind_eq_some_iff.mp H
   replace H : (if t166 = true then ((postriderref05_Text.f k a0_3 a0_4).bind fun t167 => (if 1 + t167.size ≤ 9223372036854775807 then (if ((⟨#[60]⟩ : ByteArray) ++ t167).size + 1 ≤ 9223372036854775807 then (some (((⟨#[60]⟩ : ByteArray) ++ t167) ++ (⟨#[62]⟩ : ByteArray))) else (none)) else (none))) else (some (⟨#[]⟩ : ByteArray))) = some r := H
   have A8 := Aside0.mk A80
   clear A80
   by_cases c9 : t166 = true
   ·subst c9
    replace H : ((postriderref05_Text.f k a0_3 a0_4).bind fun t167 => (if 1 + t167.size ≤ 9223372036854775807 then (if ((⟨#[60]⟩ : ByteArray) ++ t167).size + 1 ≤ 9223372036854775807 then (some (((⟨#[60]⟩ : ByteArray) ++ t167) ++ (⟨#[62]⟩ : ByteArray))) else (none)) else (none))) = some r := by rw [if_pos rfl] at H; exact H
    obtain ⟨t167, A100, H⟩ := Option.bind_eq_some_iff.mp H
    replace H : (if 1 + t167.size ≤ 9223372036854775807 then (if ((⟨#[60]⟩ : ByteArray) ++ t167).size + 1 ≤ 9223372036854775807 then (some (((⟨#[60]⟩ : ByteArray) ++ t167) ++ (⟨#[62]⟩ : ByteArray))) else (none)) else (none)) = some r := H
    have A10 := Aside0.mk A100
    clear A100
    by_cases c11 : 1 + t167.size ≤ 9223372036854775807
    rotate_left
    ·rw [if_neg c11] at H
     exact ab H
    rw [if_pos c11] at H
    have c11b0 := eq_true c11
    have c11b1 : decide (1 + t167.size ≤ 9223372036854775807) = true := decide_eq_true c11
    try have c11b2 : (9223372036854775807 < 1 + t167.size) = False := eq_false (Nat.not_lt.2 c11)
    by_cases c12 : ((⟨#[60]⟩ : ByteArray) ++ t167).size + 1 ≤ 9223372036854775807
    rotate_left
    ·rw [if_neg c12] at H
     exact ab H
    rw [if_pos c12] at H
    have c12b0 := eq_true c12
    have c12b1 : decide (((⟨#[60]⟩ : ByteArray) ++ t167).size + 1 ≤ 9223372036854775807) = true := decide_eq_true c12
    try have c12b2 : (9223372036854775807 < ((⟨#[60]⟩ : ByteArray) ++ t167).size + 1) = False := eq_false (Nat.not_lt.2 c12)
    try (have c12b2y := c12b2; rw [ByteArray.size_append] at c12b2y)
    try have c12b2z : (9223372036854775807 < 1 + t167.size + 1) = False := eq_false (fun h_ => by have g_ := c12; simp only [ByteArray.size_append, show (⟨#[60]⟩ : ByteArray).size = 1 from rfl] at g_; omega)
    obtain rfl := Option.some.inj H
    go_enter Tryz.func9, Tryz.ntmps9
    go_wp2_with (first | ((with_reducible refine gate_dst (N := 1) rfl ?_); refine box_event ?hg (N := 1) ?hd (cs := #[.bool false, .bool false, .slice A0_2 l0_2.length c0_2, .string a0_3, .string a0_4]) (t := 31) ?hr ?_; (case hd => rfl); (case hg => rfl); (case hr => first | (go_simp; done) | (go_simp; rfl)); intro gb165 hg w13 hbox hb; have BK165 := Aside0.mk (hbox); have GW165 := Aside0.mk (gz hg : w.heap.size ≤ gb165); have GE165 := Aside0.mk (gz hg : w.heap.size ≤ gb165); replace HB := Aside0.mk (below_step bl hb); clear hb hbox hg; have hcz14_0 := cz BK165.out 0 (.bool false); have hcz14_1 := cz BK165.out 1 (.bool false); have hcz14_2 := cz BK165.out 2 (.slice A0_2 l0_2.length c0_2); have hcz14_3 := cz BK165.out 3 (.string a0_3); have hcz14_4 := cz BK165.out 4 (.string a0_4); have hfz14_0 := blk_frozen BK165.out 0; have hfz14_1 := blk_frozen BK165.out 1; have hfz14_2 := blk_frozen BK165.out 2; have hfz14_3 := blk_frozen BK165.out 3; have hfz14_4 := blk_frozen BK165.out 4) | ((with_reducible refine gate_callee (f := 26) rfl ?_); refine goesL_ (some 9) rfl rfl Tryz.func26 kf rfl #[.agg #[.string a0_3, .string a0_4]] rfl ml ?_; (with_reducible refine (postriderref05_May.calls k a0_3 a0_4 true _ A8.out).mono ?_); rintro e w15 ⟨rfl, hb⟩; refine ⟨_, rfl, ?_⟩; replace BK165 := Aside0.mk (kb BK165.out hb); replace HB := Aside0.mk (below_step bl hb); (try clear hb); (try clear hb2); (try clear hk); (try clear hi); have hcz16_0 := cz BK165.out 0 (.bool false); have hcz16_1 := cz BK165.out 1 (.bool false); have hcz16_2 := cz BK165.out 2 (.slice A0_2 l0_2.length c0_2); have hcz16_3 := cz BK165.out 3 (.string a0_3); have hcz16_4 := cz BK165.out 4 (.string a0_4); have hfz16_0 := blk_frozen BK165.out 0; have hfz16_1 := blk_frozen BK165.out 1; have hfz16_2 := blk_frozen BK165.out 2; have hfz16_3 := blk_frozen BK165.out 3; have hfz16_4 := blk_frozen BK165.out 4) | ((with_reducible refine gate_callee (f := 27) rfl ?_); refine goesL_ (some 13) rfl rfl Tryz.func27 kf rfl #[.agg #[.string a0_3, .string a0_4]] rfl ml ?_; (with_reducible refine (postriderref05_Text.calls k a0_3 a0_4 t167 _ A10.out).mono ?_); rintro e w17 ⟨rfl, hb⟩; refine ⟨_, rfl, ?_⟩; replace BK165 := Aside0.mk (kb BK165.out hb); replace HB := Aside0.mk (below_step bl hb); (try clear hb); (try clear hb2); (try clear hk); (try clear hi)))
    go_ret
    exact ⟨rf, bl⟩
   ·replace c9 := Bool.eq_false_iff.mpr c9
    subst c9
    replace H : (some (⟨#[]⟩ : ByteArray)) = some r := by rw [if_neg (show ¬ (false = true) by decide)] at H; exact H
    obtain rfl := Option.some.inj H
    go_enter Tryz.func9, Tryz.ntmps9
    go_wp2_with (first | ((with_reducible refine gate_dst (N := 1) rfl ?_); refine box_event ?hg (N := 1) ?hd (cs := #[.bool false, .bool false, .slice A0_2 l0_2.length c0_2, .string a0_3, .string a0_4]) (t := 31) ?hr ?_; (case hd => rfl); (case hg => rfl); (case hr => first | (go_simp; done) | (go_simp; rfl)); intro gb165 hg w18 hbox hb; have BK165 := Aside0.mk (hbox); have GW165 := Aside0.mk (gz hg : w.heap.size ≤ gb165); have GE165 := Aside0.mk (gz hg : w.heap.size ≤ gb165); replace HB := Aside0.mk (below_step bl hb); clear hb hbox hg; have hcz19_0 := cz BK165.out 0 (.bool false); have hcz19_1 := cz BK165.out 1 (.bool false); have hcz19_2 := cz BK165.out 2 (.slice A0_2 l0_2.length c0_2); have hcz19_3 := cz BK165.out 3 (.string a0_3); have hcz19_4 := cz BK165.out 4 (.string a0_4); have hfz19_0 := blk_frozen BK165.out 0; have hfz19_1 := blk_frozen BK165.out 1; have hfz19_2 := blk_frozen BK165.out 2; have hfz19_3 := blk_frozen BK165.out 3; have hfz19_4 := blk_frozen BK165.out 4) | ((with_reducible refine gate_callee (f := 26) rfl ?_); refine goesL_ (some 9) rfl rfl Tryz.func26 kf rfl #[.agg #[.string a0_3, .string a0_4]] rfl ml ?_; (with_reducible refine (postriderref05_May.calls k a0_3 a0_4 false _ A8.out).mono ?_); rintro e w20 ⟨rfl, hb⟩; refine ⟨_, rfl, ?_⟩; replace BK165 := Aside0.mk (kb BK165.out hb); replace HB := Aside0.mk (below_step bl hb); (try clear hb); (try clear hb2); (try clear hk); (try clear hi)))
    go_ret
    exact ⟨rf, bl⟩

/-! ### postriderlaw06_Of: function 10 -/
def postriderlaw06_Of.f (a0_0 : Bool) (a0_1 : Bool) (l0_2 : List ByteArray) (a0_3 : ByteArray) (a0_4 : ByteArray) : Option (Bool × Bool × List ByteArray × ByteArray × ByteArray) := some (a0_0, a0_1, l0_2, a0_3, a0_4)
theorem postriderlaw06_Of.calls (a0_0 : Bool) (a0_1 : Bool) (P0_2_ : Nat → Prop) (A0_2 : Option Addr) (c0_2 : Nat) (l0_2 : List ByteArray) (a0_3 : ByteArray) (a0_4 : ByteArray) (r1 : Bool) (r2 : Bool) (r3 : List ByteArray) (r4 : ByteArray) (r5 : ByteArray) (w : World) (hs0_2 : Kd.V Kd.string 9 w w.heap.size (fun k_ => P0_2_ k_) (.slice A0_2 l0_2.length c0_2) l0_2) (h : postriderlaw06_Of.f a0_0 a0_1 l0_2 a0_3 a0_4 = some (r1, r2, r3, r4, r5)) :
  Calls Tryz.prog 10 #[.agg #[.bool a0_0, .bool a0_1, .slice A0_2 l0_2.length c0_2, .string a0_3, .string a0_4]] w fun e w' => ∃ v2_ : Value, e = .returned (.agg #[.bool r1, .bool r2, v2_, .string r4, .string r5]) ∧ Kd.V Kd.string 9 w' w.heap.size (fun k_ => (P0_2_ k_ ∨ w.heap.size ≤ k_)) v2_ r3 ∧ Below w.heap.size w w' := by
 have hu26 := Tryz.underlying26
 have hu31 := Tryz.underlying31
 have hu24 := Tryz.underlying24
 have HO0_2 := Aside0.mk (show Kd.V Kd.string 9 w w.heap.size (fun k_ => (P0_2_ k_ ∨ w.heap.size ≤ k_)) (.slice A0_2 l0_2.length c0_2) l0_2 from Kd.V_mono hs0_2 (fun k_ hk => .inl hk))
 have HB := Aside0.mk (Below.refl w.heap.size w)
 have H : (some (a0_0, a0_1, l0_2, a0_3, a0_4)) = some (r1, r2, r3, r4, r5) := h
 clear h
 simp only [Option.some.injEq, Prod.mk.injEq] at H
 obtain ⟨rfl, rfl, rfl, rfl, rfl⟩ := H
 go_enter Tryz.func10, Tryz.ntmps10
 go_wp2_with (first | ((with_reducible refine gate_dst (N := 1) rfl ?_); refine box_event ?hg (N := 1) ?hd (cs := #[.bool a0_0, .bool a0_1, .slice A0_2 l0_2.length c0_2, .string a0_3, .string a0_4]) (t := 26) ?hr ?_; (case hd => rfl); (case hg => rfl); (case hr => first | (go_simp; done) | (go_simp; rfl)); intro gb168 hg w2 hbox hb; replace HO0_2 := Aside0.mk (Kd.V_below (Kd.V_elderB (by (with_reducible repeat (first | apply Kd.V_alloc | apply Kd.V_drewN | apply Kd.V_drew)); exact HO0_2.out) gb168 (Nat.le_of_eq hg.symm)) hb); have BK168 := Aside0.mk (hbox); have GW168 := Aside0.mk (gz hg : w.heap.size ≤ gb168); have GE168 := Aside0.mk (gz hg : w.heap.size ≤ gb168); replace HB := Aside0.mk (below_step bl hb); clear hb hbox hg) | ((with_reducible refine gate_dst (N := 2) rfl ?_); refine box_event ?hg (N := 2) ?hd (cs := #[.bool false, .bool false, .slice none 0 0, .string (⟨#[]⟩ : ByteArray), .string (⟨#[]⟩ : ByteArray)]) (t := 31) ?hr ?_; (case hd => rfl); (case hg => rfl); (case hr => first | (go_simp; done) | (go_simp; rfl)); intro gb169 hg w3 hbox hb; replace HO0_2 := Aside0.mk (Kd.V_below (Kd.V_elderB (by (with_reducible repeat (first | apply Kd.V_alloc | apply Kd.V_drewN | apply Kd.V_drew)); exact HO0_2.out) gb169 (Nat.le_of_eq hg.symm)) hb); have BK169 := Aside0.mk (hbox); have GW169 := Aside0.mk (gz hg : w.heap.size ≤ gb169); have GE169 := Aside0.mk (gz hg : w.heap.size ≤ gb169); replace HB := Aside0.mk (below_step bl hb); have NB168_169 := Aside0.mk (nl hg BK168.out : gb168 ≠ gb169); have NB169_168 := Aside0.mk (ng hg BK168.out : gb169 ≠ gb168); replace BK168 := Aside0.mk (kb BK168.out hb); clear hb hbox hg; have hnb4 := NB168_169.out; have hnc4 := NB169_168.out; have hcz5_0 := cz BK168.out 0 (.bool a0_0); have hcz5_1 := cz BK168.out 1 (.bool a0_1); have hcz5_2 := cz BK168.out 2 (.slice A0_2 l0_2.length c0_2); have hcz5_3 := cz BK168.out 3 (.string a0_3); have hcz5_4 := cz BK168.out 4 (.string a0_4); have hfz5_0 := blk_frozen BK168.out 0; have hfz5_1 := blk_frozen BK168.out 1; have hfz5_2 := blk_frozen BK168.out 2; have hfz5_3 := blk_frozen BK168.out 3; have hfz5_4 := blk_frozen BK168.out 4; have hcz6_0 := cz BK169.out 0 (.bool false); have hcz6_1 := cz BK169.out 1 (.bool false); have hcz6_2 := cz BK169.out 2 (.slice none 0 0); have hcz6_3 := cz BK169.out 3 (.string (⟨#[]⟩ : ByteArray)); have hcz6_4 := cz BK169.out 4 (.string (⟨#[]⟩ : ByteArray)); have hfz6_0 := blk_frozen BK169.out 0; have hfz6_1 := blk_frozen BK169.out 1; have hfz6_2 := blk_frozen BK169.out 2; have hfz6_3 := blk_frozen BK169.out 3; have hfz6_4 := blk_frozen BK169.out 4))
 refine bodyPost_ret (results_cell_row rfl _ _ gb169 31 #[.bool a0_0, .bool a0_1, .slice A0_2 l0_2.length c0_2, .string a0_3, .string a0_4] (0, 0) _ rfl (by (with_reducible repeat (first | refine blk_drewN ?_ _ | refine blk_drew ?_ | refine blk_alloc ?_ _)); refine blk_put (cs := #[.bool a0_0, .bool a0_1, .slice A0_2 l0_2.length c0_2, .string a0_3, .string (⟨#[]⟩ : ByteArray)]) ?_ 4 _ rfl; (with_reducible repeat (first | refine blk_drewN ?_ _ | refine blk_drew ?_ | refine blk_alloc ?_ _)); refine blk_put (cs := #[.bool a0_0, .bool a0_1, .slice A0_2 l0_2.length c0_2, .string (⟨#[]⟩ : ByteArray), .string (⟨#[]⟩ : ByteArray)]) ?_ 3 _ rfl; (with_reducible repeat (first | refine blk_drewN ?_ _ | refine blk_drew ?_ | refine blk_alloc ?_ _)); refine blk_put (cs := #[.bool a0_0, .bool a0_1, .slice none 0 0, .string (⟨#[]⟩ : ByteArray), .string (⟨#[]⟩ : ByteArray)]) ?_ 2 _ rfl; (with_reducible repeat (first | refine blk_drewN ?_ _ | refine blk_drew ?_ | refine blk_alloc ?_ _)); refine blk_put (cs := #[.bool a0_0, .bool false, .slice none 0 0, .string (⟨#[]⟩ : ByteArray), .string (⟨#[]⟩ : ByteArray)]) ?_ 1 _ rfl; (with_reducible repeat (first | refine blk_drewN ?_ _ | refine blk_drew ?_ | refine blk_alloc ?_ _)); refine blk_put (cs := #[.bool false, .bool false, .slice none 0 0, .string (⟨#[]⟩ : ByteArray), .string (⟨#[]⟩ : ByteArray)]) ?_ 0 _ rfl; (with_reducible repeat (first | refine blk_drewN ?_ _ | refine blk_drew ?_ | refine blk_alloc ?_ _)); exact BK169.out) Tryz.underlying31 rfl kf) rfl ?_
 exact ⟨_, by first | rfl | (simp [errW_none, errW_some] <;> rfl) | (simp [*, errW_none, errW_some] <;> rfl), by (with_reducible repeat (first | apply Kd.V_alloc | apply Kd.V_drewN | apply Kd.V_drew)); exact Kd.V_mono (Kd.V_far (p := ⟨gb169, 4, none⟩) (Kd.V_far (p := ⟨gb169, 3, none⟩) (Kd.V_far (p := ⟨gb169, 2, none⟩) (Kd.V_far (p := ⟨gb169, 1, none⟩) (Kd.V_far (p := ⟨gb169, 0, none⟩) (Kd.V_mono HO0_2.out (fun k_ hk => (⟨hk, hk.2⟩ : _ ∧ k_ ≠ gb169))) (fun _ hk => hk.2) (.bool a0_0)) (fun _ hk => hk.2) (.bool a0_1)) (fun _ hk => hk.2) (.slice A0_2 l0_2.length c0_2)) (fun _ hk => hk.2) (.string a0_3)) (fun _ hk => hk.2) (.string a0_4)) (fun _ hk => hk.1.1.1), bl⟩

end Go.Proofs.YtgelfnjicglmbaaGreatDoor.Q
end
section
namespace Go.Proofs.YtgelfnjicglmbaaGreatDoor.Q

/-! ### strings_HasPrefix: function 38 -/
def strings_HasPrefix.f (a0 : ByteArray) (a1 : ByteArray) : Option (Bool) := (stringslite_HasPrefix.f a0 a1).bind fun t170 => (some t170)
theorem strings_HasPrefix.calls (a0 : ByteArray) (a1 : ByteArray) (r : Bool) (w : World) (h : strings_HasPrefix.f a0 a1 = some r) :
  Calls Tryz.prog 38 #[.string a0, .string a1] w fun e w' => e = .returned (.bool r) ∧ Drawn0 w w' := by
 have H : ((stringslite_HasPrefix.f a0 a1).bind fun t170 => (some t170)) = some r := h
 clear h
 obtain ⟨t170, A30, H⟩ := Option.bind_eq_some_iff.mp H
 replace H : (some t170) = some r := H
 have A3 := Aside0.mk A30
 clear A30
 obtain rfl := Option.some.inj H
 go_enter Tryz.func38, Tryz.ntmps38
 go_wp2_with (first | ((with_reducible refine gate_callee (f := 68) rfl ?_); refine goesL_ (some 7) rfl rfl Tryz.func68 kf rfl #[.string a0, .string a1] rfl ml ?_; (with_reducible refine (stringslite_HasPrefix.calls a0 a1 t170 _ A3.out).mono ?_); rintro e w' ⟨rfl, ⟨nd, rfl⟩⟩; refine ⟨_, rfl, ?_⟩))
 go_ret
 exact ⟨by first | rfl | (simp [bneNil]; done) | (simp; done) | (simp [*]; done), dr⟩

/-! ### strings_Cut: function 61 (by hand) -/
def strings_Cut.f (a0 a1 : ByteArray) : Option (ByteArray × ByteArray × Bool) := if a0.size < 4294967281 then some (⟨(Lib.cut a0.data.toList a1.data.toList).1.toArray⟩, ⟨(Lib.cut a0.data.toList a1.data.toList).2.1.toArray⟩, (Lib.cut a0.data.toList a1.data.toList).2.2) else none
theorem strings_Cut.calls (a0 a1 : ByteArray) (r1 r2 : ByteArray) (r3 : Bool) (w : World) (hG : Glob w) (h : strings_Cut.f a0 a1 = some (r1, r2, r3)) :
    Calls Tryz.prog 61 #[.string a0, .string a1] w fun e w' => e = .returned (.tuple #[.string r1, .string r2, .bool r3]) ∧ Drawn0 w w' := by
  unfold strings_Cut.f at h
  split at h
  · rename_i hs
    simp only [Option.some.injEq, Prod.mk.injEq] at h
    obtain ⟨rfl, rfl, rfl⟩ := h
    obtain ⟨m, hm⟩ := hG.mx
    refine (Tryz.strings_Cut a0 a1 m w hs hm).mono ?_
    rintro e w' ⟨rfl, nd, rfl⟩
    exact ⟨rfl, ⟨nd, rfl⟩⟩
  · cases h


/-! ### path_route: function 31 -/
def path_route.l0 : Nat → ByteArray → List ByteArray → List ByteArray → Int → Int → Option (List ByteArray × ByteArray × Bool)
 | 0, _, _, _, _, _ => none
 | k + 1, x6, x8, x26, x27, x28 => if x28 < x27 then (if 0 ≤ x28 then (if x28 < (x26.length : Int) then ((strings_CutPrefix.f (rdOf ByteArray.empty x26 x28) (⟨#[64]⟩ : ByteArray)).bind fun bt179 => (if bt179.2 = true then (if x8.length < 8796093022208 then (path_route.l0 k x6 (x8 ++ [bt179.1]) x26 x27 (wrap64 (x28 + 1))) else (none)) else (some (([] : List ByteArray), (⟨#[]⟩ : ByteArray), false)))) else (none)) else (none)) else (some (x8, x6, true))
def path_route.f (k : Nat) (a0 : ByteArray) : Option (List ByteArray × ByteArray × Bool) := (strings_HasPrefix.f a0 (⟨#[64]⟩ : ByteArray)).bind fun t171 => (if t171 = true then ((strings_Cut.f a0 (⟨#[58]⟩ : ByteArray)).bind fun bt172 => (if bt172.2.2 = true then ((text_Split.f k bt172.1 44).bind fun t175 => (path_route.l0 k bt172.2.1 ([] : List ByteArray) t175 (t175.length : Int) 0)) else (some (([] : List ByteArray), (⟨#[]⟩ : ByteArray), false)))) else (some (([] : List ByteArray), a0, true)))
theorem path_route.mono_l : ∀ k, (∀ y0 y1 y2 y3 y4, LeO (path_route.l0 k y0 y1 y2 y3 y4) (path_route.l0 (k + 1) y0 y1 y2 y3 y4))
 | 0 => fun _ _ _ _ _ r h => by simp [path_route.l0] at h
 | k + 1 => by
  have ih0 := path_route.mono_l k
  ·intro y0 y1 y2 y3 y4
   unfold path_route.l0
   repeat' first
   | (with_reducible first | exact ih0 _ _ _ _ _ | exact text_Split.mono _ _ _ | exact LeO.refl _ | exact LeO.none _ | refine LeO.ite ?_ ?_ | refine LeO.bind ?_ (fun _ => ?_))
theorem path_route.mono : ∀ a0 k, LeO (path_route.f k a0) (path_route.f (k + 1) a0) := by
 intro a0 k
 have ih0 := path_route.mono_l k
 unfold path_route.f
 repeat' first
   | (with_reducible first | exact ih0 _ _ _ _ _ | exact text_Split.mono _ _ _ | exact LeO.refl _ | exact LeO.none _ | refine LeO.ite ?_ ?_ | refine LeO.bind ?_ (fun _ => ?_))
theorem path_route.calls (k : Nat) (a0 : ByteArray) (r1 : List ByteArray) (r2 : ByteArray) (r3 : Bool) (w : World) (hG : Glob w) (h : path_route.f k a0 = some (r1, r2, r3)) :
  Calls Tryz.prog 31 #[.string a0] w fun e w' => ∃ v0_ : Value, e = .returned (.tuple #[v0_, .string r2, .bool r3]) ∧ Kd.R Kd.string 9 w' w.heap.size (fun _ => True) v0_ r1 ∧ Below w.heap.size w w' := by
 have HB := Aside0.mk (Below.refl w.heap.size w)
 have HG := Aside0.mk hG
 clear hG
 have H : ((strings_HasPrefix.f a0 (⟨#[64]⟩ : ByteArray)).bind fun t171 => (if t171 = true then ((strings_Cut.f a0 (⟨#[58]⟩ : ByteArray)).bind fun bt172 => (if bt172.2.2 = true then ((text_Split.f k bt172.1 44).bind fun t175 => (path_route.l0 k bt172.2.1 ([] : List ByteArray) t175 (t175.length : Int) 0)) else (some (([] : List ByteArray), (⟨#[]⟩ : ByteArray), false)))) else (some (([] : List ByteArray), a0, true)))) = some (r1, r2, r3) := h
 clear h
 obtain ⟨t171, A20, H⟩ := Option.bind_eq_some_iff.mp H
 replace H : (if t171 = true then ((strings_Cut.f a0 (⟨#[58]⟩ : ByteArray)).bind fun bt172 => (if bt172.2.2 = true then ((text_Split.f k bt172.1 44).bind fun t175 => (path_route.l0 k bt172.2.1 ([] : List ByteArray) t175 (t175.length : Int) 0)) else (some (([] : List ByteArray), (⟨#[]⟩ : ByteArray), false)))) else (some (([] : List ByteArray), a0, true))) = some (r1, r2, r3) := H
 have A2 := Aside0.mk A20
 clear A20
 by_cases c3 : t171 = true
 ·subst c3
  replace H : ((strings_Cut.f a0 (⟨#[58]⟩ : ByteArray)).bind fun bt172 => (if bt172.2.2 = true then ((text_Split.f k bt172.1 44).bind fun t175 => (path_route.l0 k bt172.2.1 ([] : List ByteArray) t175 (t175.length : Int) 0)) else (some (([] : List ByteArray), (⟨#[]⟩ : ByteArray), false)))) = some (r1, r2, r3) := by rw [if_pos rfl] at H; exact H
  obtain ⟨⟨t172, t173, t174⟩, A40, H⟩ := Option.bind_eq_some_iff.mp H
  replace H : (if t174 = true then ((text_Split.f k t172 44).bind fun t175 => (path_route.l0 k t173 ([] : List ByteArray) t175 (t175.length : Int) 0)) else (some (([] : List ByteArray), (⟨#[]⟩ : ByteArray), false))) = some (r1, r2, r3) := H
  have A4 := Aside0.mk A40
  clear A40
  by_cases c5 : t174 = true
  ·subst c5
   replace H : ((text_Split.f k t172 44).bind fun t175 => (path_route.l0 k t173 ([] : List ByteArray) t175 (t175.length : Int) 0)) = some (r1, r2, r3) := by rw [if_pos rfl] at H; exact H
   obtain ⟨t175, A60, H⟩ := Option.bind_eq_some_iff.mp H
   replace H : (path_route.l0 k t173 ([] : List ByteArray) t175 (t175.length : Int) 0) = some (r1, r2, r3) := H
   have A6 := Aside0.mk A60
   clear A60
   have H' := Aside0.mk H
   clear H
   go_enter Tryz.func31, Tryz.ntmps31
   go_wp2_with (first | ((with_reducible refine gate_callee (f := 38) rfl ?_); refine goesL_ (some 14) rfl rfl Tryz.func38 kf rfl #[.string a0, .string (⟨#[64]⟩ : ByteArray)] rfl ml ?_; (with_reducible refine (strings_HasPrefix.calls a0 (⟨#[64]⟩ : ByteArray) true _ A2.out).mono ?_); rintro e w' ⟨rfl, ⟨nd, rfl⟩⟩; refine ⟨_, rfl, ?_⟩) | ((with_reducible refine gate_callee (f := 61) rfl ?_); refine goesL_ (some 19) rfl rfl Tryz.func61 kf rfl #[.string a0, .string (⟨#[58]⟩ : ByteArray)] rfl ml ?_; (with_reducible refine (strings_Cut.calls a0 (⟨#[58]⟩ : ByteArray) t172 t173 true _ ?side1 A4.out).mono ?_); (case side1 => exact Glob.below HG.out bl); rintro e w' ⟨rfl, ⟨nd, rfl⟩⟩; refine ⟨_, rfl, ?_⟩) | ((with_reducible refine gate_callee (f := 43) rfl ?_); refine goesL_ (some 26) rfl rfl Tryz.func43 kf rfl #[.string t172, .int .u8 44] rfl ml ?_; (with_reducible refine (text_Split.calls k t172 44 t175 _ A6.out).mono ?_); rintro e w7 ⟨v176, rfl, ho0, hb⟩; refine ⟨_, rfl, ?_⟩; have HO177 := Aside0.mk (Kd.R_lower ho0 (below_size bl)); replace HB := Aside0.mk (below_step bl hb); (try clear hb); (try clear hb2); (try clear hk); (try clear hi); (try clear ho0); obtain ⟨Ao8, co8, eo8⟩ := Kd.R_slice HO177.out; subst eo8))
   go_loopg [8, 28] k (fun kq v8 v28 w' => ∃ (x8_1 : List ByteArray) (x28_1 : Int), v28 = .int .i64 x28_1 ∧ Aside0 (path_route.l0 kq t173 x8_1 t175 (t175.length : Int) x28_1 = some (r1, r2, r3)) ∧ Aside0 (kq ≤ k) ∧ Aside0 (Kd.R Kd.string 9 w' w.heap.size (fun k_ => some k_ ≠ ((.slice Ao8 t175.length co8) : Value).ownBlock) v8 x8_1) ∧ Aside0 (Kd.R Kd.string 9 w' w.heap.size (fun k_ => some k_ ≠ (v8 : Value).ownBlock) (.slice Ao8 t175.length co8) t175) ∧ Aside0 (Below w.heap.size w w'))
   case atStart => exact ⟨(([] : List ByteArray)), (0), rs, H', ⟨Nat.le_refl _⟩, ⟨by first | exact Kd.R_nil _ _ _ _ _ | exact Kd.N_nil _ _ _ _ _ | exact Kd.V_nil _ _ _ _ _ | exact Kd.Q_nil _ _ _ _ _ | exact Kd.S_nil _ _ _ _ _⟩, ⟨by (with_reducible repeat (first | apply Kd.R_alloc | apply Kd.R_drewN | apply Kd.R_drew)); exact Kd.R_mono HO177.out (fun _ hk => (by simp [Value.ownBlock]))⟩, ⟨bl⟩⟩
   case round =>
    clear H'
    try clear p2
    try clear c3
    try clear c4
    try clear c5
    try clear c6
    obtain ⟨x8_1, x28_1, rfl, HA, HK1, HO_8, HO_26, HB⟩ := hrel
    cases gk with
    | zero => exact absurd HA.out (by simp [path_route.l0])
    | succ k1 =>
     have H := HA.out
     clear HA
     simp only [path_route.l0] at H
     by_cases c9 : x28_1 < (t175.length : Int)
     ·rw [if_pos c9] at H
      have c9b0 : decide (x28_1 < (t175.length : Int)) = true := decide_eq_true c9
      clear c9
      by_cases c10 : 0 ≤ x28_1
      rotate_left
      ·rw [if_neg c10] at H
       exact ab H
      rw [if_pos c10] at H
      have c10b0 : decide (0 ≤ x28_1) = true := decide_eq_true c10
      clear c10
      by_cases c11 : x28_1 < (t175.length : Int)
      rotate_left
      ·rw [if_neg c11] at H
       exact ab H
      rw [if_pos c11] at H
      have c11b0 : decide (x28_1 < (t175.length : Int)) = true := decide_eq_true c11
      clear c11
      obtain ⟨⟨t179, t180⟩, A120, H⟩ := Option.bind_eq_some_iff.mp H
      replace H : (if t180 = true then (if x8_1.length < 8796093022208 then (path_route.l0 k1 t173 (x8_1 ++ [t179]) t175 (t175.length : Int) (wrap64 (x28_1 + 1))) else (none)) else (some (([] : List ByteArray), (⟨#[]⟩ : ByteArray), false))) = some (r1, r2, r3) := H
      have A12 := Aside0.mk A120
      clear A120
      by_cases c13 : t180 = true
      ·subst c13
       replace H : (if x8_1.length < 8796093022208 then (path_route.l0 k1 t173 (x8_1 ++ [t179]) t175 (t175.length : Int) (wrap64 (x28_1 + 1))) else (none)) = some (r1, r2, r3) := by rw [if_pos rfl] at H; exact H
       by_cases c14 : x8_1.length < 8796093022208
       rotate_left
       ·rw [if_neg c14] at H
        exact ab H
       rw [if_pos c14] at H
       have LMc14 := Aside0.mk c14
       clear c14
       obtain ⟨y181, hy181⟩ : ∃ y_ : List ByteArray, y_ = (x8_1 ++ [t179]) := ⟨_, rfl⟩
       replace H : (path_route.l0 k1 t173 y181 t175 (t175.length : Int) (wrap64 (x28_1 + 1))) = some (r1, r2, r3) := by first | (rw [hy181]; with_reducible exact H) | (have H2_ := (Option.bind_some _ _).symm.trans H; rw [hy181]; with_reducible exact H2_) | (have H2_ := (Option.bind_some _ _).symm.trans H; with_reducible exact H2_) | with_reducible exact H | (rw [hy181]; exact H) | exact H
       have Ny181 := Aside0.mk hy181
       clear hy181
       have H' := Aside0.mk H
       clear H
       have p178 : 0 ≤ (x28_1 : Int) := od
       have q178 : x28_1 < (t175.length : Int) := od
       obtain ⟨ad178, e178, hx178_0⟩ := Kd.at_string (Kd.R_reads' HO_26.out).2.2 x28_1 p178 q178
       cases e178
       replace p178 := eq_true p178
       replace q178 := eq_true q178
       go_wp2_with (first | ((with_reducible refine gate_callee (f := 30) rfl ?_); refine goesL_ (some 34) rfl rfl Tryz.func30 kf rfl #[.string (rdOf ByteArray.empty t175 x28_1), .string (⟨#[64]⟩ : ByteArray)] rfl ml ?_; (with_reducible refine (strings_CutPrefix.calls (rdOf ByteArray.empty t175 x28_1) (⟨#[64]⟩ : ByteArray) t179 true _ A12.out).mono ?_); rintro e w' ⟨rfl, ⟨nd, rfl⟩⟩; refine ⟨_, rfl, ?_⟩) | ((with_reducible refine gate_builtin (b := .append) (xs := #[.tmp 39, .tmp 41]) rfl ?_); at_builtin; refine Kd.R_append Kd.string (w0 := w) w.heap.size rfl (.tmp 39) (.tmp 41) 22 9 (.string ⟨#[]⟩) 16 rfl Tryz.underlying22 info9 rfl (by decide) (by omega) u8 x8_1 t179 [.string t179] (fun k_ => some k_ ≠ (.slice (some ad178) t175.length co8 : Value).ownBlock) (fun _ => False) rfl rfl ?aP (fun _ hk => hk.elim) ?aF ?aO ?aB ?aS ?aL ?_; (case aP => exact rfl); (case aB => exact bl); (case aF => exact (fun k_ hk => Kd.fresh' (Kd.R_lt (kr HO_26.out)) k_ hk)); (case aO => exact (kr HO_8.out)); (case aS => exact (below_size bl)); (case aL => have := LMc14.out; omega); intro v182 w15 ho hb hg hat; rw [← Ny181.out] at ho; replace HO_26 := Aside0.mk (Kd.R_after (ok := (fun _ => True)) (by (with_reducible repeat (first | apply Kd.R_alloc | apply Kd.R_drewN | apply Kd.R_drew)); exact Kd.R_mono HO_26.out (fun _ hk => ⟨trivial, hk⟩)) hg hat); replace HB := Aside0.mk (hb); have HO183 := Aside0.mk (ho); clear HO_8 ho hb hg hat))
       go_roundg k1
       case measure => have := HK1.out; omega
       case rel => exact ⟨(y181), (wrap64 (x28_1 + 1)), rs, H', ⟨by have := HK1.out; omega⟩, ⟨kr HO183.out⟩, ⟨by (with_reducible repeat (first | apply Kd.R_alloc | apply Kd.R_drewN | apply Kd.R_drew)); exact Kd.R_mono HO_26.out (fun _ hk => hk.2)⟩, ⟨bl⟩⟩
      ·replace c13 := Bool.eq_false_iff.mpr c13
       subst c13
       replace H : (some (([] : List ByteArray), (⟨#[]⟩ : ByteArray), false)) = some (r1, r2, r3) := by rw [if_neg (show ¬ (false = true) by decide)] at H; exact H
       simp only [Option.some.injEq, Prod.mk.injEq] at H
       obtain ⟨rfl, rfl, rfl⟩ := H
       have p178 : 0 ≤ (x28_1 : Int) := od
       have q178 : x28_1 < (t175.length : Int) := od
       obtain ⟨ad178, e178, hx178_0⟩ := Kd.at_string (Kd.R_reads' HO_26.out).2.2 x28_1 p178 q178
       cases e178
       replace p178 := eq_true p178
       replace q178 := eq_true q178
       go_wp2_with (first | ((with_reducible refine gate_callee (f := 30) rfl ?_); refine goesL_ (some 34) rfl rfl Tryz.func30 kf rfl #[.string (rdOf ByteArray.empty t175 x28_1), .string (⟨#[64]⟩ : ByteArray)] rfl ml ?_; (with_reducible refine (strings_CutPrefix.calls (rdOf ByteArray.empty t175 x28_1) (⟨#[64]⟩ : ByteArray) t179 false _ A12.out).mono ?_); rintro e w' ⟨rfl, ⟨nd, rfl⟩⟩; refine ⟨_, rfl, ?_⟩))
       go_ret3
       exact ⟨_, by first | rfl | (simp [errW_none, errW_some] <;> rfl) | (simp [*, errW_none, errW_some] <;> rfl), by first | exact Kd.R_nil _ _ _ _ _ | exact Kd.N_nil _ _ _ _ _ | exact Kd.V_nil _ _ _ _ _ | exact Kd.Q_nil _ _ _ _ _ | exact Kd.S_nil _ _ _ _ _, bl⟩
     ·rw [if_neg c9] at H
      have c9b0 : decide (x28_1 < (t175.length : Int)) = false := decide_eq_false c9
      clear c9
      simp only [Option.some.injEq, Prod.mk.injEq] at H
      obtain ⟨rfl, rfl, rfl⟩ := H
      go_wp2
      go_ret3
      exact ⟨_, by first | rfl | (simp [errW_none, errW_some] <;> rfl) | (simp [*, errW_none, errW_some] <;> rfl), by (with_reducible repeat (first | apply Kd.R_alloc | apply Kd.R_drewN | apply Kd.R_drew)); exact Kd.R_mono HO_8.out (fun _ hk => trivial), bl⟩
  ·replace c5 := Bool.eq_false_iff.mpr c5
   subst c5
   replace H : (some (([] : List ByteArray), (⟨#[]⟩ : ByteArray), false)) = some (r1, r2, r3) := by rw [if_neg (show ¬ (false = true) by decide)] at H; exact H
   simp only [Option.some.injEq, Prod.mk.injEq] at H
   obtain ⟨rfl, rfl, rfl⟩ := H
   go_enter Tryz.func31, Tryz.ntmps31
   go_wp2_with (first | ((with_reducible refine gate_callee (f := 38) rfl ?_); refine goesL_ (some 14) rfl rfl Tryz.func38 kf rfl #[.string a0, .string (⟨#[64]⟩ : ByteArray)] rfl ml ?_; (with_reducible refine (strings_HasPrefix.calls a0 (⟨#[64]⟩ : ByteArray) true _ A2.out).mono ?_); rintro e w' ⟨rfl, ⟨nd, rfl⟩⟩; refine ⟨_, rfl, ?_⟩) | ((with_reducible refine gate_callee (f := 61) rfl ?_); refine goesL_ (some 19) rfl rfl Tryz.func61 kf rfl #[.string a0, .string (⟨#[58]⟩ : ByteArray)] rfl ml ?_; (with_reducible refine (strings_Cut.calls a0 (⟨#[58]⟩ : ByteArray) t172 t173 false _ ?side1 A4.out).mono ?_); (case side1 => exact Glob.below HG.out bl); rintro e w' ⟨rfl, ⟨nd, rfl⟩⟩; refine ⟨_, rfl, ?_⟩))
   go_ret3
   exact ⟨_, by first | rfl | (simp [errW_none, errW_some] <;> rfl) | (simp [*, errW_none, errW_some] <;> rfl), by first | exact Kd.R_nil _ _ _ _ _ | exact Kd.N_nil _ _ _ _ _ | exact Kd.V_nil _ _ _ _ _ | exact Kd.Q_nil _ _ _ _ _ | exact Kd.S_nil _ _ _ _ _, bl⟩
 ·replace c3 := Bool.eq_false_iff.mpr c3
  subst c3
  replace H : (some (([] : List ByteArray), a0, true)) = some (r1, r2, r3) := by rw [if_neg (show ¬ (false = true) by decide)] at H; exact H
  simp only [Option.some.injEq, Prod.mk.injEq] at H
  obtain ⟨rfl, rfl, rfl⟩ := H
  go_enter Tryz.func31, Tryz.ntmps31
  go_wp2_with (first | ((with_reducible refine gate_callee (f := 38) rfl ?_); refine goesL_ (some 14) rfl rfl Tryz.func38 kf rfl #[.string a0, .string (⟨#[64]⟩ : ByteArray)] rfl ml ?_; (with_reducible refine (strings_HasPrefix.calls a0 (⟨#[64]⟩ : ByteArray) false _ A2.out).mono ?_); rintro e w' ⟨rfl, ⟨nd, rfl⟩⟩; refine ⟨_, rfl, ?_⟩))
  go_ret3
  exact ⟨_, by first | rfl | (simp [errW_none, errW_some] <;> rfl) | (simp [*, errW_none, errW_some] <;> rfl), by first | exact Kd.R_nil _ _ _ _ _ | exact Kd.N_nil _ _ _ _ _ | exact Kd.V_nil _ _ _ _ _ | exact Kd.Q_nil _ _ _ _ _ | exact Kd.S_nil _ _ _ _ _, bl⟩

/-! ### text_plain: function 58 -/
def text_plain.f (a0 : Int) : Option (Bool) := if a0 ≥ 32 then (some (decide (a0 ≤ 126))) else (some false)
theorem text_plain.calls (a0 : Int) (r : Bool) (w : World) (h : text_plain.f a0 = some r) :
  Calls Tryz.prog 58 #[.int .u8 a0] w fun e w' => e = .returned (.bool r) ∧ Drawn0 w w' := by
 have H : (if a0 ≥ 32 then (some (decide (a0 ≤ 126))) else (some false)) = some r := h
 clear h
 by_cases c2 : a0 ≥ 32
 ·rw [if_pos c2] at H
  have c2b0 : decide (32 ≤ a0) = true := decide_eq_true c2
  clear c2
  obtain rfl := Option.some.inj H
  go_enter Tryz.func58, Tryz.ntmps58
  go_wp2
  go_ret
  exact ⟨by first | rfl | (simp [bneNil]; done) | (simp; done) | (simp [*]; done), dr⟩
 ·rw [if_neg c2] at H
  have c2b0 : decide (32 ≤ a0) = false := decide_eq_false c2
  clear c2
  obtain rfl := Option.some.inj H
  go_enter Tryz.func58, Tryz.ntmps58
  go_wp2
  go_ret
  exact ⟨by first | rfl | (simp [bneNil]; done) | (simp; done) | (simp [*]; done), dr⟩

/-! ### text_pair: function 95 -/
def text_pair.f (a0 : ByteArray) (a1 : Int) : Option (Int × Int) := if (wrap64 (a1 + 1)) ≥ (a0.size : Int) then (some (0, 4)) else (if 0 ≤ (wrap64 (a1 + 1)) then (if (wrap64 (a1 + 1)) < (a0.size : Int) then ((text_plain.f (bt a0 (wrap64 (a1 + 1)))).bind fun t184 => (if t184 = true then (some (bt a0 (wrap64 (a1 + 1)), 0)) else (some (0, 5)))) else (none)) else (none))
theorem text_pair.calls (a0 : ByteArray) (a1 : Int) (r1 : Int) (r2 : Int) (w : World) (h : text_pair.f a0 a1 = some (r1, r2)) :
  Calls Tryz.prog 95 #[.string a0, .int .i64 a1] w fun e w' => e = .returned (.tuple #[.int .u8 r1, .int .i64 r2]) ∧ Drawn0 w w' := by
 have H : (if (wrap64 (a1 + 1)) ≥ (a0.size : Int) then (some (0, 4)) else (if 0 ≤ (wrap64 (a1 + 1)) then (if (wrap64 (a1 + 1)) < (a0.size : Int) then ((text_plain.f (bt a0 (wrap64 (a1 + 1)))).bind fun t184 => (if t184 = true then (some (bt a0 (wrap64 (a1 + 1)), 0)) else (some (0, 5)))) else (none)) else (none))) = some (r1, r2) := h
 clear h
 by_cases c3 : (wrap64 (a1 + 1)) ≥ (a0.size : Int)
 ·rw [if_pos c3] at H
  have c3b0 : decide ((a0.size : Int) ≤ (wrap64 (a1 + 1))) = true := decide_eq_true c3
  clear c3
  simp only [Option.some.injEq, Prod.mk.injEq] at H
  obtain ⟨rfl, rfl⟩ := H
  go_enter Tryz.func95, Tryz.ntmps95
  go_wp2
  go_ret2
  exact ⟨by first | rfl | (simp [bneNil]; done) | (simp; done) | (simp [*]; done), dr⟩
 ·rw [if_neg c3] at H
  have c3b0 : decide ((a0.size : Int) ≤ (wrap64 (a1 + 1))) = false := decide_eq_false c3
  clear c3
  obtain ⟨ji4, hji4⟩ : ∃ j_ : Int, (wrap64 (a1 + 1)) = j_ := ⟨_, rfl⟩
  replace H : (if 0 ≤ (ji4) then (if (ji4) < (a0.size : Int) then ((text_plain.f (bt a0 (ji4))).bind fun t184 => (if t184 = true then (some (bt a0 (ji4), 0)) else (some (0, 5)))) else (none)) else (none)) = some (r1, r2) := by first | (rw [hji4] at H; exact H) | (simp only [hji4] at H ⊢; exact H)
  (try rw [hji4] at c3b0)
  have hji4w : (IntKind.i64.wrap (a1 + 1)) = ji4 := (i64_w _).trans hji4
  by_cases c5 : 0 ≤ (ji4)
  rotate_left
  ·rw [if_neg c5] at H
   exact ab H
  rw [if_pos c5] at H
  have c5b0 : decide (0 ≤ (ji4)) = true := decide_eq_true c5
  clear c5
  by_cases c6 : (ji4) < (a0.size : Int)
  rotate_left
  ·rw [if_neg c6] at H
   exact ab H
  rw [if_pos c6] at H
  have c6b0 : decide ((ji4) < (a0.size : Int)) = true := decide_eq_true c6
  clear c6
  obtain ⟨t184, A80, H⟩ := Option.bind_eq_some_iff.mp H
  replace H : (if t184 = true then (some (bt a0 (ji4), 0)) else (some (0, 5))) = some (r1, r2) := H
  have A8 := Aside0.mk A80
  clear A80
  by_cases c9 : t184 = true
  ·subst c9
   replace H : (some (bt a0 (ji4), 0)) = some (r1, r2) := by rw [if_pos rfl] at H; exact H
   simp only [Option.some.injEq, Prod.mk.injEq] at H
   obtain ⟨rfl, rfl⟩ := H
   have p7 : 0 ≤ ((ji4) : Int) := od
   have q7 : (ji4) < (a0.size : Int) := od
   have hx7 := bt_at a0 (ji4)
   replace p7 := eq_true p7
   replace q7 := eq_true q7
   go_enter Tryz.func95, Tryz.ntmps95
   go_wp2_with (first | ((with_reducible refine gate_callee (f := 58) rfl ?_); refine goesL_ (some 17) rfl rfl Tryz.func58 kf rfl #[.int .u8 (bt a0 (ji4))] rfl (by (try simp only [List.map_toArray, List.map_cons, List.map_nil]); first | done | (simp only [hji4]; rfl) | rfl | (simp only [List.length_drop, List.length_take]; rfl)) ?_; (with_reducible refine (text_plain.calls (bt a0 (ji4)) true _ A8.out).mono ?_); rintro e w' ⟨rfl, ⟨nd, rfl⟩⟩; refine ⟨_, rfl, ?_⟩; have p10 : 0 ≤ ((ji4) : Int) := od; have q10 : (ji4) < (a0.size : Int) := od; have hx10 := bt_at a0 (ji4); replace p10 := eq_true p10; replace q10 := eq_true q10))
   go_ret2
   exact ⟨by first | rfl | (simp [bneNil]; done) | (simp; done) | (simp only [← hji4] <;> (first | rfl | simp)) | (simp [*]; done), dr⟩
  ·replace c9 := Bool.eq_false_iff.mpr c9
   subst c9
   replace H : (some (0, 5)) = some (r1, r2) := by rw [if_neg (show ¬ (false = true) by decide)] at H; exact H
   simp only [Option.some.injEq, Prod.mk.injEq] at H
   obtain ⟨rfl, rfl⟩ := H
   have p7 : 0 ≤ ((ji4) : Int) := od
   have q7 : (ji4) < (a0.size : Int) := od
   have hx7 := bt_at a0 (ji4)
   replace p7 := eq_true p7
   replace q7 := eq_true q7
   go_enter Tryz.func95, Tryz.ntmps95
   go_wp2_with (first | ((with_reducible refine gate_callee (f := 58) rfl ?_); refine goesL_ (some 17) rfl rfl Tryz.func58 kf rfl #[.int .u8 (bt a0 (ji4))] rfl (by (try simp only [List.map_toArray, List.map_cons, List.map_nil]); first | done | (simp only [hji4]; rfl) | rfl | (simp only [List.length_drop, List.length_take]; rfl)) ?_; (with_reducible refine (text_plain.calls (bt a0 (ji4)) false _ A8.out).mono ?_); rintro e w' ⟨rfl, ⟨nd, rfl⟩⟩; refine ⟨_, rfl, ?_⟩))
   go_ret2
   exact ⟨by first | rfl | (simp [bneNil]; done) | (simp; done) | (simp only [← hji4] <;> (first | rfl | simp)) | (simp [*]; done), dr⟩

/-! ### text_Quoted: function 62 -/
mutual
def text_Quoted.j0 : Nat → ByteArray → Bool → Option (ByteArray × Int × Int)
 | 0, _, _ => none
 | k + 1, x0, x14 => if x14 = true then (some ((⟨#[]⟩ : ByteArray), 0, 5)) else (text_Quoted.l0 k x0 ([] : List Int) 1)
def text_Quoted.l0 : Nat → ByteArray → List Int → Int → Option (ByteArray × Int × Int)
 | 0, _, _, _ => none
 | k + 1, x0, x5, x6 => if x6 < (x0.size : Int) then (if 0 ≤ x6 then (if (bt x0 x6) = 34 then (some (strOfNums x5, wrap64 (x6 + 1), 0)) else (if (bt x0 x6) = 92 then ((text_pair.f x0 x6).bind fun bt185 => (if bt185.2 = 0 then (if x5.length < 140737488355328 then (text_Quoted.l0 k x0 (x5 ++ [bt185.1]) (wrap64 ((wrap64 (x6 + 1)) + 1))) else (none)) else (some ((⟨#[]⟩ : ByteArray), 0, bt185.2)))) else ((text_plain.f (bt x0 x6)).bind fun t190 => (if t190 = true then (if x5.length < 140737488355328 then (text_Quoted.l0 k x0 (x5 ++ [bt x0 x6]) (wrap64 (x6 + 1))) else (none)) else (some ((⟨#[]⟩ : ByteArray), 0, 5)))))) else (none)) else (some ((⟨#[]⟩ : ByteArray), 0, 4))
end
def text_Quoted.f (k : Nat) (a0 : ByteArray) : Option (ByteArray × Int × Int) := if a0.toList = ([] : List UInt8) then (text_Quoted.j0 k a0 true) else (if 0 < (a0.size : Int) then (text_Quoted.j0 k a0 ((bt a0 0) != 34)) else (none))
theorem text_Quoted.mono_l : ∀ k, (∀ y0 y1, LeO (text_Quoted.j0 k y0 y1) (text_Quoted.j0 (k + 1) y0 y1)) ∧ (∀ y0 y1 y2, LeO (text_Quoted.l0 k y0 y1 y2) (text_Quoted.l0 (k + 1) y0 y1 y2))
 | 0 => ⟨fun _ _ r h => by simp [text_Quoted.j0] at h, fun _ _ _ r h => by simp [text_Quoted.l0] at h⟩
 | k + 1 => by
  obtain ⟨ih0, ih1⟩ := text_Quoted.mono_l k
  refine ⟨?_, ?_⟩
  ·intro y0 y1
   unfold text_Quoted.j0
   repeat' first
   | (with_reducible first | exact ih0 _ _ | exact ih1 _ _ _ | exact LeO.refl _ | exact LeO.none _ | refine LeO.ite ?_ ?_ | refine LeO.bind ?_ (fun _ => ?_))
  ·intro y0 y1 y2
   unfold text_Quoted.l0
   repeat' first
   | (with_reducible first | exact ih0 _ _ | exact ih1 _ _ _ | exact LeO.refl _ | exact LeO.none _ | refine LeO.ite ?_ ?_ | refine LeO.bind ?_ (fun _ => ?_))
theorem text_Quoted.mono : ∀ a0 k, LeO (text_Quoted.f k a0) (text_Quoted.f (k + 1) a0) := by
 intro a0 k
 obtain ⟨ih0, ih1⟩ := text_Quoted.mono_l k
 unfold text_Quoted.f
 repeat' first
   | (with_reducible first | exact ih0 _ _ | exact ih1 _ _ _ | exact LeO.refl _ | exact LeO.none _ | refine LeO.ite ?_ ?_ | refine LeO.bind ?_ (fun _ => ?_))
theorem text_Quoted.calls (k : Nat) (a0 : ByteArray) (r1 : ByteArray) (r2 : Int) (r3 : Int) (w : World) (h : text_Quoted.f k a0 = some (r1, r2, r3)) :
  Calls Tryz.prog 62 #[.string a0] w fun e w' => e = .returned (.tuple #[.string r1, .int .i64 r2, .int .i64 r3]) ∧ Below w.heap.size w w' := by
 have HB := Aside0.mk (Below.refl w.heap.size w)
 have H : (if a0.toList = ([] : List UInt8) then (text_Quoted.j0 k a0 true) else (if 0 < (a0.size : Int) then (text_Quoted.j0 k a0 ((bt a0 0) != 34)) else (none))) = some (r1, r2, r3) := h
 clear h
 have HC2 := Aside0.mk H
 clear H
 go_enter Tryz.func62, Tryz.ntmps62
 go_upto_region 1 with (fail)
 go_cut [14] (fun v14 wc => ∃ (kq : Nat) (x14_1 : Bool), v14 = .bool x14_1 ∧ Aside0 (text_Quoted.j0 kq a0 x14_1 = some (r1, r2, r3)) ∧ Aside0 (kq ≤ k) ∧ Aside0 (Below w.heap.size w wc))
 case first =>
  have H := HC2.out
  clear HC2
  by_cases c3 : a0.toList = ([] : List UInt8)
  ·rw [if_pos c3] at H
   have c3b0 : (a0.toList == ([] : List UInt8)) = true := beq_iff_eq.mpr c3
   have c3b1 : (a0.toList != ([] : List UInt8)) = false := bne_eq_false_iff_eq.mpr c3
   clear c3
   (first | rw [c3b0] | (simp only [i64_w, i32_w]; rw [c3b0]) | skip)
   have H' := Aside0.mk H
   clear H
   go_wp2
   go_meet
   case rel => exact ⟨_, (true), rs, H', ⟨by first | omega | exact Nat.le_refl _⟩, ⟨bl⟩⟩
  ·rw [if_neg c3] at H
   have c3b0 : (a0.toList == ([] : List UInt8)) = false := beq_eq_false_iff_ne.mpr c3
   have c3b1 : (a0.toList != ([] : List UInt8)) = true := bne_iff_ne.mpr c3
   (first | rw [c3b0] | (simp only [i64_w, i32_w]; rw [c3b0]) | skip)
   by_cases c4 : 0 < (a0.size : Int)
   rotate_left
   ·rw [if_neg c4] at H
    exact ab H
   rw [if_pos c4] at H
   have c4b0 : decide (0 < (a0.size : Int)) = true := decide_eq_true c4
   have c4b1 : decide (0 < a0.size) = true := decide_eq_true (by omega)
   clear c4
   have H' := Aside0.mk H
   clear H
   have p5 : 0 ≤ (0 : Int) := (by omega)
   have q5 : 0 < a0.size := (by have : (0 : Int) < (a0.size : Int) := od; omega)
   have hx5 : ∀ h : 0 < a0.size, ((a0[0]'h).toNat : Int) = bt a0 0 := bt_at a0 0
   clear p5
   have qi5 : (0 < (a0.size : Int)) = True := eq_true (od)
   replace q5 := eq_true q5
   go_wp2
   go_meet
   case rel => exact ⟨_, (((bt a0 0) != 34)), rs, H', ⟨by first | omega | exact Nat.le_refl _⟩, ⟨bl⟩⟩
 case rest =>
  clear HC2
  try clear p2
  try clear c3
  try clear c3b0
  try clear c3b1
  try clear c4
  try clear c4b0
  try clear c4b1
  try clear p5
  try clear q5
  try clear hx5
  try clear qi5
  try clear p5
  try clear q5
  obtain ⟨kq, x14_1, rfl, HA, HJ1, HB⟩ := hcut
  cases kq with
  | zero => exact absurd HA.out (by simp [text_Quoted.j0])
  | succ kj1 =>
   have H := HA.out
   clear HA
   simp only [text_Quoted.j0] at H
   by_cases c6 : x14_1 = true
   ·subst c6
    replace H : (some ((⟨#[]⟩ : ByteArray), 0, 5)) = some (r1, r2, r3) := by rw [if_pos rfl] at H; exact H
    simp only [Option.some.injEq, Prod.mk.injEq] at H
    obtain ⟨rfl, rfl, rfl⟩ := H
    go_wp2
    go_ret3
    exact ⟨rf, bl⟩
   ·replace c6 := Bool.eq_false_iff.mpr c6
    subst c6
    replace H : (text_Quoted.l0 kj1 a0 ([] : List Int) 1) = some (r1, r2, r3) := by rw [if_neg (show ¬ (false = true) by decide)] at H; exact H
    have H' := Aside0.mk H
    clear H
    go_wp2
    go_loopg [5, 6] kj1 (fun kq v5 v6 w' => ∃ (x5_2 : List Int) (x6_2 : Int), v6 = .int .i64 x6_2 ∧ Aside0 (text_Quoted.l0 kq a0 x5_2 x6_2 = some (r1, r2, r3)) ∧ Aside0 (kq ≤ kj1) ∧ Aside0 (Kd.R (Kd.int .u8) 5 w' w.heap.size (fun _ => True) v5 x5_2) ∧ Aside0 (Below w.heap.size w w'))
    case atStart => exact ⟨(([] : List Int)), (1), rs, H', ⟨Nat.le_refl _⟩, ⟨by first | exact Kd.R_nil _ _ _ _ _ | exact Kd.N_nil _ _ _ _ _ | exact Kd.V_nil _ _ _ _ _ | exact Kd.Q_nil _ _ _ _ _ | exact Kd.S_nil _ _ _ _ _⟩, ⟨bl⟩⟩
    case round =>
     clear H'
     try clear p2
     try clear c3
     try clear c3b0
     try clear c3b1
     try clear c4
     try clear c4b0
     try clear c4b1
     try clear p5
     try clear q5
     try clear hx5
     try clear qi5
     try clear c6
     try clear p2
     try clear p5
     try clear q5
     obtain ⟨x5_2, x6_2, rfl, HA, HK2, HO_5, HB⟩ := hrel
     cases gk with
     | zero => exact absurd HA.out (by simp [text_Quoted.l0])
     | succ k2 =>
      have H := HA.out
      clear HA
      simp only [text_Quoted.l0] at H
      by_cases c7 : x6_2 < (a0.size : Int)
      ·rw [if_pos c7] at H
       have c7b0 : decide (x6_2 < (a0.size : Int)) = true := decide_eq_true c7
       clear c7
       by_cases c8 : 0 ≤ x6_2
       rotate_left
       ·rw [if_neg c8] at H
        exact ab H
       rw [if_pos c8] at H
       have c8b0 : decide (0 ≤ x6_2) = true := decide_eq_true c8
       clear c8
       by_cases c10 : (bt a0 x6_2) = 34
       ·rw [if_pos c10] at H
        have c10b0 : ((bt a0 x6_2) == 34) = true := beq_iff_eq.mpr c10
        have c10b1 : ((bt a0 x6_2) != 34) = false := bne_eq_false_iff_eq.mpr c10
        clear c10
        simp only [Option.some.injEq, Prod.mk.injEq] at H
        obtain ⟨rfl, rfl, rfl⟩ := H
        have p9 : 0 ≤ (x6_2 : Int) := od
        have q9 : x6_2 < (a0.size : Int) := od
        have hx9 := bt_at a0 x6_2
        replace p9 := eq_true p9
        replace q9 := eq_true q9
        have hcv11 := own_string (P := Tryz.prog) Tryz.underlying55 Tryz.underlying5 Tryz.underlying9 (Kd.own_of_R HO_5.out)
        go_wp2
        go_ret3
        exact ⟨rf, bl⟩
       ·rw [if_neg c10] at H
        have c10b0 : ((bt a0 x6_2) == 34) = false := beq_eq_false_iff_ne.mpr c10
        have c10b1 : ((bt a0 x6_2) != 34) = true := bne_iff_ne.mpr c10
        by_cases c12 : (bt a0 x6_2) = 92
        ·rw [if_pos c12] at H
         have c12b0 : ((bt a0 x6_2) == 92) = true := beq_iff_eq.mpr c12
         have c12b1 : ((bt a0 x6_2) != 92) = false := bne_eq_false_iff_eq.mpr c12
         clear c12
         obtain ⟨⟨t185, t186⟩, A130, H⟩ := Option.bind_eq_some_iff.mp H
         replace H : (if t186 = 0 then (if x5_2.length < 140737488355328 then (text_Quoted.l0 k2 a0 (x5_2 ++ [t185]) (wrap64 ((wrap64 (x6_2 + 1)) + 1))) else (none)) else (some ((⟨#[]⟩ : ByteArray), 0, t186))) = some (r1, r2, r3) := H
         have A13 := Aside0.mk A130
         clear A130
         by_cases c14 : t186 = 0
         ·rw [if_pos c14] at H
          have c14b0 : (t186 == 0) = true := beq_iff_eq.mpr c14
          have c14b1 : (t186 != 0) = false := bne_eq_false_iff_eq.mpr c14
          clear c14
          by_cases c15 : x5_2.length < 140737488355328
          rotate_left
          ·rw [if_neg c15] at H
           exact ab H
          rw [if_pos c15] at H
          have LMc15 := Aside0.mk c15
          clear c15
          obtain ⟨y187, hy187⟩ : ∃ y_ : List Int, y_ = (x5_2 ++ [t185]) := ⟨_, rfl⟩
          replace H : (text_Quoted.l0 k2 a0 y187 (wrap64 ((wrap64 (x6_2 + 1)) + 1))) = some (r1, r2, r3) := by first | (rw [hy187]; with_reducible exact H) | (have H2_ := (Option.bind_some _ _).symm.trans H; rw [hy187]; with_reducible exact H2_) | (have H2_ := (Option.bind_some _ _).symm.trans H; with_reducible exact H2_) | with_reducible exact H | (rw [hy187]; exact H) | exact H
          have Ny187 := Aside0.mk hy187
          clear hy187
          have H' := Aside0.mk H
          clear H
          have p9 : 0 ≤ (x6_2 : Int) := od
          have q9 : x6_2 < (a0.size : Int) := od
          have hx9 := bt_at a0 x6_2
          replace p9 := eq_true p9
          replace q9 := eq_true q9
          go_wp2_with (first | ((with_reducible refine gate_callee (f := 95) rfl ?_); refine goesL_ (some 37) rfl rfl Tryz.func95 kf rfl #[.string a0, .int .i64 x6_2] rfl ml ?_; (with_reducible refine (text_pair.calls a0 x6_2 t185 t186 _ A13.out).mono ?_); rintro e w' ⟨rfl, ⟨nd, rfl⟩⟩; refine ⟨_, rfl, ?_⟩) | ((with_reducible refine gate_builtin (b := .append) (xs := #[.tmp 49, .tmp 51]) rfl ?_); at_builtin; refine Kd.R_append (Kd.int .u8) (w0 := w) w.heap.size rfl (.tmp 49) (.tmp 51) 55 5 (.int .u8 0) 1 rfl Tryz.underlying55 info5 rfl (by decide) (by omega) u5 x5_2 t185 [.int .u8 t185] (fun _ => True) (fun _ => False) rfl rfl ?aP (fun _ hk => hk.elim) ?aF ?aO ?aB ?aS ?aL ?_; (case aP => exact rfl); (case aB => exact bl); (case aF => exact (fun _ _ => trivial)); (case aO => exact (kr HO_5.out)); (case aS => exact (below_size bl)); (case aL => have := LMc15.out; omega); intro v188 w16 ho hb hg hat; rw [← Ny187.out] at ho; replace HB := Aside0.mk (hb); have HO189 := Aside0.mk (ho); clear HO_5 ho hb hg hat))
          go_roundg k2
          case measure => have := HJ1.out; have := HK2.out; omega
          case rel => exact ⟨(y187), (wrap64 ((wrap64 (x6_2 + 1)) + 1)), rs, H', ⟨by have := HJ1.out; have := HK2.out; omega⟩, ⟨kr HO189.out⟩, ⟨bl⟩⟩
         ·rw [if_neg c14] at H
          have c14b0 : (t186 == 0) = false := beq_eq_false_iff_ne.mpr c14
          have c14b1 : (t186 != 0) = true := bne_iff_ne.mpr c14
          simp only [Option.some.injEq, Prod.mk.injEq] at H
          obtain ⟨rfl, rfl, rfl⟩ := H
          have p9 : 0 ≤ (x6_2 : Int) := od
          have q9 : x6_2 < (a0.size : Int) := od
          have hx9 := bt_at a0 x6_2
          replace p9 := eq_true p9
          replace q9 := eq_true q9
          go_wp2_with (first | ((with_reducible refine gate_callee (f := 95) rfl ?_); refine goesL_ (some 37) rfl rfl Tryz.func95 kf rfl #[.string a0, .int .i64 x6_2] rfl ml ?_; (with_reducible refine (text_pair.calls a0 x6_2 t185 t186 _ A13.out).mono ?_); rintro e w' ⟨rfl, ⟨nd, rfl⟩⟩; refine ⟨_, rfl, ?_⟩))
          go_ret3
          exact ⟨rf, bl⟩
        ·rw [if_neg c12] at H
         have c12b0 : ((bt a0 x6_2) == 92) = false := beq_eq_false_iff_ne.mpr c12
         have c12b1 : ((bt a0 x6_2) != 92) = true := bne_iff_ne.mpr c12
         obtain ⟨t190, A170, H⟩ := Option.bind_eq_some_iff.mp H
         replace H : (if t190 = true then (if x5_2.length < 140737488355328 then (text_Quoted.l0 k2 a0 (x5_2 ++ [bt a0 x6_2]) (wrap64 (x6_2 + 1))) else (none)) else (some ((⟨#[]⟩ : ByteArray), 0, 5))) = some (r1, r2, r3) := H
         have A17 := Aside0.mk A170
         clear A170
         by_cases c18 : t190 = true
         ·subst c18
          replace H : (if x5_2.length < 140737488355328 then (text_Quoted.l0 k2 a0 (x5_2 ++ [bt a0 x6_2]) (wrap64 (x6_2 + 1))) else (none)) = some (r1, r2, r3) := by rw [if_pos rfl] at H; exact H
          by_cases c19 : x5_2.length < 140737488355328
          rotate_left
          ·rw [if_neg c19] at H
           exact ab H
          rw [if_pos c19] at H
          have LMc19 := Aside0.mk c19
          clear c19
          obtain ⟨y191, hy191⟩ : ∃ y_ : List Int, y_ = (x5_2 ++ [bt a0 x6_2]) := ⟨_, rfl⟩
          replace H : (text_Quoted.l0 k2 a0 y191 (wrap64 (x6_2 + 1))) = some (r1, r2, r3) := by first | (rw [hy191]; with_reducible exact H) | (have H2_ := (Option.bind_some _ _).symm.trans H; rw [hy191]; with_reducible exact H2_) | (have H2_ := (Option.bind_some _ _).symm.trans H; with_reducible exact H2_) | with_reducible exact H | (rw [hy191]; exact H) | exact H
          have Ny191 := Aside0.mk hy191
          clear hy191
          have H' := Aside0.mk H
          clear H
          have p9 : 0 ≤ (x6_2 : Int) := od
          have q9 : x6_2 < (a0.size : Int) := od
          have hx9 := bt_at a0 x6_2
          replace p9 := eq_true p9
          replace q9 := eq_true q9
          go_wp2_with (first | ((with_reducible refine gate_callee (f := 58) rfl ?_); refine goesL_ (some 47) rfl rfl Tryz.func58 kf rfl #[.int .u8 (bt a0 x6_2)] rfl ml ?_; (with_reducible refine (text_plain.calls (bt a0 x6_2) true _ A17.out).mono ?_); rintro e w' ⟨rfl, ⟨nd, rfl⟩⟩; refine ⟨_, rfl, ?_⟩) | ((with_reducible refine gate_builtin (b := .append) (xs := #[.tmp 49, .tmp 51]) rfl ?_); at_builtin; refine Kd.R_append (Kd.int .u8) (w0 := w) w.heap.size rfl (.tmp 49) (.tmp 51) 55 5 (.int .u8 0) 1 rfl Tryz.underlying55 info5 rfl (by decide) (by omega) u5 x5_2 (bt a0 x6_2) [.int .u8 (bt a0 x6_2)] (fun _ => True) (fun _ => False) rfl rfl ?aP (fun _ hk => hk.elim) ?aF ?aO ?aB ?aS ?aL ?_; (case aP => exact rfl); (case aB => exact bl); (case aF => exact (fun _ _ => trivial)); (case aO => exact (kr HO_5.out)); (case aS => exact (below_size bl)); (case aL => have := LMc19.out; omega); intro v192 w20 ho hb hg hat; rw [← Ny191.out] at ho; replace HB := Aside0.mk (hb); have HO193 := Aside0.mk (ho); clear HO_5 ho hb hg hat))
          go_roundg k2
          case measure => have := HJ1.out; have := HK2.out; omega
          case rel => exact ⟨(y191), (wrap64 (x6_2 + 1)), rs, H', ⟨by have := HJ1.out; have := HK2.out; omega⟩, ⟨kr HO193.out⟩, ⟨bl⟩⟩
         ·replace c18 := Bool.eq_false_iff.mpr c18
          subst c18
          replace H : (some ((⟨#[]⟩ : ByteArray), 0, 5)) = some (r1, r2, r3) := by rw [if_neg (show ¬ (false = true) by decide)] at H; exact H
          simp only [Option.some.injEq, Prod.mk.injEq] at H
          obtain ⟨rfl, rfl, rfl⟩ := H
          have p9 : 0 ≤ (x6_2 : Int) := od
          have q9 : x6_2 < (a0.size : Int) := od
          have hx9 := bt_at a0 x6_2
          replace p9 := eq_true p9
          replace q9 := eq_true q9
          go_wp2_with (first | ((with_reducible refine gate_callee (f := 58) rfl ?_); refine goesL_ (some 47) rfl rfl Tryz.func58 kf rfl #[.int .u8 (bt a0 x6_2)] rfl ml ?_; (with_reducible refine (text_plain.calls (bt a0 x6_2) false _ A17.out).mono ?_); rintro e w' ⟨rfl, ⟨nd, rfl⟩⟩; refine ⟨_, rfl, ?_⟩))
          go_ret3
          exact ⟨rf, bl⟩
      ·rw [if_neg c7] at H
       have c7b0 : decide (x6_2 < (a0.size : Int)) = false := decide_eq_false c7
       clear c7
       simp only [Option.some.injEq, Prod.mk.injEq] at H
       obtain ⟨rfl, rfl, rfl⟩ := H
       go_wp2
       go_ret3
       exact ⟨rf, bl⟩

/-! ### path_ends: function 32 -/
def path_ends.f (k : Nat) (a0 : ByteArray) : Option (Int) := (strings_HasPrefix.f a0 (⟨#[34]⟩ : ByteArray)).bind fun t194 => (if t194 = true then ((text_Quoted.f k a0).bind fun bt195 => (if bt195.2.2 = 0 then (if 0 ≤ bt195.2.1 then (if bt195.2.1 ≤ (a0.size : Int) then ((strings_IndexByte.f (a0.extract (bt195.2.1 : Int).toNat a0.size) 62).bind fun t198 => (if t198 ≥ 0 then (some (wrap64 (bt195.2.1 + t198))) else (some (-1)))) else (none)) else (none)) else (if 0 ≤ (a0.size : Int) then ((strings_IndexByte.f a0 62).bind fun t199 => (if t199 ≥ 0 then (some (wrap64 (0 + t199))) else (some (-1)))) else (none)))) else (if 0 ≤ (a0.size : Int) then ((strings_IndexByte.f a0 62).bind fun t200 => (if t200 ≥ 0 then (some (wrap64 (0 + t200))) else (some (-1)))) else (none)))
theorem path_ends.mono : ∀ a0 k, LeO (path_ends.f k a0) (path_ends.f (k + 1) a0) := by
 intro a0 k
 unfold path_ends.f
 repeat' first
   | (with_reducible first | exact text_Quoted.mono _ _ | exact LeO.refl _ | exact LeO.none _ | refine LeO.ite ?_ ?_ | refine LeO.bind ?_ (fun _ => ?_))
theorem path_ends.calls (k : Nat) (a0 : ByteArray) (r : Int) (w : World) (h : path_ends.f k a0 = some r) :
  Calls Tryz.prog 32 #[.string a0] w fun e w' => e = .returned (.int .i64 r) ∧ Below w.heap.size w w' := by
 have HB := Aside0.mk (Below.refl w.heap.size w)
 have H : ((strings_HasPrefix.f a0 (⟨#[34]⟩ : ByteArray)).bind fun t194 => (if t194 = true then ((text_Quoted.f k a0).bind fun bt195 => (if bt195.2.2 = 0 then (if 0 ≤ bt195.2.1 then (if bt195.2.1 ≤ (a0.size : Int) then ((strings_IndexByte.f (a0.extract (bt195.2.1 : Int).toNat a0.size) 62).bind fun t198 => (if t198 ≥ 0 then (some (wrap64 (bt195.2.1 + t198))) else (some (-1)))) else (none)) else (none)) else (if 0 ≤ (a0.size : Int) then ((strings_IndexByte.f a0 62).bind fun t199 => (if t199 ≥ 0 then (some (wrap64 (0 + t199))) else (some (-1)))) else (none)))) else (if 0 ≤ (a0.size : Int) then ((strings_IndexByte.f a0 62).bind fun t200 => (if t200 ≥ 0 then (some (wrap64 (0 + t200))) else (some (-1)))) else (none)))) = some r := h
 clear h
 obtain ⟨t194, A20, H⟩ := Option.bind_eq_some_iff.mp H
 replace H : (if t194 = true then ((text_Quoted.f k a0).bind fun bt195 => (if bt195.2.2 = 0 then (if 0 ≤ bt195.2.1 then (if bt195.2.1 ≤ (a0.size : Int) then ((strings_IndexByte.f (a0.extract (bt195.2.1 : Int).toNat a0.size) 62).bind fun t198 => (if t198 ≥ 0 then (some (wrap64 (bt195.2.1 + t198))) else (some (-1)))) else (none)) else (none)) else (if 0 ≤ (a0.size : Int) then ((strings_IndexByte.f a0 62).bind fun t199 => (if t199 ≥ 0 then (some (wrap64 (0 + t199))) else (some (-1)))) else (none)))) else (if 0 ≤ (a0.size : Int) then ((strings_IndexByte.f a0 62).bind fun t200 => (if t200 ≥ 0 then (some (wrap64 (0 + t200))) else (some (-1)))) else (none))) = some r := H
 have A2 := Aside0.mk A20
 clear A20
 by_cases c3 : t194 = true
 ·subst c3
  replace H : ((text_Quoted.f k a0).bind fun bt195 => (if bt195.2.2 = 0 then (if 0 ≤ bt195.2.1 then (if bt195.2.1 ≤ (a0.size : Int) then ((strings_IndexByte.f (a0.extract (bt195.2.1 : Int).toNat a0.size) 62).bind fun t198 => (if t198 ≥ 0 then (some (wrap64 (bt195.2.1 + t198))) else (some (-1)))) else (none)) else (none)) else (if 0 ≤ (a0.size : Int) then ((strings_IndexByte.f a0 62).bind fun t199 => (if t199 ≥ 0 then (some (wrap64 (0 + t199))) else (some (-1)))) else (none)))) = some r := by rw [if_pos rfl] at H; exact H
  obtain ⟨⟨t195, t196, t197⟩, A40, H⟩ := Option.bind_eq_some_iff.mp H
  replace H : (if t197 = 0 then (if 0 ≤ t196 then (if t196 ≤ (a0.size : Int) then ((strings_IndexByte.f (a0.extract (t196 : Int).toNat a0.size) 62).bind fun t198 => (if t198 ≥ 0 then (some (wrap64 (t196 + t198))) else (some (-1)))) else (none)) else (none)) else (if 0 ≤ (a0.size : Int) then ((strings_IndexByte.f a0 62).bind fun t199 => (if t199 ≥ 0 then (some (wrap64 (0 + t199))) else (some (-1)))) else (none))) = some r := H
  have A4 := Aside0.mk A40
  clear A40
  by_cases c5 : t197 = 0
  ·rw [if_pos c5] at H
   have c5b0 : (t197 == 0) = true := beq_iff_eq.mpr c5
   have c5b1 : (t197 != 0) = false := bne_eq_false_iff_eq.mpr c5
   clear c5
   by_cases c6 : 0 ≤ t196
   rotate_left
   ·rw [if_neg c6] at H
    exact ab H
   rw [if_pos c6] at H
   have c6b0 := eq_true c6
   have c6b1 : decide (0 ≤ t196) = true := decide_eq_true c6
   clear c6
   by_cases c7 : t196 ≤ (a0.size : Int)
   rotate_left
   ·rw [if_neg c7] at H
    exact ab H
   rw [if_pos c7] at H
   have c7b0 := eq_true c7
   have c7b1 : decide (t196 ≤ (a0.size : Int)) = true := decide_eq_true c7
   clear c7
   obtain ⟨t198, A80, H⟩ := Option.bind_eq_some_iff.mp H
   replace H : (if t198 ≥ 0 then (some (wrap64 (t196 + t198))) else (some (-1))) = some r := H
   have A8 := Aside0.mk A80
   clear A80
   by_cases c9 : t198 ≥ 0
   ·rw [if_pos c9] at H
    have c9b0 : decide (0 ≤ t198) = true := decide_eq_true c9
    clear c9
    obtain rfl := Option.some.inj H
    go_enter Tryz.func32, Tryz.ntmps32
    go_wp2_with (first | ((with_reducible refine gate_callee (f := 38) rfl ?_); refine goesL_ (some 9) rfl rfl Tryz.func38 kf rfl #[.string a0, .string (⟨#[34]⟩ : ByteArray)] rfl ml ?_; (with_reducible refine (strings_HasPrefix.calls a0 (⟨#[34]⟩ : ByteArray) true _ A2.out).mono ?_); rintro e w' ⟨rfl, ⟨nd, rfl⟩⟩; refine ⟨_, rfl, ?_⟩) | ((with_reducible refine gate_callee (f := 62) rfl ?_); refine goesL_ (some 12) rfl rfl Tryz.func62 kf rfl #[.string a0] rfl ml ?_; (with_reducible refine (text_Quoted.calls k a0 t195 t196 t197 _ A4.out).mono ?_); rintro e w10 ⟨rfl, hb⟩; refine ⟨_, rfl, ?_⟩; replace HB := Aside0.mk (below_step bl hb); (try clear hb); (try clear hb2); (try clear hk); (try clear hi)) | ((with_reducible refine gate_callee (f := 63) rfl ?_); refine goesL_ (some 22) rfl rfl Tryz.func63 kf rfl #[.string (a0.extract (t196 : Int).toNat a0.size), .int .u8 62] rfl ml ?_; (with_reducible refine (strings_IndexByte.calls (a0.extract (t196 : Int).toNat a0.size) 62 t198 _ A8.out).mono ?_); rintro e w' ⟨rfl, ⟨nd, rfl⟩⟩; refine ⟨_, rfl, ?_⟩))
    go_ret
    exact ⟨rf, bl⟩
   ·rw [if_neg c9] at H
    have c9b0 : decide (0 ≤ t198) = false := decide_eq_false c9
    clear c9
    obtain rfl := Option.some.inj H
    go_enter Tryz.func32, Tryz.ntmps32
    go_wp2_with (first | ((with_reducible refine gate_callee (f := 38) rfl ?_); refine goesL_ (some 9) rfl rfl Tryz.func38 kf rfl #[.string a0, .string (⟨#[34]⟩ : ByteArray)] rfl ml ?_; (with_reducible refine (strings_HasPrefix.calls a0 (⟨#[34]⟩ : ByteArray) true _ A2.out).mono ?_); rintro e w' ⟨rfl, ⟨nd, rfl⟩⟩; refine ⟨_, rfl, ?_⟩) | ((with_reducible refine gate_callee (f := 62) rfl ?_); refine goesL_ (some 12) rfl rfl Tryz.func62 kf rfl #[.string a0] rfl ml ?_; (with_reducible refine (text_Quoted.calls k a0 t195 t196 t197 _ A4.out).mono ?_); rintro e w11 ⟨rfl, hb⟩; refine ⟨_, rfl, ?_⟩; replace HB := Aside0.mk (below_step bl hb); (try clear hb); (try clear hb2); (try clear hk); (try clear hi)) | ((with_reducible refine gate_callee (f := 63) rfl ?_); refine goesL_ (some 22) rfl rfl Tryz.func63 kf rfl #[.string (a0.extract (t196 : Int).toNat a0.size), .int .u8 62] rfl ml ?_; (with_reducible refine (strings_IndexByte.calls (a0.extract (t196 : Int).toNat a0.size) 62 t198 _ A8.out).mono ?_); rintro e w' ⟨rfl, ⟨nd, rfl⟩⟩; refine ⟨_, rfl, ?_⟩))
    go_ret
    exact ⟨rf, bl⟩
  ·rw [if_neg c5] at H
   have c5b0 : (t197 == 0) = false := beq_eq_false_iff_ne.mpr c5
   have c5b1 : (t197 != 0) = true := bne_iff_ne.mpr c5
   by_cases c12 : 0 ≤ (a0.size : Int)
   rotate_left
   ·rw [if_neg c12] at H
    exact ab H
   rw [if_pos c12] at H
   have c12b0 := eq_true c12
   have c12b1 : decide (0 ≤ (a0.size : Int)) = true := decide_eq_true c12
   clear c12
   obtain ⟨t199, A130, H⟩ := Option.bind_eq_some_iff.mp H
   replace H : (if t199 ≥ 0 then (some (wrap64 (0 + t199))) else (some (-1))) = some r := H
   have A13 := Aside0.mk A130
   clear A130
   by_cases c14 : t199 ≥ 0
   ·rw [if_pos c14] at H
    have c14b0 : decide (0 ≤ t199) = true := decide_eq_true c14
    clear c14
    obtain rfl := Option.some.inj H
    go_enter Tryz.func32, Tryz.ntmps32
    go_wp2_with (first | ((with_reducible refine gate_callee (f := 38) rfl ?_); refine goesL_ (some 9) rfl rfl Tryz.func38 kf rfl #[.string a0, .string (⟨#[34]⟩ : ByteArray)] rfl ml ?_; (with_reducible refine (strings_HasPrefix.calls a0 (⟨#[34]⟩ : ByteArray) true _ A2.out).mono ?_); rintro e w' ⟨rfl, ⟨nd, rfl⟩⟩; refine ⟨_, rfl, ?_⟩) | ((with_reducible refine gate_callee (f := 62) rfl ?_); refine goesL_ (some 12) rfl rfl Tryz.func62 kf rfl #[.string a0] rfl ml ?_; (with_reducible refine (text_Quoted.calls k a0 t195 t196 t197 _ A4.out).mono ?_); rintro e w15 ⟨rfl, hb⟩; refine ⟨_, rfl, ?_⟩; replace HB := Aside0.mk (below_step bl hb); (try clear hb); (try clear hb2); (try clear hk); (try clear hi)) | ((with_reducible refine gate_callee (f := 63) rfl ?_); refine goesL_ (some 22) rfl rfl Tryz.func63 kf rfl #[.string a0, .int .u8 62] rfl ml ?_; (with_reducible refine (strings_IndexByte.calls a0 62 t199 _ A13.out).mono ?_); rintro e w' ⟨rfl, ⟨nd, rfl⟩⟩; refine ⟨_, rfl, ?_⟩))
    go_ret
    exact ⟨rf, bl⟩
   ·rw [if_neg c14] at H
    have c14b0 : decide (0 ≤ t199) = false := decide_eq_false c14
    clear c14
    obtain rfl := Option.some.inj H
    go_enter Tryz.func32, Tryz.ntmps32
    go_wp2_with (first | ((with_reducible refine gate_callee (f := 38) rfl ?_); refine goesL_ (some 9) rfl rfl Tryz.func38 kf rfl #[.string a0, .string (⟨#[34]⟩ : ByteArray)] rfl ml ?_; (with_reducible refine (strings_HasPrefix.calls a0 (⟨#[34]⟩ : ByteArray) true _ A2.out).mono ?_); rintro e w' ⟨rfl, ⟨nd, rfl⟩⟩; refine ⟨_, rfl, ?_⟩) | ((with_reducible refine gate_callee (f := 62) rfl ?_); refine goesL_ (some 12) rfl rfl Tryz.func62 kf rfl #[.string a0] rfl ml ?_; (with_reducible refine (text_Quoted.calls k a0 t195 t196 t197 _ A4.out).mono ?_); rintro e w16 ⟨rfl, hb⟩; refine ⟨_, rfl, ?_⟩; replace HB := Aside0.mk (below_step bl hb); (try clear hb); (try clear hb2); (try clear hk); (try clear hi)) | ((with_reducible refine gate_callee (f := 63) rfl ?_); refine goesL_ (some 22) rfl rfl Tryz.func63 kf rfl #[.string a0, .int .u8 62] rfl ml ?_; (with_reducible refine (strings_IndexByte.calls a0 62 t199 _ A13.out).mono ?_); rintro e w' ⟨rfl, ⟨nd, rfl⟩⟩; refine ⟨_, rfl, ?_⟩))
    go_ret
    exact ⟨rf, bl⟩
 ·replace c3 := Bool.eq_false_iff.mpr c3
  subst c3
  replace H : (if 0 ≤ (a0.size : Int) then ((strings_IndexByte.f a0 62).bind fun t200 => (if t200 ≥ 0 then (some (wrap64 (0 + t200))) else (some (-1)))) else (none)) = some r := by rw [if_neg (show ¬ (false = true) by decide)] at H; exact H
  by_cases c17 : 0 ≤ (a0.size : Int)
  rotate_left
  ·rw [if_neg c17] at H
   exact ab H
  rw [if_pos c17] at H
  have c17b0 := eq_true c17
  have c17b1 : decide (0 ≤ (a0.size : Int)) = true := decide_eq_true c17
  clear c17
  obtain ⟨t200, A180, H⟩ := Option.bind_eq_some_iff.mp H
  replace H : (if t200 ≥ 0 then (some (wrap64 (0 + t200))) else (some (-1))) = some r := H
  have A18 := Aside0.mk A180
  clear A180
  by_cases c19 : t200 ≥ 0
  ·rw [if_pos c19] at H
   have c19b0 : decide (0 ≤ t200) = true := decide_eq_true c19
   clear c19
   obtain rfl := Option.some.inj H
   go_enter Tryz.func32, Tryz.ntmps32
   go_wp2_with (first | ((with_reducible refine gate_callee (f := 38) rfl ?_); refine goesL_ (some 9) rfl rfl Tryz.func38 kf rfl #[.string a0, .string (⟨#[34]⟩ : ByteArray)] rfl ml ?_; (with_reducible refine (strings_HasPrefix.calls a0 (⟨#[34]⟩ : ByteArray) false _ A2.out).mono ?_); rintro e w' ⟨rfl, ⟨nd, rfl⟩⟩; refine ⟨_, rfl, ?_⟩) | ((with_reducible refine gate_callee (f := 63) rfl ?_); refine goesL_ (some 22) rfl rfl Tryz.func63 kf rfl #[.string a0, .int .u8 62] rfl ml ?_; (with_reducible refine (strings_IndexByte.calls a0 62 t200 _ A18.out).mono ?_); rintro e w' ⟨rfl, ⟨nd, rfl⟩⟩; refine ⟨_, rfl, ?_⟩))
   go_ret
   exact ⟨rf, bl⟩
  ·rw [if_neg c19] at H
   have c19b0 : decide (0 ≤ t200) = false := decide_eq_false c19
   clear c19
   obtain rfl := Option.some.inj H
   go_enter Tryz.func32, Tryz.ntmps32
   go_wp2_with (first | ((with_reducible refine gate_callee (f := 38) rfl ?_); refine goesL_ (some 9) rfl rfl Tryz.func38 kf rfl #[.string a0, .string (⟨#[34]⟩ : ByteArray)] rfl ml ?_; (with_reducible refine (strings_HasPrefix.calls a0 (⟨#[34]⟩ : ByteArray) false _ A2.out).mono ?_); rintro e w' ⟨rfl, ⟨nd, rfl⟩⟩; refine ⟨_, rfl, ?_⟩) | ((with_reducible refine gate_callee (f := 63) rfl ?_); refine goesL_ (some 22) rfl rfl Tryz.func63 kf rfl #[.string a0, .int .u8 62] rfl ml ?_; (with_reducible refine (strings_IndexByte.calls a0 62 t200 _ A18.out).mono ?_); rintro e w' ⟨rfl, ⟨nd, rfl⟩⟩; refine ⟨_, rfl, ?_⟩))
   go_ret
   exact ⟨rf, bl⟩

end Go.Proofs.YtgelfnjicglmbaaGreatDoor.Q
end
section
namespace Go.Proofs.YtgelfnjicglmbaaGreatDoor.Q

/-! ### addr_local: function 65 -/
def addr_local.f (k : Nat) (a0 : ByteArray) : Option (ByteArray × ByteArray × Bool) := (strings_HasPrefix.f a0 (⟨#[34]⟩ : ByteArray)).bind fun t201 => (if t201 = true then ((text_Quoted.f k a0).bind fun bt202 => (if 0 ≤ bt202.2.1 then (if bt202.2.1 ≤ (a0.size : Int) then (if bt202.2.2 = 0 then (some (bt202.1, a0.extract (bt202.2.1 : Int).toNat a0.size, (bt202.1.toList != ([] : List UInt8)))) else (some (bt202.1, a0.extract (bt202.2.1 : Int).toNat a0.size, false))) else (none)) else (none))) else ((strings_IndexByte.f a0 64).bind fun t205 => (if 0 ≤ (mx t205 0) then (if (mx t205 0) ≤ (a0.size : Int) then ((text_DotAtom.f k (a0.extract 0 ((mx t205 0) : Int).toNat)).bind fun t206 => (some (a0.extract 0 ((mx t205 0) : Int).toNat, a0.extract ((mx t205 0) : Int).toNat a0.size, t206))) else (none)) else (none))))
theorem addr_local.mono : ∀ a0 k, LeO (addr_local.f k a0) (addr_local.f (k + 1) a0) := by
 intro a0 k
 unfold addr_local.f
 repeat' first
   | (with_reducible first | exact text_DotAtom.mono _ _ | exact text_Quoted.mono _ _ | exact LeO.refl _ | exact LeO.none _ | refine LeO.ite ?_ ?_ | refine LeO.bind ?_ (fun _ => ?_))
def addr_local.T3 : Bool × List (List Nat × List Nat) := (true, [([], []), ([], []), ([], []), ([1, 2], [1, 2]), ([], []), ([4], [4]), ([5], [5]), ([6], [6]), ([7, 6], [6, 7]), ([6, 8], [6, 8]), ([0, 6, 0], [0]), ([3, 10, 0, 1, 2, 3, 10], [3]), ([9, 11, 0, 1, 2, 3, 4, 5, 6, 7, 8, 9, 10, 11], [9])])
def addr_local.B3 : List Nat := [0, 0, 0, 6, 0, 16, 48, 112, 240, 496, 113, 1151, 4095]
theorem addr_local.tab3 : rtab .any (opsOf Tryz.f65 3) = addr_local.T3 := by kernel_rfl
theorem addr_local.bits3 : waitsOk addr_local.T3.2 addr_local.B3 = true := by kernel_rfl
def addr_local.T5 : Bool × List (List Nat × List Nat) := (true, [([], []), ([], []), ([0, 1], [0, 1]), ([], []), ([], []), ([3, 4], [3, 4]), ([], []), ([], []), ([6, 7], [6, 7]), ([8], [8]), ([2, 9, 0, 1, 2], [2]), ([5, 10, 0, 1, 2, 3, 4, 5, 10], [5]), ([9, 11, 0, 1, 2, 3, 4, 5, 6, 7, 8, 9, 10, 11], [9])])
def addr_local.B5 : List Nat := [0, 0, 3, 0, 0, 24, 0, 0, 192, 448, 967, 2047, 4095]
theorem addr_local.tab5 : rtab .any (opsOf Tryz.f65 5) = addr_local.T5 := by kernel_rfl
theorem addr_local.bits5 : waitsOk addr_local.T5.2 addr_local.B5 = true := by kernel_rfl
theorem addr_local.calls (k : Nat) (a0 : ByteArray) (r1 : ByteArray) (r2 : ByteArray) (r3 : Bool) (w : World) (hG : Glob w) (h : addr_local.f k a0 = some (r1, r2, r3)) :
  Calls Tryz.prog 65 #[.string a0] w fun e w' => e = .returned (.tuple #[.string r1, .string r2, .bool r3]) ∧ Below w.heap.size w w' := by
 have HB := Aside0.mk (Below.refl w.heap.size w)
 have HG := Aside0.mk hG
 clear hG
 have H : ((strings_HasPrefix.f a0 (⟨#[34]⟩ : ByteArray)).bind fun t201 => (if t201 = true then ((text_Quoted.f k a0).bind fun bt202 => (if 0 ≤ bt202.2.1 then (if bt202.2.1 ≤ (a0.size : Int) then (if bt202.2.2 = 0 then (some (bt202.1, a0.extract (bt202.2.1 : Int).toNat a0.size, (bt202.1.toList != ([] : List UInt8)))) else (some (bt202.1, a0.extract (bt202.2.1 : Int).toNat a0.size, false))) else (none)) else (none))) else ((strings_IndexByte.f a0 64).bind fun t205 => (if 0 ≤ (mx t205 0) then (if (mx t205 0) ≤ (a0.size : Int) then ((text_DotAtom.f k (a0.extract 0 ((mx t205 0) : Int).toNat)).bind fun t206 => (some (a0.extract 0 ((mx t205 0) : Int).toNat, a0.extract ((mx t205 0) : Int).toNat a0.size, t206))) else (none)) else (none))))) = some (r1, r2, r3) := h
 clear h
 obtain ⟨t201, A20, H⟩ := Option.bind_eq_some_iff.mp H
 replace H : (if t201 = true then ((text_Quoted.f k a0).bind fun bt202 => (if 0 ≤ bt202.2.1 then (if bt202.2.1 ≤ (a0.size : Int) then (if bt202.2.2 = 0 then (some (bt202.1, a0.extract (bt202.2.1 : Int).toNat a0.size, (bt202.1.toList != ([] : List UInt8)))) else (some (bt202.1, a0.extract (bt202.2.1 : Int).toNat a0.size, false))) else (none)) else (none))) else ((strings_IndexByte.f a0 64).bind fun t205 => (if 0 ≤ (mx t205 0) then (if (mx t205 0) ≤ (a0.size : Int) then ((text_DotAtom.f k (a0.extract 0 ((mx t205 0) : Int).toNat)).bind fun t206 => (some (a0.extract 0 ((mx t205 0) : Int).toNat, a0.extract ((mx t205 0) : Int).toNat a0.size, t206))) else (none)) else (none)))) = some (r1, r2, r3) := H
 have A2 := Aside0.mk A20
 clear A20
 by_cases c3 : t201 = true
 ·subst c3
  replace H : ((text_Quoted.f k a0).bind fun bt202 => (if 0 ≤ bt202.2.1 then (if bt202.2.1 ≤ (a0.size : Int) then (if bt202.2.2 = 0 then (some (bt202.1, a0.extract (bt202.2.1 : Int).toNat a0.size, (bt202.1.toList != ([] : List UInt8)))) else (some (bt202.1, a0.extract (bt202.2.1 : Int).toNat a0.size, false))) else (none)) else (none))) = some (r1, r2, r3) := by rw [if_pos rfl] at H; exact H
  obtain ⟨⟨t202, t203, t204⟩, A40, H⟩ := Option.bind_eq_some_iff.mp H
  replace H : (if 0 ≤ t203 then (if t203 ≤ (a0.size : Int) then (if t204 = 0 then (some (t202, a0.extract (t203 : Int).toNat a0.size, (t202.toList != ([] : List UInt8)))) else (some (t202, a0.extract (t203 : Int).toNat a0.size, false))) else (none)) else (none)) = some (r1, r2, r3) := H
  have A4 := Aside0.mk A40
  clear A40
  by_cases c5 : 0 ≤ t203
  rotate_left
  ·rw [if_neg c5] at H
   exact ab H
  rw [if_pos c5] at H
  have c5b0 := eq_true c5
  have c5b1 : decide (0 ≤ t203) = true := decide_eq_true c5
  clear c5
  by_cases c6 : t203 ≤ (a0.size : Int)
  rotate_left
  ·rw [if_neg c6] at H
   exact ab H
  rw [if_pos c6] at H
  have c6b0 := eq_true c6
  have c6b1 : decide (t203 ≤ (a0.size : Int)) = true := decide_eq_true c6
  clear c6
  by_cases c7 : t204 = 0
  ·rw [if_pos c7] at H
   have c7b0 : (t204 == 0) = true := beq_iff_eq.mpr c7
   have c7b1 : (t204 != 0) = false := bne_eq_false_iff_eq.mpr c7
   clear c7
   simp only [Option.some.injEq, Prod.mk.injEq] at H
   obtain ⟨rfl, rfl, rfl⟩ := H
   go_enter Tryz.func65, Tryz.ntmps65
   try go_wp2_with (first | ((with_reducible refine gate_callee (f := 38) rfl ?_); refine goesL_ (some 10) rfl rfl Tryz.func38 kf rfl #[.string a0, .string (⟨#[34]⟩ : ByteArray)] rfl ml ?_; (with_reducible refine (strings_HasPrefix.calls a0 (⟨#[34]⟩ : ByteArray) true _ A2.out).mono ?_); rintro e w' ⟨rfl, ⟨nd, rfl⟩⟩; refine ⟨_, rfl, ?_⟩) | ((with_reducible refine gate_callee (f := 62) rfl ?_); refine goesL_ (some 13) rfl rfl Tryz.func62 kf rfl #[.string a0] rfl ml ?_; (with_reducible refine (text_Quoted.calls k a0 t202 t203 t204 _ A4.out).mono ?_); rintro e w8 ⟨rfl, hb⟩; refine ⟨_, rfl, ?_⟩; replace HB := Aside0.mk (below_step bl hb); (try clear hb); (try clear hb2); (try clear hk); (try clear hi)))
   replace HB := Aside0.mk (below_drew1 HB.out)
   refine start_ (n := 13) (S := fun w' => True) (ds := []) #[false, false, false, false, false, false, false, false, false, false, false, false, false] kf rfl rfl trivial (fun hHeld => ?_); refine with_tabW addr_local.tab3 addr_local.bits3 (fun HT_ HW_ => ?_)
   generalize w8.drew = w9 at HB hHeld ⊢
   refine pure_ (i := 0) (N := some 17) (v := ?_) (a' := ?_) #[true, false, false, false, false, false, false, false, false, false, false, false, false] rfl rfl (any_of HT_.out kf) (fun _ _ _ h => h) (Or.inl ⟨by rfl, ?_⟩) ?_ ?_
   rotate_left
   ·intro w'
    go_simp
    with_reducible rfl
   rotate_left
   ·simp only [Act.put, sA, sB, sC, i64_w, i32_w]
    rfl
   refine pure_ (i := 1) (N := some 18) (v := ?_) (a' := ?_) #[true, true, false, false, false, false, false, false, false, false, false, false, false] rfl rfl (any_of HT_.out kf) (fun _ _ _ h => h) (Or.inl ⟨by rfl, ?_⟩) ?_ ?_
   rotate_left
   ·intro w'
    go_simp
    with_reducible rfl
   rotate_left
   ·simp only [Act.put, sA, sB, sC, i64_w, i32_w]
    rfl
   refine pure_ (i := 2) (N := some 19) (v := ?_) (a' := ?_) #[true, true, true, false, false, false, false, false, false, false, false, false, false] rfl rfl (any_of HT_.out kf) (fun _ _ _ h => h) (Or.inl ⟨by rfl, ?_⟩) ?_ ?_
   rotate_left
   ·intro w'
    go_simp
    with_reducible rfl
   rotate_left
   ·simp only [Act.put, sA, sB, sC, i64_w, i32_w]
    rfl
   refine pure_ (i := 3) (N := some 20) (v := ?_) (a' := ?_) #[true, true, true, true, false, false, false, false, false, false, false, false, false] rfl rfl (any_of HT_.out kf) (fun _ _ _ h => h) (Or.inl ⟨by rfl, ?_⟩) ?_ ?_
   rotate_left
   ·intro w'
    go_simp
    with_reducible rfl
   rotate_left
   ·simp only [Act.put, sA, sB, sC, i64_w, i32_w]
    rfl
   refine pure_ (i := 4) (N := some 21) (v := ?_) (a' := ?_) #[true, true, true, true, true, false, false, false, false, false, false, false, false] rfl rfl (any_of HT_.out kf) (fun _ _ _ h => h) (Or.inl ⟨by rfl, ?_⟩) ?_ ?_
   rotate_left
   ·intro w'
    go_simp
    with_reducible rfl
   rotate_left
   ·simp only [Act.put, sA, sB, sC, i64_w, i32_w]
    rfl
   refine pure_ (i := 5) (N := some 22) (v := ?_) (a' := ?_) #[true, true, true, true, true, true, false, false, false, false, false, false, false] rfl rfl (any_of HT_.out kf) (fun _ _ _ h => h) (Or.inl ⟨by rfl, ?_⟩) ?_ ?_
   rotate_left
   ·intro w'
    go_simp
    with_reducible rfl
   rotate_left
   ·simp only [Act.put, sA, sB, sC, i64_w, i32_w]
    rfl
   refine pure_ (i := 6) (N := some 23) (v := ?_) (a' := ?_) #[true, true, true, true, true, true, true, false, false, false, false, false, false] rfl rfl (any_of HT_.out kf) (fun _ _ _ h => h) (Or.inl ⟨by rfl, ?_⟩) ?_ ?_
   rotate_left
   ·intro w'
    go_simp
    with_reducible rfl
   rotate_left
   ·simp only [Act.put, sA, sB, sC, i64_w, i32_w]
    rfl
   refine pure_ (i := 7) (N := some 24) (v := ?_) (a' := ?_) #[true, true, true, true, true, true, true, true, false, false, false, false, false] rfl rfl (any_of HT_.out kf) (fun _ _ _ h => h) (Or.inl ⟨by rfl, ?_⟩) ?_ ?_
   rotate_left
   ·intro w'
    go_simp
    with_reducible rfl
   rotate_left
   ·simp only [Act.put, sA, sB, sC, i64_w, i32_w]
    rfl
   refine pure_ (i := 8) (N := some 25) (v := ?_) (a' := ?_) #[true, true, true, true, true, true, true, true, true, false, false, false, false] rfl rfl (any_of HT_.out kf) (fun _ _ _ h => h) (Or.inl ⟨by rfl, ?_⟩) ?_ ?_
   rotate_left
   ·intro w'
    go_simp
    with_reducible rfl
   rotate_left
   ·simp only [Act.put, sA, sB, sC, i64_w, i32_w]
    rfl
   refine pure_ (i := 9) (N := some 26) (v := ?_) (a' := ?_) #[true, true, true, true, true, true, true, true, true, true, false, false, false] rfl rfl (any_of HT_.out kf) (fun _ _ _ h => h) (Or.inl ⟨by rfl, ?_⟩) ?_ ?_
   rotate_left
   ·intro w'
    go_simp
    with_reducible rfl
   rotate_left
   ·simp only [Act.put, sA, sB, sC, i64_w, i32_w]
    rfl
   refine pure_ (i := 10) (N := some 2) (v := ?_) (a' := ?_) #[true, true, true, true, true, true, true, true, true, true, true, false, false] rfl rfl (any_of HT_.out kf) (fun _ _ _ h => h) (Or.inl ⟨by rfl, ?_⟩) ?_ ?_
   rotate_left
   ·intro w'
    go_simp
    with_reducible rfl
   rotate_left
   ·simp only [Act.put, sA, sB, sC, i64_w, i32_w]
    rfl
   refine pure_ (i := 11) (N := some 3) (v := ?_) (a' := ?_) #[true, true, true, true, true, true, true, true, true, true, true, true, false] rfl rfl (any_of HT_.out kf) (fun _ _ _ h => h) (Or.inl ⟨by rfl, ?_⟩) ?_ ?_
   rotate_left
   ·intro w'
    go_simp
    with_reducible rfl
   rotate_left
   ·simp only [Act.put, sA, sB, sC, i64_w, i32_w]
    rfl
   refine pure_ (i := 12) (N := some 4) (v := ?_) (a' := ?_) #[true, true, true, true, true, true, true, true, true, true, true, true, true] rfl rfl (any_of HT_.out kf) (fun _ _ _ h => h) (Or.inl ⟨by rfl, ?_⟩) ?_ ?_
   rotate_left
   ·intro w'
    go_simp
    with_reducible rfl
   rotate_left
   ·simp only [Act.put, sA, sB, sC, i64_w, i32_w]
    rfl
   refine done_ (done_of HT_.out kf) ?_
   try go_wp2
   go_ret3
   exact ⟨rf, bl⟩
  ·rw [if_neg c7] at H
   have c7b0 : (t204 == 0) = false := beq_eq_false_iff_ne.mpr c7
   have c7b1 : (t204 != 0) = true := bne_iff_ne.mpr c7
   simp only [Option.some.injEq, Prod.mk.injEq] at H
   obtain ⟨rfl, rfl, rfl⟩ := H
   go_enter Tryz.func65, Tryz.ntmps65
   try go_wp2_with (first | ((with_reducible refine gate_callee (f := 38) rfl ?_); refine goesL_ (some 10) rfl rfl Tryz.func38 kf rfl #[.string a0, .string (⟨#[34]⟩ : ByteArray)] rfl ml ?_; (with_reducible refine (strings_HasPrefix.calls a0 (⟨#[34]⟩ : ByteArray) true _ A2.out).mono ?_); rintro e w' ⟨rfl, ⟨nd, rfl⟩⟩; refine ⟨_, rfl, ?_⟩) | ((with_reducible refine gate_callee (f := 62) rfl ?_); refine goesL_ (some 13) rfl rfl Tryz.func62 kf rfl #[.string a0] rfl ml ?_; (with_reducible refine (text_Quoted.calls k a0 t202 t203 t204 _ A4.out).mono ?_); rintro e w10 ⟨rfl, hb⟩; refine ⟨_, rfl, ?_⟩; replace HB := Aside0.mk (below_step bl hb); (try clear hb); (try clear hb2); (try clear hk); (try clear hi)))
   replace HB := Aside0.mk (below_drew1 HB.out)
   refine start_ (n := 13) (S := fun w' => True) (ds := []) #[false, false, false, false, false, false, false, false, false, false, false, false, false] kf rfl rfl trivial (fun hHeld => ?_); refine with_tabW addr_local.tab3 addr_local.bits3 (fun HT_ HW_ => ?_)
   generalize w10.drew = w11 at HB hHeld ⊢
   refine pure_ (i := 0) (N := some 17) (v := ?_) (a' := ?_) #[true, false, false, false, false, false, false, false, false, false, false, false, false] rfl rfl (any_of HT_.out kf) (fun _ _ _ h => h) (Or.inl ⟨by rfl, ?_⟩) ?_ ?_
   rotate_left
   ·intro w'
    go_simp
    with_reducible rfl
   rotate_left
   ·simp only [Act.put, sA, sB, sC, i64_w, i32_w]
    rfl
   refine pure_ (i := 1) (N := some 18) (v := ?_) (a' := ?_) #[true, true, false, false, false, false, false, false, false, false, false, false, false] rfl rfl (any_of HT_.out kf) (fun _ _ _ h => h) (Or.inl ⟨by rfl, ?_⟩) ?_ ?_
   rotate_left
   ·intro w'
    go_simp
    with_reducible rfl
   rotate_left
   ·simp only [Act.put, sA, sB, sC, i64_w, i32_w]
    rfl
   refine pure_ (i := 2) (N := some 19) (v := ?_) (a' := ?_) #[true, true, true, false, false, false, false, false, false, false, false, false, false] rfl rfl (any_of HT_.out kf) (fun _ _ _ h => h) (Or.inl ⟨by rfl, ?_⟩) ?_ ?_
   rotate_left
   ·intro w'
    go_simp
    with_reducible rfl
   rotate_left
   ·simp only [Act.put, sA, sB, sC, i64_w, i32_w]
    rfl
   refine pure_ (i := 3) (N := some 20) (v := ?_) (a' := ?_) #[true, true, true, true, false, false, false, false, false, false, false, false, false] rfl rfl (any_of HT_.out kf) (fun _ _ _ h => h) (Or.inl ⟨by rfl, ?_⟩) ?_ ?_
   rotate_left
   ·intro w'
    go_simp
    with_reducible rfl
   rotate_left
   ·simp only [Act.put, sA, sB, sC, i64_w, i32_w]
    rfl
   refine pure_ (i := 4) (N := some 21) (v := ?_) (a' := ?_) #[true, true, true, true, true, false, false, false, false, false, false, false, false] rfl rfl (any_of HT_.out kf) (fun _ _ _ h => h) (Or.inl ⟨by rfl, ?_⟩) ?_ ?_
   rotate_left
   ·intro w'
    go_simp
    with_reducible rfl
   rotate_left
   ·simp only [Act.put, sA, sB, sC, i64_w, i32_w]
    rfl
   refine pure_ (i := 5) (N := some 22) (v := ?_) (a' := ?_) #[true, true, true, true, true, true, false, false, false, false, false, false, false] rfl rfl (any_of HT_.out kf) (fun _ _ _ h => h) (Or.inl ⟨by rfl, ?_⟩) ?_ ?_
   rotate_left
   ·intro w'
    go_simp
    with_reducible rfl
   rotate_left
   ·simp only [Act.put, sA, sB, sC, i64_w, i32_w]
    rfl
   refine pure_ (i := 6) (N := some 23) (v := ?_) (a' := ?_) #[true, true, true, true, true, true, true, false, false, false, false, false, false] rfl rfl (any_of HT_.out kf) (fun _ _ _ h => h) (Or.inl ⟨by rfl, ?_⟩) ?_ ?_
   rotate_left
   ·intro w'
    go_simp
    with_reducible rfl
   rotate_left
   ·simp only [Act.put, sA, sB, sC, i64_w, i32_w]
    rfl
   refine pure_ (i := 7) (N := some 24) (v := undef) (a' := ?_) #[true, true, true, true, true, true, true, true, false, false, false, false, false] rfl rfl (any_of HT_.out kf) (fun _ _ _ h => h) (Or.inr ⟨by rfl, rfl⟩) ?_ ?_
   rotate_left
   ·simp only [Act.put, sA, sB, sC, i64_w, i32_w]
    rfl
   refine pure_ (i := 8) (N := some 25) (v := undef) (a' := ?_) #[true, true, true, true, true, true, true, true, true, false, false, false, false] rfl rfl (any_of HT_.out kf) (fun _ _ _ h => h) (Or.inr ⟨by rfl, rfl⟩) ?_ ?_
   rotate_left
   ·simp only [Act.put, sA, sB, sC, i64_w, i32_w]
    rfl
   refine pure_ (i := 9) (N := some 26) (v := ?_) (a' := ?_) #[true, true, true, true, true, true, true, true, true, true, false, false, false] rfl rfl (any_of HT_.out kf) (fun _ _ _ h => h) (Or.inl ⟨by rfl, ?_⟩) ?_ ?_
   rotate_left
   ·intro w'
    go_simp
    with_reducible rfl
   rotate_left
   ·simp only [Act.put, sA, sB, sC, i64_w, i32_w]
    rfl
   refine pure_ (i := 10) (N := some 2) (v := ?_) (a' := ?_) #[true, true, true, true, true, true, true, true, true, true, true, false, false] rfl rfl (any_of HT_.out kf) (fun _ _ _ h => h) (Or.inl ⟨by rfl, ?_⟩) ?_ ?_
   rotate_left
   ·intro w'
    go_simp
    with_reducible rfl
   rotate_left
   ·simp only [Act.put, sA, sB, sC, i64_w, i32_w]
    rfl
   refine pure_ (i := 11) (N := some 3) (v := ?_) (a' := ?_) #[true, true, true, true, true, true, true, true, true, true, true, true, false] rfl rfl (any_of HT_.out kf) (fun _ _ _ h => h) (Or.inl ⟨by rfl, ?_⟩) ?_ ?_
   rotate_left
   ·intro w'
    go_simp
    with_reducible rfl
   rotate_left
   ·simp only [Act.put, sA, sB, sC, i64_w, i32_w]
    rfl
   refine pure_ (i := 12) (N := some 4) (v := ?_) (a' := ?_) #[true, true, true, true, true, true, true, true, true, true, true, true, true] rfl rfl (any_of HT_.out kf) (fun _ _ _ h => h) (Or.inl ⟨by rfl, ?_⟩) ?_ ?_
   rotate_left
   ·intro w'
    go_simp
    with_reducible rfl
   rotate_left
   ·simp only [Act.put, sA, sB, sC, i64_w, i32_w]
    rfl
   refine done_ (done_of HT_.out kf) ?_
   try go_wp2
   go_ret3
   exact ⟨rf, bl⟩
 ·replace c3 := Bool.eq_false_iff.mpr c3
  subst c3
  replace H : ((strings_IndexByte.f a0 64).bind fun t205 => (if 0 ≤ (mx t205 0) then (if (mx t205 0) ≤ (a0.size : Int) then ((text_DotAtom.f k (a0.extract 0 ((mx t205 0) : Int).toNat)).bind fun t206 => (some (a0.extract 0 ((mx t205 0) : Int).toNat, a0.extract ((mx t205 0) : Int).toNat a0.size, t206))) else (none)) else (none))) = some (r1, r2, r3) := by rw [if_neg (show ¬ (false = true) by decide)] at H; exact H
  obtain ⟨t205, A120, H⟩ := Option.bind_eq_some_iff.mp H
  replace H : (if 0 ≤ (mx t205 0) then (if (mx t205 0) ≤ (a0.size : Int) then ((text_DotAtom.f k (a0.extract 0 ((mx t205 0) : Int).toNat)).bind fun t206 => (some (a0.extract 0 ((mx t205 0) : Int).toNat, a0.extract ((mx t205 0) : Int).toNat a0.size, t206))) else (none)) else (none)) = some (r1, r2, r3) := H
  have A12 := Aside0.mk A120
  clear A120
  obtain ⟨ji13, hji13⟩ : ∃ j_ : Int, (mx t205 0) = j_ := ⟨_, rfl⟩
  replace H : (if 0 ≤ (ji13) then (if (ji13) ≤ (a0.size : Int) then ((text_DotAtom.f k (a0.extract 0 ((ji13) : Int).toNat)).bind fun t206 => (some (a0.extract 0 ((ji13) : Int).toNat, a0.extract ((ji13) : Int).toNat a0.size, t206))) else (none)) else (none)) = some (r1, r2, r3) := by first | (rw [hji13] at H; exact H) | (simp only [hji13] at H ⊢; exact H)
  (try rw [hji13] at A2)
  (try rw [hji13] at A12)
  (try (have hji13l : 0 ≤ ji13 := by (rw [← hji13]; unfold mx; (repeat' split) <;> omega)))
  (try (have hji13m : 0 ≤ ji13 := by omega))
  have hji13_ : (if t205 < 0 then 0 else t205) = ji13 := hji13
  by_cases c14 : 0 ≤ (ji13)
  rotate_left
  ·rw [if_neg c14] at H
   exact ab H
  rw [if_pos c14] at H
  have c14b0 := eq_true c14
  have c14b1 : decide (0 ≤ (ji13)) = true := decide_eq_true c14
  clear c14
  by_cases c15 : (ji13) ≤ (a0.size : Int)
  rotate_left
  ·rw [if_neg c15] at H
   exact ab H
  rw [if_pos c15] at H
  have c15b0 := eq_true c15
  have c15b1 : decide ((ji13) ≤ (a0.size : Int)) = true := decide_eq_true c15
  clear c15
  have c16b0 := eq_true (od : 0 ≤ (ji13))
  have c17b0 := eq_true (od : (ji13) ≤ (a0.size : Int))
  have c18b0 := eq_true (od : 0 ≤ (ji13))
  have c19b0 := eq_true (od : (ji13) ≤ (a0.size : Int))
  obtain ⟨t206, A200, H⟩ := Option.bind_eq_some_iff.mp H
  replace H : (some (a0.extract 0 ((ji13) : Int).toNat, a0.extract ((ji13) : Int).toNat a0.size, t206)) = some (r1, r2, r3) := H
  have A20 := Aside0.mk A200
  clear A200
  simp only [Option.some.injEq, Prod.mk.injEq] at H
  obtain ⟨rfl, rfl, rfl⟩ := H
  go_enter Tryz.func65, Tryz.ntmps65
  try go_wp2_with (first | ((with_reducible refine gate_callee (f := 38) rfl ?_); refine goesL_ (some 10) rfl rfl Tryz.func38 kf rfl #[.string a0, .string (⟨#[34]⟩ : ByteArray)] rfl ml ?_; (with_reducible refine (strings_HasPrefix.calls a0 (⟨#[34]⟩ : ByteArray) false _ A2.out).mono ?_); rintro e w' ⟨rfl, ⟨nd, rfl⟩⟩; refine ⟨_, rfl, ?_⟩) | ((with_reducible refine gate_callee (f := 63) rfl ?_); refine goesL_ (some 28) rfl rfl Tryz.func63 kf rfl #[.string a0, .int .u8 64] rfl ml ?_; (with_reducible refine (strings_IndexByte.calls a0 64 t205 _ A12.out).mono ?_); rintro e w' ⟨rfl, ⟨nd, rfl⟩⟩; refine ⟨_, rfl, ?_⟩))
  rename_i nd1_ h1_ K1_ a1_
  replace HB := Aside0.mk (below_drew1 (pw_below_drewN HB.out (nd1_ + nd)))
  refine start_ (n := 13) (S := fun w' => True) (ds := []) #[false, false, false, false, false, false, false, false, false, false, false, false, false] kf rfl rfl trivial (fun hHeld => ?_); refine with_tabW addr_local.tab5 addr_local.bits5 (fun HT_ HW_ => ?_)
  generalize (w.drewN (nd1_ + nd)).drew = w21 at HB hHeld ⊢
  refine pure_ (i := 0) (N := some 30) (v := ?_) (a' := ?_) #[true, false, false, false, false, false, false, false, false, false, false, false, false] rfl rfl (any_of HT_.out kf) (fun _ _ _ h => h) (Or.inl ⟨by rfl, ?_⟩) ?_ ?_
  rotate_left
  ·intro w'
   go_simp
   with_reducible rfl
  rotate_left
  ·simp only [Act.put, sA, sB, sC, i64_w, i32_w]
   rfl
  refine pure_ (i := 1) (N := some 31) (v := ?_) (a' := ?_) #[true, true, false, false, false, false, false, false, false, false, false, false, false] rfl rfl (any_of HT_.out kf) (fun _ _ _ h => h) (Or.inl ⟨by rfl, ?_⟩) ?_ ?_
  rotate_left
  ·intro w'
   go_simp
   with_reducible rfl
  rotate_left
  ·simp only [Act.put, sA, sB, sC, i64_w, i32_w]
   rfl
  refine pure_ (i := 2) (N := some 32) (v := ?_) (a' := ?_) #[true, true, true, false, false, false, false, false, false, false, false, false, false] rfl rfl (any_of HT_.out kf) (fun _ _ _ h => h) (Or.inl ⟨by rfl, ?_⟩) ?_ ?_
  rotate_left
  ·intro w'
   go_simp
   with_reducible rfl
  rotate_left
  ·simp only [Act.put, sA, sB, sC, i64_w, i32_w]
   rfl
  refine pure_ (i := 3) (N := some 33) (v := ?_) (a' := ?_) #[true, true, true, true, false, false, false, false, false, false, false, false, false] rfl rfl (any_of HT_.out kf) (fun _ _ _ h => h) (Or.inl ⟨by rfl, ?_⟩) ?_ ?_
  rotate_left
  ·intro w'
   go_simp
   with_reducible rfl
  rotate_left
  ·simp only [Act.put, sA, sB, sC, i64_w, i32_w]
   rfl
  refine pure_ (i := 4) (N := some 34) (v := ?_) (a' := ?_) #[true, true, true, true, true, false, false, false, false, false, false, false, false] rfl rfl (any_of HT_.out kf) (fun _ _ _ h => h) (Or.inl ⟨by rfl, ?_⟩) ?_ ?_
  rotate_left
  ·intro w'
   go_simp
   with_reducible rfl
  rotate_left
  ·simp only [Act.put, sA, sB, sC, i64_w, i32_w]
   rfl
  refine pure_ (i := 5) (N := some 35) (v := ?_) (a' := ?_) #[true, true, true, true, true, true, false, false, false, false, false, false, false] rfl rfl (any_of HT_.out kf) (fun _ _ _ h => h) (Or.inl ⟨by rfl, ?_⟩) ?_ ?_
  rotate_left
  ·intro w'
   go_simp
   with_reducible rfl
  rotate_left
  ·simp only [Act.put, sA, sB, sC, i64_w, i32_w]
   rfl
  refine pure_ (i := 6) (N := some 36) (v := ?_) (a' := ?_) #[true, true, true, true, true, true, true, false, false, false, false, false, false] rfl rfl (any_of HT_.out kf) (fun _ _ _ h => h) (Or.inl ⟨by rfl, ?_⟩) ?_ ?_
  rotate_left
  ·intro w'
   go_simp
   with_reducible rfl
  rotate_left
  ·simp only [Act.put, sA, sB, sC, i64_w, i32_w]
   rfl
  refine pure_ (i := 7) (N := some 37) (v := ?_) (a' := ?_) #[true, true, true, true, true, true, true, true, false, false, false, false, false] rfl rfl (any_of HT_.out kf) (fun _ _ _ h => h) (Or.inl ⟨by rfl, ?_⟩) ?_ ?_
  rotate_left
  ·intro w'
   go_simp
   with_reducible rfl
  rotate_left
  ·simp only [Act.put, sA, sB, sC, i64_w, i32_w]
   rfl
  refine pure_ (i := 8) (N := some 38) (v := ?_) (a' := ?_) #[true, true, true, true, true, true, true, true, true, false, false, false, false] rfl rfl (any_of HT_.out kf) (fun _ _ _ h => h) (Or.inl ⟨by rfl, ?_⟩) ?_ ?_
  rotate_left
  ·intro w'
   go_simp
   with_reducible rfl
  rotate_left
  ·simp only [Act.put, sA, sB, sC, i64_w, i32_w]
   rfl
  refine one_ (i := 9) (N := some 39) #[true, true, true, true, true, true, true, true, true, true, false, false, false] rfl rfl (one_of HT_.out kf) (by decide) (fun K hK => ?_)
  refine goes_ Tryz.func52 kf rfl #[.string (a0.extract 0 ((ji13) : Int).toNat)] (by rfl) rfl rfl (by (try simp only [List.map_toArray, List.map_cons, List.map_nil]); first | done | (simp only [hji13]; rfl) | rfl | (simp only [List.length_drop, List.length_take]; rfl)) ?_
  with_reducible refine (text_DotAtom.calls k (a0.extract 0 ((ji13) : Int).toNat) t206 _ ?side1 A20.out).mono ?_
  (case side1 => exact Glob.below HG.out bl)
  rintro e w22 ⟨rfl, hb⟩
  refine ⟨_, rfl, ?_⟩
  replace HB := Aside0.mk (below_step bl hb)
  (try clear hb)
  (try clear hb2)
  (try clear hk)
  (try clear hi)
  refine hK.out _ _ trivial (fun hHeld => ?_)
  clear hK K
  refine norm_ (a' := ?_) ?_ ?_
  rotate_left
  ·show Act.put _ (some 39) _ = _
   simp only [Act.put, sA, sB, sC, i64_w, i32_w]
   rfl
  refine pure_ (i := 10) (N := some 2) (v := ?_) (a' := ?_) #[true, true, true, true, true, true, true, true, true, true, true, false, false] rfl rfl (any_of HT_.out kf) (fun _ _ _ h => h) (Or.inl ⟨by rfl, ?_⟩) ?_ ?_
  rotate_left
  ·intro w'
   go_simp
   with_reducible rfl
  rotate_left
  ·simp only [Act.put, sA, sB, sC, i64_w, i32_w]
   rfl
  refine pure_ (i := 11) (N := some 3) (v := ?_) (a' := ?_) #[true, true, true, true, true, true, true, true, true, true, true, true, false] rfl rfl (any_of HT_.out kf) (fun _ _ _ h => h) (Or.inl ⟨by rfl, ?_⟩) ?_ ?_
  rotate_left
  ·intro w'
   go_simp
   with_reducible rfl
  rotate_left
  ·simp only [Act.put, sA, sB, sC, i64_w, i32_w]
   rfl
  refine pure_ (i := 12) (N := some 4) (v := ?_) (a' := ?_) #[true, true, true, true, true, true, true, true, true, true, true, true, true] rfl rfl (any_of HT_.out kf) (fun _ _ _ h => h) (Or.inl ⟨by rfl, ?_⟩) ?_ ?_
  rotate_left
  ·intro w'
   go_simp
   with_reducible rfl
  rotate_left
  ·simp only [Act.put, sA, sB, sC, i64_w, i32_w]
   rfl
  refine done_ (done_of HT_.out kf) ?_
  try go_wp2
  go_ret3
  exact ⟨by first | rfl | (simp [bneNil]; done) | (simp [errW_none, errW_some] <;> rfl) | (simp only [← hji13]; first | rfl | (simp [errW_none, errW_some] <;> rfl)) | (simp [*, errW_none, errW_some] <;> rfl), bl⟩

/-! ### addr_Parse: function 35 -/
def addr_Parse.j0 : Nat → ByteArray → ByteArray → Int → Bool → Option (ByteArray × ByteArray × Int)
 | 0, _, _, _, _ => none
 | k + 1, x4, x7, x9, x23 => if x23 = true then (some ((⟨#[]⟩ : ByteArray), (⟨#[]⟩ : ByteArray), 5)) else (if x9 = 0 then (if (x4.size : Int) > 64 then (some ((⟨#[]⟩ : ByteArray), (⟨#[]⟩ : ByteArray), 3)) else (some (x4, x7, 0))) else (some ((⟨#[]⟩ : ByteArray), (⟨#[]⟩ : ByteArray), 3)))
def addr_Parse.f (k : Nat) (a0 : ByteArray) : Option (ByteArray × ByteArray × Int) := (addr_local.f k a0).bind fun bt208 => ((strings_CutPrefix.f bt208.2.1 (⟨#[64]⟩ : ByteArray)).bind fun bt211 => ((addr_domain.f bt211.1).bind fun t213 => (if bt208.2.2 = true then (if bt211.2 = true then (addr_Parse.j0 k bt208.1 bt211.1 t213 (t213 == 5)) else (addr_Parse.j0 k bt208.1 bt211.1 t213 true)) else (addr_Parse.j0 k bt208.1 bt211.1 t213 true))))
theorem addr_Parse.mono_l : ∀ k, (∀ y0 y1 y2 y3, LeO (addr_Parse.j0 k y0 y1 y2 y3) (addr_Parse.j0 (k + 1) y0 y1 y2 y3))
 | 0 => fun _ _ _ _ r h => by simp [addr_Parse.j0] at h
 | k + 1 => by
  have ih0 := addr_Parse.mono_l k
  ·intro y0 y1 y2 y3
   unfold addr_Parse.j0
   repeat' first
   | (with_reducible first | exact ih0 _ _ _ _ | exact addr_local.mono _ _ | exact LeO.refl _ | exact LeO.none _ | refine LeO.ite ?_ ?_ | refine LeO.bind ?_ (fun _ => ?_))
theorem addr_Parse.mono : ∀ a0 k, LeO (addr_Parse.f k a0) (addr_Parse.f (k + 1) a0) := by
 intro a0 k
 have ih0 := addr_Parse.mono_l k
 unfold addr_Parse.f
 repeat' first
   | (with_reducible first | exact ih0 _ _ _ _ | exact addr_local.mono _ _ | exact LeO.refl _ | exact LeO.none _ | refine LeO.ite ?_ ?_ | refine LeO.bind ?_ (fun _ => ?_))
theorem addr_Parse.calls (k : Nat) (a0 : ByteArray) (r1 : ByteArray) (r2 : ByteArray) (r3 : Int) (w : World) (hG : Glob w) (h : addr_Parse.f k a0 = some (r1, r2, r3)) :
  Calls Tryz.prog 35 #[.string a0] w fun e w' => e = .returned (.tuple #[.agg #[.string r1, .string r2], .int .i64 r3]) ∧ Below w.heap.size w w' := by
 have hu24 := Tryz.underlying24
 have HB := Aside0.mk (Below.refl w.heap.size w)
 have HG := Aside0.mk hG
 clear hG
 have H : ((addr_local.f k a0).bind fun bt208 => ((strings_CutPrefix.f bt208.2.1 (⟨#[64]⟩ : ByteArray)).bind fun bt211 => ((addr_domain.f bt211.1).bind fun t213 => (if bt208.2.2 = true then (if bt211.2 = true then (addr_Parse.j0 k bt208.1 bt211.1 t213 (t213 == 5)) else (addr_Parse.j0 k bt208.1 bt211.1 t213 true)) else (addr_Parse.j0 k bt208.1 bt211.1 t213 true))))) = some (r1, r2, r3) := h
 clear h
 obtain ⟨⟨t208, t209, t210⟩, A20, H⟩ := Option.bind_eq_some_iff.mp H
 replace H : ((strings_CutPrefix.f t209 (⟨#[64]⟩ : ByteArray)).bind fun bt211 => ((addr_domain.f bt211.1).bind fun t213 => (if t210 = true then (if bt211.2 = true then (addr_Parse.j0 k t208 bt211.1 t213 (t213 == 5)) else (addr_Parse.j0 k t208 bt211.1 t213 true)) else (addr_Parse.j0 k t208 bt211.1 t213 true)))) = some (r1, r2, r3) := H
 have A2 := Aside0.mk A20
 clear A20
 obtain ⟨⟨t211, t212⟩, A30, H⟩ := Option.bind_eq_some_iff.mp H
 replace H : ((addr_domain.f t211).bind fun t213 => (if t210 = true then (if t212 = true then (addr_Parse.j0 k t208 t211 t213 (t213 == 5)) else (addr_Parse.j0 k t208 t211 t213 true)) else (addr_Parse.j0 k t208 t211 t213 true))) = some (r1, r2, r3) := H
 have A3 := Aside0.mk A30
 clear A30
 obtain ⟨t213, A40, H⟩ := Option.bind_eq_some_iff.mp H
 replace H : (if t210 = true then (if t212 = true then (addr_Parse.j0 k t208 t211 t213 (t213 == 5)) else (addr_Parse.j0 k t208 t211 t213 true)) else (addr_Parse.j0 k t208 t211 t213 true)) = some (r1, r2, r3) := H
 have A4 := Aside0.mk A40
 clear A40
 have HC5 := Aside0.mk H
 clear H
 go_enter Tryz.func35, Tryz.ntmps35
 go_upto_region 4 with (first | ((with_reducible refine gate_dst (N := 2) rfl ?_); (try (refine gate_guard (by rfl) ?_; dsimp only)); refine box_event ?hg (N := 2) ?hd (cs := #[.string (⟨#[]⟩ : ByteArray), .string (⟨#[]⟩ : ByteArray)]) (t := 24) ?hr ?_; (case hd => rfl); (case hg => rfl); (case hr => first | (go_simp; done) | (go_simp; rfl)); intro gb207 hg w6 hbox hb; have BK207 := Aside0.mk (hbox); have GW207 := Aside0.mk (gz hg : w.heap.size ≤ gb207); have GE207 := Aside0.mk (gz hg : w.heap.size ≤ gb207); replace HB := Aside0.mk (below_step bl hb); clear hb hbox hg) | ((with_reducible refine gate_callee (f := 65) rfl ?_); refine goesL_ (some 12) rfl rfl Tryz.func65 kf rfl #[.string a0] rfl ml ?_; (with_reducible refine (addr_local.calls k a0 t208 t209 t210 _ ?side1 A2.out).mono ?_); (case side1 => exact Glob.below HG.out bl); rintro e w7 ⟨rfl, hb⟩; refine ⟨_, rfl, ?_⟩; replace BK207 := Aside0.mk (kb BK207.out hb); replace HB := Aside0.mk (below_step bl hb); (try clear hb); (try clear hb2); (try clear hk); (try clear hi)) | ((with_reducible refine gate_callee (f := 30) rfl ?_); refine goesL_ (some 18) rfl rfl Tryz.func30 kf rfl #[.string t209, .string (⟨#[64]⟩ : ByteArray)] rfl ml ?_; (with_reducible refine (strings_CutPrefix.calls t209 (⟨#[64]⟩ : ByteArray) t211 t212 _ A3.out).mono ?_); rintro e w' ⟨rfl, ⟨nd, rfl⟩⟩; refine ⟨_, rfl, ?_⟩) | ((with_reducible refine gate_callee (f := 59) rfl ?_); refine goesL_ (some 22) rfl rfl Tryz.func59 kf rfl #[.string t211] rfl ml ?_; (with_reducible refine (addr_domain.calls t211 t213 _ ?side1 A4.out).mono ?_); (case side1 => exact Glob.below HG.out bl); rintro e w8 ⟨rfl, hb⟩; refine ⟨_, rfl, ?_⟩; replace BK207 := Aside0.mk (kb BK207.out hb); replace HB := Aside0.mk (below_step bl hb); (try clear hb); (try clear hb2); (try clear hk); (try clear hi)))
 (try simp only [Act.put, sA, sB, sC])
 go_cut [23] (fun v23 wc => ∃ (kq : Nat) (x23_4 : Bool), v23 = .bool x23_4 ∧ Aside0 (addr_Parse.j0 kq t208 t211 t213 x23_4 = some (r1, r2, r3)) ∧ Aside0 (kq ≤ k) ∧ Aside0 (wc.heap[gb207]? = some (.cells #[.string (⟨#[]⟩ : ByteArray), .string (⟨#[]⟩ : ByteArray)] 24 (0, 0))) ∧ Aside0 (Below w.heap.size w wc))
 case first =>
  have H := HC5.out
  clear HC5
  by_cases c9 : t210 = true
  ·subst c9
   replace H : (if t212 = true then (addr_Parse.j0 k t208 t211 t213 (t213 == 5)) else (addr_Parse.j0 k t208 t211 t213 true)) = some (r1, r2, r3) := by rw [if_pos rfl] at H; exact H
   by_cases c10 : t212 = true
   ·subst c10
    replace H : (addr_Parse.j0 k t208 t211 t213 (t213 == 5)) = some (r1, r2, r3) := by rw [if_pos rfl] at H; exact H
    have H' := Aside0.mk H
    clear H
    go_wp2
    go_meet
    case rel => exact ⟨_, ((t213 == 5)), rs, H', ⟨by first | omega | exact Nat.le_refl _⟩, ⟨bk BK207.out⟩, ⟨bl⟩⟩
   ·replace c10 := Bool.eq_false_iff.mpr c10
    subst c10
    replace H : (addr_Parse.j0 k t208 t211 t213 true) = some (r1, r2, r3) := by rw [if_neg (show ¬ (false = true) by decide)] at H; exact H
    have H' := Aside0.mk H
    clear H
    go_wp2
    go_meet
    case rel => exact ⟨_, (true), rs, H', ⟨by first | omega | exact Nat.le_refl _⟩, ⟨bk BK207.out⟩, ⟨bl⟩⟩
  ·replace c9 := Bool.eq_false_iff.mpr c9
   subst c9
   replace H : (addr_Parse.j0 k t208 t211 t213 true) = some (r1, r2, r3) := by rw [if_neg (show ¬ (false = true) by decide)] at H; exact H
   have H' := Aside0.mk H
   clear H
   go_wp2
   go_meet
   case rel => exact ⟨_, (true), rs, H', ⟨by first | omega | exact Nat.le_refl _⟩, ⟨bk BK207.out⟩, ⟨bl⟩⟩
 case rest =>
  clear HC5
  try clear c1
  try clear p2
  try clear c3
  try clear c5
  try clear c6
  try clear c9
  try clear c10
  obtain ⟨kq, x23_4, rfl, HA, HJ4, BK207, HB⟩ := hcut
  cases kq with
  | zero => exact absurd HA.out (by simp [addr_Parse.j0])
  | succ kj4 =>
   have H := HA.out
   clear HA
   simp only [addr_Parse.j0] at H
   by_cases c11 : x23_4 = true
   ·subst c11
    replace H : (some ((⟨#[]⟩ : ByteArray), (⟨#[]⟩ : ByteArray), 5)) = some (r1, r2, r3) := by rw [if_pos rfl] at H; exact H
    simp only [Option.some.injEq, Prod.mk.injEq] at H
    obtain ⟨rfl, rfl, rfl⟩ := H
    have hcz12_0 := cz BK207.out 0 (.string (⟨#[]⟩ : ByteArray))
    have hcz12_1 := cz BK207.out 1 (.string (⟨#[]⟩ : ByteArray))
    have hfz12_0 := blk_frozen BK207.out 0
    have hfz12_1 := blk_frozen BK207.out 1
    go_wp2
    refine bodyPost_ret (results_ct rfl _ _ gb207 24 #[.string (⟨#[]⟩ : ByteArray), .string (⟨#[]⟩ : ByteArray)] (0, 0) _ rfl (by (with_reducible repeat (first | refine blk_drewN ?_ _ | refine blk_drew ?_ | refine blk_alloc ?_ _)); refine blk_put (cs := #[.string (⟨#[]⟩ : ByteArray), .string (⟨#[]⟩ : ByteArray)]) ?_ 1 _ rfl; (with_reducible repeat (first | refine blk_drewN ?_ _ | refine blk_drew ?_ | refine blk_alloc ?_ _)); refine blk_put (cs := #[.string (⟨#[]⟩ : ByteArray), .string (⟨#[]⟩ : ByteArray)]) ?_ 0 _ rfl; (with_reducible repeat (first | refine blk_drewN ?_ _ | refine blk_drew ?_ | refine blk_alloc ?_ _)); exact BK207.out) Tryz.underlying24 rfl kf) rfl ?_
    exact ⟨rf, bl⟩
   ·replace c11 := Bool.eq_false_iff.mpr c11
    subst c11
    replace H : (if t213 = 0 then (if (t208.size : Int) > 64 then (some ((⟨#[]⟩ : ByteArray), (⟨#[]⟩ : ByteArray), 3)) else (some (t208, t211, 0))) else (some ((⟨#[]⟩ : ByteArray), (⟨#[]⟩ : ByteArray), 3))) = some (r1, r2, r3) := by rw [if_neg (show ¬ (false = true) by decide)] at H; exact H
    by_cases c13 : t213 = 0
    ·rw [if_pos c13] at H
     have c13b0 : (t213 == 0) = true := beq_iff_eq.mpr c13
     have c13b1 : (t213 != 0) = false := bne_eq_false_iff_eq.mpr c13
     clear c13
     by_cases c14 : (t208.size : Int) > 64
     ·rw [if_pos c14] at H
      have c14b0 : decide (64 < (t208.size : Int)) = true := decide_eq_true c14
      have c14b1 : decide (64 < t208.size) = true := decide_eq_true (by omega)
      clear c14
      simp only [Option.some.injEq, Prod.mk.injEq] at H
      obtain ⟨rfl, rfl, rfl⟩ := H
      have hcz15_0 := cz BK207.out 0 (.string (⟨#[]⟩ : ByteArray))
      have hcz15_1 := cz BK207.out 1 (.string (⟨#[]⟩ : ByteArray))
      have hfz15_0 := blk_frozen BK207.out 0
      have hfz15_1 := blk_frozen BK207.out 1
      go_wp2
      refine bodyPost_ret (results_ct rfl _ _ gb207 24 #[.string (⟨#[]⟩ : ByteArray), .string (⟨#[]⟩ : ByteArray)] (0, 0) _ rfl (by (with_reducible repeat (first | refine blk_drewN ?_ _ | refine blk_drew ?_ | refine blk_alloc ?_ _)); refine blk_put (cs := #[.string (⟨#[]⟩ : ByteArray), .string (⟨#[]⟩ : ByteArray)]) ?_ 1 _ rfl; (with_reducible repeat (first | refine blk_drewN ?_ _ | refine blk_drew ?_ | refine blk_alloc ?_ _)); refine blk_put (cs := #[.string (⟨#[]⟩ : ByteArray), .string (⟨#[]⟩ : ByteArray)]) ?_ 0 _ rfl; (with_reducible repeat (first | refine blk_drewN ?_ _ | refine blk_drew ?_ | refine blk_alloc ?_ _)); exact BK207.out) Tryz.underlying24 rfl kf) rfl ?_
      exact ⟨rf, bl⟩
     ·rw [if_neg c14] at H
      have c14b0 : decide (64 < (t208.size : Int)) = false := decide_eq_false c14
      have c14b1 : decide (64 < t208.size) = false := decide_eq_false (by omega)
      clear c14
      simp only [Option.some.injEq, Prod.mk.injEq] at H
      obtain ⟨rfl, rfl, rfl⟩ := H
      have hcz16_0 := cz BK207.out 0 (.string (⟨#[]⟩ : ByteArray))
      have hcz16_1 := cz BK207.out 1 (.string (⟨#[]⟩ : ByteArray))
      have hfz16_0 := blk_frozen BK207.out 0
      have hfz16_1 := blk_frozen BK207.out 1
      go_wp2
      refine bodyPost_ret (results_ct rfl _ _ gb207 24 #[.string t208, .string t211] (0, 0) _ rfl (by (with_reducible repeat (first | refine blk_drewN ?_ _ | refine blk_drew ?_ | refine blk_alloc ?_ _)); refine blk_put (cs := #[.string t208, .string (⟨#[]⟩ : ByteArray)]) ?_ 1 _ rfl; (with_reducible repeat (first | refine blk_drewN ?_ _ | refine blk_drew ?_ | refine blk_alloc ?_ _)); refine blk_put (cs := #[.string (⟨#[]⟩ : ByteArray), .string (⟨#[]⟩ : ByteArray)]) ?_ 0 _ rfl; (with_reducible repeat (first | refine blk_drewN ?_ _ | refine blk_drew ?_ | refine blk_alloc ?_ _)); exact BK207.out) Tryz.underlying24 rfl kf) rfl ?_
      exact ⟨rf, bl⟩
    ·rw [if_neg c13] at H
     have c13b0 : (t213 == 0) = false := beq_eq_false_iff_ne.mpr c13
     have c13b1 : (t213 != 0) = true := bne_iff_ne.mpr c13
     simp only [Option.some.injEq, Prod.mk.injEq] at H
     obtain ⟨rfl, rfl, rfl⟩ := H
     have hcz17_0 := cz BK207.out 0 (.string (⟨#[]⟩ : ByteArray))
     have hcz17_1 := cz BK207.out 1 (.string (⟨#[]⟩ : ByteArray))
     have hfz17_0 := blk_frozen BK207.out 0
     have hfz17_1 := blk_frozen BK207.out 1
     go_wp2
     refine bodyPost_ret (results_ct rfl _ _ gb207 24 #[.string (⟨#[]⟩ : ByteArray), .string (⟨#[]⟩ : ByteArray)] (0, 0) _ rfl (by (with_reducible repeat (first | refine blk_drewN ?_ _ | refine blk_drew ?_ | refine blk_alloc ?_ _)); refine blk_put (cs := #[.string (⟨#[]⟩ : ByteArray), .string (⟨#[]⟩ : ByteArray)]) ?_ 1 _ rfl; (with_reducible repeat (first | refine blk_drewN ?_ _ | refine blk_drew ?_ | refine blk_alloc ?_ _)); refine blk_put (cs := #[.string (⟨#[]⟩ : ByteArray), .string (⟨#[]⟩ : ByteArray)]) ?_ 0 _ rfl; (with_reducible repeat (first | refine blk_drewN ?_ _ | refine blk_drew ?_ | refine blk_alloc ?_ _)); exact BK207.out) Tryz.underlying24 rfl kf) rfl ?_
     exact ⟨rf, bl⟩

/-! ### path_domains: function 33 -/
def path_domains.l0 : Nat → List ByteArray → Int → List ByteArray → Int → Int → Option (Int)
 | 0, _, _, _, _, _ => none
 | k + 1, x0, x3, x8, x9, x10 => if x10 < x9 then (if 0 ≤ x10 then (if x10 < (x8.length : Int) then (if 2 + (rdOf ByteArray.empty x8 x10).size ≤ 9223372036854775807 then ((addr_Parse.f k ((⟨#[120, 64]⟩ : ByteArray) ++ (rdOf ByteArray.empty x8 x10))).bind fun bt215 => (if bt215.2.2 = 5 then (some bt215.2.2) else (path_domains.l0 k x0 (mx x3 bt215.2.2) x8 x9 (wrap64 (x10 + 1))))) else (none)) else (none)) else (none)) else (if (x0.length : Int) > 8 then (some 3) else (some x3))
def path_domains.f (k : Nat) (l0 : List ByteArray) : Option (Int) := path_domains.l0 k l0 0 l0 (l0.length : Int) 0
theorem path_domains.mono_l : ∀ k, (∀ y0 y1 y2 y3 y4, LeO (path_domains.l0 k y0 y1 y2 y3 y4) (path_domains.l0 (k + 1) y0 y1 y2 y3 y4))
 | 0 => fun _ _ _ _ _ r h => by simp [path_domains.l0] at h
 | k + 1 => by
  have ih0 := path_domains.mono_l k
  ·intro y0 y1 y2 y3 y4
   unfold path_domains.l0
   repeat' first
   | (with_reducible first | exact ih0 _ _ _ _ _ | exact addr_Parse.mono _ _ | exact LeO.refl _ | exact LeO.none _ | refine LeO.ite ?_ ?_ | refine LeO.bind ?_ (fun _ => ?_))
theorem path_domains.mono : ∀ a0 k, LeO (path_domains.f k a0) (path_domains.f (k + 1) a0) := by
 intro a0 k
 have ih0 := path_domains.mono_l k
 unfold path_domains.f
 repeat' first
   | (with_reducible first | exact ih0 _ _ _ _ _ | exact addr_Parse.mono _ _ | exact LeO.refl _ | exact LeO.none _ | refine LeO.ite ?_ ?_ | refine LeO.bind ?_ (fun _ => ?_))
theorem path_domains.calls (k : Nat) (A0 : Option Addr) (c0 : Nat) (l0 : List ByteArray) (r : Int) (w : World) (hr0 : Kd.C Kd.string w A0 l0.length l0) (hc0 : l0.length ≤ c0) (hG : Glob w) (h : path_domains.f k l0 = some r) :
  Calls Tryz.prog 33 #[.slice A0 l0.length c0] w fun e w' => e = .returned (.int .i64 r) ∧ Below w.heap.size w w' := by
 have hu24 := Tryz.underlying24
 have HR0 := Aside0.mk hr0
 have HC0 := Aside0.mk hc0
 clear hr0 hc0
 have HB := Aside0.mk (Below.refl w.heap.size w)
 have HG := Aside0.mk hG
 clear hG
 have H : (path_domains.l0 k l0 0 l0 (l0.length : Int) 0) = some r := h
 clear h
 have H' := Aside0.mk H
 clear H
 go_enter Tryz.func33, Tryz.ntmps33
 go_wp2
 go_loopg [3, 10] k (fun kq v3 v10 w' => ∃ (x3_1 : Int) (x10_1 : Int), v3 = .int .i64 x3_1 ∧ v10 = .int .i64 x10_1 ∧ Aside0 (path_domains.l0 kq l0 x3_1 l0 (l0.length : Int) x10_1 = some r) ∧ Aside0 (kq ≤ k) ∧ Aside0 (Below w.heap.size w w'))
 case atStart => exact ⟨(0), (0), rs, rs, H', ⟨Nat.le_refl _⟩, ⟨bl⟩⟩
 case round =>
  clear H'
  obtain ⟨x3_1, x10_1, rfl, rfl, HA, HK1, HB⟩ := hrel
  cases gk with
  | zero => exact absurd HA.out (by simp [path_domains.l0])
  | succ k1 =>
   have H := HA.out
   clear HA
   simp only [path_domains.l0] at H
   by_cases c2 : x10_1 < (l0.length : Int)
   ·rw [if_pos c2] at H
    have c2b0 : decide (x10_1 < (l0.length : Int)) = true := decide_eq_true c2
    clear c2
    by_cases c3 : 0 ≤ x10_1
    rotate_left
    ·rw [if_neg c3] at H
     exact ab H
    rw [if_pos c3] at H
    have c3b0 : decide (0 ≤ x10_1) = true := decide_eq_true c3
    clear c3
    by_cases c4 : x10_1 < (l0.length : Int)
    rotate_left
    ·rw [if_neg c4] at H
     exact ab H
    rw [if_pos c4] at H
    have c4b0 : decide (x10_1 < (l0.length : Int)) = true := decide_eq_true c4
    clear c4
    by_cases c5 : 2 + (rdOf ByteArray.empty l0 x10_1).size ≤ 9223372036854775807
    rotate_left
    ·rw [if_neg c5] at H
     exact ab H
    rw [if_pos c5] at H
    have c5b0 := eq_true c5
    have c5b1 : decide (2 + (rdOf ByteArray.empty l0 x10_1).size ≤ 9223372036854775807) = true := decide_eq_true c5
    try have c5b2 : (9223372036854775807 < 2 + (rdOf ByteArray.empty l0 x10_1).size) = False := eq_false (Nat.not_lt.2 c5)
    obtain ⟨⟨t215, t216, t217⟩, A60, H⟩ := Option.bind_eq_some_iff.mp H
    replace H : (if t217 = 5 then (some t217) else (path_domains.l0 k1 l0 (mx x3_1 t217) l0 (l0.length : Int) (wrap64 (x10_1 + 1)))) = some r := H
    have A6 := Aside0.mk A60
    clear A60
    by_cases c7 : t217 = 5
    ·rw [if_pos c7] at H
     have c7b0 : (t217 == 5) = true := beq_iff_eq.mpr c7
     have c7b1 : (t217 != 5) = false := bne_eq_false_iff_eq.mpr c7
     clear c7
     obtain rfl := Option.some.inj H
     have p214 : 0 ≤ (x10_1 : Int) := od
     have q214 : x10_1 < (l0.length : Int) := od
     obtain ⟨ad214, e214, hx214_0⟩ := Kd.at_string HR0.out x10_1 p214 q214
     cases e214
     replace hx214_0 := (HB.out.cell (World.block_lt_of_cell? w _ hx214_0)).trans hx214_0
     replace p214 := eq_true p214
     replace q214 := eq_true q214
     go_wp2_with (first | ((with_reducible refine gate_callee (f := 35) rfl ?_); refine goesL_ (some 17) rfl rfl Tryz.func35 kf rfl #[.string ((⟨#[120, 64]⟩ : ByteArray) ++ (rdOf ByteArray.empty l0 x10_1))] rfl ml ?_; (with_reducible refine (addr_Parse.calls k1 ((⟨#[120, 64]⟩ : ByteArray) ++ (rdOf ByteArray.empty l0 x10_1)) t215 t216 t217 _ ?side1 A6.out).mono ?_); (case side1 => exact Glob.below HG.out bl); rintro e w8 ⟨rfl, hb⟩; refine ⟨_, rfl, ?_⟩; replace HB := Aside0.mk (below_step bl hb); (try clear hb); (try clear hb2); (try clear hk); (try clear hi)) | ((with_reducible refine gate_dst (N := 6) rfl ?_); refine box_event ?hg (N := 6) ?hd (cs := #[.string (⟨#[]⟩ : ByteArray), .string (⟨#[]⟩ : ByteArray)]) (t := 24) ?hr ?_; (case hd => rfl); (case hg => rfl); (case hr => first | (go_simp; done) | (go_simp; rfl)); intro gb218 hg w9 hbox hb; have BK218 := Aside0.mk (hbox); have GW218 := Aside0.mk (gz hg : w.heap.size ≤ gb218); have GE218 := Aside0.mk (gz hg : w.heap.size ≤ gb218); replace HB := Aside0.mk (below_step bl hb); clear hb hbox hg; have hcz10_0 := cz BK218.out 0 (.string (⟨#[]⟩ : ByteArray)); have hcz10_1 := cz BK218.out 1 (.string (⟨#[]⟩ : ByteArray)); have hfz10_0 := blk_frozen BK218.out 0; have hfz10_1 := blk_frozen BK218.out 1))
     go_ret
     exact ⟨rf, bl⟩
    ·rw [if_neg c7] at H
     have c7b0 : (t217 == 5) = false := beq_eq_false_iff_ne.mpr c7
     have c7b1 : (t217 != 5) = true := bne_iff_ne.mpr c7
     obtain ⟨ji11, hji11⟩ : ∃ j_ : Int, (mx x3_1 t217) = j_ := ⟨_, rfl⟩
     replace H : (path_domains.l0 k1 l0 ji11 l0 (l0.length : Int) (wrap64 (x10_1 + 1))) = some r := by first | (rw [hji11] at H; exact H) | (simp only [hji11] at H ⊢; exact H)
     (try rw [hji11] at A6)
     have hji11_ : (if x3_1 < t217 then t217 else x3_1) = ji11 := hji11
     have H' := Aside0.mk H
     clear H
     have p214 : 0 ≤ (x10_1 : Int) := od
     have q214 : x10_1 < (l0.length : Int) := od
     obtain ⟨ad214, e214, hx214_0⟩ := Kd.at_string HR0.out x10_1 p214 q214
     cases e214
     replace hx214_0 := (HB.out.cell (World.block_lt_of_cell? w _ hx214_0)).trans hx214_0
     replace p214 := eq_true p214
     replace q214 := eq_true q214
     go_wp2_with (first | ((with_reducible refine gate_callee (f := 35) rfl ?_); refine goesL_ (some 17) rfl rfl Tryz.func35 kf rfl #[.string ((⟨#[120, 64]⟩ : ByteArray) ++ (rdOf ByteArray.empty l0 x10_1))] rfl ml ?_; (with_reducible refine (addr_Parse.calls k1 ((⟨#[120, 64]⟩ : ByteArray) ++ (rdOf ByteArray.empty l0 x10_1)) t215 t216 t217 _ ?side1 A6.out).mono ?_); (case side1 => exact Glob.below HG.out bl); rintro e w12 ⟨rfl, hb⟩; refine ⟨_, rfl, ?_⟩; replace HB := Aside0.mk (below_step bl hb); (try clear hb); (try clear hb2); (try clear hk); (try clear hi)) | ((with_reducible refine gate_dst (N := 6) rfl ?_); refine box_event ?hg (N := 6) ?hd (cs := #[.string (⟨#[]⟩ : ByteArray), .string (⟨#[]⟩ : ByteArray)]) (t := 24) ?hr ?_; (case hd => rfl); (case hg => rfl); (case hr => first | (go_simp; done) | (go_simp; rfl)); intro gb218 hg w13 hbox hb; have BK218 := Aside0.mk (hbox); have GW218 := Aside0.mk (gz hg : w.heap.size ≤ gb218); have GE218 := Aside0.mk (gz hg : w.heap.size ≤ gb218); replace HB := Aside0.mk (below_step bl hb); clear hb hbox hg; have hcz14_0 := cz BK218.out 0 (.string (⟨#[]⟩ : ByteArray)); have hcz14_1 := cz BK218.out 1 (.string (⟨#[]⟩ : ByteArray)); have hfz14_0 := blk_frozen BK218.out 0; have hfz14_1 := blk_frozen BK218.out 1))
     go_roundg k1
     case measure => have := HK1.out; omega
     case rel => exact ⟨(ji11), (wrap64 (x10_1 + 1)), (by first | rfl | (simp; done) | (simp only [← hji11] <;> (first | rfl | simp)) | (simp [*]; done)), rs, H', ⟨by have := HK1.out; omega⟩, ⟨bl⟩⟩
   ·rw [if_neg c2] at H
    have c2b0 : decide (x10_1 < (l0.length : Int)) = false := decide_eq_false c2
    clear c2
    by_cases c15 : (l0.length : Int) > 8
    ·rw [if_pos c15] at H
     have c15b0 : decide (8 < (l0.length : Int)) = true := decide_eq_true c15
     have c15b1 : decide (8 < l0.length) = true := decide_eq_true (by omega)
     clear c15
     obtain rfl := Option.some.inj H
     go_wp2
     go_ret
     exact ⟨rf, bl⟩
    ·rw [if_neg c15] at H
     have c15b0 : decide (8 < (l0.length : Int)) = false := decide_eq_false c15
     have c15b1 : decide (8 < l0.length) = false := decide_eq_false (by omega)
     clear c15
     obtain rfl := Option.some.inj H
     go_wp2
     go_ret
     exact ⟨rf, bl⟩

end Go.Proofs.YtgelfnjicglmbaaGreatDoor.Q
end
section
namespace Go.Proofs.YtgelfnjicglmbaaGreatDoor.Q

/-! ### text_Lower: function 64 (by hand) -/
def lowC (c : UInt8) : UInt8 := if 65 ≤ c.toNat ∧ c.toNat ≤ 90 then c + 32 else c
def lowerB (s : ByteArray) : ByteArray := ⟨(s.data.toList.map lowC).toArray⟩
def text_Lower.f (a0 : ByteArray) : Option ByteArray := if a0.size < 70368744177000 then some (lowerB a0) else none
def lowT (s : ByteArray) (k : Nat) : List UInt8 := (s.data.toList.take k).map lowC ++ s.data.toList.drop k
/-- The row behind k rounds. -/
def LowRow (s : ByteArray) (k : Nat) (cs : Array Value) : Prop := ∀ j, j < s.size → cs[j]? = some (.int .u8 (((lowT s k).getD j 0).toNat : Nat))
theorem s_len (s : ByteArray) : s.data.toList.length = s.size := by rw [Array.length_toList]; rfl
theorem lowT_at (s : ByteArray) (k j : Nat) (hk : k ≤ s.size) (hj : j < s.size) : (lowT s k).getD j 0 = if j < k then lowC (s[j]'hj) else s[j]'hj := by
  have hl := s_len s
  unfold lowT
  rw [List.getD_eq_getElem?_getD]
  by_cases h : j < k
  · rw [if_pos h, List.getElem?_append_left (by simp; omega)]
    rw [List.getElem?_map, List.getElem?_take_of_lt h, List.getElem?_eq_getElem (by omega)]
    simp
    rfl
  · rw [if_neg h, List.getElem?_append_right (by simp; omega)]
    simp only [List.length_map, List.length_take, List.getElem?_drop]
    rw [show k + (j - min k s.data.toList.length) = j by omega, List.getElem?_eq_getElem (by omega)]
    simp
    rfl
theorem lowT_end (s : ByteArray) : lowT s s.size = s.data.toList.map lowC := by
  unfold lowT
  rw [List.take_of_length_le (by rw [s_len]; omega), List.drop_of_length_le (by rw [s_len]; omega), List.append_nil]
theorem LowRow.start {W w1 : World} {g e : Nat} {s : ByteArray} : LowRow s 0 (Lib.bytesCells w1 e s) := by
  intro j hj
  rw [lowT_at s 0 j (by omega) hj, if_neg (by omega)]
  simp [Lib.bytesCells, Array.getElem?_append, hj]
  rfl
theorem LowRow.same {s : ByteArray} {k : Nat} {cs : Array Value} (h : LowRow s k cs) (hk : k < s.size) (hc : lowC (s[k]'hk) = s[k]'hk) : LowRow s (k + 1) cs := by
  intro j hj
  rw [h j hj, lowT_at s k j (by omega) hj, lowT_at s (k + 1) j (by omega) hj]
  by_cases e : j = k
  · subst e; rw [if_neg (by omega), if_pos (by omega), hc]
  · by_cases l : j < k
    · rw [if_pos l, if_pos (by omega)]
    · rw [if_neg l, if_neg (by omega)]
theorem LowRow.put {s : ByteArray} {k : Nat} {cs : Array Value} (h : LowRow s k cs) (hk : k < s.size) (v : Nat) (hv : v = (lowC (s[k]'hk)).toNat) : LowRow s (k + 1) (cs.setIfInBounds k (.int .u8 (v : Nat))) := by
  intro j hj
  rw [Array.getElem?_setIfInBounds]
  have hsz : k < cs.size := (Array.getElem?_eq_some_iff.1 (h k hk)).1
  by_cases e : k = j
  · subst e
    rw [if_pos rfl, if_pos hsz, lowT_at s (k + 1) k (by omega) hj, if_pos (by omega), hv]
  · rw [if_neg e, h j hj, lowT_at s k j (by omega) hj, lowT_at s (k + 1) j (by omega) hj]
    by_cases l : j < k
    · rw [if_pos l, if_pos (by omega)]
    · rw [if_neg l, if_neg (by omega)]
theorem low_str (s : ByteArray) : strOfNums ((lowT s s.size).map fun c => (c.toNat : Int)) = lowerB s := by
  rw [lowT_end]
  unfold strOfNums lowerB
  simp [List.map_map, Function.comp_def]
theorem blk_setF {w : World} {g : Nat} {t : TypeId} {cs : Array Value} {fz : Nat × Nat} (h : w.heap[g]? = some (.cells cs t fz)) (i : Nat) (u : Value) : (w.setCell ⟨g, i, none⟩ u).heap[g]? = some (.cells (cs.setIfInBounds i u) t fz) := by
  simp [World.setCell, Array.getElem?_modify, h]
theorem text_Lower.calls (a0 : ByteArray) (r : ByteArray) (w : World) (h : text_Lower.f a0 = some r) :
    Calls Tryz.prog 64 #[.string a0] w fun e w' => e = .returned (.string r) ∧ Below w.heap.size w w' := by
  unfold text_Lower.f at h
  by_cases hsz : a0.size < 70368744177000
  · rw [if_pos hsz] at h
    obtain rfl := Option.some.inj h
    clear h
    have hcv := fun W => print_bytes (P := Tryz.prog) 9 55 5 Tryz.underlying9 Tryz.underlying55 Tryz.underlying5 a0 W
    go_enter Tryz.func64, Tryz.ntmps64
    go_wp2
    clear hcv
    have HG := Lib.hid (Lib.bytesWorld_at_new w 5 a0)
    have HB := Lib.hid (bytes_below (Below.refl w.heap.size w) (Nat.le_refl _) 5 a0)
    have HL := Lib.hid (LowRow.start (W := w) (w1 := w) (g := 0) (e := 5) (s := a0))
    have HC := Lib.hid (show a0.size ≤ (Lib.bytesCells w 5 a0).size by simp [Lib.bytesCells])
    obtain ⟨w3, hw3⟩ : ∃ w3, w3 = Lib.bytesWorld w 5 a0 := ⟨_, rfl⟩
    rw [← hw3] at HG HB ⊢
    clear hw3
    generalize Lib.bytesCells w 5 a0 = C at HG HL HC
    generalize grownCap w a0.size 0 5 = cap
    obtain ⟨g, hg⟩ : ∃ g, g = w.heap.size := ⟨_, rfl⟩
    have Hg := Lib.hid hg
    rw [← hg] at HG ⊢
    clear hg
    go_loopw [10] (fun v10 w' => ∃ (k : Nat) (cs : Array Value), v10 = .int .i64 k ∧ k ≤ a0.size ∧ Aside0 (w'.heap[g]? = some (.cells cs 5 (C.size, C.size + 1))) ∧ Aside0 (LowRow a0 k cs) ∧ Aside0 (Below w.heap.size w w')) (fun v10 _ => a0.size - (intOf v10).toNat)
    case atStart => exact ⟨0, C, rfl, Nat.zero_le _, ⟨HG.out⟩, ⟨HL.out⟩, ⟨HB.out⟩⟩
    case round =>
      clear HG HL HB
      obtain ⟨k, cs, rfl, hk, HG, HL, HB⟩ := hrel
      by_cases hlt : k < a0.size
      · have hcell : wr.cell? ⟨g, k, none⟩ = some (.int .u8 ((a0[k]'hlt).toNat : Nat)) := by
          rw [World.cell?]
          simp only [HG.out]
          have := HL.out k hlt
          rw [lowT_at a0 k k (by omega) hlt, if_neg (by omega)] at this
          simpa using this
        have hfz : wr.frozen? ⟨g, k, none⟩ = false := by
          have := HC.out
          simp only [World.frozen?, HG.out]
          simp
          omega
        have HP := Lib.hid (HL.out.put hlt)
        have HE := Lib.hid (HL.out.same hlt)
        have hc256 : (a0[k]'hlt).toNat < 256 := UInt8.toNat_lt _
        have Hlow : Hid ((lowC (a0[k]'hlt)).toNat = if 65 ≤ (a0[k]'hlt).toNat ∧ (a0[k]'hlt).toNat ≤ 90 then (a0[k]'hlt).toNat + 32 else (a0[k]'hlt).toNat) := Lib.hid (by
          unfold lowC
          split
          · rw [UInt8.toNat_add]; simp; omega
          · rfl)
        obtain ⟨d, hd⟩ : ∃ d, d = a0[k]'hlt := ⟨_, rfl⟩
        rw [← hd] at HP HE Hlow hcell hc256
        obtain ⟨c, hc⟩ : ∃ c : Nat, c = d.toNat := ⟨_, rfl⟩
        rw [← hc] at Hlow hcell hc256
        have Hc := Lib.hid hc
        clear hc hd
        by_cases h1 : 65 ≤ c
        · have b1 : decide (65 ≤ (c : Int)) = true := decide_eq_true (by omega)
          by_cases h2 : c ≤ 90
          · have b2 : decide ((c : Int) ≤ 90) = true := decide_eq_true (by omega)
            go_wp2
            go_roundw
            case rel => exact ⟨k + 1, _, by go_num, hlt, ⟨blk_setF HG.out k _⟩, ⟨by
              have hv := HP.out (c + 32) (by rw [Hlow.out, if_pos ⟨h1, h2⟩])
              have e : ((c : Int) + 97 - 65) = ((c + 32 : Nat) : Int) := by omega
              first | (rw [e]; exact hv) | exact hv⟩, ⟨below_set HB.out (by have := Hg.out; omega)⟩⟩
            case measure => simp [intOf]; omega
          · have b2 : decide ((c : Int) ≤ 90) = false := decide_eq_false (by omega)
            go_wp2
            go_roundw
            case rel => exact ⟨k + 1, cs, by go_num, hlt, HG, ⟨HE.out (UInt8.toNat_inj.mp (by rw [Hlow.out, if_neg (by omega), Hc.out]))⟩, HB⟩
            case measure => simp [intOf]; omega
        · have b1 : decide (65 ≤ (c : Int)) = false := decide_eq_false (by omega)
          go_wp2
          go_roundw
          case rel => exact ⟨k + 1, cs, by go_num, hlt, HG, ⟨HE.out (UInt8.toNat_inj.mp (by rw [Hlow.out, if_neg (by omega), Hc.out]))⟩, HB⟩
          case measure => simp [intOf]; omega
      · have hk' : k = a0.size := by omega
        subst hk'
        have hcs := run_convert_bytes_arg (P := Tryz.prog) wr 55 5 Tryz.underlying55 Tryz.underlying5 g 0 a0.size cap ((lowT a0 a0.size).map fun c => (c.toNat : Int)) (by rw [List.length_map, lowT_end, List.length_map, s_len]) (fun i hi => by
          rw [Nat.zero_add, World.cell?]
          simp only [HG.out]
          have := HL.out i hi
          rw [lowT_end] at this ⊢
          have hl : i < a0.data.toList.length := by rw [s_len]; exact hi
          simp only [List.getD_eq_getElem?_getD, List.getElem?_map, List.getElem?_eq_getElem hl, Option.map_some, Option.getD_some] at this ⊢
          exact this) 9 Tryz.underlying9
        rw [low_str] at hcs
        go_wp2
        go_ret
        exact ⟨rfl, HB.out⟩
  · rw [if_neg hsz] at h; cases h


/-! ### text_Same: function 34 -/
def text_Same.f (a0 : ByteArray) (a1 : ByteArray) : Option (Bool) := (text_Lower.f a0).bind fun t219 => ((text_Lower.f a1).bind fun t220 => (some (t219.toList == t220.toList)))
theorem text_Same.calls (a0 : ByteArray) (a1 : ByteArray) (r : Bool) (w : World) (h : text_Same.f a0 a1 = some r) :
  Calls Tryz.prog 34 #[.string a0, .string a1] w fun e w' => e = .returned (.bool r) ∧ Below w.heap.size w w' := by
 have HB := Aside0.mk (Below.refl w.heap.size w)
 have H : ((text_Lower.f a0).bind fun t219 => ((text_Lower.f a1).bind fun t220 => (some (t219.toList == t220.toList)))) = some r := h
 clear h
 obtain ⟨t219, A30, H⟩ := Option.bind_eq_some_iff.mp H
 replace H : ((text_Lower.f a1).bind fun t220 => (some (t219.toList == t220.toList))) = some r := H
 have A3 := Aside0.mk A30
 clear A30
 obtain ⟨t220, A40, H⟩ := Option.bind_eq_some_iff.mp H
 replace H : (some (t219.toList == t220.toList)) = some r := H
 have A4 := Aside0.mk A40
 clear A40
 obtain rfl := Option.some.inj H
 go_enter Tryz.func34, Tryz.ntmps34
 go_wp2_with (first | ((with_reducible refine gate_callee (f := 64) rfl ?_); refine goesL_ (some 6) rfl rfl Tryz.func64 kf rfl #[.string a0] rfl ml ?_; (with_reducible refine (text_Lower.calls a0 t219 _ A3.out).mono ?_); rintro e w5 ⟨rfl, hb⟩; refine ⟨_, rfl, ?_⟩; replace HB := Aside0.mk (below_step bl hb); (try clear hb); (try clear hb2); (try clear hk); (try clear hi)) | ((with_reducible refine gate_callee (f := 64) rfl ?_); refine goesL_ (some 8) rfl rfl Tryz.func64 kf rfl #[.string a1] rfl ml ?_; (with_reducible refine (text_Lower.calls a1 t220 _ A4.out).mono ?_); rintro e w6 ⟨rfl, hb⟩; refine ⟨_, rfl, ?_⟩; replace HB := Aside0.mk (below_step bl hb); (try clear hb); (try clear hb2); (try clear hk); (try clear hi)))
 go_ret
 exact ⟨rf, bl⟩

end Go.Proofs.YtgelfnjicglmbaaGreatDoor.Q
end
