-- Written by this session's own program (wip/tools: a patched run of the printer) out of the translation.
import Derived.Test.YtfeihligcondgaaDoorBx0
import Derived.Test.YtfeihligcondgaaDoorBx1
import Derived.Test.YtfeihligcondgaaDoorBx2
namespace Go.Proofs.YtfeihligcondgaaDoor.B
open Go.RowKit Go.Proofs.YtfeihligcondgaaDoorW.PrintWords Go.Proofs.YtfeihligcondgaaDoorW.PrintLast Go.Proofs.YtfeihligcondgaaDoorW.PrintMore
attribute [local go_sem] max2_int min2_int max_two min_two max_three min_three max_four min_four   -- for this text's walks alone
set_option linter.unusedVariables false
set_option linter.unusedSimpArgs false

/-! ### postriderlaw04_TextBlank: function 3 -/
mutual
def postriderlaw04_TextBlank.j1 : Nat → ByteArray → Int → ByteArray → Option (Bool)
  | 0, _, _, _ => none
  | k + 1, x1, x2, x7 => if x7.size + 1 ≤ 9223372036854775807 then ((text_Blank.f k (x7 ++ (⟨#[120]⟩ : ByteArray))).bind fun bt130 => (if bt130.2 = 0 then (postriderlaw04_TextBlank.j2 k x1 x2 (bt130.1 != (x7.size : Int))) else (postriderlaw04_TextBlank.j2 k x1 x2 true))) else (none)
def postriderlaw04_TextBlank.j2 : Nat → ByteArray → Int → Bool → Option (Bool)
  | 0, _, _, _ => none
  | k + 1, x1, x2, x64 => if x64 = true then (some false) else (if 0 ≤ (mn (x1.size : Int) 60) then (if (mn (x1.size : Int) 60) ≤ (x1.size : Int) then ((text_Blank.f k (x1.extract 0 ((mn (x1.size : Int) 60) : Int).toNat)).bind fun bt132 => (if bt132.1 < 0 then (postriderlaw04_TextBlank.j3 k (x1.extract 0 ((mn (x1.size : Int) 60) : Int).toNat) x2 bt132.1 bt132.2 true) else (if bt132.1 > ((x1.extract 0 ((mn (x1.size : Int) 60) : Int).toNat).size : Int) then (postriderlaw04_TextBlank.j3 k (x1.extract 0 ((mn (x1.size : Int) 60) : Int).toNat) x2 bt132.1 bt132.2 true) else (if bt132.2 = 0 then (postriderlaw04_TextBlank.j3 k (x1.extract 0 ((mn (x1.size : Int) 60) : Int).toNat) x2 bt132.1 bt132.2 false) else (postriderlaw04_TextBlank.j3 k (x1.extract 0 ((mn (x1.size : Int) 60) : Int).toNat) x2 bt132.1 bt132.2 (bt132.1 != 0)))))) else (none)) else (none))
def postriderlaw04_TextBlank.j3 : Nat → ByteArray → Int → Int → Int → Bool → Option (Bool)
  | 0, _, _, _, _, _ => none
  | k + 1, x1, x2, x12, x13, x90 => if x90 = true then (some false) else (if 0 ≤ x12 then (if x12 ≤ (x1.size : Int) then (if x13 = 0 then (if (x1.extract (x12 : Int).toNat x1.size).toList = ([] : List UInt8) then (postriderlaw04_TextBlank.j4 k x2 false) else (if 0 < ((x1.extract (x12 : Int).toNat x1.size).size : Int) then ((strings_IndexByte.f (⟨#[32, 9, 40]⟩ : ByteArray) (bt (x1.extract (x12 : Int).toNat x1.size) 0)).bind fun t134 => (postriderlaw04_TextBlank.j4 k x2 (decide (t134 ≥ 0)))) else (none))) else (postriderlaw04_TextBlank.j4 k x2 false)) else (none)) else (none))
def postriderlaw04_TextBlank.j4 : Nat → Int → Bool → Option (Bool)
  | 0, _, _ => none
  | k + 1, x2, x105 => if x105 = true then (some false) else ((postriderlaw04_nested.f (⟨#[97]⟩ : ByteArray) (wrap64 (9 + (wrap64 (Int.tmod x2 5))))).bind fun t135 => ((text_Comment.f k t135).bind fun bt136 => ((postriderlaw04_nested.f (⟨#[97]⟩ : ByteArray) 8).bind fun t138 => ((text_Comment.f k t138).bind fun bt139 => (if bt136.2 = 3 then (if bt139.2 = 0 then (if bt139.1 = 17 then ((postriderlaw04_tells.f k).bind fun t141 => (some t141)) else (some false)) else (some false)) else (some false))))))
def postriderlaw04_TextBlank.l0 : Nat → ByteArray → Int → ByteArray → List ByteArray → Int → Int → Option (Bool)
  | 0, _, _, _, _, _, _ => none
  | k + 1, x1, x2, x7, x19, x20, x21 => if x21 < x20 then (if 0 ≤ x21 then (if x21 < (x19.length : Int) then (if x21 = 6 then (postriderlaw04_TextBlank.j1 k x1 x2 x7) else (if 0 ≤ (mn ((rdOf ByteArray.empty x19 x21).size : Int) 20) then (if (mn ((rdOf ByteArray.empty x19 x21).size : Int) 20) ≤ ((rdOf ByteArray.empty x19 x21).size : Int) then ((strings_Map__postriderlaw04_TextBlank_1.f ((rdOf ByteArray.empty x19 x21).extract 0 ((mn ((rdOf ByteArray.empty x19 x21).size : Int) 20) : Int).toNat)).bind fun t124 => ((postriderlaw04_nested.f t124 (wrap64 (1 + (Int.tmod (wrap64 ((wrap64 (x2)) + x21)) 8)))).bind fun t125 => ((some (([(⟨#[32]⟩ : ByteArray), (⟨#[]⟩ : ByteArray), (⟨#[9, 32]⟩ : ByteArray), (⟨#[32, 32]⟩ : ByteArray)] : List ByteArray) : List ByteArray)).bind fun y126 => (if 0 ≤ (Int.tmod x21 4) then (if (Int.tmod x21 4) < (y126.length : Int) then (if t125.size + (rdOf ByteArray.empty y126 (Int.tmod x21 4)).size ≤ 9223372036854775807 then (if x7.size + (t125 ++ (rdOf ByteArray.empty y126 (Int.tmod x21 4))).size ≤ 9223372036854775807 then (postriderlaw04_TextBlank.l0 k x1 x2 (x7 ++ (t125 ++ (rdOf ByteArray.empty y126 (Int.tmod x21 4)))) x19 x20 (wrap64 (x21 + 1))) else (none)) else (none)) else (none)) else (none))))) else (none)) else (none))) else (none)) else (none)) else (postriderlaw04_TextBlank.j1 k x1 x2 x7)
end
def postriderlaw04_TextBlank.f (k : Nat) (l0 : List ByteArray) (a1 : ByteArray) (a2 : Int) : Option (Bool) := postriderlaw04_TextBlank.l0 k a1 a2 (⟨#[]⟩ : ByteArray) l0 (l0.length : Int) 0
theorem postriderlaw04_TextBlank.mono_l : ∀ k, (∀ y0 y1 y2, LeO (postriderlaw04_TextBlank.j1 k y0 y1 y2) (postriderlaw04_TextBlank.j1 (k + 1) y0 y1 y2)) ∧ (∀ y0 y1 y2, LeO (postriderlaw04_TextBlank.j2 k y0 y1 y2) (postriderlaw04_TextBlank.j2 (k + 1) y0 y1 y2)) ∧ (∀ y0 y1 y2 y3 y4, LeO (postriderlaw04_TextBlank.j3 k y0 y1 y2 y3 y4) (postriderlaw04_TextBlank.j3 (k + 1) y0 y1 y2 y3 y4)) ∧ (∀ y0 y1, LeO (postriderlaw04_TextBlank.j4 k y0 y1) (postriderlaw04_TextBlank.j4 (k + 1) y0 y1)) ∧ (∀ y0 y1 y2 y3 y4 y5, LeO (postriderlaw04_TextBlank.l0 k y0 y1 y2 y3 y4 y5) (postriderlaw04_TextBlank.l0 (k + 1) y0 y1 y2 y3 y4 y5))
  | 0 => ⟨fun _ _ _ r h => by simp [postriderlaw04_TextBlank.j1] at h, fun _ _ _ r h => by simp [postriderlaw04_TextBlank.j2] at h, fun _ _ _ _ _ r h => by simp [postriderlaw04_TextBlank.j3] at h, fun _ _ r h => by simp [postriderlaw04_TextBlank.j4] at h, fun _ _ _ _ _ _ r h => by simp [postriderlaw04_TextBlank.l0] at h⟩
  | k + 1 => by
    obtain ⟨ih0, ih1, ih2, ih3, ih4⟩ := postriderlaw04_TextBlank.mono_l k
    refine ⟨?_, ?_, ?_, ?_, ?_⟩
    · intro y0 y1 y2
      unfold postriderlaw04_TextBlank.j1
      repeat' first
      | (with_reducible exact ih0 _ _ _)
      | (with_reducible exact ih1 _ _ _)
      | (with_reducible exact ih2 _ _ _ _ _)
      | (with_reducible exact ih3 _ _)
      | (with_reducible exact ih4 _ _ _ _ _ _)
      | (with_reducible exact postriderlaw04_tells.mono _)
      | (with_reducible exact text_Blank.mono _ _)
      | (with_reducible exact text_Comment.mono _ _)
      | (with_reducible exact LeO.refl _)
      | (with_reducible exact LeO.none _)
      | (with_reducible refine LeO.ite ?_ ?_)
      | (with_reducible refine LeO.bind ?_ (fun _ => ?_))
      | exact ih0 _ _ _
      | exact ih1 _ _ _
      | exact ih2 _ _ _ _ _
      | exact ih3 _ _
      | exact ih4 _ _ _ _ _ _
      | exact postriderlaw04_tells.mono _
      | exact text_Blank.mono _ _
      | exact text_Comment.mono _ _
      | exact LeO.none _
      | refine LeO.ite ?_ ?_
      | refine LeO.bind ?_ (fun _ => ?_)
    · intro y0 y1 y2
      unfold postriderlaw04_TextBlank.j2
      repeat' first
      | (with_reducible exact ih0 _ _ _)
      | (with_reducible exact ih1 _ _ _)
      | (with_reducible exact ih2 _ _ _ _ _)
      | (with_reducible exact ih3 _ _)
      | (with_reducible exact ih4 _ _ _ _ _ _)
      | (with_reducible exact postriderlaw04_tells.mono _)
      | (with_reducible exact text_Blank.mono _ _)
      | (with_reducible exact text_Comment.mono _ _)
      | (with_reducible exact LeO.refl _)
      | (with_reducible exact LeO.none _)
      | (with_reducible refine LeO.ite ?_ ?_)
      | (with_reducible refine LeO.bind ?_ (fun _ => ?_))
      | exact ih0 _ _ _
      | exact ih1 _ _ _
      | exact ih2 _ _ _ _ _
      | exact ih3 _ _
      | exact ih4 _ _ _ _ _ _
      | exact postriderlaw04_tells.mono _
      | exact text_Blank.mono _ _
      | exact text_Comment.mono _ _
      | exact LeO.none _
      | refine LeO.ite ?_ ?_
      | refine LeO.bind ?_ (fun _ => ?_)
    · intro y0 y1 y2 y3 y4
      unfold postriderlaw04_TextBlank.j3
      repeat' first
      | (with_reducible exact ih0 _ _ _)
      | (with_reducible exact ih1 _ _ _)
      | (with_reducible exact ih2 _ _ _ _ _)
      | (with_reducible exact ih3 _ _)
      | (with_reducible exact ih4 _ _ _ _ _ _)
      | (with_reducible exact postriderlaw04_tells.mono _)
      | (with_reducible exact text_Blank.mono _ _)
      | (with_reducible exact text_Comment.mono _ _)
      | (with_reducible exact LeO.refl _)
      | (with_reducible exact LeO.none _)
      | (with_reducible refine LeO.ite ?_ ?_)
      | (with_reducible refine LeO.bind ?_ (fun _ => ?_))
      | exact ih0 _ _ _
      | exact ih1 _ _ _
      | exact ih2 _ _ _ _ _
      | exact ih3 _ _
      | exact ih4 _ _ _ _ _ _
      | exact postriderlaw04_tells.mono _
      | exact text_Blank.mono _ _
      | exact text_Comment.mono _ _
      | exact LeO.none _
      | refine LeO.ite ?_ ?_
      | refine LeO.bind ?_ (fun _ => ?_)
    · intro y0 y1
      unfold postriderlaw04_TextBlank.j4
      repeat' first
      | (with_reducible exact ih0 _ _ _)
      | (with_reducible exact ih1 _ _ _)
      | (with_reducible exact ih2 _ _ _ _ _)
      | (with_reducible exact ih3 _ _)
      | (with_reducible exact ih4 _ _ _ _ _ _)
      | (with_reducible exact postriderlaw04_tells.mono _)
      | (with_reducible exact text_Blank.mono _ _)
      | (with_reducible exact text_Comment.mono _ _)
      | (with_reducible exact LeO.refl _)
      | (with_reducible exact LeO.none _)
      | (with_reducible refine LeO.ite ?_ ?_)
      | (with_reducible refine LeO.bind ?_ (fun _ => ?_))
      | exact ih0 _ _ _
      | exact ih1 _ _ _
      | exact ih2 _ _ _ _ _
      | exact ih3 _ _
      | exact ih4 _ _ _ _ _ _
      | exact postriderlaw04_tells.mono _
      | exact text_Blank.mono _ _
      | exact text_Comment.mono _ _
      | exact LeO.none _
      | refine LeO.ite ?_ ?_
      | refine LeO.bind ?_ (fun _ => ?_)
    · intro y0 y1 y2 y3 y4 y5
      unfold postriderlaw04_TextBlank.l0
      repeat' first
      | (with_reducible exact ih0 _ _ _)
      | (with_reducible exact ih1 _ _ _)
      | (with_reducible exact ih2 _ _ _ _ _)
      | (with_reducible exact ih3 _ _)
      | (with_reducible exact ih4 _ _ _ _ _ _)
      | (with_reducible exact postriderlaw04_tells.mono _)
      | (with_reducible exact text_Blank.mono _ _)
      | (with_reducible exact text_Comment.mono _ _)
      | (with_reducible exact LeO.refl _)
      | (with_reducible exact LeO.none _)
      | (with_reducible refine LeO.ite ?_ ?_)
      | (with_reducible refine LeO.bind ?_ (fun _ => ?_))
      | exact ih0 _ _ _
      | exact ih1 _ _ _
      | exact ih2 _ _ _ _ _
      | exact ih3 _ _
      | exact ih4 _ _ _ _ _ _
      | exact postriderlaw04_tells.mono _
      | exact text_Blank.mono _ _
      | exact text_Comment.mono _ _
      | exact LeO.none _
      | refine LeO.ite ?_ ?_
      | refine LeO.bind ?_ (fun _ => ?_)
theorem postriderlaw04_TextBlank.mono : ∀ a0 a1 a2 k, LeO (postriderlaw04_TextBlank.f k a0 a1 a2) (postriderlaw04_TextBlank.f (k + 1) a0 a1 a2) := by
  intro a0 a1 a2 k
  obtain ⟨ih0, ih1, ih2, ih3, ih4⟩ := postriderlaw04_TextBlank.mono_l k
  unfold postriderlaw04_TextBlank.f
  repeat' first
      | (with_reducible exact ih0 _ _ _)
      | (with_reducible exact ih1 _ _ _)
      | (with_reducible exact ih2 _ _ _ _ _)
      | (with_reducible exact ih3 _ _)
      | (with_reducible exact ih4 _ _ _ _ _ _)
      | (with_reducible exact postriderlaw04_tells.mono _)
      | (with_reducible exact text_Blank.mono _ _)
      | (with_reducible exact text_Comment.mono _ _)
      | (with_reducible exact LeO.refl _)
      | (with_reducible exact LeO.none _)
      | (with_reducible refine LeO.ite ?_ ?_)
      | (with_reducible refine LeO.bind ?_ (fun _ => ?_))
      | exact ih0 _ _ _
      | exact ih1 _ _ _
      | exact ih2 _ _ _ _ _
      | exact ih3 _ _
      | exact ih4 _ _ _ _ _ _
      | exact postriderlaw04_tells.mono _
      | exact text_Blank.mono _ _
      | exact text_Comment.mono _ _
      | exact LeO.none _
      | refine LeO.ite ?_ ?_
      | refine LeO.bind ?_ (fun _ => ?_)
def postriderlaw04_TextBlank.T7 : Bool × List (List Nat × List Nat) := (true, [([], []), ([], []), ([], []), ([2], [2]), ([], []), ([3, 4], [3, 4]), ([5], [5]), ([6], [6]), ([1, 7], [1, 7]), ([], []), ([], []), ([10], [10]), ([9, 11], [9, 11]), ([12], [12]), ([8, 13], [8, 13]), ([0, 14], [0, 14]), ([15, 8, 0, 1, 2, 3, 4, 5, 6, 7, 8, 9, 10, 11, 12, 13, 14, 15], [0, 15])])
def postriderlaw04_TextBlank.B7 : List Nat := [0, 0, 0, 4, 0, 28, 60, 124, 254, 0, 0, 1024, 3584, 7680, 16382, 32767, 65535]
theorem postriderlaw04_TextBlank.tab7 : rtab .any (opsOf Tryd.f3 7) = postriderlaw04_TextBlank.T7 := by kernel_rfl
theorem postriderlaw04_TextBlank.bits7 : waitsOk postriderlaw04_TextBlank.T7.2 postriderlaw04_TextBlank.B7 = true := by kernel_rfl
set_option maxHeartbeats 8000000 in
set_option maxRecDepth 100000 in
theorem postriderlaw04_TextBlank.calls (k : Nat) (A0 : Option Addr) (c0 : Nat) (l0 : List ByteArray) (a1 : ByteArray) (a2 : Int) (r : Bool) (w : World) (hr0 : Kd.C Kd.string w A0 l0.length l0) (hc0 : l0.length ≤ c0) (hG : Glob w) (h : postriderlaw04_TextBlank.f k l0 a1 a2 = some r) :
    Calls Tryd.prog 3 #[.slice A0 l0.length c0, .string a1, .int .u8 a2] w fun e w' => e = .returned (.bool r) ∧ Below w.heap.size w w' := by
  have HR0 := Aside0.mk hr0
  have HC0 := Aside0.mk hc0
  clear hr0 hc0
  have HB := Aside0.mk (Below.refl w.heap.size w)
  have HG := Aside0.mk hG
  clear hG
  have H : (postriderlaw04_TextBlank.l0 k a1 a2 (⟨#[]⟩ : ByteArray) l0 (l0.length : Int) 0) = some r := h
  clear h
  have HC4 := Aside0.mk H
  clear H
  go_enter Tryd.func3, Tryd.ntmps3
  go_upto_block 0 with (fail)
  go_cut [7] (fun v7 wc => ∃ (kq : Nat) (x7_3 : ByteArray), v7 = .string x7_3 ∧ Aside0 (postriderlaw04_TextBlank.j1 kq a1 a2 x7_3 = some r) ∧ Aside0 (kq ≤ k) ∧ Aside0 (Below w.heap.size w wc))
  case first =>
    have H := HC4.out
    clear HC4
    have H' := Aside0.mk H
    clear H
    go_wp2
    go_loopg [7, 21] k (fun kq v7 v21 w' => ∃ (x7_1 : ByteArray) (x21_1 : Int), v7 = .string x7_1 ∧ v21 = .int .i64 x21_1 ∧ Aside0 (postriderlaw04_TextBlank.l0 kq a1 a2 x7_1 l0 (l0.length : Int) x21_1 = some r) ∧ Aside0 (kq ≤ k) ∧ Aside0 (Below w.heap.size w w'))
    case atStart => exact ⟨((⟨#[]⟩ : ByteArray)), (0), (by first | rfl | (simp; done) | (simp [*]; done)), (by first | rfl | (simp; done) | (simp [*]; done)), H', ⟨Nat.le_refl _⟩, ⟨by repeat (first | (with_reducible first | exact HB.out | apply below_alloc | apply pw_below_drewN | apply below_drew1) | exact HB.out)⟩⟩
    case round =>
      clear H'
      try clear p2
      try clear c3
      obtain ⟨x7_1, x21_1, rfl, rfl, HA, HK1, HB⟩ := hrel
      cases gk with
      | zero => exact absurd HA.out (by simp [postriderlaw04_TextBlank.l0])
      | succ k1 =>
        have H := HA.out
        clear HA
        simp only [postriderlaw04_TextBlank.l0] at H
        by_cases c5 : x21_1 < (l0.length : Int)
        · rw [if_pos c5] at H
          have c5b0 : decide (x21_1 < (l0.length : Int)) = true := decide_eq_true c5
          clear c5
          (first | rw [c5b0] | (simp only [i64_w, i32_w]; rw [c5b0]) | skip)
          by_cases c6 : 0 ≤ x21_1
          · rw [if_pos c6] at H
            have c6b0 : decide (0 ≤ x21_1) = true := decide_eq_true c6
            clear c6
            by_cases c7 : x21_1 < (l0.length : Int)
            · rw [if_pos c7] at H
              have c7b0 : decide (x21_1 < (l0.length : Int)) = true := decide_eq_true c7
              clear c7
              by_cases c8 : x21_1 = 6
              · rw [if_pos c8] at H
                have c8b0 : (x21_1 == 6) = true := beq_iff_eq.mpr c8
                have c8b1 : (x21_1 != 6) = false := bne_eq_false_iff_eq.mpr c8
                clear c8
                have H' := Aside0.mk H
                clear H
                have p123 : 0 ≤ (x21_1 : Int) := of_decide_eq_true (by first | (with_reducible assumption) | assumption)
                have q123 : x21_1 < (l0.length : Int) := of_decide_eq_true (by first | (with_reducible assumption) | assumption)
                obtain ⟨ad123, e123, hx123_0⟩ := Kd.at_string HR0.out x21_1 p123 q123
                cases e123
                replace hx123_0 := (HB.out.cell (World.block_lt_of_cell? w _ hx123_0)).trans hx123_0
                replace p123 := eq_true p123
                replace q123 := eq_true q123
                go_wp2
                go_meet
                case rel => exact ⟨_, (x7_1), (by first | rfl | (simp; done) | (simp [*]; done)), H', ⟨by have := HK1.out; first | omega | exact Nat.le_refl _⟩, ⟨by repeat (first | (with_reducible first | exact HB.out | apply below_alloc | apply pw_below_drewN | apply below_drew1) | exact HB.out)⟩⟩
              · rw [if_neg c8] at H
                have c8b0 : (x21_1 == 6) = false := beq_eq_false_iff_ne.mpr c8
                have c8b1 : (x21_1 != 6) = true := bne_iff_ne.mpr c8
                obtain ⟨ji9, hji9⟩ : ∃ j_ : Int, (mn ((rdOf ByteArray.empty l0 x21_1).size : Int) 20) = j_ := ⟨_, rfl⟩
                replace H : (if 0 ≤ (ji9) then (if (ji9) ≤ ((rdOf ByteArray.empty l0 x21_1).size : Int) then ((strings_Map__postriderlaw04_TextBlank_1.f ((rdOf ByteArray.empty l0 x21_1).extract 0 ((ji9) : Int).toNat)).bind fun t124 => ((postriderlaw04_nested.f t124 (wrap64 (1 + (Int.tmod (wrap64 ((wrap64 (a2)) + x21_1)) 8)))).bind fun t125 => ((some (([(⟨#[32]⟩ : ByteArray), (⟨#[]⟩ : ByteArray), (⟨#[9, 32]⟩ : ByteArray), (⟨#[32, 32]⟩ : ByteArray)] : List ByteArray) : List ByteArray)).bind fun y126 => (if 0 ≤ (Int.tmod x21_1 4) then (if (Int.tmod x21_1 4) < (y126.length : Int) then (if t125.size + (rdOf ByteArray.empty y126 (Int.tmod x21_1 4)).size ≤ 9223372036854775807 then (if x7_1.size + (t125 ++ (rdOf ByteArray.empty y126 (Int.tmod x21_1 4))).size ≤ 9223372036854775807 then (postriderlaw04_TextBlank.l0 k1 a1 a2 (x7_1 ++ (t125 ++ (rdOf ByteArray.empty y126 (Int.tmod x21_1 4)))) l0 (l0.length : Int) (wrap64 (x21_1 + 1))) else (none)) else (none)) else (none)) else (none))))) else (none)) else (none)) = some r := by first | (rw [hji9] at H; exact H) | (simp only [hji9] at H ⊢; exact H)
                have hji9_ : (if 20 < ((rdOf ByteArray.empty l0 x21_1).size : Int) then 20 else ((rdOf ByteArray.empty l0 x21_1).size : Int)) = ji9 := hji9
                by_cases c10 : 0 ≤ (ji9)
                · rw [if_pos c10] at H
                  have c10b0 := eq_true c10
                  have c10b1 : decide (0 ≤ (ji9)) = true := decide_eq_true c10
                  clear c10
                  by_cases c11 : (ji9) ≤ ((rdOf ByteArray.empty l0 x21_1).size : Int)
                  · rw [if_pos c11] at H
                    have c11b0 := eq_true c11
                    have c11b1 : decide ((ji9) ≤ ((rdOf ByteArray.empty l0 x21_1).size : Int)) = true := decide_eq_true c11
                    clear c11
                    obtain ⟨js12, hjs12⟩ : ∃ j_ : ByteArray, ((rdOf ByteArray.empty l0 x21_1).extract 0 ((ji9) : Int).toNat) = j_ := ⟨_, rfl⟩
                    replace H : ((strings_Map__postriderlaw04_TextBlank_1.f js12).bind fun t124 => ((postriderlaw04_nested.f t124 (wrap64 (1 + (Int.tmod (wrap64 ((wrap64 (a2)) + x21_1)) 8)))).bind fun t125 => ((some (([(⟨#[32]⟩ : ByteArray), (⟨#[]⟩ : ByteArray), (⟨#[9, 32]⟩ : ByteArray), (⟨#[32, 32]⟩ : ByteArray)] : List ByteArray) : List ByteArray)).bind fun y126 => (if 0 ≤ (Int.tmod x21_1 4) then (if (Int.tmod x21_1 4) < (y126.length : Int) then (if t125.size + (rdOf ByteArray.empty y126 (Int.tmod x21_1 4)).size ≤ 9223372036854775807 then (if x7_1.size + (t125 ++ (rdOf ByteArray.empty y126 (Int.tmod x21_1 4))).size ≤ 9223372036854775807 then (postriderlaw04_TextBlank.l0 k1 a1 a2 (x7_1 ++ (t125 ++ (rdOf ByteArray.empty y126 (Int.tmod x21_1 4)))) l0 (l0.length : Int) (wrap64 (x21_1 + 1))) else (none)) else (none)) else (none)) else (none))))) = some r := by first | (rw [hjs12] at H; exact H) | (simp only [hjs12] at H ⊢; exact H)
                    replace H := Option.bind_eq_some_iff.mp H
                    obtain ⟨t124, A130, H⟩ := H
                    replace H : ((postriderlaw04_nested.f t124 (wrap64 (1 + (Int.tmod (wrap64 ((wrap64 (a2)) + x21_1)) 8)))).bind fun t125 => ((some (([(⟨#[32]⟩ : ByteArray), (⟨#[]⟩ : ByteArray), (⟨#[9, 32]⟩ : ByteArray), (⟨#[32, 32]⟩ : ByteArray)] : List ByteArray) : List ByteArray)).bind fun y126 => (if 0 ≤ (Int.tmod x21_1 4) then (if (Int.tmod x21_1 4) < (y126.length : Int) then (if t125.size + (rdOf ByteArray.empty y126 (Int.tmod x21_1 4)).size ≤ 9223372036854775807 then (if x7_1.size + (t125 ++ (rdOf ByteArray.empty y126 (Int.tmod x21_1 4))).size ≤ 9223372036854775807 then (postriderlaw04_TextBlank.l0 k1 a1 a2 (x7_1 ++ (t125 ++ (rdOf ByteArray.empty y126 (Int.tmod x21_1 4)))) l0 (l0.length : Int) (wrap64 (x21_1 + 1))) else (none)) else (none)) else (none)) else (none)))) = some r := H
                    have A13 := Aside0.mk A130
                    clear A130
                    replace H := Option.bind_eq_some_iff.mp H
                    obtain ⟨t125, A140, H⟩ := H
                    replace H : ((some (([(⟨#[32]⟩ : ByteArray), (⟨#[]⟩ : ByteArray), (⟨#[9, 32]⟩ : ByteArray), (⟨#[32, 32]⟩ : ByteArray)] : List ByteArray) : List ByteArray)).bind fun y126 => (if 0 ≤ (Int.tmod x21_1 4) then (if (Int.tmod x21_1 4) < (y126.length : Int) then (if t125.size + (rdOf ByteArray.empty y126 (Int.tmod x21_1 4)).size ≤ 9223372036854775807 then (if x7_1.size + (t125 ++ (rdOf ByteArray.empty y126 (Int.tmod x21_1 4))).size ≤ 9223372036854775807 then (postriderlaw04_TextBlank.l0 k1 a1 a2 (x7_1 ++ (t125 ++ (rdOf ByteArray.empty y126 (Int.tmod x21_1 4)))) l0 (l0.length : Int) (wrap64 (x21_1 + 1))) else (none)) else (none)) else (none)) else (none))) = some r := H
                    have A14 := Aside0.mk A140
                    clear A140
                    obtain ⟨y126, hy126⟩ : ∃ y_ : List ByteArray, y_ = (([(⟨#[32]⟩ : ByteArray), (⟨#[]⟩ : ByteArray), (⟨#[9, 32]⟩ : ByteArray), (⟨#[32, 32]⟩ : ByteArray)] : List ByteArray)) := ⟨_, rfl⟩
                    replace H : (if 0 ≤ (Int.tmod x21_1 4) then (if (Int.tmod x21_1 4) < (y126.length : Int) then (if t125.size + (rdOf ByteArray.empty y126 (Int.tmod x21_1 4)).size ≤ 9223372036854775807 then (if x7_1.size + (t125 ++ (rdOf ByteArray.empty y126 (Int.tmod x21_1 4))).size ≤ 9223372036854775807 then (postriderlaw04_TextBlank.l0 k1 a1 a2 (x7_1 ++ (t125 ++ (rdOf ByteArray.empty y126 (Int.tmod x21_1 4)))) l0 (l0.length : Int) (wrap64 (x21_1 + 1))) else (none)) else (none)) else (none)) else (none)) = some r := by first | (rw [hy126]; with_reducible exact H) | (have H2_ := (Option.bind_some _ _).symm.trans H; rw [hy126]; with_reducible exact H2_) | (have H2_ := (Option.bind_some _ _).symm.trans H; with_reducible exact H2_) | with_reducible exact H | (rw [hy126]; exact H) | exact H
                    have Ny126 := Aside0.mk hy126
                    clear hy126
                    obtain ⟨ji15, hji15⟩ : ∃ j_ : Int, (Int.tmod x21_1 4) = j_ := ⟨_, rfl⟩
                    replace H : (if 0 ≤ (ji15) then (if (ji15) < (y126.length : Int) then (if t125.size + (rdOf ByteArray.empty y126 (ji15)).size ≤ 9223372036854775807 then (if x7_1.size + (t125 ++ (rdOf ByteArray.empty y126 (ji15))).size ≤ 9223372036854775807 then (postriderlaw04_TextBlank.l0 k1 a1 a2 (x7_1 ++ (t125 ++ (rdOf ByteArray.empty y126 (ji15)))) l0 (l0.length : Int) (wrap64 (x21_1 + 1))) else (none)) else (none)) else (none)) else (none)) = some r := by first | (rw [hji15] at H; exact H) | (simp only [hji15] at H ⊢; exact H)
                    (try rw [hji15] at A13)
                    (try rw [hji15] at A14)
                    by_cases c16 : 0 ≤ (ji15)
                    · rw [if_pos c16] at H
                      have c16b0 : decide (0 ≤ (ji15)) = true := decide_eq_true c16
                      clear c16
                      by_cases c17 : (ji15) < (y126.length : Int)
                      · rw [if_pos c17] at H
                        have c17b0 : decide ((ji15) < (y126.length : Int)) = true := decide_eq_true c17
                        clear c17
                        by_cases c18 : t125.size + (rdOf ByteArray.empty y126 (ji15)).size ≤ 9223372036854775807
                        · rw [if_pos c18] at H
                          have c18b0 := eq_true c18
                          have c18b1 : decide (t125.size + (rdOf ByteArray.empty y126 (ji15)).size ≤ 9223372036854775807) = true := decide_eq_true c18
                          try have c18b2 : (9223372036854775807 < t125.size + (rdOf ByteArray.empty y126 (ji15)).size) = False := eq_false (Nat.not_lt.2 c18)
                          by_cases c19 : x7_1.size + (t125 ++ (rdOf ByteArray.empty y126 (ji15))).size ≤ 9223372036854775807
                          · rw [if_pos c19] at H
                            have c19b0 := eq_true c19
                            have c19b1 : decide (x7_1.size + (t125 ++ (rdOf ByteArray.empty y126 (ji15))).size ≤ 9223372036854775807) = true := decide_eq_true c19
                            try have c19b2 : (9223372036854775807 < x7_1.size + (t125 ++ (rdOf ByteArray.empty y126 (ji15))).size) = False := eq_false (Nat.not_lt.2 c19)
                            try (have c19b2y := c19b2; rw [ByteArray.size_append] at c19b2y)
                            have H' := Aside0.mk H
                            clear H
                            have p123 : 0 ≤ (x21_1 : Int) := of_decide_eq_true (by first | (with_reducible assumption) | assumption)
                            have q123 : x21_1 < (l0.length : Int) := of_decide_eq_true (by first | (with_reducible assumption) | assumption)
                            obtain ⟨ad123, e123, hx123_0⟩ := Kd.at_string HR0.out x21_1 p123 q123
                            cases e123
                            replace hx123_0 := (HB.out.cell (World.block_lt_of_cell? w _ hx123_0)).trans hx123_0
                            replace p123 := eq_true p123
                            replace q123 := eq_true q123
                            try go_wp2_with (first | ((with_reducible refine gate_callee (f := 7) rfl ?_); refine goesL_ (some 33) rfl rfl Tryd.func7 (by kernel_rfl) rfl #[.func (.func 8) #[] #[], .string js12] rfl (by (try simp only [List.map_toArray, List.map_cons, List.map_nil]); first | done | rfl | (simp only [List.length_drop, List.length_take]; rfl)) ?_; (with_reducible refine (strings_Map__postriderlaw04_TextBlank_1.calls js12 t124 _ ?side1 A13.out).mono ?_); (case side1 => exact Glob.below HG.out (by repeat (first | (with_reducible first | exact HB.out | apply below_alloc | apply pw_below_drewN | apply below_drew1) | exact HB.out))); rintro e w20 ⟨rfl, hb⟩; refine ⟨_, rfl, ?_⟩; have n0_ := Aside0.mk (below_step (by repeat (first | (with_reducible first | exact HB.out | apply below_alloc | apply pw_below_drewN | apply below_drew1) | exact HB.out)) hb); clear HB; have HB := n0_; clear n0_; (try clear hb); (try clear hb2); (try clear hk); (try clear hi)))
                            have pi129 : (0 ≤ ((ji15) : Int)) = True := eq_true (of_decide_eq_true (by first | (with_reducible assumption) | assumption))
                            have qi129 : ((ji15) < (y126.length : Int)) = True := eq_true (of_decide_eq_true (by first | (with_reducible assumption) | assumption))
                            have n0_ := Aside0.mk (below_drew1 HB.out)
                            clear HB
                            have HB := n0_
                            clear n0_
                            refine start_ (n := 17) (S := fun w' => True) (ds := []) #[false, false, false, false, false, false, false, false, false, false, false, false, false, false, false, false, false] (by kernel_rfl) rfl rfl trivial (fun hHeld => ?_); refine with_tabW postriderlaw04_TextBlank.tab7 postriderlaw04_TextBlank.bits7 (fun HT_ HW_ => ?_)
                            generalize w20.drew = w21 at HB hHeld ⊢
                            refine pure_ (i := 0) (N := some 34) (v := ?_) (a' := ?_) #[true, false, false, false, false, false, false, false, false, false, false, false, false, false, false, false, false] rfl rfl (any_of HT_.out (by kernel_rfl)) (fun _ _ _ h => h) (Or.inl ⟨by rfl, ?_⟩) ?_ ?_
                            rotate_left
                            · intro w'
                              go_simp
                              with_reducible rfl
                            rotate_left
                            · simp only [Act.put, List.setIfInBounds_toArray, List.set_cons_zero, List.set_cons_succ, i64_w, i32_w]
                              rfl
                            refine pure_ (i := 1) (N := some 35) (v := ?_) (a' := ?_) #[true, true, false, false, false, false, false, false, false, false, false, false, false, false, false, false, false] rfl rfl (any_of HT_.out (by kernel_rfl)) (fun _ _ _ h => h) (Or.inl ⟨by rfl, ?_⟩) ?_ ?_
                            rotate_left
                            · intro w'
                              go_simp
                              with_reducible rfl
                            rotate_left
                            · simp only [Act.put, List.setIfInBounds_toArray, List.set_cons_zero, List.set_cons_succ, i64_w, i32_w]
                              rfl
                            refine pure_ (i := 2) (N := some 36) (v := ?_) (a' := ?_) #[true, true, true, false, false, false, false, false, false, false, false, false, false, false, false, false, false] rfl rfl (any_of HT_.out (by kernel_rfl)) (fun _ _ _ h => h) (Or.inl ⟨by rfl, ?_⟩) ?_ ?_
                            rotate_left
                            · intro w'
                              go_simp
                              with_reducible rfl
                            rotate_left
                            · simp only [Act.put, List.setIfInBounds_toArray, List.set_cons_zero, List.set_cons_succ, i64_w, i32_w]
                              rfl
                            refine pure_ (i := 3) (N := some 37) (v := ?_) (a' := ?_) #[true, true, true, true, false, false, false, false, false, false, false, false, false, false, false, false, false] rfl rfl (any_of HT_.out (by kernel_rfl)) (fun _ _ _ h => h) (Or.inl ⟨by rfl, ?_⟩) ?_ ?_
                            rotate_left
                            · intro w'
                              go_simp
                              with_reducible rfl
                            rotate_left
                            · simp only [Act.put, List.setIfInBounds_toArray, List.set_cons_zero, List.set_cons_succ, i64_w, i32_w]
                              rfl
                            refine pure_ (i := 4) (N := some 38) (v := ?_) (a' := ?_) #[true, true, true, true, true, false, false, false, false, false, false, false, false, false, false, false, false] rfl rfl (any_of HT_.out (by kernel_rfl)) (fun _ _ _ h => h) (Or.inl ⟨by rfl, ?_⟩) ?_ ?_
                            rotate_left
                            · intro w'
                              go_simp
                              with_reducible rfl
                            rotate_left
                            · simp only [Act.put, List.setIfInBounds_toArray, List.set_cons_zero, List.set_cons_succ, i64_w, i32_w]
                              rfl
                            refine pure_ (i := 5) (N := some 39) (v := ?_) (a' := ?_) #[true, true, true, true, true, true, false, false, false, false, false, false, false, false, false, false, false] rfl rfl (any_of HT_.out (by kernel_rfl)) (fun _ _ _ h => h) (Or.inl ⟨by rfl, ?_⟩) ?_ ?_
                            rotate_left
                            · intro w'
                              go_simp
                              with_reducible rfl
                            rotate_left
                            · simp only [Act.put, List.setIfInBounds_toArray, List.set_cons_zero, List.set_cons_succ, i64_w, i32_w]
                              rfl
                            refine pure_ (i := 6) (N := some 40) (v := ?_) (a' := ?_) #[true, true, true, true, true, true, true, false, false, false, false, false, false, false, false, false, false] rfl rfl (any_of HT_.out (by kernel_rfl)) (fun _ _ _ h => h) (Or.inl ⟨by rfl, ?_⟩) ?_ ?_
                            rotate_left
                            · intro w'
                              go_simp
                              with_reducible rfl
                            rotate_left
                            · simp only [Act.put, List.setIfInBounds_toArray, List.set_cons_zero, List.set_cons_succ, i64_w, i32_w]
                              rfl
                            refine pure_ (i := 7) (N := some 41) (v := ?_) (a' := ?_) #[true, true, true, true, true, true, true, true, false, false, false, false, false, false, false, false, false] rfl rfl (any_of HT_.out (by kernel_rfl)) (fun _ _ _ h => h) (Or.inl ⟨by rfl, ?_⟩) ?_ ?_
                            rotate_left
                            · intro w'
                              go_simp
                              with_reducible rfl
                            rotate_left
                            · simp only [Act.put, List.setIfInBounds_toArray, List.set_cons_zero, List.set_cons_succ, i64_w, i32_w]
                              rfl
                            refine pure_ (i := 10) (N := some 44) (v := ?_) (a' := ?_) #[true, true, true, true, true, true, true, true, false, false, true, false, false, false, false, false, false] rfl rfl (any_of HT_.out (by kernel_rfl)) (fun _ _ _ h => h) (Or.inl ⟨by rfl, ?_⟩) ?_ ?_
                            rotate_left
                            · intro w'
                              go_simp
                              with_reducible rfl
                            rotate_left
                            · simp only [Act.put, List.setIfInBounds_toArray, List.set_cons_zero, List.set_cons_succ, i64_w, i32_w]
                              rfl
                            refine pure_ (i := 11) (N := some 45) (v := ?_) (a' := ?_) #[true, true, true, true, true, true, true, true, false, false, true, true, false, false, false, false, false] rfl rfl (any_of HT_.out (by kernel_rfl)) (fun _ _ _ h => h) (Or.inl ⟨by rfl, ?_⟩) ?_ ?_
                            rotate_left
                            · intro w'
                              go_simp
                              with_reducible rfl
                            rotate_left
                            · simp only [Act.put, List.setIfInBounds_toArray, List.set_cons_zero, List.set_cons_succ, i64_w, i32_w]
                              rfl
                            refine join_ (σ := Value × Addr) 3 #[true, true, true, true, true, true, true, true, true, true, true, true, true, true, false, false, false] (fun s_ => [(42, .string t125), (43, s_.1), (47, .string (rdOf ByteArray.empty y126 (ji15))), (46, .pointer (some (s_.2.add ((ji15)).toNat)))]) (fun s_ w' => (Kd.R Kd.string 9 w' w.heap.size (fun _ => True) s_.1 y126) ∧ (∃ c_, (s_.1 : Value) = .slice (some s_.2) y126.length c_) ∧ (Below w.heap.size w w')) ?_ ?_
                            rotate_left
                            · intro hCont
                              refine two_ (i := 8) (j := 9) (Ni := some 42) (Nj := some 43) #[true, true, true, true, true, true, true, true, true, false, true, true, false, false, false, false, false] #[true, true, true, true, true, true, true, true, false, true, true, true, false, false, false, false, false] rfl rfl rfl rfl (two_of HT_.out (by kernel_rfl)) (by decide) (by decide) (fun K hK => ?_) (fun K hK => ?_)
                              · skip
                                refine goes_ Tryd.func9 (by kernel_rfl) rfl #[.string t124, .int .i64 (wrap64 (1 + (Int.tmod (wrap64 ((wrap64 (a2)) + x21_1)) 8)))] (by rfl) rfl rfl (by (try simp only [List.map_toArray, List.map_cons, List.map_nil]); first | done | rfl | (simp only [List.length_drop, List.length_take]; rfl)) ?_
                                with_reducible refine (postriderlaw04_nested.calls t124 (wrap64 (1 + (Int.tmod (wrap64 ((wrap64 (a2)) + x21_1)) 8))) t125 _ A14.out).mono ?_
                                rintro e w' ⟨rfl, ⟨nd, rfl⟩⟩
                                refine ⟨_, rfl, ?_⟩
                                refine hK.out _ _ trivial (fun hHeld => ?_)
                                clear hK K
                                refine norm_ (a' := ?_) ?_ ?_
                                rotate_left
                                · show Act.put _ (some 42) _ = _
                                  simp only [Act.put, List.setIfInBounds_toArray, List.set_cons_zero, List.set_cons_succ, i64_w, i32_w]
                                  rfl
                                refine one_ (i := 9) (N := some 43) #[true, true, true, true, true, true, true, true, true, true, true, true, false, false, false, false, false] rfl rfl (one_of HT_.out (by kernel_rfl)) (by decide) (fun K hK => ?_)
                                refine Kd.R_lit_step Kd.string _ 9 ?hg (N := 43) ?hd (xs := ([(⟨#[32]⟩ : ByteArray), (⟨#[]⟩ : ByteArray), (⟨#[9, 32]⟩ : ByteArray), (⟨#[32, 32]⟩ : ByteArray)] : List ByteArray)) (inner := [.string (⟨#[32]⟩ : ByteArray), .string (⟨#[]⟩ : ByteArray), .string (⟨#[9, 32]⟩ : ByteArray), .string (⟨#[32, 32]⟩ : ByteArray)]) (ok := fun _ => True) (okp := fun _ => True) ?hr ?hp (fun _ hk => hk) trivial (Below.refl _ _) (Nat.le_refl _) (by simp) ?_; (case hd => rfl); (case hg => rfl); (case hr => first | (go_simp; done) | (go_simp; rfl)); (case hp => exact (Reps.one (show Kd.M Kd.string _ _ _ (⟨#[32]⟩ : ByteArray) [.string (⟨#[32]⟩ : ByteArray)] from rfl) (Reps.one (show Kd.M Kd.string _ _ _ (⟨#[]⟩ : ByteArray) [.string (⟨#[]⟩ : ByteArray)] from rfl) (Reps.one (show Kd.M Kd.string _ _ _ (⟨#[9, 32]⟩ : ByteArray) [.string (⟨#[9, 32]⟩ : ByteArray)] from rfl) (Reps.one (show Kd.M Kd.string _ _ _ (⟨#[32, 32]⟩ : ByteArray) [.string (⟨#[32, 32]⟩ : ByteArray)] from rfl) (Reps.none _ _))))))
                                intro v127 w22 ho23 hb hg_ hnew_
                                clear hg_ hnew_
                                (first | rw [← Ny126.out] at ho23 | (simp only [Int.reduceToNat] at ho23; rw [← Ny126.out] at ho23))
                                have n0_ := Aside0.mk (Kd.R_lower ho23 (below_size (by repeat (first | (with_reducible first | exact HB.out | apply below_alloc | apply pw_below_drewN | apply below_drew1) | exact HB.out))))
                                have n1_ := Aside0.mk (below_step (by repeat (first | (with_reducible first | exact HB.out | apply below_alloc | apply pw_below_drewN | apply below_drew1) | exact HB.out)) hb)
                                clear HB
                                have HO128 := n0_
                                have HB := n1_
                                clear n0_ n1_
                                clear hb ho23
                                obtain ⟨Ao24, co24, eo24⟩ := Kd.R_slice HO128.out
                                subst eo24
                                obtain ⟨ado24, fo24, _⟩ := Kd.at_string (Kd.R_reads' HO128.out).2.2 0 (by decide) (by rw [Ny126.out]; simp)
                                cases fo24
                                refine hK.out _ _ trivial (fun hHeld => ?_)
                                clear hK K
                                refine norm_ (a' := ?_) ?_ ?_
                                rotate_left
                                · show Act.put _ (some 43) _ = _
                                  simp only [Act.put, List.setIfInBounds_toArray, List.set_cons_zero, List.set_cons_succ, i64_w, i32_w]
                                  rfl
                                refine pure_ (i := 12) (N := some 46) (v := ?_) (a' := ?_) #[true, true, true, true, true, true, true, true, true, true, true, true, true, false, false, false, false] rfl rfl (any_of HT_.out (by kernel_rfl)) (fun _ _ _ h => h) (Or.inl ⟨by rfl, ?_⟩) ?_ ?_
                                rotate_left
                                · intro w'
                                  go_simp
                                  with_reducible rfl
                                rotate_left
                                · simp only [Act.put, List.setIfInBounds_toArray, List.set_cons_zero, List.set_cons_succ, i64_w, i32_w]
                                  rfl
                                refine one_ (i := 13) (N := some 47) #[true, true, true, true, true, true, true, true, true, true, true, true, true, true, false, false, false] rfl rfl (one_of HT_.out (by kernel_rfl)) (by decide) (fun K hK => ?_)
                                (have p129 : 0 ≤ ((ji15) : Int) := of_decide_eq_true (by first | (with_reducible assumption) | assumption); have q129 : (ji15) < (y126.length : Int) := of_decide_eq_true (by first | (with_reducible assumption) | assumption); obtain ⟨ad129, e129, hx129_0⟩ := Kd.at_string (Kd.R_reads' HO128.out).2.2 (ji15) p129 q129; obtain rfl : ado24 = ad129 := (by injection e129))
                                refine value_ (w1 := ?_) (v := ?_) (by rfl) rfl ?_ ?_
                                rotate_left 2
                                · go_simp
                                  constructor
                                  · rfl
                                  · rfl
                                clear hx129_0
                                refine hK.out _ _ trivial (fun hHeld => ?_)
                                clear hK K
                                refine norm_ (a' := ?_) ?_ ?_
                                rotate_left
                                · show Act.put _ (some 47) _ = _
                                  simp only [Act.put, List.setIfInBounds_toArray, List.set_cons_zero, List.set_cons_succ, i64_w, i32_w]
                                  rfl
                                exact norm_ (by simp only [putAll, Act.put, List.setIfInBounds_toArray, List.set_cons_zero, List.set_cons_succ]) (hCont (.slice (some ado24) y126.length co24, ado24) _ ⟨(by (with_reducible repeat (first | apply Kd.R_alloc | apply Kd.R_drewN | apply Kd.R_drew)); exact HO128.out), ⟨_, rfl⟩, (by repeat (first | (with_reducible first | exact HB.out | apply below_alloc | apply pw_below_drewN | apply below_drew1) | exact HB.out))⟩)
                              · skip
                                refine Kd.R_lit_step Kd.string _ 9 ?hg (N := 43) ?hd (xs := ([(⟨#[32]⟩ : ByteArray), (⟨#[]⟩ : ByteArray), (⟨#[9, 32]⟩ : ByteArray), (⟨#[32, 32]⟩ : ByteArray)] : List ByteArray)) (inner := [.string (⟨#[32]⟩ : ByteArray), .string (⟨#[]⟩ : ByteArray), .string (⟨#[9, 32]⟩ : ByteArray), .string (⟨#[32, 32]⟩ : ByteArray)]) (ok := fun _ => True) (okp := fun _ => True) ?hr ?hp (fun _ hk => hk) trivial (Below.refl _ _) (Nat.le_refl _) (by simp) ?_; (case hd => rfl); (case hg => rfl); (case hr => first | (go_simp; done) | (go_simp; rfl)); (case hp => exact (Reps.one (show Kd.M Kd.string _ _ _ (⟨#[32]⟩ : ByteArray) [.string (⟨#[32]⟩ : ByteArray)] from rfl) (Reps.one (show Kd.M Kd.string _ _ _ (⟨#[]⟩ : ByteArray) [.string (⟨#[]⟩ : ByteArray)] from rfl) (Reps.one (show Kd.M Kd.string _ _ _ (⟨#[9, 32]⟩ : ByteArray) [.string (⟨#[9, 32]⟩ : ByteArray)] from rfl) (Reps.one (show Kd.M Kd.string _ _ _ (⟨#[32, 32]⟩ : ByteArray) [.string (⟨#[32, 32]⟩ : ByteArray)] from rfl) (Reps.none _ _))))))
                                intro v127 w22 ho23 hb hg_ hnew_
                                clear hg_ hnew_
                                (first | rw [← Ny126.out] at ho23 | (simp only [Int.reduceToNat] at ho23; rw [← Ny126.out] at ho23))
                                have n0_ := Aside0.mk (Kd.R_lower ho23 (below_size (by repeat (first | (with_reducible first | exact HB.out | apply below_alloc | apply pw_below_drewN | apply below_drew1) | exact HB.out))))
                                have n1_ := Aside0.mk (below_step (by repeat (first | (with_reducible first | exact HB.out | apply below_alloc | apply pw_below_drewN | apply below_drew1) | exact HB.out)) hb)
                                clear HB
                                have HO128 := n0_
                                have HB := n1_
                                clear n0_ n1_
                                clear hb ho23
                                obtain ⟨Ao24, co24, eo24⟩ := Kd.R_slice HO128.out
                                subst eo24
                                obtain ⟨ado24, fo24, _⟩ := Kd.at_string (Kd.R_reads' HO128.out).2.2 0 (by decide) (by rw [Ny126.out]; simp)
                                cases fo24
                                refine hK.out _ _ trivial (fun hHeld => ?_)
                                clear hK K
                                refine norm_ (a' := ?_) ?_ ?_
                                rotate_left
                                · show Act.put _ (some 43) _ = _
                                  simp only [Act.put, List.setIfInBounds_toArray, List.set_cons_zero, List.set_cons_succ, i64_w, i32_w]
                                  rfl
                                refine pure_ (i := 12) (N := some 46) (v := ?_) (a' := ?_) #[true, true, true, true, true, true, true, true, false, true, true, true, true, false, false, false, false] rfl rfl (any_of HT_.out (by kernel_rfl)) (fun _ _ _ h => h) (Or.inl ⟨by rfl, ?_⟩) ?_ ?_
                                rotate_left
                                · intro w'
                                  go_simp
                                  with_reducible rfl
                                rotate_left
                                · simp only [Act.put, List.setIfInBounds_toArray, List.set_cons_zero, List.set_cons_succ, i64_w, i32_w]
                                  rfl
                                refine two_ (i := 8) (j := 13) (Ni := some 42) (Nj := some 47) #[true, true, true, true, true, true, true, true, true, true, true, true, true, false, false, false, false] #[true, true, true, true, true, true, true, true, false, true, true, true, true, true, false, false, false] rfl rfl rfl rfl (two_of HT_.out (by kernel_rfl)) (by decide) (by decide) (fun K hK => ?_) (fun K hK => ?_)
                                · skip
                                  refine goes_ Tryd.func9 (by kernel_rfl) rfl #[.string t124, .int .i64 (wrap64 (1 + (Int.tmod (wrap64 ((wrap64 (a2)) + x21_1)) 8)))] (by rfl) rfl rfl (by (try simp only [List.map_toArray, List.map_cons, List.map_nil]); first | done | rfl | (simp only [List.length_drop, List.length_take]; rfl)) ?_
                                  with_reducible refine (postriderlaw04_nested.calls t124 (wrap64 (1 + (Int.tmod (wrap64 ((wrap64 (a2)) + x21_1)) 8))) t125 _ A14.out).mono ?_
                                  rintro e w' ⟨rfl, ⟨nd, rfl⟩⟩
                                  refine ⟨_, rfl, ?_⟩
                                  refine hK.out _ _ trivial (fun hHeld => ?_)
                                  clear hK K
                                  refine norm_ (a' := ?_) ?_ ?_
                                  rotate_left
                                  · show Act.put _ (some 42) _ = _
                                    simp only [Act.put, List.setIfInBounds_toArray, List.set_cons_zero, List.set_cons_succ, i64_w, i32_w]
                                    rfl
                                  refine one_ (i := 13) (N := some 47) #[true, true, true, true, true, true, true, true, true, true, true, true, true, true, false, false, false] rfl rfl (one_of HT_.out (by kernel_rfl)) (by decide) (fun K hK => ?_)
                                  (have p129 : 0 ≤ ((ji15) : Int) := of_decide_eq_true (by first | (with_reducible assumption) | assumption); have q129 : (ji15) < (y126.length : Int) := of_decide_eq_true (by first | (with_reducible assumption) | assumption); obtain ⟨ad129, e129, hx129_0⟩ := Kd.at_string (Kd.R_reads' HO128.out).2.2 (ji15) p129 q129; obtain rfl : ado24 = ad129 := (by injection e129))
                                  refine value_ (w1 := ?_) (v := ?_) (by rfl) rfl ?_ ?_
                                  rotate_left 2
                                  · go_simp
                                    constructor
                                    · rfl
                                    · rfl
                                  clear hx129_0
                                  refine hK.out _ _ trivial (fun hHeld => ?_)
                                  clear hK K
                                  refine norm_ (a' := ?_) ?_ ?_
                                  rotate_left
                                  · show Act.put _ (some 47) _ = _
                                    simp only [Act.put, List.setIfInBounds_toArray, List.set_cons_zero, List.set_cons_succ, i64_w, i32_w]
                                    rfl
                                  exact norm_ (by simp only [putAll, Act.put, List.setIfInBounds_toArray, List.set_cons_zero, List.set_cons_succ]) (hCont (.slice (some ado24) y126.length co24, ado24) _ ⟨(by (with_reducible repeat (first | apply Kd.R_alloc | apply Kd.R_drewN | apply Kd.R_drew)); exact HO128.out), ⟨_, rfl⟩, (by repeat (first | (with_reducible first | exact HB.out | apply below_alloc | apply pw_below_drewN | apply below_drew1) | exact HB.out))⟩)
                                · skip
                                  (have p129 : 0 ≤ ((ji15) : Int) := of_decide_eq_true (by first | (with_reducible assumption) | assumption); have q129 : (ji15) < (y126.length : Int) := of_decide_eq_true (by first | (with_reducible assumption) | assumption); obtain ⟨ad129, e129, hx129_0⟩ := Kd.at_string (Kd.R_reads' HO128.out).2.2 (ji15) p129 q129; obtain rfl : ado24 = ad129 := (by injection e129))
                                  refine value_ (w1 := ?_) (v := ?_) (by rfl) rfl ?_ ?_
                                  rotate_left 2
                                  · go_simp
                                    constructor
                                    · rfl
                                    · rfl
                                  clear hx129_0
                                  refine hK.out _ _ trivial (fun hHeld => ?_)
                                  clear hK K
                                  refine norm_ (a' := ?_) ?_ ?_
                                  rotate_left
                                  · show Act.put _ (some 47) _ = _
                                    simp only [Act.put, List.setIfInBounds_toArray, List.set_cons_zero, List.set_cons_succ, i64_w, i32_w]
                                    rfl
                                  refine one_ (i := 8) (N := some 42) #[true, true, true, true, true, true, true, true, true, true, true, true, true, true, false, false, false] rfl rfl (one_of HT_.out (by kernel_rfl)) (by decide) (fun K hK => ?_)
                                  refine goes_ Tryd.func9 (by kernel_rfl) rfl #[.string t124, .int .i64 (wrap64 (1 + (Int.tmod (wrap64 ((wrap64 (a2)) + x21_1)) 8)))] (by rfl) rfl rfl (by (try simp only [List.map_toArray, List.map_cons, List.map_nil]); first | done | rfl | (simp only [List.length_drop, List.length_take]; rfl)) ?_
                                  with_reducible refine (postriderlaw04_nested.calls t124 (wrap64 (1 + (Int.tmod (wrap64 ((wrap64 (a2)) + x21_1)) 8))) t125 _ A14.out).mono ?_
                                  rintro e w' ⟨rfl, ⟨nd, rfl⟩⟩
                                  refine ⟨_, rfl, ?_⟩
                                  refine hK.out _ _ trivial (fun hHeld => ?_)
                                  clear hK K
                                  refine norm_ (a' := ?_) ?_ ?_
                                  rotate_left
                                  · show Act.put _ (some 42) _ = _
                                    simp only [Act.put, List.setIfInBounds_toArray, List.set_cons_zero, List.set_cons_succ, i64_w, i32_w]
                                    rfl
                                  exact norm_ (by simp only [putAll, Act.put, List.setIfInBounds_toArray, List.set_cons_zero, List.set_cons_succ]) (hCont (.slice (some ado24) y126.length co24, ado24) _ ⟨(by (with_reducible repeat (first | apply Kd.R_alloc | apply Kd.R_drewN | apply Kd.R_drew)); exact HO128.out), ⟨_, rfl⟩, (by repeat (first | (with_reducible first | exact HB.out | apply below_alloc | apply pw_below_drewN | apply below_drew1) | exact HB.out))⟩)
                            rintro ⟨v127, adz_v127⟩ w25 ⟨h0_, h1_, h2_⟩
                            have n0_ : Aside0 (Kd.R Kd.string 9 w25 w.heap.size (fun _ => True) v127 y126) := ⟨h0_⟩
                            have n1_ : Aside0 (∃ c_, (v127 : Value) = .slice (some adz_v127) y126.length c_) := ⟨h1_⟩
                            have n2_ : Aside0 (Below w.heap.size w w25) := ⟨h2_⟩
                            clear HB
                            clear h0_ h1_ h2_
                            have HO128 := n0_
                            have HA_HO128 := n1_
                            have HB := n2_
                            clear n0_ n1_ n2_
                            have hHeld := trivial
                            obtain ⟨co26, eo26⟩ := HA_HO128.out
                            clear HA_HO128
                            subst eo26
                            refine norm_ (a' := ?_) ?_ ?_
                            rotate_left
                            · simp only [putAll, Act.put, List.setIfInBounds_toArray, List.set_cons_zero, List.set_cons_succ]
                              rfl
                            refine pure_ (i := 14) (N := some 48) (v := ?_) (a' := ?_) #[true, true, true, true, true, true, true, true, true, true, true, true, true, true, true, false, false] rfl rfl (any_of HT_.out (by kernel_rfl)) (fun _ _ _ h => h) (Or.inl ⟨by rfl, ?_⟩) ?_ ?_
                            rotate_left
                            · intro w'
                              go_simp
                              with_reducible rfl
                            rotate_left
                            · simp only [Act.put, List.setIfInBounds_toArray, List.set_cons_zero, List.set_cons_succ, i64_w, i32_w]
                              rfl
                            refine pure_ (i := 15) (N := some 49) (v := ?_) (a' := ?_) #[true, true, true, true, true, true, true, true, true, true, true, true, true, true, true, true, false] rfl rfl (any_of HT_.out (by kernel_rfl)) (fun _ _ _ h => h) (Or.inl ⟨by rfl, ?_⟩) ?_ ?_
                            rotate_left
                            · intro w'
                              go_simp
                              with_reducible rfl
                            rotate_left
                            · simp only [Act.put, List.setIfInBounds_toArray, List.set_cons_zero, List.set_cons_succ, i64_w, i32_w]
                              rfl
                            refine pure_ (i := 16) (N := some 7) (v := ?_) (a' := ?_) #[true, true, true, true, true, true, true, true, true, true, true, true, true, true, true, true, true] rfl rfl (any_of HT_.out (by kernel_rfl)) (fun _ _ _ h => h) (Or.inl ⟨by rfl, ?_⟩) ?_ ?_
                            rotate_left
                            · intro w'
                              go_simp
                              with_reducible rfl
                            rotate_left
                            · simp only [Act.put, List.setIfInBounds_toArray, List.set_cons_zero, List.set_cons_succ, i64_w, i32_w]
                              rfl
                            refine done_ (done_of HT_.out (by kernel_rfl)) ?_
                            try go_wp2
                            go_roundg k1
                            case measure => have := HK1.out; omega
                            case rel => exact ⟨(x7_1 ++ (t125 ++ (rdOf ByteArray.empty y126 (ji15)))), (wrap64 (x21_1 + 1)), (by first | rfl | (simp; done) | (simp only [← hji15] <;> (first | rfl | simp)) | (simp [*]; done)), (by first | rfl | (simp; done) | (simp [*]; done)), H', ⟨by have := HK1.out; omega⟩, ⟨by repeat (first | (with_reducible first | exact HB.out | apply below_alloc | apply pw_below_drewN | apply below_drew1) | exact HB.out)⟩⟩
                          · rw [if_neg c19] at H
                            exact absurd H (by simp)
                        · rw [if_neg c18] at H
                          exact absurd H (by simp)
                      · rw [if_neg c17] at H
                        exact absurd H (by simp)
                    · rw [if_neg c16] at H
                      exact absurd H (by simp)
                  · rw [if_neg c11] at H
                    exact absurd H (by simp)
                · rw [if_neg c10] at H
                  exact absurd H (by simp)
            · rw [if_neg c7] at H
              exact absurd H (by simp)
          · rw [if_neg c6] at H
            exact absurd H (by simp)
        · rw [if_neg c5] at H
          have c5b0 : decide (x21_1 < (l0.length : Int)) = false := decide_eq_false c5
          clear c5
          (first | rw [c5b0] | (simp only [i64_w, i32_w]; rw [c5b0]) | skip)
          have H' := Aside0.mk H
          clear H
          go_wp2
          go_meet
          case rel => exact ⟨_, (x7_1), (by first | rfl | (simp; done) | (simp [*]; done)), H', ⟨by have := HK1.out; first | omega | exact Nat.le_refl _⟩, ⟨by repeat (first | (with_reducible first | exact HB.out | apply below_alloc | apply pw_below_drewN | apply below_drew1) | exact HB.out)⟩⟩
  case rest =>
    clear HC4
    try clear c1
    try clear p1
    try clear q1
    try clear hx1
    try clear qi1
    try clear p2
    try clear c3
    try clear c5
    try clear c5b0
    try clear c6
    try clear c6b0
    try clear p6
    try clear c7
    try clear c7b0
    try clear c8
    try clear c8b0
    try clear c8b1
    try clear c9
    try clear c10
    try clear c10b0
    try clear c10b1
    try clear c11
    try clear c11b0
    try clear c11b1
    try clear p12
    try clear q12
    try clear hx12
    try clear qi12
    try clear c16
    try clear c16b0
    try clear c17
    try clear c17b0
    try clear c18
    try clear c18b0
    try clear c18b1
    try clear c18b2
    try clear c19
    try clear c19b0
    try clear c19b1
    try clear c19b2
    try clear hx123_0
    try clear hx129_0
    try clear p123
    try clear p129
    try clear p2
    try clear q123
    try clear q129
    obtain ⟨kq, x7_3, rfl, HA, HJ3, HB⟩ := hcut
    cases kq with
    | zero => exact absurd HA.out (by simp [postriderlaw04_TextBlank.j1])
    | succ kj3 =>
      have H := HA.out
      clear HA
      simp only [postriderlaw04_TextBlank.j1] at H
      by_cases c27 : x7_3.size + 1 ≤ 9223372036854775807
      · rw [if_pos c27] at H
        have c27b0 := eq_true c27
        have c27b1 : decide (x7_3.size + 1 ≤ 9223372036854775807) = true := decide_eq_true c27
        try have c27b2 : (9223372036854775807 < x7_3.size + 1) = False := eq_false (Nat.not_lt.2 c27)
        replace H := Option.bind_eq_some_iff.mp H
        obtain ⟨⟨t130, t131⟩, A280, H⟩ := H
        replace H : (if t131 = 0 then (postriderlaw04_TextBlank.j2 kj3 a1 a2 (t130 != (x7_3.size : Int))) else (postriderlaw04_TextBlank.j2 kj3 a1 a2 true)) = some r := H
        have A28 := Aside0.mk A280
        clear A280
        have HC29 := Aside0.mk H
        clear H
        go_upto_region 10 with (first | ((with_reducible refine gate_callee (f := 10) rfl ?_); refine goesL_ (some 54) rfl rfl Tryd.func10 (by kernel_rfl) rfl #[.string (x7_3 ++ (⟨#[120]⟩ : ByteArray))] rfl (by (try simp only [List.map_toArray, List.map_cons, List.map_nil]); first | done | rfl | (simp only [List.length_drop, List.length_take]; rfl)) ?_; (with_reducible refine (text_Blank.calls kj3 (x7_3 ++ (⟨#[120]⟩ : ByteArray)) t130 t131 _ A28.out).mono ?_); rintro e w' ⟨rfl, ⟨nd, rfl⟩⟩; refine ⟨_, rfl, ?_⟩))
        (try simp only [Act.put, List.setIfInBounds_toArray, List.set_cons_zero, List.set_cons_succ])
        go_cut [64] (fun v64 wc => ∃ (kq : Nat) (x64_28 : Bool), v64 = .bool x64_28 ∧ Aside0 (postriderlaw04_TextBlank.j2 kq a1 a2 x64_28 = some r) ∧ Aside0 (kq ≤ kj3) ∧ Aside0 (Below w.heap.size w wc))
        case first =>
          have H := HC29.out
          clear HC29
          by_cases c30 : t131 = 0
          · rw [if_pos c30] at H
            have c30b0 : (t131 == 0) = true := beq_iff_eq.mpr c30
            have c30b1 : (t131 != 0) = false := bne_eq_false_iff_eq.mpr c30
            clear c30
            (first | rw [c30b0] | (simp only [i64_w, i32_w]; rw [c30b0]) | skip)
            have H' := Aside0.mk H
            clear H
            go_wp2
            go_meet
            case rel => exact ⟨_, ((t130 != (x7_3.size : Int))), (by first | rfl | (simp; done) | (simp [*]; done)), H', ⟨by have := HJ3.out; first | omega | exact Nat.le_refl _⟩, ⟨by repeat (first | (with_reducible first | exact HB.out | apply below_alloc | apply pw_below_drewN | apply below_drew1) | exact HB.out)⟩⟩
          · rw [if_neg c30] at H
            have c30b0 : (t131 == 0) = false := beq_eq_false_iff_ne.mpr c30
            have c30b1 : (t131 != 0) = true := bne_iff_ne.mpr c30
            (first | rw [c30b0] | (simp only [i64_w, i32_w]; rw [c30b0]) | skip)
            have H' := Aside0.mk H
            clear H
            go_wp2
            go_meet
            case rel => exact ⟨_, (true), (by first | rfl | (simp; done) | (simp [*]; done)), H', ⟨by have := HJ3.out; first | omega | exact Nat.le_refl _⟩, ⟨by repeat (first | (with_reducible first | exact HB.out | apply below_alloc | apply pw_below_drewN | apply below_drew1) | exact HB.out)⟩⟩
        case rest =>
          clear HC29
          try clear c1
          try clear p1
          try clear q1
          try clear hx1
          try clear qi1
          try clear c2
          try clear p2
          try clear c3
          try clear c5
          try clear c5b0
          try clear c6
          try clear c6b0
          try clear p6
          try clear c7
          try clear c7b0
          try clear c8
          try clear c8b0
          try clear c8b1
          try clear c9
          try clear c10
          try clear c10b0
          try clear c10b1
          try clear c11
          try clear c11b0
          try clear c11b1
          try clear p12
          try clear q12
          try clear hx12
          try clear qi12
          try clear c16
          try clear c16b0
          try clear c17
          try clear c17b0
          try clear c18
          try clear c18b0
          try clear c18b1
          try clear c18b2
          try clear c19
          try clear c19b0
          try clear c19b1
          try clear c19b2
          try clear c27
          try clear c27b0
          try clear c27b1
          try clear c27b2
          try clear c30
          try clear c30b0
          try clear c30b1
          try clear hx123_0
          try clear hx129_0
          try clear p1
          try clear p12
          try clear p123
          try clear p129
          try clear p2
          try clear p6
          try clear q1
          try clear q12
          try clear q123
          try clear q129
          obtain ⟨kq, x64_28, rfl, HA, HJ28, HB⟩ := hcut
          cases kq with
          | zero => exact absurd HA.out (by simp [postriderlaw04_TextBlank.j2])
          | succ kj28 =>
            have H := HA.out
            clear HA
            simp only [postriderlaw04_TextBlank.j2] at H
            by_cases c31 : x64_28 = true
            · subst c31
              have H1 : (some false) = some r := by rw [if_pos rfl] at H; exact H
              clear H
              have H := H1
              clear H1
              obtain rfl := Option.some.inj H
              go_wp2
              go_ret
              exact ⟨by first | rfl | (simp [errW_none, errW_some] <;> rfl) | (simp [*, errW_none, errW_some] <;> rfl), by repeat (first | (with_reducible first | exact HB.out | apply below_alloc | apply pw_below_drewN | apply below_drew1) | exact HB.out)⟩
            · replace c31 := Bool.eq_false_iff.mpr c31
              subst c31
              have H1 : (if 0 ≤ (mn (a1.size : Int) 60) then (if (mn (a1.size : Int) 60) ≤ (a1.size : Int) then ((text_Blank.f kj28 (a1.extract 0 ((mn (a1.size : Int) 60) : Int).toNat)).bind fun bt132 => (if bt132.1 < 0 then (postriderlaw04_TextBlank.j3 kj28 (a1.extract 0 ((mn (a1.size : Int) 60) : Int).toNat) a2 bt132.1 bt132.2 true) else (if bt132.1 > ((a1.extract 0 ((mn (a1.size : Int) 60) : Int).toNat).size : Int) then (postriderlaw04_TextBlank.j3 kj28 (a1.extract 0 ((mn (a1.size : Int) 60) : Int).toNat) a2 bt132.1 bt132.2 true) else (if bt132.2 = 0 then (postriderlaw04_TextBlank.j3 kj28 (a1.extract 0 ((mn (a1.size : Int) 60) : Int).toNat) a2 bt132.1 bt132.2 false) else (postriderlaw04_TextBlank.j3 kj28 (a1.extract 0 ((mn (a1.size : Int) 60) : Int).toNat) a2 bt132.1 bt132.2 (bt132.1 != 0)))))) else (none)) else (none)) = some r := by rw [if_neg (show ¬ (false = true) by decide)] at H; exact H
              clear H
              have H := H1
              clear H1
              obtain ⟨ji32, hji32⟩ : ∃ j_ : Int, (mn (a1.size : Int) 60) = j_ := ⟨_, rfl⟩
              replace H : (if 0 ≤ (ji32) then (if (ji32) ≤ (a1.size : Int) then ((text_Blank.f kj28 (a1.extract 0 ((ji32) : Int).toNat)).bind fun bt132 => (if bt132.1 < 0 then (postriderlaw04_TextBlank.j3 kj28 (a1.extract 0 ((ji32) : Int).toNat) a2 bt132.1 bt132.2 true) else (if bt132.1 > ((a1.extract 0 ((ji32) : Int).toNat).size : Int) then (postriderlaw04_TextBlank.j3 kj28 (a1.extract 0 ((ji32) : Int).toNat) a2 bt132.1 bt132.2 true) else (if bt132.2 = 0 then (postriderlaw04_TextBlank.j3 kj28 (a1.extract 0 ((ji32) : Int).toNat) a2 bt132.1 bt132.2 false) else (postriderlaw04_TextBlank.j3 kj28 (a1.extract 0 ((ji32) : Int).toNat) a2 bt132.1 bt132.2 (bt132.1 != 0)))))) else (none)) else (none)) = some r := by first | (rw [hji32] at H; exact H) | (simp only [hji32] at H ⊢; exact H)
              have hji32_ : (if 60 < (a1.size : Int) then 60 else (a1.size : Int)) = ji32 := hji32
              by_cases c33 : 0 ≤ (ji32)
              · rw [if_pos c33] at H
                have c33b0 := eq_true c33
                have c33b1 : decide (0 ≤ (ji32)) = true := decide_eq_true c33
                clear c33
                by_cases c34 : (ji32) ≤ (a1.size : Int)
                · rw [if_pos c34] at H
                  have c34b0 := eq_true c34
                  have c34b1 : decide ((ji32) ≤ (a1.size : Int)) = true := decide_eq_true c34
                  clear c34
                  obtain ⟨js35, hjs35⟩ : ∃ j_ : ByteArray, (a1.extract 0 ((ji32) : Int).toNat) = j_ := ⟨_, rfl⟩
                  replace H : ((text_Blank.f kj28 js35).bind fun bt132 => (if bt132.1 < 0 then (postriderlaw04_TextBlank.j3 kj28 js35 a2 bt132.1 bt132.2 true) else (if bt132.1 > (js35.size : Int) then (postriderlaw04_TextBlank.j3 kj28 js35 a2 bt132.1 bt132.2 true) else (if bt132.2 = 0 then (postriderlaw04_TextBlank.j3 kj28 js35 a2 bt132.1 bt132.2 false) else (postriderlaw04_TextBlank.j3 kj28 js35 a2 bt132.1 bt132.2 (bt132.1 != 0)))))) = some r := by first | (rw [hjs35] at H; exact H) | (simp only [hjs35] at H ⊢; exact H)
                  replace H := Option.bind_eq_some_iff.mp H
                  obtain ⟨⟨t132, t133⟩, A360, H⟩ := H
                  replace H : (if t132 < 0 then (postriderlaw04_TextBlank.j3 kj28 js35 a2 t132 t133 true) else (if t132 > (js35.size : Int) then (postriderlaw04_TextBlank.j3 kj28 js35 a2 t132 t133 true) else (if t133 = 0 then (postriderlaw04_TextBlank.j3 kj28 js35 a2 t132 t133 false) else (postriderlaw04_TextBlank.j3 kj28 js35 a2 t132 t133 (t132 != 0))))) = some r := H
                  have A36 := Aside0.mk A360
                  clear A360
                  have HC37 := Aside0.mk H
                  clear H
                  go_upto_region 14 with (first | ((with_reducible refine gate_callee (f := 10) rfl ?_); refine goesL_ (some 72) rfl rfl Tryd.func10 (by kernel_rfl) rfl #[.string js35] rfl (by (try simp only [List.map_toArray, List.map_cons, List.map_nil]); first | done | rfl | (simp only [List.length_drop, List.length_take]; rfl)) ?_; (with_reducible refine (text_Blank.calls kj28 js35 t132 t133 _ A36.out).mono ?_); rintro e w' ⟨rfl, ⟨nd, rfl⟩⟩; refine ⟨_, rfl, ?_⟩))
                  (try simp only [Act.put, List.setIfInBounds_toArray, List.set_cons_zero, List.set_cons_succ])
                  go_cut [90] (fun v90 wc => ∃ (kq : Nat) (x90_36 : Bool), v90 = .bool x90_36 ∧ Aside0 (postriderlaw04_TextBlank.j3 kq js35 a2 t132 t133 x90_36 = some r) ∧ Aside0 (kq ≤ kj28) ∧ Aside0 (Below w.heap.size w wc))
                  case first =>
                    have H := HC37.out
                    clear HC37
                    by_cases c38 : t132 < 0
                    · rw [if_pos c38] at H
                      have c38b0 : decide (t132 < 0) = true := decide_eq_true c38
                      clear c38
                      (first | rw [c38b0] | (simp only [i64_w, i32_w]; rw [c38b0]) | skip)
                      have H' := Aside0.mk H
                      clear H
                      go_wp2
                      go_meet
                      case rel => exact ⟨_, (true), (by first | rfl | (simp; done) | (simp [*]; done)), H', ⟨by have := HJ3.out; have := HJ28.out; first | omega | exact Nat.le_refl _⟩, ⟨by repeat (first | (with_reducible first | exact HB.out | apply below_alloc | apply pw_below_drewN | apply below_drew1) | exact HB.out)⟩⟩
                    · rw [if_neg c38] at H
                      have c38b0 : decide (t132 < 0) = false := decide_eq_false c38
                      clear c38
                      (first | rw [c38b0] | (simp only [i64_w, i32_w]; rw [c38b0]) | skip)
                      by_cases c39 : t132 > (js35.size : Int)
                      · rw [if_pos c39] at H
                        have c39b0 : decide ((js35.size : Int) < t132) = true := decide_eq_true c39
                        clear c39
                        have H' := Aside0.mk H
                        clear H
                        go_wp2
                        go_meet
                        case rel => exact ⟨_, (true), (by first | rfl | (simp; done) | (simp [*]; done)), H', ⟨by have := HJ3.out; have := HJ28.out; first | omega | exact Nat.le_refl _⟩, ⟨by repeat (first | (with_reducible first | exact HB.out | apply below_alloc | apply pw_below_drewN | apply below_drew1) | exact HB.out)⟩⟩
                      · rw [if_neg c39] at H
                        have c39b0 : decide ((js35.size : Int) < t132) = false := decide_eq_false c39
                        clear c39
                        by_cases c40 : t133 = 0
                        · rw [if_pos c40] at H
                          have c40b0 : (t133 == 0) = true := beq_iff_eq.mpr c40
                          have c40b1 : (t133 != 0) = false := bne_eq_false_iff_eq.mpr c40
                          clear c40
                          have H' := Aside0.mk H
                          clear H
                          go_wp2
                          go_meet
                          case rel => exact ⟨_, (false), (by first | rfl | (simp; done) | (simp [*]; done)), H', ⟨by have := HJ3.out; have := HJ28.out; first | omega | exact Nat.le_refl _⟩, ⟨by repeat (first | (with_reducible first | exact HB.out | apply below_alloc | apply pw_below_drewN | apply below_drew1) | exact HB.out)⟩⟩
                        · rw [if_neg c40] at H
                          have c40b0 : (t133 == 0) = false := beq_eq_false_iff_ne.mpr c40
                          have c40b1 : (t133 != 0) = true := bne_iff_ne.mpr c40
                          have H' := Aside0.mk H
                          clear H
                          go_wp2
                          go_meet
                          case rel => exact ⟨_, ((t132 != 0)), (by first | rfl | (simp; done) | (simp [*]; done)), H', ⟨by have := HJ3.out; have := HJ28.out; first | omega | exact Nat.le_refl _⟩, ⟨by repeat (first | (with_reducible first | exact HB.out | apply below_alloc | apply pw_below_drewN | apply below_drew1) | exact HB.out)⟩⟩
                  case rest =>
                    clear HC37
                    try clear c1
                    try clear p1
                    try clear q1
                    try clear hx1
                    try clear qi1
                    try clear c2
                    try clear p2
                    try clear c3
                    try clear c4
                    try clear c5
                    try clear c5b0
                    try clear c6
                    try clear c6b0
                    try clear p6
                    try clear c7
                    try clear c7b0
                    try clear c8
                    try clear c8b0
                    try clear c8b1
                    try clear c9
                    try clear c10
                    try clear c10b0
                    try clear c10b1
                    try clear c11
                    try clear c11b0
                    try clear c11b1
                    try clear p12
                    try clear q12
                    try clear hx12
                    try clear qi12
                    try clear c16
                    try clear c16b0
                    try clear c17
                    try clear c17b0
                    try clear c18
                    try clear c18b0
                    try clear c18b1
                    try clear c18b2
                    try clear c19
                    try clear c19b0
                    try clear c19b1
                    try clear c19b2
                    try clear c27
                    try clear c27b0
                    try clear c27b1
                    try clear c27b2
                    try clear c30
                    try clear c30b0
                    try clear c30b1
                    try clear c31
                    try clear c33
                    try clear c33b0
                    try clear c33b1
                    try clear c34
                    try clear c34b0
                    try clear c34b1
                    try clear c38
                    try clear c38b0
                    try clear c39
                    try clear c39b0
                    try clear c40
                    try clear c40b0
                    try clear c40b1
                    try clear hx123_0
                    try clear hx129_0
                    try clear p1
                    try clear p12
                    try clear p123
                    try clear p129
                    try clear p2
                    try clear p6
                    try clear q1
                    try clear q12
                    try clear q123
                    try clear q129
                    obtain ⟨kq, x90_36, rfl, HA, HJ36, HB⟩ := hcut
                    cases kq with
                    | zero => exact absurd HA.out (by simp [postriderlaw04_TextBlank.j3])
                    | succ kj36 =>
                      have H := HA.out
                      clear HA
                      simp only [postriderlaw04_TextBlank.j3] at H
                      by_cases c41 : x90_36 = true
                      · subst c41
                        have H1 : (some false) = some r := by rw [if_pos rfl] at H; exact H
                        clear H
                        have H := H1
                        clear H1
                        obtain rfl := Option.some.inj H
                        go_wp2
                        go_ret
                        exact ⟨by first | rfl | (simp [errW_none, errW_some] <;> rfl) | (simp only [← hji32]; first | rfl | (simp [errW_none, errW_some] <;> rfl)) | (simp [*, errW_none, errW_some] <;> rfl), by repeat (first | (with_reducible first | exact HB.out | apply below_alloc | apply pw_below_drewN | apply below_drew1) | exact HB.out)⟩
                      · replace c41 := Bool.eq_false_iff.mpr c41
                        subst c41
                        have H1 : (if 0 ≤ t132 then (if t132 ≤ (js35.size : Int) then (if t133 = 0 then (if (js35.extract (t132 : Int).toNat js35.size).toList = ([] : List UInt8) then (postriderlaw04_TextBlank.j4 kj36 a2 false) else (if 0 < ((js35.extract (t132 : Int).toNat js35.size).size : Int) then ((strings_IndexByte.f (⟨#[32, 9, 40]⟩ : ByteArray) (bt (js35.extract (t132 : Int).toNat js35.size) 0)).bind fun t134 => (postriderlaw04_TextBlank.j4 kj36 a2 (decide (t134 ≥ 0)))) else (none))) else (postriderlaw04_TextBlank.j4 kj36 a2 false)) else (none)) else (none)) = some r := by rw [if_neg (show ¬ (false = true) by decide)] at H; exact H
                        clear H
                        have H := H1
                        clear H1
                        by_cases c42 : 0 ≤ t132
                        · rw [if_pos c42] at H
                          have c42b0 := eq_true c42
                          have c42b1 : decide (0 ≤ t132) = true := decide_eq_true c42
                          clear c42
                          by_cases c43 : t132 ≤ (js35.size : Int)
                          · rw [if_pos c43] at H
                            have c43b0 := eq_true c43
                            have c43b1 : decide (t132 ≤ (js35.size : Int)) = true := decide_eq_true c43
                            clear c43
                            obtain ⟨js44, hjs44⟩ : ∃ j_ : ByteArray, (js35.extract (t132 : Int).toNat js35.size) = j_ := ⟨_, rfl⟩
                            replace H : (if t133 = 0 then (if js44.toList = ([] : List UInt8) then (postriderlaw04_TextBlank.j4 kj36 a2 false) else (if 0 < (js44.size : Int) then ((strings_IndexByte.f (⟨#[32, 9, 40]⟩ : ByteArray) (bt js44 0)).bind fun t134 => (postriderlaw04_TextBlank.j4 kj36 a2 (decide (t134 ≥ 0)))) else (none))) else (postriderlaw04_TextBlank.j4 kj36 a2 false)) = some r := by first | (rw [hjs44] at H; exact H) | (simp only [hjs44] at H ⊢; exact H)
                            have HC45 := Aside0.mk H
                            clear H
                            go_upto_region 17 with (fail)
                            go_cut [105] (fun v105 wc => ∃ (kq : Nat) (x105_44 : Bool), v105 = .bool x105_44 ∧ Aside0 (postriderlaw04_TextBlank.j4 kq a2 x105_44 = some r) ∧ Aside0 (kq ≤ kj36) ∧ Aside0 (Below w.heap.size w wc))
                            case first =>
                              have H := HC45.out
                              clear HC45
                              by_cases c46 : t133 = 0
                              · rw [if_pos c46] at H
                                have c46b0 : (t133 == 0) = true := beq_iff_eq.mpr c46
                                have c46b1 : (t133 != 0) = false := bne_eq_false_iff_eq.mpr c46
                                clear c46
                                (first | rw [c46b0] | (simp only [i64_w, i32_w]; rw [c46b0]) | skip)
                                by_cases c47 : js44.toList = ([] : List UInt8)
                                · rw [if_pos c47] at H
                                  have c47b0 : (js44.toList == ([] : List UInt8)) = true := beq_iff_eq.mpr c47
                                  have c47b1 : (js44.toList != ([] : List UInt8)) = false := bne_eq_false_iff_eq.mpr c47
                                  clear c47
                                  have H' := Aside0.mk H
                                  clear H
                                  go_wp2
                                  go_meet
                                  case rel => exact ⟨_, (false), (by first | rfl | (simp; done) | (simp [*]; done)), H', ⟨by have := HJ3.out; have := HJ28.out; have := HJ36.out; first | omega | exact Nat.le_refl _⟩, ⟨by repeat (first | (with_reducible first | exact HB.out | apply below_alloc | apply pw_below_drewN | apply below_drew1) | exact HB.out)⟩⟩
                                · rw [if_neg c47] at H
                                  have c47b0 : (js44.toList == ([] : List UInt8)) = false := beq_eq_false_iff_ne.mpr c47
                                  have c47b1 : (js44.toList != ([] : List UInt8)) = true := bne_iff_ne.mpr c47
                                  by_cases c48 : 0 < (js44.size : Int)
                                  · rw [if_pos c48] at H
                                    have c48b0 : decide (0 < (js44.size : Int)) = true := decide_eq_true c48
                                    have c48b1 : decide (0 < js44.size) = true := decide_eq_true (by omega)
                                    clear c48
                                    replace H := Option.bind_eq_some_iff.mp H
                                    obtain ⟨t134, A500, H⟩ := H
                                    replace H : (postriderlaw04_TextBlank.j4 kj36 a2 (decide (t134 ≥ 0))) = some r := H
                                    have A50 := Aside0.mk A500
                                    clear A500
                                    have H' := Aside0.mk H
                                    clear H
                                    have p49 : 0 ≤ (0 : Int) := (by omega)
                                    have q49 : 0 < js44.size := (by have : (0 : Int) < (js44.size : Int) := of_decide_eq_true (by first | (with_reducible assumption) | assumption); omega)
                                    have hx49 : ∀ h : 0 < js44.size, ((js44[0]'h).toNat : Int) = bt js44 0 := bt_at js44 0
                                    clear p49
                                    have qi49 : (0 < (js44.size : Int)) = True := eq_true (of_decide_eq_true (by first | (with_reducible assumption) | assumption))
                                    replace q49 := eq_true q49
                                    go_wp2_with (first | (go_at_call 11; (with_reducible refine (strings_IndexByte.calls (⟨#[32, 9, 40]⟩ : ByteArray) (bt js44 0) t134 _ A50.out).mono ?_); rintro e w' ⟨rfl, ⟨nd, rfl⟩⟩))
                                    go_meet
                                    case rel => exact ⟨_, (decide (t134 ≥ 0)), (by first | rfl | (simp; done) | (simp [*]; done)), H', ⟨by have := HJ3.out; have := HJ28.out; have := HJ36.out; first | omega | exact Nat.le_refl _⟩, ⟨by repeat (first | (with_reducible first | exact HB.out | apply below_alloc | apply pw_below_drewN | apply below_drew1) | exact HB.out)⟩⟩
                                  · rw [if_neg c48] at H
                                    exact absurd H (by simp)
                              · rw [if_neg c46] at H
                                have c46b0 : (t133 == 0) = false := beq_eq_false_iff_ne.mpr c46
                                have c46b1 : (t133 != 0) = true := bne_iff_ne.mpr c46
                                (first | rw [c46b0] | (simp only [i64_w, i32_w]; rw [c46b0]) | skip)
                                have H' := Aside0.mk H
                                clear H
                                go_wp2
                                go_meet
                                case rel => exact ⟨_, (false), (by first | rfl | (simp; done) | (simp [*]; done)), H', ⟨by have := HJ3.out; have := HJ28.out; have := HJ36.out; first | omega | exact Nat.le_refl _⟩, ⟨by repeat (first | (with_reducible first | exact HB.out | apply below_alloc | apply pw_below_drewN | apply below_drew1) | exact HB.out)⟩⟩
                            case rest =>
                              clear HC45
                              try clear c1
                              try clear p1
                              try clear q1
                              try clear hx1
                              try clear qi1
                              try clear c2
                              try clear p2
                              try clear c3
                              try clear c4
                              try clear p4
                              try clear q4
                              try clear hx4
                              try clear qi4
                              try clear c5
                              try clear c5b0
                              try clear c6
                              try clear c6b0
                              try clear p6
                              try clear c7
                              try clear c7b0
                              try clear c8
                              try clear c8b0
                              try clear c8b1
                              try clear c9
                              try clear c10
                              try clear c10b0
                              try clear c10b1
                              try clear c11
                              try clear c11b0
                              try clear c11b1
                              try clear p12
                              try clear q12
                              try clear hx12
                              try clear qi12
                              try clear c16
                              try clear c16b0
                              try clear c17
                              try clear c17b0
                              try clear c18
                              try clear c18b0
                              try clear c18b1
                              try clear c18b2
                              try clear c19
                              try clear c19b0
                              try clear c19b1
                              try clear c19b2
                              try clear c27
                              try clear c27b0
                              try clear c27b1
                              try clear c27b2
                              try clear c30
                              try clear c30b0
                              try clear c30b1
                              try clear c31
                              try clear c33
                              try clear c33b0
                              try clear c33b1
                              try clear c34
                              try clear c34b0
                              try clear c34b1
                              try clear c38
                              try clear c38b0
                              try clear c39
                              try clear c39b0
                              try clear c40
                              try clear c40b0
                              try clear c40b1
                              try clear c41
                              try clear c42
                              try clear c42b0
                              try clear c42b1
                              try clear c43
                              try clear c43b0
                              try clear c43b1
                              try clear c46
                              try clear c46b0
                              try clear c46b1
                              try clear c47
                              try clear c47b0
                              try clear c47b1
                              try clear c48
                              try clear c48b0
                              try clear c48b1
                              try clear p49
                              try clear q49
                              try clear hx49
                              try clear qi49
                              try clear hx123_0
                              try clear hx129_0
                              try clear p1
                              try clear p12
                              try clear p123
                              try clear p129
                              try clear p2
                              try clear p49
                              try clear p6
                              try clear q1
                              try clear q12
                              try clear q123
                              try clear q129
                              try clear q49
                              obtain ⟨kq, x105_44, rfl, HA, HJ44, HB⟩ := hcut
                              cases kq with
                              | zero => exact absurd HA.out (by simp [postriderlaw04_TextBlank.j4])
                              | succ kj44 =>
                                have H := HA.out
                                clear HA
                                simp only [postriderlaw04_TextBlank.j4] at H
                                by_cases c51 : x105_44 = true
                                · subst c51
                                  have H1 : (some false) = some r := by rw [if_pos rfl] at H; exact H
                                  clear H
                                  have H := H1
                                  clear H1
                                  obtain rfl := Option.some.inj H
                                  go_wp2
                                  go_ret
                                  exact ⟨by first | rfl | (simp [errW_none, errW_some] <;> rfl) | (simp only [← hji32]; first | rfl | (simp [errW_none, errW_some] <;> rfl)) | (simp [*, errW_none, errW_some] <;> rfl), by repeat (first | (with_reducible first | exact HB.out | apply below_alloc | apply pw_below_drewN | apply below_drew1) | exact HB.out)⟩
                                · replace c51 := Bool.eq_false_iff.mpr c51
                                  subst c51
                                  have H1 : ((postriderlaw04_nested.f (⟨#[97]⟩ : ByteArray) (wrap64 (9 + (wrap64 (Int.tmod a2 5))))).bind fun t135 => ((text_Comment.f kj44 t135).bind fun bt136 => ((postriderlaw04_nested.f (⟨#[97]⟩ : ByteArray) 8).bind fun t138 => ((text_Comment.f kj44 t138).bind fun bt139 => (if bt136.2 = 3 then (if bt139.2 = 0 then (if bt139.1 = 17 then ((postriderlaw04_tells.f kj44).bind fun t141 => (some t141)) else (some false)) else (some false)) else (some false)))))) = some r := by rw [if_neg (show ¬ (false = true) by decide)] at H; exact H
                                  clear H
                                  have H := H1
                                  clear H1
                                  replace H := Option.bind_eq_some_iff.mp H
                                  obtain ⟨t135, A520, H⟩ := H
                                  replace H : ((text_Comment.f kj44 t135).bind fun bt136 => ((postriderlaw04_nested.f (⟨#[97]⟩ : ByteArray) 8).bind fun t138 => ((text_Comment.f kj44 t138).bind fun bt139 => (if bt136.2 = 3 then (if bt139.2 = 0 then (if bt139.1 = 17 then ((postriderlaw04_tells.f kj44).bind fun t141 => (some t141)) else (some false)) else (some false)) else (some false))))) = some r := H
                                  have A52 := Aside0.mk A520
                                  clear A520
                                  replace H := Option.bind_eq_some_iff.mp H
                                  obtain ⟨⟨t136, t137⟩, A530, H⟩ := H
                                  replace H : ((postriderlaw04_nested.f (⟨#[97]⟩ : ByteArray) 8).bind fun t138 => ((text_Comment.f kj44 t138).bind fun bt139 => (if t137 = 3 then (if bt139.2 = 0 then (if bt139.1 = 17 then ((postriderlaw04_tells.f kj44).bind fun t141 => (some t141)) else (some false)) else (some false)) else (some false)))) = some r := H
                                  have A53 := Aside0.mk A530
                                  clear A530
                                  replace H := Option.bind_eq_some_iff.mp H
                                  obtain ⟨t138, A540, H⟩ := H
                                  replace H : ((text_Comment.f kj44 t138).bind fun bt139 => (if t137 = 3 then (if bt139.2 = 0 then (if bt139.1 = 17 then ((postriderlaw04_tells.f kj44).bind fun t141 => (some t141)) else (some false)) else (some false)) else (some false))) = some r := H
                                  have A54 := Aside0.mk A540
                                  clear A540
                                  replace H := Option.bind_eq_some_iff.mp H
                                  obtain ⟨⟨t139, t140⟩, A550, H⟩ := H
                                  replace H : (if t137 = 3 then (if t140 = 0 then (if t139 = 17 then ((postriderlaw04_tells.f kj44).bind fun t141 => (some t141)) else (some false)) else (some false)) else (some false)) = some r := H
                                  have A55 := Aside0.mk A550
                                  clear A550
                                  by_cases c56 : t137 = 3
                                  · rw [if_pos c56] at H
                                    have c56b0 : (t137 == 3) = true := beq_iff_eq.mpr c56
                                    have c56b1 : (t137 != 3) = false := bne_eq_false_iff_eq.mpr c56
                                    clear c56
                                    by_cases c57 : t140 = 0
                                    · rw [if_pos c57] at H
                                      have c57b0 : (t140 == 0) = true := beq_iff_eq.mpr c57
                                      have c57b1 : (t140 != 0) = false := bne_eq_false_iff_eq.mpr c57
                                      clear c57
                                      by_cases c58 : t139 = 17
                                      · rw [if_pos c58] at H
                                        have c58b0 : (t139 == 17) = true := beq_iff_eq.mpr c58
                                        have c58b1 : (t139 != 17) = false := bne_eq_false_iff_eq.mpr c58
                                        clear c58
                                        replace H := Option.bind_eq_some_iff.mp H
                                        obtain ⟨t141, A590, H⟩ := H
                                        replace H : (some t141) = some r := H
                                        have A59 := Aside0.mk A590
                                        clear A590
                                        obtain rfl := Option.some.inj H
                                        go_wp2_with (first | ((with_reducible refine gate_callee (f := 9) rfl ?_); refine goesL_ (some 111) rfl rfl Tryd.func9 (by kernel_rfl) rfl #[.string (⟨#[97]⟩ : ByteArray), .int .i64 (wrap64 (9 + (wrap64 (Int.tmod a2 5))))] rfl (by (try simp only [List.map_toArray, List.map_cons, List.map_nil]); first | done | rfl | (simp only [List.length_drop, List.length_take]; rfl)) ?_; (with_reducible refine (postriderlaw04_nested.calls (⟨#[97]⟩ : ByteArray) (wrap64 (9 + (wrap64 (Int.tmod a2 5)))) t135 _ A52.out).mono ?_); rintro e w' ⟨rfl, ⟨nd, rfl⟩⟩; refine ⟨_, rfl, ?_⟩) | ((with_reducible refine gate_callee (f := 12) rfl ?_); refine goesL_ (some 112) rfl rfl Tryd.func12 (by kernel_rfl) rfl #[.string t135] rfl (by (try simp only [List.map_toArray, List.map_cons, List.map_nil]); first | done | rfl | (simp only [List.length_drop, List.length_take]; rfl)) ?_; (with_reducible refine (text_Comment.calls kj44 t135 t136 t137 _ A53.out).mono ?_); rintro e w' ⟨rfl, ⟨nd, rfl⟩⟩; refine ⟨_, rfl, ?_⟩) | ((with_reducible refine gate_callee (f := 9) rfl ?_); refine goesL_ (some 116) rfl rfl Tryd.func9 (by kernel_rfl) rfl #[.string (⟨#[97]⟩ : ByteArray), .int .i64 8] rfl (by (try simp only [List.map_toArray, List.map_cons, List.map_nil]); first | done | rfl | (simp only [List.length_drop, List.length_take]; rfl)) ?_; (with_reducible refine (postriderlaw04_nested.calls (⟨#[97]⟩ : ByteArray) 8 t138 _ A54.out).mono ?_); rintro e w' ⟨rfl, ⟨nd, rfl⟩⟩; refine ⟨_, rfl, ?_⟩) | ((with_reducible refine gate_callee (f := 12) rfl ?_); refine goesL_ (some 117) rfl rfl Tryd.func12 (by kernel_rfl) rfl #[.string t138] rfl (by (try simp only [List.map_toArray, List.map_cons, List.map_nil]); first | done | rfl | (simp only [List.length_drop, List.length_take]; rfl)) ?_; (with_reducible refine (text_Comment.calls kj44 t138 t139 t140 _ A55.out).mono ?_); rintro e w' ⟨rfl, ⟨nd, rfl⟩⟩; refine ⟨_, rfl, ?_⟩) | (go_at_call 13; (with_reducible refine (postriderlaw04_tells.calls kj44  t141 _ A59.out).mono ?_); rintro e w60 ⟨rfl, hb⟩; have n0_ := Aside0.mk (below_step (by repeat (first | (with_reducible first | exact HB.out | apply below_alloc | apply pw_below_drewN | apply below_drew1) | exact HB.out)) hb); clear HB; have HB := n0_; clear n0_; (try clear hb); (try clear hb2); (try clear hk); (try clear hi)))
                                        go_ret
                                        exact ⟨by first | rfl | (simp [errW_none, errW_some] <;> rfl) | (simp only [← hji32]; first | rfl | (simp [errW_none, errW_some] <;> rfl)) | (simp [*, errW_none, errW_some] <;> rfl), by repeat (first | (with_reducible first | exact HB.out | apply below_alloc | apply pw_below_drewN | apply below_drew1) | exact HB.out)⟩
                                      · rw [if_neg c58] at H
                                        have c58b0 : (t139 == 17) = false := beq_eq_false_iff_ne.mpr c58
                                        have c58b1 : (t139 != 17) = true := bne_iff_ne.mpr c58
                                        obtain rfl := Option.some.inj H
                                        go_wp2_with (first | ((with_reducible refine gate_callee (f := 9) rfl ?_); refine goesL_ (some 111) rfl rfl Tryd.func9 (by kernel_rfl) rfl #[.string (⟨#[97]⟩ : ByteArray), .int .i64 (wrap64 (9 + (wrap64 (Int.tmod a2 5))))] rfl (by (try simp only [List.map_toArray, List.map_cons, List.map_nil]); first | done | rfl | (simp only [List.length_drop, List.length_take]; rfl)) ?_; (with_reducible refine (postriderlaw04_nested.calls (⟨#[97]⟩ : ByteArray) (wrap64 (9 + (wrap64 (Int.tmod a2 5)))) t135 _ A52.out).mono ?_); rintro e w' ⟨rfl, ⟨nd, rfl⟩⟩; refine ⟨_, rfl, ?_⟩) | ((with_reducible refine gate_callee (f := 12) rfl ?_); refine goesL_ (some 112) rfl rfl Tryd.func12 (by kernel_rfl) rfl #[.string t135] rfl (by (try simp only [List.map_toArray, List.map_cons, List.map_nil]); first | done | rfl | (simp only [List.length_drop, List.length_take]; rfl)) ?_; (with_reducible refine (text_Comment.calls kj44 t135 t136 t137 _ A53.out).mono ?_); rintro e w' ⟨rfl, ⟨nd, rfl⟩⟩; refine ⟨_, rfl, ?_⟩) | ((with_reducible refine gate_callee (f := 9) rfl ?_); refine goesL_ (some 116) rfl rfl Tryd.func9 (by kernel_rfl) rfl #[.string (⟨#[97]⟩ : ByteArray), .int .i64 8] rfl (by (try simp only [List.map_toArray, List.map_cons, List.map_nil]); first | done | rfl | (simp only [List.length_drop, List.length_take]; rfl)) ?_; (with_reducible refine (postriderlaw04_nested.calls (⟨#[97]⟩ : ByteArray) 8 t138 _ A54.out).mono ?_); rintro e w' ⟨rfl, ⟨nd, rfl⟩⟩; refine ⟨_, rfl, ?_⟩) | ((with_reducible refine gate_callee (f := 12) rfl ?_); refine goesL_ (some 117) rfl rfl Tryd.func12 (by kernel_rfl) rfl #[.string t138] rfl (by (try simp only [List.map_toArray, List.map_cons, List.map_nil]); first | done | rfl | (simp only [List.length_drop, List.length_take]; rfl)) ?_; (with_reducible refine (text_Comment.calls kj44 t138 t139 t140 _ A55.out).mono ?_); rintro e w' ⟨rfl, ⟨nd, rfl⟩⟩; refine ⟨_, rfl, ?_⟩))
                                        go_ret
                                        exact ⟨by first | rfl | (simp [errW_none, errW_some] <;> rfl) | (simp only [← hji32]; first | rfl | (simp [errW_none, errW_some] <;> rfl)) | (simp [*, errW_none, errW_some] <;> rfl), by repeat (first | (with_reducible first | exact HB.out | apply below_alloc | apply pw_below_drewN | apply below_drew1) | exact HB.out)⟩
                                    · rw [if_neg c57] at H
                                      have c57b0 : (t140 == 0) = false := beq_eq_false_iff_ne.mpr c57
                                      have c57b1 : (t140 != 0) = true := bne_iff_ne.mpr c57
                                      obtain rfl := Option.some.inj H
                                      go_wp2_with (first | ((with_reducible refine gate_callee (f := 9) rfl ?_); refine goesL_ (some 111) rfl rfl Tryd.func9 (by kernel_rfl) rfl #[.string (⟨#[97]⟩ : ByteArray), .int .i64 (wrap64 (9 + (wrap64 (Int.tmod a2 5))))] rfl (by (try simp only [List.map_toArray, List.map_cons, List.map_nil]); first | done | rfl | (simp only [List.length_drop, List.length_take]; rfl)) ?_; (with_reducible refine (postriderlaw04_nested.calls (⟨#[97]⟩ : ByteArray) (wrap64 (9 + (wrap64 (Int.tmod a2 5)))) t135 _ A52.out).mono ?_); rintro e w' ⟨rfl, ⟨nd, rfl⟩⟩; refine ⟨_, rfl, ?_⟩) | ((with_reducible refine gate_callee (f := 12) rfl ?_); refine goesL_ (some 112) rfl rfl Tryd.func12 (by kernel_rfl) rfl #[.string t135] rfl (by (try simp only [List.map_toArray, List.map_cons, List.map_nil]); first | done | rfl | (simp only [List.length_drop, List.length_take]; rfl)) ?_; (with_reducible refine (text_Comment.calls kj44 t135 t136 t137 _ A53.out).mono ?_); rintro e w' ⟨rfl, ⟨nd, rfl⟩⟩; refine ⟨_, rfl, ?_⟩) | ((with_reducible refine gate_callee (f := 9) rfl ?_); refine goesL_ (some 116) rfl rfl Tryd.func9 (by kernel_rfl) rfl #[.string (⟨#[97]⟩ : ByteArray), .int .i64 8] rfl (by (try simp only [List.map_toArray, List.map_cons, List.map_nil]); first | done | rfl | (simp only [List.length_drop, List.length_take]; rfl)) ?_; (with_reducible refine (postriderlaw04_nested.calls (⟨#[97]⟩ : ByteArray) 8 t138 _ A54.out).mono ?_); rintro e w' ⟨rfl, ⟨nd, rfl⟩⟩; refine ⟨_, rfl, ?_⟩) | ((with_reducible refine gate_callee (f := 12) rfl ?_); refine goesL_ (some 117) rfl rfl Tryd.func12 (by kernel_rfl) rfl #[.string t138] rfl (by (try simp only [List.map_toArray, List.map_cons, List.map_nil]); first | done | rfl | (simp only [List.length_drop, List.length_take]; rfl)) ?_; (with_reducible refine (text_Comment.calls kj44 t138 t139 t140 _ A55.out).mono ?_); rintro e w' ⟨rfl, ⟨nd, rfl⟩⟩; refine ⟨_, rfl, ?_⟩))
                                      go_ret
                                      exact ⟨by first | rfl | (simp [errW_none, errW_some] <;> rfl) | (simp only [← hji32]; first | rfl | (simp [errW_none, errW_some] <;> rfl)) | (simp [*, errW_none, errW_some] <;> rfl), by repeat (first | (with_reducible first | exact HB.out | apply below_alloc | apply pw_below_drewN | apply below_drew1) | exact HB.out)⟩
                                  · rw [if_neg c56] at H
                                    have c56b0 : (t137 == 3) = false := beq_eq_false_iff_ne.mpr c56
                                    have c56b1 : (t137 != 3) = true := bne_iff_ne.mpr c56
                                    obtain rfl := Option.some.inj H
                                    go_wp2_with (first | ((with_reducible refine gate_callee (f := 9) rfl ?_); refine goesL_ (some 111) rfl rfl Tryd.func9 (by kernel_rfl) rfl #[.string (⟨#[97]⟩ : ByteArray), .int .i64 (wrap64 (9 + (wrap64 (Int.tmod a2 5))))] rfl (by (try simp only [List.map_toArray, List.map_cons, List.map_nil]); first | done | rfl | (simp only [List.length_drop, List.length_take]; rfl)) ?_; (with_reducible refine (postriderlaw04_nested.calls (⟨#[97]⟩ : ByteArray) (wrap64 (9 + (wrap64 (Int.tmod a2 5)))) t135 _ A52.out).mono ?_); rintro e w' ⟨rfl, ⟨nd, rfl⟩⟩; refine ⟨_, rfl, ?_⟩) | ((with_reducible refine gate_callee (f := 12) rfl ?_); refine goesL_ (some 112) rfl rfl Tryd.func12 (by kernel_rfl) rfl #[.string t135] rfl (by (try simp only [List.map_toArray, List.map_cons, List.map_nil]); first | done | rfl | (simp only [List.length_drop, List.length_take]; rfl)) ?_; (with_reducible refine (text_Comment.calls kj44 t135 t136 t137 _ A53.out).mono ?_); rintro e w' ⟨rfl, ⟨nd, rfl⟩⟩; refine ⟨_, rfl, ?_⟩) | ((with_reducible refine gate_callee (f := 9) rfl ?_); refine goesL_ (some 116) rfl rfl Tryd.func9 (by kernel_rfl) rfl #[.string (⟨#[97]⟩ : ByteArray), .int .i64 8] rfl (by (try simp only [List.map_toArray, List.map_cons, List.map_nil]); first | done | rfl | (simp only [List.length_drop, List.length_take]; rfl)) ?_; (with_reducible refine (postriderlaw04_nested.calls (⟨#[97]⟩ : ByteArray) 8 t138 _ A54.out).mono ?_); rintro e w' ⟨rfl, ⟨nd, rfl⟩⟩; refine ⟨_, rfl, ?_⟩) | ((with_reducible refine gate_callee (f := 12) rfl ?_); refine goesL_ (some 117) rfl rfl Tryd.func12 (by kernel_rfl) rfl #[.string t138] rfl (by (try simp only [List.map_toArray, List.map_cons, List.map_nil]); first | done | rfl | (simp only [List.length_drop, List.length_take]; rfl)) ?_; (with_reducible refine (text_Comment.calls kj44 t138 t139 t140 _ A55.out).mono ?_); rintro e w' ⟨rfl, ⟨nd, rfl⟩⟩; refine ⟨_, rfl, ?_⟩))
                                    go_ret
                                    exact ⟨by first | rfl | (simp [errW_none, errW_some] <;> rfl) | (simp only [← hji32]; first | rfl | (simp [errW_none, errW_some] <;> rfl)) | (simp [*, errW_none, errW_some] <;> rfl), by repeat (first | (with_reducible first | exact HB.out | apply below_alloc | apply pw_below_drewN | apply below_drew1) | exact HB.out)⟩
                          · rw [if_neg c43] at H
                            exact absurd H (by simp)
                        · rw [if_neg c42] at H
                          exact absurd H (by simp)
                · rw [if_neg c34] at H
                  exact absurd H (by simp)
              · rw [if_neg c33] at H
                exact absurd H (by simp)
      · rw [if_neg c27] at H
        exact absurd H (by simp)

end Go.Proofs.YtfeihligcondgaaDoor.B
