-- Written by this session's own program (wip/tools: a patched run of the printer) out of the translation.
import Derived.Test.YtfeihligcondgaaQx0
import Derived.Test.YtfeihligcondgaaQx1
import Derived.Test.YtfeihligcondgaaQx2
import Derived.Test.YtfeihligcondgaaQx4
namespace Go.Proofs.Ytfeihligcondgaa.Q
open Go.RowKit Go.Proofs.YtfeihligcondgaaW.PrintWords Go.Proofs.YtfeihligcondgaaW.PrintLast Go.Proofs.YtfeihligcondgaaW.PrintMore
attribute [local go_sem] max2_int min2_int max_two min_two max_three min_three max_four min_four   -- for this text's walks alone
set_option linter.unusedVariables false
set_option linter.unusedSimpArgs false

/-! ### postriderlaw04_TextBack: function 4 -/
mutual
def postriderlaw04_TextBack.j1 : Nat → ByteArray → Option (Bool)
  | 0, _ => none
  | k + 1, x1 => (text_Quoted.f k x1).bind fun bt164 => (if bt164.2.2 = 0 then (if bt164.2.1 < 2 then (postriderlaw04_TextBack.j2 k x1 bt164.1 bt164.2.1 true) else (postriderlaw04_TextBack.j2 k x1 bt164.1 bt164.2.1 (decide (bt164.2.1 > (x1.size : Int))))) else (if bt164.1.toList = ([] : List UInt8) then (if bt164.2.1 = 0 then ((postriderlaw04_tells.f k).bind fun t167 => (some t167)) else (some false)) else (some false)))
def postriderlaw04_TextBack.j2 : Nat → ByteArray → ByteArray → Int → Bool → Option (Bool)
  | 0, _, _, _, _ => none
  | k + 1, x1, x15, x16, x134 => if x134 = true then (some false) else ((text_Quote.f x15).bind fun bt168 => ((text_Quoted.f k bt168.1).bind fun bt170 => (if bt168.2 = 0 then (if bt170.2.2 = 0 then (if bt170.1.toList = x15.toList then (if bt170.2.1 = (bt168.1.size : Int) then (if bt170.2.1 ≤ x16 then (if 0 ≤ (wrap64 (x16 - 1)) then (if (wrap64 (x16 - 1)) < (x1.size : Int) then (if (bt x1 (wrap64 (x16 - 1))) = 34 then ((postriderlaw04_tells.f k).bind fun t173 => (some t173)) else (some false)) else (none)) else (none)) else (some false)) else (some false)) else (some false)) else (some false)) else (some false))))
def postriderlaw04_TextBack.j0 : Nat → ByteArray → Int → ByteArray → Bool → Option (Bool)
  | 0, _, _, _, _ => none
  | k + 1, x1, x2, x7, x73 => if x73 = true then (some false) else (if (x7.size : Int) = 0 then (none) else (if 0 ≤ (Int.tmod (wrap64 (x2)) (x7.size : Int)) then (if (Int.tmod (wrap64 (x2)) (x7.size : Int)) ≤ (x7.size : Int) then ((text_Quoted.f k (x7.extract 0 ((Int.tmod (wrap64 (x2)) (x7.size : Int)) : Int).toNat)).bind fun bt160 => (if (Int.tmod (wrap64 (x2)) (x7.size : Int)) > 0 then (if bt160.2.2 = 4 then (if bt160.2.1 = 0 then (postriderlaw04_TextBack.j1 k x1) else (some false)) else (some false)) else (postriderlaw04_TextBack.j1 k x1))) else (none)) else (none)))
end
def postriderlaw04_TextBack.f (k : Nat) (a0 : ByteArray) (a1 : ByteArray) (a2 : Int) : Option (Bool) := if 0 ≤ (mn (a0.size : Int) 150) then (if (mn (a0.size : Int) 150) ≤ (a0.size : Int) then (if 0 ≤ (mn (a1.size : Int) 150) then (if (mn (a1.size : Int) 150) ≤ (a1.size : Int) then ((text_Quote.f (a0.extract 0 ((mn (a0.size : Int) 150) : Int).toNat)).bind fun bt154 => (if bt154.2 = 0 then (if bt154.1.size + (a1.extract 0 ((mn (a1.size : Int) 150) : Int).toNat).size ≤ 9223372036854775807 then ((text_Quoted.f k (bt154.1 ++ (a1.extract 0 ((mn (a1.size : Int) 150) : Int).toNat))).bind fun bt156 => (if bt156.2.2 = 0 then (if bt156.1.toList = (a0.extract 0 ((mn (a0.size : Int) 150) : Int).toNat).toList then (if bt156.2.1 = (bt154.1.size : Int) then (if (bt154.1.size : Int) < (wrap64 (((a0.extract 0 ((mn (a0.size : Int) 150) : Int).toNat).size : Int) + 2)) then (postriderlaw04_TextBack.j0 k (a1.extract 0 ((mn (a1.size : Int) 150) : Int).toNat) a2 bt154.1 true) else ((text_Plain.f (a0.extract 0 ((mn (a0.size : Int) 150) : Int).toNat)).bind fun t159 => (postriderlaw04_TextBack.j0 k (a1.extract 0 ((mn (a1.size : Int) 150) : Int).toNat) a2 bt154.1 (!t159)))) else (postriderlaw04_TextBack.j0 k (a1.extract 0 ((mn (a1.size : Int) 150) : Int).toNat) a2 bt154.1 true)) else (postriderlaw04_TextBack.j0 k (a1.extract 0 ((mn (a1.size : Int) 150) : Int).toNat) a2 bt154.1 true)) else (postriderlaw04_TextBack.j0 k (a1.extract 0 ((mn (a1.size : Int) 150) : Int).toNat) a2 bt154.1 true))) else (none)) else (if bt154.2 = 5 then (if bt154.1.toList = ([] : List UInt8) then ((text_Plain.f (a0.extract 0 ((mn (a0.size : Int) 150) : Int).toNat)).bind fun t163 => (if t163 = true then (some false) else (postriderlaw04_TextBack.j1 k (a1.extract 0 ((mn (a1.size : Int) 150) : Int).toNat)))) else (some false)) else (some false)))) else (none)) else (none)) else (none)) else (none)
theorem postriderlaw04_TextBack.mono_l : ∀ k, (∀ y0, LeO (postriderlaw04_TextBack.j1 k y0) (postriderlaw04_TextBack.j1 (k + 1) y0)) ∧ (∀ y0 y1 y2 y3, LeO (postriderlaw04_TextBack.j2 k y0 y1 y2 y3) (postriderlaw04_TextBack.j2 (k + 1) y0 y1 y2 y3)) ∧ (∀ y0 y1 y2 y3, LeO (postriderlaw04_TextBack.j0 k y0 y1 y2 y3) (postriderlaw04_TextBack.j0 (k + 1) y0 y1 y2 y3))
  | 0 => ⟨fun _ r h => by simp [postriderlaw04_TextBack.j1] at h, fun _ _ _ _ r h => by simp [postriderlaw04_TextBack.j2] at h, fun _ _ _ _ r h => by simp [postriderlaw04_TextBack.j0] at h⟩
  | k + 1 => by
    obtain ⟨ih0, ih1, ih2⟩ := postriderlaw04_TextBack.mono_l k
    refine ⟨?_, ?_, ?_⟩
    · intro y0
      unfold postriderlaw04_TextBack.j1
      repeat' first
      | (with_reducible exact ih0 _)
      | (with_reducible exact ih1 _ _ _ _)
      | (with_reducible exact ih2 _ _ _ _)
      | (with_reducible exact postriderlaw04_tells.mono _)
      | (with_reducible exact text_Quoted.mono _ _)
      | (with_reducible exact LeO.refl _)
      | (with_reducible exact LeO.none _)
      | (with_reducible refine LeO.ite ?_ ?_)
      | (with_reducible refine LeO.bind ?_ (fun _ => ?_))
      | exact ih0 _
      | exact ih1 _ _ _ _
      | exact ih2 _ _ _ _
      | exact postriderlaw04_tells.mono _
      | exact text_Quoted.mono _ _
      | exact LeO.none _
      | refine LeO.ite ?_ ?_
      | refine LeO.bind ?_ (fun _ => ?_)
    · intro y0 y1 y2 y3
      unfold postriderlaw04_TextBack.j2
      repeat' first
      | (with_reducible exact ih0 _)
      | (with_reducible exact ih1 _ _ _ _)
      | (with_reducible exact ih2 _ _ _ _)
      | (with_reducible exact postriderlaw04_tells.mono _)
      | (with_reducible exact text_Quoted.mono _ _)
      | (with_reducible exact LeO.refl _)
      | (with_reducible exact LeO.none _)
      | (with_reducible refine LeO.ite ?_ ?_)
      | (with_reducible refine LeO.bind ?_ (fun _ => ?_))
      | exact ih0 _
      | exact ih1 _ _ _ _
      | exact ih2 _ _ _ _
      | exact postriderlaw04_tells.mono _
      | exact text_Quoted.mono _ _
      | exact LeO.none _
      | refine LeO.ite ?_ ?_
      | refine LeO.bind ?_ (fun _ => ?_)
    · intro y0 y1 y2 y3
      unfold postriderlaw04_TextBack.j0
      repeat' first
      | (with_reducible exact ih0 _)
      | (with_reducible exact ih1 _ _ _ _)
      | (with_reducible exact ih2 _ _ _ _)
      | (with_reducible exact postriderlaw04_tells.mono _)
      | (with_reducible exact text_Quoted.mono _ _)
      | (with_reducible exact LeO.refl _)
      | (with_reducible exact LeO.none _)
      | (with_reducible refine LeO.ite ?_ ?_)
      | (with_reducible refine LeO.bind ?_ (fun _ => ?_))
      | exact ih0 _
      | exact ih1 _ _ _ _
      | exact ih2 _ _ _ _
      | exact postriderlaw04_tells.mono _
      | exact text_Quoted.mono _ _
      | exact LeO.none _
      | refine LeO.ite ?_ ?_
      | refine LeO.bind ?_ (fun _ => ?_)
theorem postriderlaw04_TextBack.mono : ∀ a0 a1 a2 k, LeO (postriderlaw04_TextBack.f k a0 a1 a2) (postriderlaw04_TextBack.f (k + 1) a0 a1 a2) := by
  intro a0 a1 a2 k
  obtain ⟨ih0, ih1, ih2⟩ := postriderlaw04_TextBack.mono_l k
  unfold postriderlaw04_TextBack.f
  repeat' first
      | (with_reducible exact ih0 _)
      | (with_reducible exact ih1 _ _ _ _)
      | (with_reducible exact ih2 _ _ _ _)
      | (with_reducible exact postriderlaw04_tells.mono _)
      | (with_reducible exact text_Quoted.mono _ _)
      | (with_reducible exact LeO.refl _)
      | (with_reducible exact LeO.none _)
      | (with_reducible refine LeO.ite ?_ ?_)
      | (with_reducible refine LeO.bind ?_ (fun _ => ?_))
      | exact ih0 _
      | exact ih1 _ _ _ _
      | exact ih2 _ _ _ _
      | exact postriderlaw04_tells.mono _
      | exact text_Quoted.mono _ _
      | exact LeO.none _
      | refine LeO.ite ?_ ?_
      | refine LeO.bind ?_ (fun _ => ?_)
set_option maxHeartbeats 8000000 in
set_option maxRecDepth 100000 in
theorem postriderlaw04_TextBack.calls (k : Nat) (a0 : ByteArray) (a1 : ByteArray) (a2 : Int) (r : Bool) (w : World) (h : postriderlaw04_TextBack.f k a0 a1 a2 = some r) :
    Calls Try.prog 4 #[.string a0, .string a1, .int .u8 a2] w fun e w' => e = .returned (.bool r) ∧ Below w.heap.size w w' := by
  have HB := Aside0.mk (Below.refl w.heap.size w)
  have H : (if 0 ≤ (mn (a0.size : Int) 150) then (if (mn (a0.size : Int) 150) ≤ (a0.size : Int) then (if 0 ≤ (mn (a1.size : Int) 150) then (if (mn (a1.size : Int) 150) ≤ (a1.size : Int) then ((text_Quote.f (a0.extract 0 ((mn (a0.size : Int) 150) : Int).toNat)).bind fun bt154 => (if bt154.2 = 0 then (if bt154.1.size + (a1.extract 0 ((mn (a1.size : Int) 150) : Int).toNat).size ≤ 9223372036854775807 then ((text_Quoted.f k (bt154.1 ++ (a1.extract 0 ((mn (a1.size : Int) 150) : Int).toNat))).bind fun bt156 => (if bt156.2.2 = 0 then (if bt156.1.toList = (a0.extract 0 ((mn (a0.size : Int) 150) : Int).toNat).toList then (if bt156.2.1 = (bt154.1.size : Int) then (if (bt154.1.size : Int) < (wrap64 (((a0.extract 0 ((mn (a0.size : Int) 150) : Int).toNat).size : Int) + 2)) then (postriderlaw04_TextBack.j0 k (a1.extract 0 ((mn (a1.size : Int) 150) : Int).toNat) a2 bt154.1 true) else ((text_Plain.f (a0.extract 0 ((mn (a0.size : Int) 150) : Int).toNat)).bind fun t159 => (postriderlaw04_TextBack.j0 k (a1.extract 0 ((mn (a1.size : Int) 150) : Int).toNat) a2 bt154.1 (!t159)))) else (postriderlaw04_TextBack.j0 k (a1.extract 0 ((mn (a1.size : Int) 150) : Int).toNat) a2 bt154.1 true)) else (postriderlaw04_TextBack.j0 k (a1.extract 0 ((mn (a1.size : Int) 150) : Int).toNat) a2 bt154.1 true)) else (postriderlaw04_TextBack.j0 k (a1.extract 0 ((mn (a1.size : Int) 150) : Int).toNat) a2 bt154.1 true))) else (none)) else (if bt154.2 = 5 then (if bt154.1.toList = ([] : List UInt8) then ((text_Plain.f (a0.extract 0 ((mn (a0.size : Int) 150) : Int).toNat)).bind fun t163 => (if t163 = true then (some false) else (postriderlaw04_TextBack.j1 k (a1.extract 0 ((mn (a1.size : Int) 150) : Int).toNat)))) else (some false)) else (some false)))) else (none)) else (none)) else (none)) else (none)) = some r := h
  clear h
  obtain ⟨ji4, hji4⟩ : ∃ j_ : Int, (mn (a0.size : Int) 150) = j_ := ⟨_, rfl⟩
  replace H : (if 0 ≤ (ji4) then (if (ji4) ≤ (a0.size : Int) then (if 0 ≤ (mn (a1.size : Int) 150) then (if (mn (a1.size : Int) 150) ≤ (a1.size : Int) then ((text_Quote.f (a0.extract 0 ((ji4) : Int).toNat)).bind fun bt154 => (if bt154.2 = 0 then (if bt154.1.size + (a1.extract 0 ((mn (a1.size : Int) 150) : Int).toNat).size ≤ 9223372036854775807 then ((text_Quoted.f k (bt154.1 ++ (a1.extract 0 ((mn (a1.size : Int) 150) : Int).toNat))).bind fun bt156 => (if bt156.2.2 = 0 then (if bt156.1.toList = (a0.extract 0 ((ji4) : Int).toNat).toList then (if bt156.2.1 = (bt154.1.size : Int) then (if (bt154.1.size : Int) < (wrap64 (((a0.extract 0 ((ji4) : Int).toNat).size : Int) + 2)) then (postriderlaw04_TextBack.j0 k (a1.extract 0 ((mn (a1.size : Int) 150) : Int).toNat) a2 bt154.1 true) else ((text_Plain.f (a0.extract 0 ((ji4) : Int).toNat)).bind fun t159 => (postriderlaw04_TextBack.j0 k (a1.extract 0 ((mn (a1.size : Int) 150) : Int).toNat) a2 bt154.1 (!t159)))) else (postriderlaw04_TextBack.j0 k (a1.extract 0 ((mn (a1.size : Int) 150) : Int).toNat) a2 bt154.1 true)) else (postriderlaw04_TextBack.j0 k (a1.extract 0 ((mn (a1.size : Int) 150) : Int).toNat) a2 bt154.1 true)) else (postriderlaw04_TextBack.j0 k (a1.extract 0 ((mn (a1.size : Int) 150) : Int).toNat) a2 bt154.1 true))) else (none)) else (if bt154.2 = 5 then (if bt154.1.toList = ([] : List UInt8) then ((text_Plain.f (a0.extract 0 ((ji4) : Int).toNat)).bind fun t163 => (if t163 = true then (some false) else (postriderlaw04_TextBack.j1 k (a1.extract 0 ((mn (a1.size : Int) 150) : Int).toNat)))) else (some false)) else (some false)))) else (none)) else (none)) else (none)) else (none)) = some r := by first | (rw [hji4] at H; exact H) | (simp only [hji4] at H ⊢; exact H)
  (try (have hji4h : ji4 ≤ 150 := by (rw [← hji4]; unfold mn; (repeat' split) <;> omega)))
  (try (have hji4g : ji4 ≤ 64 := by omega))
  (try (have hji4l : 0 ≤ ji4 := by (rw [← hji4]; unfold mn; (repeat' split) <;> omega)))
  (try (have hji4m : 0 ≤ ji4 := by omega))
  have hji4_ : (if 150 < (a0.size : Int) then 150 else (a0.size : Int)) = ji4 := hji4
  by_cases c5 : 0 ≤ (ji4)
  · rw [if_pos c5] at H
    have c5b0 := eq_true c5
    have c5b1 : decide (0 ≤ (ji4)) = true := decide_eq_true c5
    clear c5
    by_cases c6 : (ji4) ≤ (a0.size : Int)
    · rw [if_pos c6] at H
      have c6b0 := eq_true c6
      have c6b1 : decide ((ji4) ≤ (a0.size : Int)) = true := decide_eq_true c6
      clear c6
      obtain ⟨js7, hjs7⟩ : ∃ j_ : ByteArray, (a0.extract 0 ((ji4) : Int).toNat) = j_ := ⟨_, rfl⟩
      replace H : (if 0 ≤ (mn (a1.size : Int) 150) then (if (mn (a1.size : Int) 150) ≤ (a1.size : Int) then ((text_Quote.f js7).bind fun bt154 => (if bt154.2 = 0 then (if bt154.1.size + (a1.extract 0 ((mn (a1.size : Int) 150) : Int).toNat).size ≤ 9223372036854775807 then ((text_Quoted.f k (bt154.1 ++ (a1.extract 0 ((mn (a1.size : Int) 150) : Int).toNat))).bind fun bt156 => (if bt156.2.2 = 0 then (if bt156.1.toList = js7.toList then (if bt156.2.1 = (bt154.1.size : Int) then (if (bt154.1.size : Int) < (wrap64 ((js7.size : Int) + 2)) then (postriderlaw04_TextBack.j0 k (a1.extract 0 ((mn (a1.size : Int) 150) : Int).toNat) a2 bt154.1 true) else ((text_Plain.f js7).bind fun t159 => (postriderlaw04_TextBack.j0 k (a1.extract 0 ((mn (a1.size : Int) 150) : Int).toNat) a2 bt154.1 (!t159)))) else (postriderlaw04_TextBack.j0 k (a1.extract 0 ((mn (a1.size : Int) 150) : Int).toNat) a2 bt154.1 true)) else (postriderlaw04_TextBack.j0 k (a1.extract 0 ((mn (a1.size : Int) 150) : Int).toNat) a2 bt154.1 true)) else (postriderlaw04_TextBack.j0 k (a1.extract 0 ((mn (a1.size : Int) 150) : Int).toNat) a2 bt154.1 true))) else (none)) else (if bt154.2 = 5 then (if bt154.1.toList = ([] : List UInt8) then ((text_Plain.f js7).bind fun t163 => (if t163 = true then (some false) else (postriderlaw04_TextBack.j1 k (a1.extract 0 ((mn (a1.size : Int) 150) : Int).toNat)))) else (some false)) else (some false)))) else (none)) else (none)) = some r := by first | (rw [hjs7] at H; exact H) | (simp only [hjs7] at H ⊢; exact H)
      obtain ⟨ji8, hji8⟩ : ∃ j_ : Int, (mn (a1.size : Int) 150) = j_ := ⟨_, rfl⟩
      replace H : (if 0 ≤ (ji8) then (if (ji8) ≤ (a1.size : Int) then ((text_Quote.f js7).bind fun bt154 => (if bt154.2 = 0 then (if bt154.1.size + (a1.extract 0 ((ji8) : Int).toNat).size ≤ 9223372036854775807 then ((text_Quoted.f k (bt154.1 ++ (a1.extract 0 ((ji8) : Int).toNat))).bind fun bt156 => (if bt156.2.2 = 0 then (if bt156.1.toList = js7.toList then (if bt156.2.1 = (bt154.1.size : Int) then (if (bt154.1.size : Int) < (wrap64 ((js7.size : Int) + 2)) then (postriderlaw04_TextBack.j0 k (a1.extract 0 ((ji8) : Int).toNat) a2 bt154.1 true) else ((text_Plain.f js7).bind fun t159 => (postriderlaw04_TextBack.j0 k (a1.extract 0 ((ji8) : Int).toNat) a2 bt154.1 (!t159)))) else (postriderlaw04_TextBack.j0 k (a1.extract 0 ((ji8) : Int).toNat) a2 bt154.1 true)) else (postriderlaw04_TextBack.j0 k (a1.extract 0 ((ji8) : Int).toNat) a2 bt154.1 true)) else (postriderlaw04_TextBack.j0 k (a1.extract 0 ((ji8) : Int).toNat) a2 bt154.1 true))) else (none)) else (if bt154.2 = 5 then (if bt154.1.toList = ([] : List UInt8) then ((text_Plain.f js7).bind fun t163 => (if t163 = true then (some false) else (postriderlaw04_TextBack.j1 k (a1.extract 0 ((ji8) : Int).toNat)))) else (some false)) else (some false)))) else (none)) else (none)) = some r := by first | (rw [hji8] at H; exact H) | (simp only [hji8] at H ⊢; exact H)
      (try (have hji8h : ji8 ≤ 150 := by (rw [← hji8]; unfold mn; (repeat' split) <;> omega)))
      (try (have hji8g : ji8 ≤ 64 := by omega))
      (try (have hji8l : 0 ≤ ji8 := by (rw [← hji8]; unfold mn; (repeat' split) <;> omega)))
      (try (have hji8m : 0 ≤ ji8 := by omega))
      have hji8_ : (if 150 < (a1.size : Int) then 150 else (a1.size : Int)) = ji8 := hji8
      by_cases c9 : 0 ≤ (ji8)
      · rw [if_pos c9] at H
        have c9b0 := eq_true c9
        have c9b1 : decide (0 ≤ (ji8)) = true := decide_eq_true c9
        clear c9
        by_cases c10 : (ji8) ≤ (a1.size : Int)
        · rw [if_pos c10] at H
          have c10b0 := eq_true c10
          have c10b1 : decide ((ji8) ≤ (a1.size : Int)) = true := decide_eq_true c10
          clear c10
          obtain ⟨js11, hjs11⟩ : ∃ j_ : ByteArray, (a1.extract 0 ((ji8) : Int).toNat) = j_ := ⟨_, rfl⟩
          replace H : ((text_Quote.f js7).bind fun bt154 => (if bt154.2 = 0 then (if bt154.1.size + js11.size ≤ 9223372036854775807 then ((text_Quoted.f k (bt154.1 ++ js11)).bind fun bt156 => (if bt156.2.2 = 0 then (if bt156.1.toList = js7.toList then (if bt156.2.1 = (bt154.1.size : Int) then (if (bt154.1.size : Int) < (wrap64 ((js7.size : Int) + 2)) then (postriderlaw04_TextBack.j0 k js11 a2 bt154.1 true) else ((text_Plain.f js7).bind fun t159 => (postriderlaw04_TextBack.j0 k js11 a2 bt154.1 (!t159)))) else (postriderlaw04_TextBack.j0 k js11 a2 bt154.1 true)) else (postriderlaw04_TextBack.j0 k js11 a2 bt154.1 true)) else (postriderlaw04_TextBack.j0 k js11 a2 bt154.1 true))) else (none)) else (if bt154.2 = 5 then (if bt154.1.toList = ([] : List UInt8) then ((text_Plain.f js7).bind fun t163 => (if t163 = true then (some false) else (postriderlaw04_TextBack.j1 k js11))) else (some false)) else (some false)))) = some r := by first | (rw [hjs11] at H; exact H) | (simp only [hjs11] at H ⊢; exact H)
          replace H := Option.bind_eq_some_iff.mp H
          obtain ⟨⟨t154, t155⟩, A120, H⟩ := H
          replace H : (if t155 = 0 then (if t154.size + js11.size ≤ 9223372036854775807 then ((text_Quoted.f k (t154 ++ js11)).bind fun bt156 => (if bt156.2.2 = 0 then (if bt156.1.toList = js7.toList then (if bt156.2.1 = (t154.size : Int) then (if (t154.size : Int) < (wrap64 ((js7.size : Int) + 2)) then (postriderlaw04_TextBack.j0 k js11 a2 t154 true) else ((text_Plain.f js7).bind fun t159 => (postriderlaw04_TextBack.j0 k js11 a2 t154 (!t159)))) else (postriderlaw04_TextBack.j0 k js11 a2 t154 true)) else (postriderlaw04_TextBack.j0 k js11 a2 t154 true)) else (postriderlaw04_TextBack.j0 k js11 a2 t154 true))) else (none)) else (if t155 = 5 then (if t154.toList = ([] : List UInt8) then ((text_Plain.f js7).bind fun t163 => (if t163 = true then (some false) else (postriderlaw04_TextBack.j1 k js11))) else (some false)) else (some false))) = some r := H
          have A12 := Aside0.mk A120
          clear A120
          have HC13 := Aside0.mk H
          clear H
          go_enter Try.func4, Try.ntmps4
          go_upto_if 39 with (first | (go_at_call 5; (with_reducible refine (text_Quote.calls js7 t154 t155 _ A12.out).mono ?_); rintro e w14 ⟨rfl, hb⟩; have n0_ := Aside0.mk (below_step (by repeat (first | (with_reducible first | exact HB.out | apply below_alloc | apply pw_below_drewN | apply below_drew1) | exact HB.out)) hb); clear HB; have HB := n0_; clear n0_; (try clear hb); (try clear hb2); (try clear hk); (try clear hi)))
          repeat (go_quiet (first | (go_at_call 5; (with_reducible refine (text_Quote.calls js7 t154 t155 _ A12.out).mono ?_); rintro e w14 ⟨rfl, hb⟩; have n0_ := Aside0.mk (below_step (by repeat (first | (with_reducible first | exact HB.out | apply below_alloc | apply pw_below_drewN | apply below_drew1) | exact HB.out)) hb); clear HB; have HB := n0_; clear n0_; (try clear hb); (try clear hb2); (try clear hk); (try clear hi))); go_upto_if 39 with (first | (go_at_call 5; (with_reducible refine (text_Quote.calls js7 t154 t155 _ A12.out).mono ?_); rintro e w14 ⟨rfl, hb⟩; have n0_ := Aside0.mk (below_step (by repeat (first | (with_reducible first | exact HB.out | apply below_alloc | apply pw_below_drewN | apply below_drew1) | exact HB.out)) hb); clear HB; have HB := n0_; clear n0_; (try clear hb); (try clear hb2); (try clear hk); (try clear hi))))
          (try simp only [Act.put, List.setIfInBounds_toArray, List.set_cons_zero, List.set_cons_succ])
          go_cut [] (fun wc => ∃ (kq : Nat), Aside0 (postriderlaw04_TextBack.j1 kq js11 = some r) ∧ Aside0 (kq ≤ k) ∧ Aside0 (Below w.heap.size w wc))
          case first =>
            have H := HC13.out
            clear HC13
            by_cases c15 : t155 = 0
            · rw [if_pos c15] at H
              have c15b0 : (t155 == 0) = true := beq_iff_eq.mpr c15
              have c15b1 : (t155 != 0) = false := bne_eq_false_iff_eq.mpr c15
              clear c15
              (first | rw [c15b0] | (simp only [i64_w, i32_w]; rw [c15b0]) | skip)
              by_cases c16 : t154.size + js11.size ≤ 9223372036854775807
              · rw [if_pos c16] at H
                have c16b0 := eq_true c16
                have c16b1 : decide (t154.size + js11.size ≤ 9223372036854775807) = true := decide_eq_true c16
                try have c16b2 : (9223372036854775807 < t154.size + js11.size) = False := eq_false (Nat.not_lt.2 c16)
                replace H := Option.bind_eq_some_iff.mp H
                obtain ⟨⟨t156, t157, t158⟩, A170, H⟩ := H
                replace H : (if t158 = 0 then (if t156.toList = js7.toList then (if t157 = (t154.size : Int) then (if (t154.size : Int) < (wrap64 ((js7.size : Int) + 2)) then (postriderlaw04_TextBack.j0 k js11 a2 t154 true) else ((text_Plain.f js7).bind fun t159 => (postriderlaw04_TextBack.j0 k js11 a2 t154 (!t159)))) else (postriderlaw04_TextBack.j0 k js11 a2 t154 true)) else (postriderlaw04_TextBack.j0 k js11 a2 t154 true)) else (postriderlaw04_TextBack.j0 k js11 a2 t154 true)) = some r := H
                have A17 := Aside0.mk A170
                clear A170
                have HC18 := Aside0.mk H
                clear H
                go_upto_region 5 with (first | (go_at_call 7; (with_reducible refine (text_Quoted.calls k (t154 ++ js11) t156 t157 t158 _ A17.out).mono ?_); rintro e w19 ⟨rfl, hb⟩; have n0_ := Aside0.mk (below_step (by repeat (first | (with_reducible first | exact HB.out | apply below_alloc | apply pw_below_drewN | apply below_drew1) | exact HB.out)) hb); clear HB; have HB := n0_; clear n0_; (try clear hb); (try clear hb2); (try clear hk); (try clear hi)))
                repeat (go_quiet (first | (go_at_call 7; (with_reducible refine (text_Quoted.calls k (t154 ++ js11) t156 t157 t158 _ A17.out).mono ?_); rintro e w19 ⟨rfl, hb⟩; have n0_ := Aside0.mk (below_step (by repeat (first | (with_reducible first | exact HB.out | apply below_alloc | apply pw_below_drewN | apply below_drew1) | exact HB.out)) hb); clear HB; have HB := n0_; clear n0_; (try clear hb); (try clear hb2); (try clear hk); (try clear hi))); go_upto_region 5 with (first | (go_at_call 7; (with_reducible refine (text_Quoted.calls k (t154 ++ js11) t156 t157 t158 _ A17.out).mono ?_); rintro e w19 ⟨rfl, hb⟩; have n0_ := Aside0.mk (below_step (by repeat (first | (with_reducible first | exact HB.out | apply below_alloc | apply pw_below_drewN | apply below_drew1) | exact HB.out)) hb); clear HB; have HB := n0_; clear n0_; (try clear hb); (try clear hb2); (try clear hk); (try clear hi))))
                (try simp only [Act.put, List.setIfInBounds_toArray, List.set_cons_zero, List.set_cons_succ])
                go_cut [73] (fun v73 wc => ∃ (kq : Nat) (x73_17 : Bool), v73 = .bool x73_17 ∧ Aside0 (postriderlaw04_TextBack.j0 kq js11 a2 t154 x73_17 = some r) ∧ Aside0 (kq ≤ k) ∧ Aside0 (Below w.heap.size w wc))
                case first =>
                  have H := HC18.out
                  clear HC18
                  by_cases c20 : t158 = 0
                  · rw [if_pos c20] at H
                    have c20b0 : (t158 == 0) = true := beq_iff_eq.mpr c20
                    have c20b1 : (t158 != 0) = false := bne_eq_false_iff_eq.mpr c20
                    clear c20
                    (first | rw [c20b0] | (simp only [i64_w, i32_w]; rw [c20b0]) | skip)
                    by_cases c21 : t156.toList = js7.toList
                    · rw [if_pos c21] at H
                      have c21b0 : (t156.toList == js7.toList) = true := beq_iff_eq.mpr c21
                      have c21b1 : (t156.toList != js7.toList) = false := bne_eq_false_iff_eq.mpr c21
                      clear c21
                      by_cases c22 : t157 = (t154.size : Int)
                      · rw [if_pos c22] at H
                        have c22b0 : (t157 == (t154.size : Int)) = true := beq_iff_eq.mpr c22
                        have c22b1 : (t157 != (t154.size : Int)) = false := bne_eq_false_iff_eq.mpr c22
                        clear c22
                        by_cases c23 : (t154.size : Int) < (wrap64 ((js7.size : Int) + 2))
                        · rw [if_pos c23] at H
                          have c23b0 : decide ((t154.size : Int) < (wrap64 ((js7.size : Int) + 2))) = true := decide_eq_true c23
                          clear c23
                          have H' := Aside0.mk H
                          clear H
                          go_wp2
                          repeat (go_quiet (fail); try go_wp2)
                          go_meet
                          case rel => exact ⟨_, (true), (by first | rfl | (simp; done) | (simp [*]; done)), H', ⟨by first | omega | exact Nat.le_refl _⟩, ⟨by repeat (first | (with_reducible first | exact HB.out | apply below_alloc | apply pw_below_drewN | apply below_drew1) | exact HB.out)⟩⟩
                        · rw [if_neg c23] at H
                          have c23b0 : decide ((t154.size : Int) < (wrap64 ((js7.size : Int) + 2))) = false := decide_eq_false c23
                          clear c23
                          replace H := Option.bind_eq_some_iff.mp H
                          obtain ⟨t159, A240, H⟩ := H
                          replace H : (postriderlaw04_TextBack.j0 k js11 a2 t154 (!t159)) = some r := H
                          have A24 := Aside0.mk A240
                          clear A240
                          have H' := Aside0.mk H
                          clear H
                          go_wp2_with (first | (go_at_call 14; (with_reducible refine (text_Plain.calls js7 t159 _ A24.out).mono ?_); rintro e w25 ⟨rfl, hb⟩; have n0_ := Aside0.mk (below_step (by repeat (first | (with_reducible first | exact HB.out | apply below_alloc | apply pw_below_drewN | apply below_drew1) | exact HB.out)) hb); clear HB; have HB := n0_; clear n0_; (try clear hb); (try clear hb2); (try clear hk); (try clear hi)))
                          repeat (go_quiet (first | (go_at_call 14; (with_reducible refine (text_Plain.calls js7 t159 _ A24.out).mono ?_); rintro e w25 ⟨rfl, hb⟩; have n0_ := Aside0.mk (below_step (by repeat (first | (with_reducible first | exact HB.out | apply below_alloc | apply pw_below_drewN | apply below_drew1) | exact HB.out)) hb); clear HB; have HB := n0_; clear n0_; (try clear hb); (try clear hb2); (try clear hk); (try clear hi))); try go_wp2_with (first | (go_at_call 14; (with_reducible refine (text_Plain.calls js7 t159 _ A24.out).mono ?_); rintro e w25 ⟨rfl, hb⟩; have n0_ := Aside0.mk (below_step (by repeat (first | (with_reducible first | exact HB.out | apply below_alloc | apply pw_below_drewN | apply below_drew1) | exact HB.out)) hb); clear HB; have HB := n0_; clear n0_; (try clear hb); (try clear hb2); (try clear hk); (try clear hi))))
                          go_meet
                          case rel => exact ⟨_, (!t159), (by first | rfl | (simp; done) | (simp [*]; done)), H', ⟨by first | omega | exact Nat.le_refl _⟩, ⟨by repeat (first | (with_reducible first | exact HB.out | apply below_alloc | apply pw_below_drewN | apply below_drew1) | exact HB.out)⟩⟩
                      · rw [if_neg c22] at H
                        have c22b0 : (t157 == (t154.size : Int)) = false := beq_eq_false_iff_ne.mpr c22
                        have c22b1 : (t157 != (t154.size : Int)) = true := bne_iff_ne.mpr c22
                        have H' := Aside0.mk H
                        clear H
                        go_wp2
                        repeat (go_quiet (fail); try go_wp2)
                        go_meet
                        case rel => exact ⟨_, (true), (by first | rfl | (simp; done) | (simp [*]; done)), H', ⟨by first | omega | exact Nat.le_refl _⟩, ⟨by repeat (first | (with_reducible first | exact HB.out | apply below_alloc | apply pw_below_drewN | apply below_drew1) | exact HB.out)⟩⟩
                    · rw [if_neg c21] at H
                      have c21b0 : (t156.toList == js7.toList) = false := beq_eq_false_iff_ne.mpr c21
                      have c21b1 : (t156.toList != js7.toList) = true := bne_iff_ne.mpr c21
                      have H' := Aside0.mk H
                      clear H
                      go_wp2
                      repeat (go_quiet (fail); try go_wp2)
                      go_meet
                      case rel => exact ⟨_, (true), (by first | rfl | (simp; done) | (simp [*]; done)), H', ⟨by first | omega | exact Nat.le_refl _⟩, ⟨by repeat (first | (with_reducible first | exact HB.out | apply below_alloc | apply pw_below_drewN | apply below_drew1) | exact HB.out)⟩⟩
                  · rw [if_neg c20] at H
                    have c20b0 : (t158 == 0) = false := beq_eq_false_iff_ne.mpr c20
                    have c20b1 : (t158 != 0) = true := bne_iff_ne.mpr c20
                    (first | rw [c20b0] | (simp only [i64_w, i32_w]; rw [c20b0]) | skip)
                    have H' := Aside0.mk H
                    clear H
                    go_wp2
                    repeat (go_quiet (fail); try go_wp2)
                    go_meet
                    case rel => exact ⟨_, (true), (by first | rfl | (simp; done) | (simp [*]; done)), H', ⟨by first | omega | exact Nat.le_refl _⟩, ⟨by repeat (first | (with_reducible first | exact HB.out | apply below_alloc | apply pw_below_drewN | apply below_drew1) | exact HB.out)⟩⟩
                case rest =>
                  clear HC18
                  try clear c1
                  try clear c2
                  try clear p2
                  try clear c4
                  try clear c5
                  try clear c5b0
                  try clear c5b1
                  try clear c6
                  try clear c6b0
                  try clear c6b1
                  try clear p6
                  try clear c9
                  try clear c9b0
                  try clear c9b1
                  try clear c10
                  try clear c10b0
                  try clear c10b1
                  try clear c15
                  try clear c15b0
                  try clear c15b1
                  try clear c16
                  try clear c16b0
                  try clear c16b1
                  try clear c16b2
                  try clear c20
                  try clear c20b0
                  try clear c20b1
                  try clear c21
                  try clear c21b0
                  try clear c21b1
                  try clear c22
                  try clear c22b0
                  try clear c22b1
                  try clear c23
                  try clear c23b0
                  obtain ⟨kq, x73_17, rfl, HA, HJ17, HB⟩ := hcut
                  cases kq with
                  | zero => exact absurd HA.out (by simp [postriderlaw04_TextBack.j0])
                  | succ kj17 =>
                    have H := HA.out
                    clear HA
                    simp only [postriderlaw04_TextBack.j0] at H
                    by_cases c26 : x73_17 = true
                    · subst c26
                      have H1 : (some false) = some r := by rw [if_pos rfl] at H; exact H
                      clear H
                      have H := H1
                      clear H1
                      obtain rfl := Option.some.inj H
                      go_wp2
                      repeat (go_quiet (fail); try go_wp2)
                      go_ret
                      exact ⟨by first | rfl | (simp [errW_none, errW_some] <;> rfl) | (simp only [← hji4, ← hji8]; first | rfl | (simp [errW_none, errW_some] <;> rfl)) | (simp [*, errW_none, errW_some] <;> rfl), by repeat (first | (with_reducible first | exact HB.out | apply below_alloc | apply pw_below_drewN | apply below_drew1) | exact HB.out)⟩
                    · replace c26 := Bool.eq_false_iff.mpr c26
                      subst c26
                      have H1 : (if (t154.size : Int) = 0 then (none) else (if 0 ≤ (Int.tmod (wrap64 (a2)) (t154.size : Int)) then (if (Int.tmod (wrap64 (a2)) (t154.size : Int)) ≤ (t154.size : Int) then ((text_Quoted.f kj17 (t154.extract 0 ((Int.tmod (wrap64 (a2)) (t154.size : Int)) : Int).toNat)).bind fun bt160 => (if (Int.tmod (wrap64 (a2)) (t154.size : Int)) > 0 then (if bt160.2.2 = 4 then (if bt160.2.1 = 0 then (postriderlaw04_TextBack.j1 kj17 js11) else (some false)) else (some false)) else (postriderlaw04_TextBack.j1 kj17 js11))) else (none)) else (none))) = some r := by rw [if_neg (show ¬ (false = true) by decide)] at H; exact H
                      clear H
                      have H := H1
                      clear H1
                      by_cases c27 : (t154.size : Int) = 0
                      · rw [if_pos c27] at H
                        exact absurd H (by simp)
                      · rw [if_neg c27] at H
                        have c27b0 : ((t154.size : Int) == 0) = false := beq_eq_false_iff_ne.mpr c27
                        have c27b1 : ((t154.size : Int) != 0) = true := bne_iff_ne.mpr c27
                        obtain ⟨ji28, hji28⟩ : ∃ j_ : Int, (Int.tmod (wrap64 (a2)) (t154.size : Int)) = j_ := ⟨_, rfl⟩
                        replace H : (if 0 ≤ (ji28) then (if (ji28) ≤ (t154.size : Int) then ((text_Quoted.f kj17 (t154.extract 0 ((ji28) : Int).toNat)).bind fun bt160 => (if (ji28) > 0 then (if bt160.2.2 = 4 then (if bt160.2.1 = 0 then (postriderlaw04_TextBack.j1 kj17 js11) else (some false)) else (some false)) else (postriderlaw04_TextBack.j1 kj17 js11))) else (none)) else (none)) = some r := by first | (rw [hji28] at H; exact H) | (simp only [hji28] at H ⊢; exact H)
                        by_cases c29 : 0 ≤ (ji28)
                        · rw [if_pos c29] at H
                          have c29b0 := eq_true c29
                          have c29b1 : decide (0 ≤ (ji28)) = true := decide_eq_true c29
                          clear c29
                          by_cases c30 : (ji28) ≤ (t154.size : Int)
                          · rw [if_pos c30] at H
                            have c30b0 := eq_true c30
                            have c30b1 : decide ((ji28) ≤ (t154.size : Int)) = true := decide_eq_true c30
                            clear c30
                            obtain ⟨js31, hjs31⟩ : ∃ j_ : ByteArray, (t154.extract 0 ((ji28) : Int).toNat) = j_ := ⟨_, rfl⟩
                            replace H : ((text_Quoted.f kj17 js31).bind fun bt160 => (if (ji28) > 0 then (if bt160.2.2 = 4 then (if bt160.2.1 = 0 then (postriderlaw04_TextBack.j1 kj17 js11) else (some false)) else (some false)) else (postriderlaw04_TextBack.j1 kj17 js11))) = some r := by first | (rw [hjs31] at H; exact H) | (simp only [hjs31] at H ⊢; exact H)
                            replace H := Option.bind_eq_some_iff.mp H
                            obtain ⟨⟨t160, t161, t162⟩, A320, H⟩ := H
                            replace H : (if (ji28) > 0 then (if t162 = 4 then (if t161 = 0 then (postriderlaw04_TextBack.j1 kj17 js11) else (some false)) else (some false)) else (postriderlaw04_TextBack.j1 kj17 js11)) = some r := H
                            have A32 := Aside0.mk A320
                            clear A320
                            by_cases c33 : (ji28) > 0
                            · rw [if_pos c33] at H
                              have c33b0 : decide (0 < (ji28)) = true := decide_eq_true c33
                              clear c33
                              by_cases c34 : t162 = 4
                              · rw [if_pos c34] at H
                                have c34b0 : (t162 == 4) = true := beq_iff_eq.mpr c34
                                have c34b1 : (t162 != 4) = false := bne_eq_false_iff_eq.mpr c34
                                clear c34
                                by_cases c35 : t161 = 0
                                · rw [if_pos c35] at H
                                  have c35b0 : (t161 == 0) = true := beq_iff_eq.mpr c35
                                  have c35b1 : (t161 != 0) = false := bne_eq_false_iff_eq.mpr c35
                                  clear c35
                                  have H' := Aside0.mk H
                                  clear H
                                  go_wp2_with (first | (go_at_call 7; (with_reducible refine (text_Quoted.calls kj17 js31 t160 t161 t162 _ A32.out).mono ?_); rintro e w36 ⟨rfl, hb⟩; have n0_ := Aside0.mk (below_step (by repeat (first | (with_reducible first | exact HB.out | apply below_alloc | apply pw_below_drewN | apply below_drew1) | exact HB.out)) hb); clear HB; have HB := n0_; clear n0_; (try clear hb); (try clear hb2); (try clear hk); (try clear hi)))
                                  repeat (go_quiet (first | (go_at_call 7; (with_reducible refine (text_Quoted.calls kj17 js31 t160 t161 t162 _ A32.out).mono ?_); rintro e w36 ⟨rfl, hb⟩; have n0_ := Aside0.mk (below_step (by repeat (first | (with_reducible first | exact HB.out | apply below_alloc | apply pw_below_drewN | apply below_drew1) | exact HB.out)) hb); clear HB; have HB := n0_; clear n0_; (try clear hb); (try clear hb2); (try clear hk); (try clear hi))); try go_wp2_with (first | (go_at_call 7; (with_reducible refine (text_Quoted.calls kj17 js31 t160 t161 t162 _ A32.out).mono ?_); rintro e w36 ⟨rfl, hb⟩; have n0_ := Aside0.mk (below_step (by repeat (first | (with_reducible first | exact HB.out | apply below_alloc | apply pw_below_drewN | apply below_drew1) | exact HB.out)) hb); clear HB; have HB := n0_; clear n0_; (try clear hb); (try clear hb2); (try clear hk); (try clear hi))))
                                  go_meet
                                  case rel => exact ⟨_, H', ⟨by have := HJ17.out; first | omega | exact Nat.le_refl _⟩, ⟨by repeat (first | (with_reducible first | exact HB.out | apply below_alloc | apply pw_below_drewN | apply below_drew1) | exact HB.out)⟩⟩
                                · rw [if_neg c35] at H
                                  have c35b0 : (t161 == 0) = false := beq_eq_false_iff_ne.mpr c35
                                  have c35b1 : (t161 != 0) = true := bne_iff_ne.mpr c35
                                  obtain rfl := Option.some.inj H
                                  go_wp2_with (first | (go_at_call 7; (with_reducible refine (text_Quoted.calls kj17 js31 t160 t161 t162 _ A32.out).mono ?_); rintro e w37 ⟨rfl, hb⟩; have n0_ := Aside0.mk (below_step (by repeat (first | (with_reducible first | exact HB.out | apply below_alloc | apply pw_below_drewN | apply below_drew1) | exact HB.out)) hb); clear HB; have HB := n0_; clear n0_; (try clear hb); (try clear hb2); (try clear hk); (try clear hi)))
                                  repeat (go_quiet (first | (go_at_call 7; (with_reducible refine (text_Quoted.calls kj17 js31 t160 t161 t162 _ A32.out).mono ?_); rintro e w37 ⟨rfl, hb⟩; have n0_ := Aside0.mk (below_step (by repeat (first | (with_reducible first | exact HB.out | apply below_alloc | apply pw_below_drewN | apply below_drew1) | exact HB.out)) hb); clear HB; have HB := n0_; clear n0_; (try clear hb); (try clear hb2); (try clear hk); (try clear hi))); try go_wp2_with (first | (go_at_call 7; (with_reducible refine (text_Quoted.calls kj17 js31 t160 t161 t162 _ A32.out).mono ?_); rintro e w37 ⟨rfl, hb⟩; have n0_ := Aside0.mk (below_step (by repeat (first | (with_reducible first | exact HB.out | apply below_alloc | apply pw_below_drewN | apply below_drew1) | exact HB.out)) hb); clear HB; have HB := n0_; clear n0_; (try clear hb); (try clear hb2); (try clear hk); (try clear hi))))
                                  go_ret
                                  exact ⟨by first | rfl | (simp [errW_none, errW_some] <;> rfl) | (simp only [← hji4, ← hji8, ← hji28]; first | rfl | (simp [errW_none, errW_some] <;> rfl)) | (simp [*, errW_none, errW_some] <;> rfl), by repeat (first | (with_reducible first | exact HB.out | apply below_alloc | apply pw_below_drewN | apply below_drew1) | exact HB.out)⟩
                              · rw [if_neg c34] at H
                                have c34b0 : (t162 == 4) = false := beq_eq_false_iff_ne.mpr c34
                                have c34b1 : (t162 != 4) = true := bne_iff_ne.mpr c34
                                obtain rfl := Option.some.inj H
                                go_wp2_with (first | (go_at_call 7; (with_reducible refine (text_Quoted.calls kj17 js31 t160 t161 t162 _ A32.out).mono ?_); rintro e w38 ⟨rfl, hb⟩; have n0_ := Aside0.mk (below_step (by repeat (first | (with_reducible first | exact HB.out | apply below_alloc | apply pw_below_drewN | apply below_drew1) | exact HB.out)) hb); clear HB; have HB := n0_; clear n0_; (try clear hb); (try clear hb2); (try clear hk); (try clear hi)))
                                repeat (go_quiet (first | (go_at_call 7; (with_reducible refine (text_Quoted.calls kj17 js31 t160 t161 t162 _ A32.out).mono ?_); rintro e w38 ⟨rfl, hb⟩; have n0_ := Aside0.mk (below_step (by repeat (first | (with_reducible first | exact HB.out | apply below_alloc | apply pw_below_drewN | apply below_drew1) | exact HB.out)) hb); clear HB; have HB := n0_; clear n0_; (try clear hb); (try clear hb2); (try clear hk); (try clear hi))); try go_wp2_with (first | (go_at_call 7; (with_reducible refine (text_Quoted.calls kj17 js31 t160 t161 t162 _ A32.out).mono ?_); rintro e w38 ⟨rfl, hb⟩; have n0_ := Aside0.mk (below_step (by repeat (first | (with_reducible first | exact HB.out | apply below_alloc | apply pw_below_drewN | apply below_drew1) | exact HB.out)) hb); clear HB; have HB := n0_; clear n0_; (try clear hb); (try clear hb2); (try clear hk); (try clear hi))))
                                go_ret
                                exact ⟨by first | rfl | (simp [errW_none, errW_some] <;> rfl) | (simp only [← hji4, ← hji8, ← hji28]; first | rfl | (simp [errW_none, errW_some] <;> rfl)) | (simp [*, errW_none, errW_some] <;> rfl), by repeat (first | (with_reducible first | exact HB.out | apply below_alloc | apply pw_below_drewN | apply below_drew1) | exact HB.out)⟩
                            · rw [if_neg c33] at H
                              have c33b0 : decide (0 < (ji28)) = false := decide_eq_false c33
                              clear c33
                              have H' := Aside0.mk H
                              clear H
                              go_wp2_with (first | (go_at_call 7; (with_reducible refine (text_Quoted.calls kj17 js31 t160 t161 t162 _ A32.out).mono ?_); rintro e w39 ⟨rfl, hb⟩; have n0_ := Aside0.mk (below_step (by repeat (first | (with_reducible first | exact HB.out | apply below_alloc | apply pw_below_drewN | apply below_drew1) | exact HB.out)) hb); clear HB; have HB := n0_; clear n0_; (try clear hb); (try clear hb2); (try clear hk); (try clear hi)))
                              repeat (go_quiet (first | (go_at_call 7; (with_reducible refine (text_Quoted.calls kj17 js31 t160 t161 t162 _ A32.out).mono ?_); rintro e w39 ⟨rfl, hb⟩; have n0_ := Aside0.mk (below_step (by repeat (first | (with_reducible first | exact HB.out | apply below_alloc | apply pw_below_drewN | apply below_drew1) | exact HB.out)) hb); clear HB; have HB := n0_; clear n0_; (try clear hb); (try clear hb2); (try clear hk); (try clear hi))); try go_wp2_with (first | (go_at_call 7; (with_reducible refine (text_Quoted.calls kj17 js31 t160 t161 t162 _ A32.out).mono ?_); rintro e w39 ⟨rfl, hb⟩; have n0_ := Aside0.mk (below_step (by repeat (first | (with_reducible first | exact HB.out | apply below_alloc | apply pw_below_drewN | apply below_drew1) | exact HB.out)) hb); clear HB; have HB := n0_; clear n0_; (try clear hb); (try clear hb2); (try clear hk); (try clear hi))))
                              go_meet
                              case rel => exact ⟨_, H', ⟨by have := HJ17.out; first | omega | exact Nat.le_refl _⟩, ⟨by repeat (first | (with_reducible first | exact HB.out | apply below_alloc | apply pw_below_drewN | apply below_drew1) | exact HB.out)⟩⟩
                          · rw [if_neg c30] at H
                            exact absurd H (by simp)
                        · rw [if_neg c29] at H
                          exact absurd H (by simp)
              · rw [if_neg c16] at H
                exact absurd H (by simp)
            · rw [if_neg c15] at H
              have c15b0 : (t155 == 0) = false := beq_eq_false_iff_ne.mpr c15
              have c15b1 : (t155 != 0) = true := bne_iff_ne.mpr c15
              (first | rw [c15b0] | (simp only [i64_w, i32_w]; rw [c15b0]) | skip)
              by_cases c40 : t155 = 5
              · rw [if_pos c40] at H
                have c40b0 : (t155 == 5) = true := beq_iff_eq.mpr c40
                have c40b1 : (t155 != 5) = false := bne_eq_false_iff_eq.mpr c40
                clear c40
                by_cases c41 : t154.toList = ([] : List UInt8)
                · rw [if_pos c41] at H
                  have c41b0 : (t154.toList == ([] : List UInt8)) = true := beq_iff_eq.mpr c41
                  have c41b1 : (t154.toList != ([] : List UInt8)) = false := bne_eq_false_iff_eq.mpr c41
                  clear c41
                  replace H := Option.bind_eq_some_iff.mp H
                  obtain ⟨t163, A420, H⟩ := H
                  replace H : (if t163 = true then (some false) else (postriderlaw04_TextBack.j1 k js11)) = some r := H
                  have A42 := Aside0.mk A420
                  clear A420
                  by_cases c43 : t163 = true
                  · subst c43
                    have H1 : (some false) = some r := by rw [if_pos rfl] at H; exact H
                    clear H
                    have H := H1
                    clear H1
                    obtain rfl := Option.some.inj H
                    go_wp2_with (first | (go_at_call 14; (with_reducible refine (text_Plain.calls js7 true _ A42.out).mono ?_); rintro e w44 ⟨rfl, hb⟩; have n0_ := Aside0.mk (below_step (by repeat (first | (with_reducible first | exact HB.out | apply below_alloc | apply pw_below_drewN | apply below_drew1) | exact HB.out)) hb); clear HB; have HB := n0_; clear n0_; (try clear hb); (try clear hb2); (try clear hk); (try clear hi)))
                    repeat (go_quiet (first | (go_at_call 14; (with_reducible refine (text_Plain.calls js7 true _ A42.out).mono ?_); rintro e w44 ⟨rfl, hb⟩; have n0_ := Aside0.mk (below_step (by repeat (first | (with_reducible first | exact HB.out | apply below_alloc | apply pw_below_drewN | apply below_drew1) | exact HB.out)) hb); clear HB; have HB := n0_; clear n0_; (try clear hb); (try clear hb2); (try clear hk); (try clear hi))); try go_wp2_with (first | (go_at_call 14; (with_reducible refine (text_Plain.calls js7 true _ A42.out).mono ?_); rintro e w44 ⟨rfl, hb⟩; have n0_ := Aside0.mk (below_step (by repeat (first | (with_reducible first | exact HB.out | apply below_alloc | apply pw_below_drewN | apply below_drew1) | exact HB.out)) hb); clear HB; have HB := n0_; clear n0_; (try clear hb); (try clear hb2); (try clear hk); (try clear hi))))
                    go_ret
                    exact ⟨by first | rfl | (simp [errW_none, errW_some] <;> rfl) | (simp only [← hji4, ← hji8]; first | rfl | (simp [errW_none, errW_some] <;> rfl)) | (simp [*, errW_none, errW_some] <;> rfl), by repeat (first | (with_reducible first | exact HB.out | apply below_alloc | apply pw_below_drewN | apply below_drew1) | exact HB.out)⟩
                  · replace c43 := Bool.eq_false_iff.mpr c43
                    subst c43
                    have H1 : (postriderlaw04_TextBack.j1 k js11) = some r := by rw [if_neg (show ¬ (false = true) by decide)] at H; exact H
                    clear H
                    have H := H1
                    clear H1
                    have H' := Aside0.mk H
                    clear H
                    go_wp2_with (first | (go_at_call 14; (with_reducible refine (text_Plain.calls js7 false _ A42.out).mono ?_); rintro e w45 ⟨rfl, hb⟩; have n0_ := Aside0.mk (below_step (by repeat (first | (with_reducible first | exact HB.out | apply below_alloc | apply pw_below_drewN | apply below_drew1) | exact HB.out)) hb); clear HB; have HB := n0_; clear n0_; (try clear hb); (try clear hb2); (try clear hk); (try clear hi)))
                    repeat (go_quiet (first | (go_at_call 14; (with_reducible refine (text_Plain.calls js7 false _ A42.out).mono ?_); rintro e w45 ⟨rfl, hb⟩; have n0_ := Aside0.mk (below_step (by repeat (first | (with_reducible first | exact HB.out | apply below_alloc | apply pw_below_drewN | apply below_drew1) | exact HB.out)) hb); clear HB; have HB := n0_; clear n0_; (try clear hb); (try clear hb2); (try clear hk); (try clear hi))); try go_wp2_with (first | (go_at_call 14; (with_reducible refine (text_Plain.calls js7 false _ A42.out).mono ?_); rintro e w45 ⟨rfl, hb⟩; have n0_ := Aside0.mk (below_step (by repeat (first | (with_reducible first | exact HB.out | apply below_alloc | apply pw_below_drewN | apply below_drew1) | exact HB.out)) hb); clear HB; have HB := n0_; clear n0_; (try clear hb); (try clear hb2); (try clear hk); (try clear hi))))
                    go_meet
                    case rel => exact ⟨_, H', ⟨by first | omega | exact Nat.le_refl _⟩, ⟨by repeat (first | (with_reducible first | exact HB.out | apply below_alloc | apply pw_below_drewN | apply below_drew1) | exact HB.out)⟩⟩
                · rw [if_neg c41] at H
                  have c41b0 : (t154.toList == ([] : List UInt8)) = false := beq_eq_false_iff_ne.mpr c41
                  have c41b1 : (t154.toList != ([] : List UInt8)) = true := bne_iff_ne.mpr c41
                  obtain rfl := Option.some.inj H
                  go_wp2
                  repeat (go_quiet (fail); try go_wp2)
                  go_ret
                  exact ⟨by first | rfl | (simp [errW_none, errW_some] <;> rfl) | (simp only [← hji4, ← hji8]; first | rfl | (simp [errW_none, errW_some] <;> rfl)) | (simp [*, errW_none, errW_some] <;> rfl), by repeat (first | (with_reducible first | exact HB.out | apply below_alloc | apply pw_below_drewN | apply below_drew1) | exact HB.out)⟩
              · rw [if_neg c40] at H
                have c40b0 : (t155 == 5) = false := beq_eq_false_iff_ne.mpr c40
                have c40b1 : (t155 != 5) = true := bne_iff_ne.mpr c40
                obtain rfl := Option.some.inj H
                go_wp2
                repeat (go_quiet (fail); try go_wp2)
                go_ret
                exact ⟨by first | rfl | (simp [errW_none, errW_some] <;> rfl) | (simp only [← hji4, ← hji8]; first | rfl | (simp [errW_none, errW_some] <;> rfl)) | (simp [*, errW_none, errW_some] <;> rfl), by repeat (first | (with_reducible first | exact HB.out | apply below_alloc | apply pw_below_drewN | apply below_drew1) | exact HB.out)⟩
          case rest =>
            clear HC13
            try clear c1
            try clear c2
            try clear p2
            try clear c3
            try clear c4
            try clear c5
            try clear c5b0
            try clear c5b1
            try clear c6
            try clear c6b0
            try clear c6b1
            try clear p6
            try clear c9
            try clear c9b0
            try clear c9b1
            try clear c10
            try clear c10b0
            try clear c10b1
            try clear c15
            try clear c15b0
            try clear c15b1
            try clear c16
            try clear c16b0
            try clear c16b1
            try clear c16b2
            try clear c20
            try clear c20b0
            try clear c20b1
            try clear c21
            try clear c21b0
            try clear c21b1
            try clear c22
            try clear c22b0
            try clear c22b1
            try clear c23
            try clear c23b0
            try clear c26
            try clear c27
            try clear c27b0
            try clear c27b1
            try clear c29
            try clear c29b0
            try clear c29b1
            try clear c30
            try clear c30b0
            try clear c30b1
            try clear c33
            try clear c33b0
            try clear c34
            try clear c34b0
            try clear c34b1
            try clear c35
            try clear c35b0
            try clear c35b1
            try clear c40
            try clear c40b0
            try clear c40b1
            try clear c41
            try clear c41b0
            try clear c41b1
            try clear c43
            try clear p2
            try clear p6
            obtain ⟨kq, HA, HJ12, HB⟩ := hcut
            cases kq with
            | zero => exact absurd HA.out (by simp [postriderlaw04_TextBack.j1])
            | succ kj12 =>
              have H := HA.out
              clear HA
              simp only [postriderlaw04_TextBack.j1] at H
              replace H := Option.bind_eq_some_iff.mp H
              obtain ⟨⟨t164, t165, t166⟩, A460, H⟩ := H
              replace H : (if t166 = 0 then (if t165 < 2 then (postriderlaw04_TextBack.j2 kj12 js11 t164 t165 true) else (postriderlaw04_TextBack.j2 kj12 js11 t164 t165 (decide (t165 > (js11.size : Int))))) else (if t164.toList = ([] : List UInt8) then (if t165 = 0 then ((postriderlaw04_tells.f kj12).bind fun t167 => (some t167)) else (some false)) else (some false))) = some r := H
              have A46 := Aside0.mk A460
              clear A460
              by_cases c47 : t166 = 0
              · rw [if_pos c47] at H
                have c47b0 : (t166 == 0) = true := beq_iff_eq.mpr c47
                have c47b1 : (t166 != 0) = false := bne_eq_false_iff_eq.mpr c47
                clear c47
                have HC48 := Aside0.mk H
                clear H
                go_upto_region 15 with (first | (go_at_call 7; (with_reducible refine (text_Quoted.calls kj12 js11 t164 t165 t166 _ A46.out).mono ?_); rintro e w49 ⟨rfl, hb⟩; have n0_ := Aside0.mk (below_step (by repeat (first | (with_reducible first | exact HB.out | apply below_alloc | apply pw_below_drewN | apply below_drew1) | exact HB.out)) hb); clear HB; have HB := n0_; clear n0_; (try clear hb); (try clear hb2); (try clear hk); (try clear hi)))
                repeat (go_quiet (first | (go_at_call 7; (with_reducible refine (text_Quoted.calls kj12 js11 t164 t165 t166 _ A46.out).mono ?_); rintro e w49 ⟨rfl, hb⟩; have n0_ := Aside0.mk (below_step (by repeat (first | (with_reducible first | exact HB.out | apply below_alloc | apply pw_below_drewN | apply below_drew1) | exact HB.out)) hb); clear HB; have HB := n0_; clear n0_; (try clear hb); (try clear hb2); (try clear hk); (try clear hi))); go_upto_region 15 with (first | (go_at_call 7; (with_reducible refine (text_Quoted.calls kj12 js11 t164 t165 t166 _ A46.out).mono ?_); rintro e w49 ⟨rfl, hb⟩; have n0_ := Aside0.mk (below_step (by repeat (first | (with_reducible first | exact HB.out | apply below_alloc | apply pw_below_drewN | apply below_drew1) | exact HB.out)) hb); clear HB; have HB := n0_; clear n0_; (try clear hb); (try clear hb2); (try clear hk); (try clear hi))))
                (try simp only [Act.put, List.setIfInBounds_toArray, List.set_cons_zero, List.set_cons_succ])
                go_cut [134] (fun v134 wc => ∃ (kq : Nat) (x134_47 : Bool), v134 = .bool x134_47 ∧ Aside0 (postriderlaw04_TextBack.j2 kq js11 t164 t165 x134_47 = some r) ∧ Aside0 (kq ≤ kj12) ∧ Aside0 (Below w.heap.size w wc))
                case first =>
                  have H := HC48.out
                  clear HC48
                  by_cases c50 : t165 < 2
                  · rw [if_pos c50] at H
                    have c50b0 : decide (t165 < 2) = true := decide_eq_true c50
                    clear c50
                    (first | rw [c50b0] | (simp only [i64_w, i32_w]; rw [c50b0]) | skip)
                    have H' := Aside0.mk H
                    clear H
                    go_wp2
                    repeat (go_quiet (fail); try go_wp2)
                    go_meet
                    case rel => exact ⟨_, (true), (by first | rfl | (simp; done) | (simp [*]; done)), H', ⟨by have := HJ12.out; first | omega | exact Nat.le_refl _⟩, ⟨by repeat (first | (with_reducible first | exact HB.out | apply below_alloc | apply pw_below_drewN | apply below_drew1) | exact HB.out)⟩⟩
                  · rw [if_neg c50] at H
                    have c50b0 : decide (t165 < 2) = false := decide_eq_false c50
                    clear c50
                    (first | rw [c50b0] | (simp only [i64_w, i32_w]; rw [c50b0]) | skip)
                    have H' := Aside0.mk H
                    clear H
                    go_wp2
                    repeat (go_quiet (fail); try go_wp2)
                    go_meet
                    case rel => exact ⟨_, (decide (t165 > (js11.size : Int))), (by first | rfl | (simp; done) | (simp [*]; done)), H', ⟨by have := HJ12.out; first | omega | exact Nat.le_refl _⟩, ⟨by repeat (first | (with_reducible first | exact HB.out | apply below_alloc | apply pw_below_drewN | apply below_drew1) | exact HB.out)⟩⟩
                case rest =>
                  clear HC48
                  try clear c1
                  try clear c2
                  try clear p2
                  try clear c3
                  try clear c4
                  try clear c5
                  try clear c5b0
                  try clear c5b1
                  try clear c6
                  try clear c6b0
                  try clear c6b1
                  try clear p6
                  try clear c9
                  try clear c9b0
                  try clear c9b1
                  try clear c10
                  try clear c10b0
                  try clear c10b1
                  try clear c15
                  try clear c15b0
                  try clear c15b1
                  try clear c16
                  try clear c16b0
                  try clear c16b1
                  try clear c16b2
                  try clear c20
                  try clear c20b0
                  try clear c20b1
                  try clear c21
                  try clear c21b0
                  try clear c21b1
                  try clear c22
                  try clear c22b0
                  try clear c22b1
                  try clear c23
                  try clear c23b0
                  try clear c26
                  try clear c27
                  try clear c27b0
                  try clear c27b1
                  try clear c29
                  try clear c29b0
                  try clear c29b1
                  try clear c30
                  try clear c30b0
                  try clear c30b1
                  try clear c33
                  try clear c33b0
                  try clear c34
                  try clear c34b0
                  try clear c34b1
                  try clear c35
                  try clear c35b0
                  try clear c35b1
                  try clear c40
                  try clear c40b0
                  try clear c40b1
                  try clear c41
                  try clear c41b0
                  try clear c41b1
                  try clear c43
                  try clear c47
                  try clear c47b0
                  try clear c47b1
                  try clear c50
                  try clear c50b0
                  try clear p2
                  try clear p6
                  obtain ⟨kq, x134_47, rfl, HA, HJ47, HB⟩ := hcut
                  cases kq with
                  | zero => exact absurd HA.out (by simp [postriderlaw04_TextBack.j2])
                  | succ kj47 =>
                    have H := HA.out
                    clear HA
                    simp only [postriderlaw04_TextBack.j2] at H
                    by_cases c51 : x134_47 = true
                    · subst c51
                      have H1 : (some false) = some r := by rw [if_pos rfl] at H; exact H
                      clear H
                      have H := H1
                      clear H1
                      obtain rfl := Option.some.inj H
                      go_wp2
                      repeat (go_quiet (fail); try go_wp2)
                      go_ret
                      exact ⟨by first | rfl | (simp [errW_none, errW_some] <;> rfl) | (simp only [← hji4, ← hji8]; first | rfl | (simp [errW_none, errW_some] <;> rfl)) | (simp [*, errW_none, errW_some] <;> rfl), by repeat (first | (with_reducible first | exact HB.out | apply below_alloc | apply pw_below_drewN | apply below_drew1) | exact HB.out)⟩
                    · replace c51 := Bool.eq_false_iff.mpr c51
                      subst c51
                      have H1 : ((text_Quote.f t164).bind fun bt168 => ((text_Quoted.f kj47 bt168.1).bind fun bt170 => (if bt168.2 = 0 then (if bt170.2.2 = 0 then (if bt170.1.toList = t164.toList then (if bt170.2.1 = (bt168.1.size : Int) then (if bt170.2.1 ≤ t165 then (if 0 ≤ (wrap64 (t165 - 1)) then (if (wrap64 (t165 - 1)) < (js11.size : Int) then (if (bt js11 (wrap64 (t165 - 1))) = 34 then ((postriderlaw04_tells.f kj47).bind fun t173 => (some t173)) else (some false)) else (none)) else (none)) else (some false)) else (some false)) else (some false)) else (some false)) else (some false)))) = some r := by rw [if_neg (show ¬ (false = true) by decide)] at H; exact H
                      clear H
                      have H := H1
                      clear H1
                      replace H := Option.bind_eq_some_iff.mp H
                      obtain ⟨⟨t168, t169⟩, A520, H⟩ := H
                      replace H : ((text_Quoted.f kj47 t168).bind fun bt170 => (if t169 = 0 then (if bt170.2.2 = 0 then (if bt170.1.toList = t164.toList then (if bt170.2.1 = (t168.size : Int) then (if bt170.2.1 ≤ t165 then (if 0 ≤ (wrap64 (t165 - 1)) then (if (wrap64 (t165 - 1)) < (js11.size : Int) then (if (bt js11 (wrap64 (t165 - 1))) = 34 then ((postriderlaw04_tells.f kj47).bind fun t173 => (some t173)) else (some false)) else (none)) else (none)) else (some false)) else (some false)) else (some false)) else (some false)) else (some false))) = some r := H
                      have A52 := Aside0.mk A520
                      clear A520
                      replace H := Option.bind_eq_some_iff.mp H
                      obtain ⟨⟨t170, t171, t172⟩, A530, H⟩ := H
                      replace H : (if t169 = 0 then (if t172 = 0 then (if t170.toList = t164.toList then (if t171 = (t168.size : Int) then (if t171 ≤ t165 then (if 0 ≤ (wrap64 (t165 - 1)) then (if (wrap64 (t165 - 1)) < (js11.size : Int) then (if (bt js11 (wrap64 (t165 - 1))) = 34 then ((postriderlaw04_tells.f kj47).bind fun t173 => (some t173)) else (some false)) else (none)) else (none)) else (some false)) else (some false)) else (some false)) else (some false)) else (some false)) = some r := H
                      have A53 := Aside0.mk A530
                      clear A530
                      by_cases c54 : t169 = 0
                      · rw [if_pos c54] at H
                        have c54b0 : (t169 == 0) = true := beq_iff_eq.mpr c54
                        have c54b1 : (t169 != 0) = false := bne_eq_false_iff_eq.mpr c54
                        clear c54
                        by_cases c55 : t172 = 0
                        · rw [if_pos c55] at H
                          have c55b0 : (t172 == 0) = true := beq_iff_eq.mpr c55
                          have c55b1 : (t172 != 0) = false := bne_eq_false_iff_eq.mpr c55
                          clear c55
                          by_cases c56 : t170.toList = t164.toList
                          · rw [if_pos c56] at H
                            have c56b0 : (t170.toList == t164.toList) = true := beq_iff_eq.mpr c56
                            have c56b1 : (t170.toList != t164.toList) = false := bne_eq_false_iff_eq.mpr c56
                            clear c56
                            by_cases c57 : t171 = (t168.size : Int)
                            · rw [if_pos c57] at H
                              have c57b0 : (t171 == (t168.size : Int)) = true := beq_iff_eq.mpr c57
                              have c57b1 : (t171 != (t168.size : Int)) = false := bne_eq_false_iff_eq.mpr c57
                              clear c57
                              by_cases c58 : t171 ≤ t165
                              · rw [if_pos c58] at H
                                have c58b0 : decide (t171 ≤ t165) = true := decide_eq_true c58
                                clear c58
                                obtain ⟨ji59, hji59⟩ : ∃ j_ : Int, (wrap64 (t165 - 1)) = j_ := ⟨_, rfl⟩
                                replace H : (if 0 ≤ (ji59) then (if (ji59) < (js11.size : Int) then (if (bt js11 (ji59)) = 34 then ((postriderlaw04_tells.f kj47).bind fun t173 => (some t173)) else (some false)) else (none)) else (none)) = some r := by first | (rw [hji59] at H; exact H) | (simp only [hji59] at H ⊢; exact H)
                                (try rw [hji59] at A52)
                                (try rw [hji59] at A53)
                                have hji59w : (IntKind.i64.wrap (t165 - 1)) = ji59 := (i64_w _).trans hji59
                                by_cases c60 : 0 ≤ (ji59)
                                · rw [if_pos c60] at H
                                  have c60b0 : decide (0 ≤ (ji59)) = true := decide_eq_true c60
                                  clear c60
                                  by_cases c61 : (ji59) < (js11.size : Int)
                                  · rw [if_pos c61] at H
                                    have c61b0 : decide ((ji59) < (js11.size : Int)) = true := decide_eq_true c61
                                    clear c61
                                    by_cases c63 : (bt js11 (ji59)) = 34
                                    · rw [if_pos c63] at H
                                      have c63b0 : ((bt js11 (ji59)) == 34) = true := beq_iff_eq.mpr c63
                                      have c63b1 : ((bt js11 (ji59)) != 34) = false := bne_eq_false_iff_eq.mpr c63
                                      clear c63
                                      replace H := Option.bind_eq_some_iff.mp H
                                      obtain ⟨t173, A640, H⟩ := H
                                      replace H : (some t173) = some r := H
                                      have A64 := Aside0.mk A640
                                      clear A640
                                      obtain rfl := Option.some.inj H
                                      go_wp2_with (first | (go_at_call 5; (with_reducible refine (text_Quote.calls t164 t168 t169 _ A52.out).mono ?_); rintro e w65 ⟨rfl, hb⟩; have n0_ := Aside0.mk (below_step (by repeat (first | (with_reducible first | exact HB.out | apply below_alloc | apply pw_below_drewN | apply below_drew1) | exact HB.out)) hb); clear HB; have HB := n0_; clear n0_; (try clear hb); (try clear hb2); (try clear hk); (try clear hi)) | (go_at_call 7; (with_reducible refine (text_Quoted.calls kj47 t168 t170 t171 t172 _ A53.out).mono ?_); rintro e w66 ⟨rfl, hb⟩; have n0_ := Aside0.mk (below_step (by repeat (first | (with_reducible first | exact HB.out | apply below_alloc | apply pw_below_drewN | apply below_drew1) | exact HB.out)) hb); clear HB; have HB := n0_; clear n0_; (try clear hb); (try clear hb2); (try clear hk); (try clear hi); have p62 : 0 ≤ ((ji59) : Int) := of_decide_eq_true (by first | (with_reducible assumption) | assumption); have q62 : (ji59) < (js11.size : Int) := of_decide_eq_true (by first | (with_reducible assumption) | assumption); have hx62 := bt_at js11 (ji59); replace p62 := eq_true p62; replace q62 := eq_true q62) | (go_at_call 13; (with_reducible refine (postriderlaw04_tells.calls kj47  t173 _ A64.out).mono ?_); rintro e w67 ⟨rfl, hb⟩; have n0_ := Aside0.mk (below_step (by repeat (first | (with_reducible first | exact HB.out | apply below_alloc | apply pw_below_drewN | apply below_drew1) | exact HB.out)) hb); clear HB; have HB := n0_; clear n0_; (try clear hb); (try clear hb2); (try clear hk); (try clear hi)))
                                      repeat (go_quiet (first | (go_at_call 5; (with_reducible refine (text_Quote.calls t164 t168 t169 _ A52.out).mono ?_); rintro e w65 ⟨rfl, hb⟩; have n0_ := Aside0.mk (below_step (by repeat (first | (with_reducible first | exact HB.out | apply below_alloc | apply pw_below_drewN | apply below_drew1) | exact HB.out)) hb); clear HB; have HB := n0_; clear n0_; (try clear hb); (try clear hb2); (try clear hk); (try clear hi)) | (go_at_call 7; (with_reducible refine (text_Quoted.calls kj47 t168 t170 t171 t172 _ A53.out).mono ?_); rintro e w66 ⟨rfl, hb⟩; have n0_ := Aside0.mk (below_step (by repeat (first | (with_reducible first | exact HB.out | apply below_alloc | apply pw_below_drewN | apply below_drew1) | exact HB.out)) hb); clear HB; have HB := n0_; clear n0_; (try clear hb); (try clear hb2); (try clear hk); (try clear hi); have p62 : 0 ≤ ((ji59) : Int) := of_decide_eq_true (by first | (with_reducible assumption) | assumption); have q62 : (ji59) < (js11.size : Int) := of_decide_eq_true (by first | (with_reducible assumption) | assumption); have hx62 := bt_at js11 (ji59); replace p62 := eq_true p62; replace q62 := eq_true q62) | (go_at_call 13; (with_reducible refine (postriderlaw04_tells.calls kj47  t173 _ A64.out).mono ?_); rintro e w67 ⟨rfl, hb⟩; have n0_ := Aside0.mk (below_step (by repeat (first | (with_reducible first | exact HB.out | apply below_alloc | apply pw_below_drewN | apply below_drew1) | exact HB.out)) hb); clear HB; have HB := n0_; clear n0_; (try clear hb); (try clear hb2); (try clear hk); (try clear hi))); try go_wp2_with (first | (go_at_call 5; (with_reducible refine (text_Quote.calls t164 t168 t169 _ A52.out).mono ?_); rintro e w65 ⟨rfl, hb⟩; have n0_ := Aside0.mk (below_step (by repeat (first | (with_reducible first | exact HB.out | apply below_alloc | apply pw_below_drewN | apply below_drew1) | exact HB.out)) hb); clear HB; have HB := n0_; clear n0_; (try clear hb); (try clear hb2); (try clear hk); (try clear hi)) | (go_at_call 7; (with_reducible refine (text_Quoted.calls kj47 t168 t170 t171 t172 _ A53.out).mono ?_); rintro e w66 ⟨rfl, hb⟩; have n0_ := Aside0.mk (below_step (by repeat (first | (with_reducible first | exact HB.out | apply below_alloc | apply pw_below_drewN | apply below_drew1) | exact HB.out)) hb); clear HB; have HB := n0_; clear n0_; (try clear hb); (try clear hb2); (try clear hk); (try clear hi); have p62 : 0 ≤ ((ji59) : Int) := of_decide_eq_true (by first | (with_reducible assumption) | assumption); have q62 : (ji59) < (js11.size : Int) := of_decide_eq_true (by first | (with_reducible assumption) | assumption); have hx62 := bt_at js11 (ji59); replace p62 := eq_true p62; replace q62 := eq_true q62) | (go_at_call 13; (with_reducible refine (postriderlaw04_tells.calls kj47  t173 _ A64.out).mono ?_); rintro e w67 ⟨rfl, hb⟩; have n0_ := Aside0.mk (below_step (by repeat (first | (with_reducible first | exact HB.out | apply below_alloc | apply pw_below_drewN | apply below_drew1) | exact HB.out)) hb); clear HB; have HB := n0_; clear n0_; (try clear hb); (try clear hb2); (try clear hk); (try clear hi))))
                                      go_ret
                                      exact ⟨by first | rfl | (simp [errW_none, errW_some] <;> rfl) | (simp only [← hji4, ← hji8, ← hji59]; first | rfl | (simp [errW_none, errW_some] <;> rfl)) | (simp [*, errW_none, errW_some] <;> rfl), by repeat (first | (with_reducible first | exact HB.out | apply below_alloc | apply pw_below_drewN | apply below_drew1) | exact HB.out)⟩
                                    · rw [if_neg c63] at H
                                      have c63b0 : ((bt js11 (ji59)) == 34) = false := beq_eq_false_iff_ne.mpr c63
                                      have c63b1 : ((bt js11 (ji59)) != 34) = true := bne_iff_ne.mpr c63
                                      obtain rfl := Option.some.inj H
                                      go_wp2_with (first | (go_at_call 5; (with_reducible refine (text_Quote.calls t164 t168 t169 _ A52.out).mono ?_); rintro e w68 ⟨rfl, hb⟩; have n0_ := Aside0.mk (below_step (by repeat (first | (with_reducible first | exact HB.out | apply below_alloc | apply pw_below_drewN | apply below_drew1) | exact HB.out)) hb); clear HB; have HB := n0_; clear n0_; (try clear hb); (try clear hb2); (try clear hk); (try clear hi)) | (go_at_call 7; (with_reducible refine (text_Quoted.calls kj47 t168 t170 t171 t172 _ A53.out).mono ?_); rintro e w69 ⟨rfl, hb⟩; have n0_ := Aside0.mk (below_step (by repeat (first | (with_reducible first | exact HB.out | apply below_alloc | apply pw_below_drewN | apply below_drew1) | exact HB.out)) hb); clear HB; have HB := n0_; clear n0_; (try clear hb); (try clear hb2); (try clear hk); (try clear hi); have p62 : 0 ≤ ((ji59) : Int) := of_decide_eq_true (by first | (with_reducible assumption) | assumption); have q62 : (ji59) < (js11.size : Int) := of_decide_eq_true (by first | (with_reducible assumption) | assumption); have hx62 := bt_at js11 (ji59); replace p62 := eq_true p62; replace q62 := eq_true q62))
                                      repeat (go_quiet (first | (go_at_call 5; (with_reducible refine (text_Quote.calls t164 t168 t169 _ A52.out).mono ?_); rintro e w68 ⟨rfl, hb⟩; have n0_ := Aside0.mk (below_step (by repeat (first | (with_reducible first | exact HB.out | apply below_alloc | apply pw_below_drewN | apply below_drew1) | exact HB.out)) hb); clear HB; have HB := n0_; clear n0_; (try clear hb); (try clear hb2); (try clear hk); (try clear hi)) | (go_at_call 7; (with_reducible refine (text_Quoted.calls kj47 t168 t170 t171 t172 _ A53.out).mono ?_); rintro e w69 ⟨rfl, hb⟩; have n0_ := Aside0.mk (below_step (by repeat (first | (with_reducible first | exact HB.out | apply below_alloc | apply pw_below_drewN | apply below_drew1) | exact HB.out)) hb); clear HB; have HB := n0_; clear n0_; (try clear hb); (try clear hb2); (try clear hk); (try clear hi); have p62 : 0 ≤ ((ji59) : Int) := of_decide_eq_true (by first | (with_reducible assumption) | assumption); have q62 : (ji59) < (js11.size : Int) := of_decide_eq_true (by first | (with_reducible assumption) | assumption); have hx62 := bt_at js11 (ji59); replace p62 := eq_true p62; replace q62 := eq_true q62)); try go_wp2_with (first | (go_at_call 5; (with_reducible refine (text_Quote.calls t164 t168 t169 _ A52.out).mono ?_); rintro e w68 ⟨rfl, hb⟩; have n0_ := Aside0.mk (below_step (by repeat (first | (with_reducible first | exact HB.out | apply below_alloc | apply pw_below_drewN | apply below_drew1) | exact HB.out)) hb); clear HB; have HB := n0_; clear n0_; (try clear hb); (try clear hb2); (try clear hk); (try clear hi)) | (go_at_call 7; (with_reducible refine (text_Quoted.calls kj47 t168 t170 t171 t172 _ A53.out).mono ?_); rintro e w69 ⟨rfl, hb⟩; have n0_ := Aside0.mk (below_step (by repeat (first | (with_reducible first | exact HB.out | apply below_alloc | apply pw_below_drewN | apply below_drew1) | exact HB.out)) hb); clear HB; have HB := n0_; clear n0_; (try clear hb); (try clear hb2); (try clear hk); (try clear hi); have p62 : 0 ≤ ((ji59) : Int) := of_decide_eq_true (by first | (with_reducible assumption) | assumption); have q62 : (ji59) < (js11.size : Int) := of_decide_eq_true (by first | (with_reducible assumption) | assumption); have hx62 := bt_at js11 (ji59); replace p62 := eq_true p62; replace q62 := eq_true q62)))
                                      go_ret
                                      exact ⟨by first | rfl | (simp [errW_none, errW_some] <;> rfl) | (simp only [← hji4, ← hji8, ← hji59]; first | rfl | (simp [errW_none, errW_some] <;> rfl)) | (simp [*, errW_none, errW_some] <;> rfl), by repeat (first | (with_reducible first | exact HB.out | apply below_alloc | apply pw_below_drewN | apply below_drew1) | exact HB.out)⟩
                                  · rw [if_neg c61] at H
                                    exact absurd H (by simp)
                                · rw [if_neg c60] at H
                                  exact absurd H (by simp)
                              · rw [if_neg c58] at H
                                have c58b0 : decide (t171 ≤ t165) = false := decide_eq_false c58
                                clear c58
                                obtain rfl := Option.some.inj H
                                go_wp2_with (first | (go_at_call 5; (with_reducible refine (text_Quote.calls t164 t168 t169 _ A52.out).mono ?_); rintro e w70 ⟨rfl, hb⟩; have n0_ := Aside0.mk (below_step (by repeat (first | (with_reducible first | exact HB.out | apply below_alloc | apply pw_below_drewN | apply below_drew1) | exact HB.out)) hb); clear HB; have HB := n0_; clear n0_; (try clear hb); (try clear hb2); (try clear hk); (try clear hi)) | (go_at_call 7; (with_reducible refine (text_Quoted.calls kj47 t168 t170 t171 t172 _ A53.out).mono ?_); rintro e w71 ⟨rfl, hb⟩; have n0_ := Aside0.mk (below_step (by repeat (first | (with_reducible first | exact HB.out | apply below_alloc | apply pw_below_drewN | apply below_drew1) | exact HB.out)) hb); clear HB; have HB := n0_; clear n0_; (try clear hb); (try clear hb2); (try clear hk); (try clear hi)))
                                repeat (go_quiet (first | (go_at_call 5; (with_reducible refine (text_Quote.calls t164 t168 t169 _ A52.out).mono ?_); rintro e w70 ⟨rfl, hb⟩; have n0_ := Aside0.mk (below_step (by repeat (first | (with_reducible first | exact HB.out | apply below_alloc | apply pw_below_drewN | apply below_drew1) | exact HB.out)) hb); clear HB; have HB := n0_; clear n0_; (try clear hb); (try clear hb2); (try clear hk); (try clear hi)) | (go_at_call 7; (with_reducible refine (text_Quoted.calls kj47 t168 t170 t171 t172 _ A53.out).mono ?_); rintro e w71 ⟨rfl, hb⟩; have n0_ := Aside0.mk (below_step (by repeat (first | (with_reducible first | exact HB.out | apply below_alloc | apply pw_below_drewN | apply below_drew1) | exact HB.out)) hb); clear HB; have HB := n0_; clear n0_; (try clear hb); (try clear hb2); (try clear hk); (try clear hi))); try go_wp2_with (first | (go_at_call 5; (with_reducible refine (text_Quote.calls t164 t168 t169 _ A52.out).mono ?_); rintro e w70 ⟨rfl, hb⟩; have n0_ := Aside0.mk (below_step (by repeat (first | (with_reducible first | exact HB.out | apply below_alloc | apply pw_below_drewN | apply below_drew1) | exact HB.out)) hb); clear HB; have HB := n0_; clear n0_; (try clear hb); (try clear hb2); (try clear hk); (try clear hi)) | (go_at_call 7; (with_reducible refine (text_Quoted.calls kj47 t168 t170 t171 t172 _ A53.out).mono ?_); rintro e w71 ⟨rfl, hb⟩; have n0_ := Aside0.mk (below_step (by repeat (first | (with_reducible first | exact HB.out | apply below_alloc | apply pw_below_drewN | apply below_drew1) | exact HB.out)) hb); clear HB; have HB := n0_; clear n0_; (try clear hb); (try clear hb2); (try clear hk); (try clear hi))))
                                go_ret
                                exact ⟨by first | rfl | (simp [errW_none, errW_some] <;> rfl) | (simp only [← hji4, ← hji8]; first | rfl | (simp [errW_none, errW_some] <;> rfl)) | (simp [*, errW_none, errW_some] <;> rfl), by repeat (first | (with_reducible first | exact HB.out | apply below_alloc | apply pw_below_drewN | apply below_drew1) | exact HB.out)⟩
                            · rw [if_neg c57] at H
                              have c57b0 : (t171 == (t168.size : Int)) = false := beq_eq_false_iff_ne.mpr c57
                              have c57b1 : (t171 != (t168.size : Int)) = true := bne_iff_ne.mpr c57
                              obtain rfl := Option.some.inj H
                              go_wp2_with (first | (go_at_call 5; (with_reducible refine (text_Quote.calls t164 t168 t169 _ A52.out).mono ?_); rintro e w72 ⟨rfl, hb⟩; have n0_ := Aside0.mk (below_step (by repeat (first | (with_reducible first | exact HB.out | apply below_alloc | apply pw_below_drewN | apply below_drew1) | exact HB.out)) hb); clear HB; have HB := n0_; clear n0_; (try clear hb); (try clear hb2); (try clear hk); (try clear hi)) | (go_at_call 7; (with_reducible refine (text_Quoted.calls kj47 t168 t170 t171 t172 _ A53.out).mono ?_); rintro e w73 ⟨rfl, hb⟩; have n0_ := Aside0.mk (below_step (by repeat (first | (with_reducible first | exact HB.out | apply below_alloc | apply pw_below_drewN | apply below_drew1) | exact HB.out)) hb); clear HB; have HB := n0_; clear n0_; (try clear hb); (try clear hb2); (try clear hk); (try clear hi)))
                              repeat (go_quiet (first | (go_at_call 5; (with_reducible refine (text_Quote.calls t164 t168 t169 _ A52.out).mono ?_); rintro e w72 ⟨rfl, hb⟩; have n0_ := Aside0.mk (below_step (by repeat (first | (with_reducible first | exact HB.out | apply below_alloc | apply pw_below_drewN | apply below_drew1) | exact HB.out)) hb); clear HB; have HB := n0_; clear n0_; (try clear hb); (try clear hb2); (try clear hk); (try clear hi)) | (go_at_call 7; (with_reducible refine (text_Quoted.calls kj47 t168 t170 t171 t172 _ A53.out).mono ?_); rintro e w73 ⟨rfl, hb⟩; have n0_ := Aside0.mk (below_step (by repeat (first | (with_reducible first | exact HB.out | apply below_alloc | apply pw_below_drewN | apply below_drew1) | exact HB.out)) hb); clear HB; have HB := n0_; clear n0_; (try clear hb); (try clear hb2); (try clear hk); (try clear hi))); try go_wp2_with (first | (go_at_call 5; (with_reducible refine (text_Quote.calls t164 t168 t169 _ A52.out).mono ?_); rintro e w72 ⟨rfl, hb⟩; have n0_ := Aside0.mk (below_step (by repeat (first | (with_reducible first | exact HB.out | apply below_alloc | apply pw_below_drewN | apply below_drew1) | exact HB.out)) hb); clear HB; have HB := n0_; clear n0_; (try clear hb); (try clear hb2); (try clear hk); (try clear hi)) | (go_at_call 7; (with_reducible refine (text_Quoted.calls kj47 t168 t170 t171 t172 _ A53.out).mono ?_); rintro e w73 ⟨rfl, hb⟩; have n0_ := Aside0.mk (below_step (by repeat (first | (with_reducible first | exact HB.out | apply below_alloc | apply pw_below_drewN | apply below_drew1) | exact HB.out)) hb); clear HB; have HB := n0_; clear n0_; (try clear hb); (try clear hb2); (try clear hk); (try clear hi))))
                              go_ret
                              exact ⟨by first | rfl | (simp [errW_none, errW_some] <;> rfl) | (simp only [← hji4, ← hji8]; first | rfl | (simp [errW_none, errW_some] <;> rfl)) | (simp [*, errW_none, errW_some] <;> rfl), by repeat (first | (with_reducible first | exact HB.out | apply below_alloc | apply pw_below_drewN | apply below_drew1) | exact HB.out)⟩
                          · rw [if_neg c56] at H
                            have c56b0 : (t170.toList == t164.toList) = false := beq_eq_false_iff_ne.mpr c56
                            have c56b1 : (t170.toList != t164.toList) = true := bne_iff_ne.mpr c56
                            obtain rfl := Option.some.inj H
                            go_wp2_with (first | (go_at_call 5; (with_reducible refine (text_Quote.calls t164 t168 t169 _ A52.out).mono ?_); rintro e w74 ⟨rfl, hb⟩; have n0_ := Aside0.mk (below_step (by repeat (first | (with_reducible first | exact HB.out | apply below_alloc | apply pw_below_drewN | apply below_drew1) | exact HB.out)) hb); clear HB; have HB := n0_; clear n0_; (try clear hb); (try clear hb2); (try clear hk); (try clear hi)) | (go_at_call 7; (with_reducible refine (text_Quoted.calls kj47 t168 t170 t171 t172 _ A53.out).mono ?_); rintro e w75 ⟨rfl, hb⟩; have n0_ := Aside0.mk (below_step (by repeat (first | (with_reducible first | exact HB.out | apply below_alloc | apply pw_below_drewN | apply below_drew1) | exact HB.out)) hb); clear HB; have HB := n0_; clear n0_; (try clear hb); (try clear hb2); (try clear hk); (try clear hi)))
                            repeat (go_quiet (first | (go_at_call 5; (with_reducible refine (text_Quote.calls t164 t168 t169 _ A52.out).mono ?_); rintro e w74 ⟨rfl, hb⟩; have n0_ := Aside0.mk (below_step (by repeat (first | (with_reducible first | exact HB.out | apply below_alloc | apply pw_below_drewN | apply below_drew1) | exact HB.out)) hb); clear HB; have HB := n0_; clear n0_; (try clear hb); (try clear hb2); (try clear hk); (try clear hi)) | (go_at_call 7; (with_reducible refine (text_Quoted.calls kj47 t168 t170 t171 t172 _ A53.out).mono ?_); rintro e w75 ⟨rfl, hb⟩; have n0_ := Aside0.mk (below_step (by repeat (first | (with_reducible first | exact HB.out | apply below_alloc | apply pw_below_drewN | apply below_drew1) | exact HB.out)) hb); clear HB; have HB := n0_; clear n0_; (try clear hb); (try clear hb2); (try clear hk); (try clear hi))); try go_wp2_with (first | (go_at_call 5; (with_reducible refine (text_Quote.calls t164 t168 t169 _ A52.out).mono ?_); rintro e w74 ⟨rfl, hb⟩; have n0_ := Aside0.mk (below_step (by repeat (first | (with_reducible first | exact HB.out | apply below_alloc | apply pw_below_drewN | apply below_drew1) | exact HB.out)) hb); clear HB; have HB := n0_; clear n0_; (try clear hb); (try clear hb2); (try clear hk); (try clear hi)) | (go_at_call 7; (with_reducible refine (text_Quoted.calls kj47 t168 t170 t171 t172 _ A53.out).mono ?_); rintro e w75 ⟨rfl, hb⟩; have n0_ := Aside0.mk (below_step (by repeat (first | (with_reducible first | exact HB.out | apply below_alloc | apply pw_below_drewN | apply below_drew1) | exact HB.out)) hb); clear HB; have HB := n0_; clear n0_; (try clear hb); (try clear hb2); (try clear hk); (try clear hi))))
                            go_ret
                            exact ⟨by first | rfl | (simp [errW_none, errW_some] <;> rfl) | (simp only [← hji4, ← hji8]; first | rfl | (simp [errW_none, errW_some] <;> rfl)) | (simp [*, errW_none, errW_some] <;> rfl), by repeat (first | (with_reducible first | exact HB.out | apply below_alloc | apply pw_below_drewN | apply below_drew1) | exact HB.out)⟩
                        · rw [if_neg c55] at H
                          have c55b0 : (t172 == 0) = false := beq_eq_false_iff_ne.mpr c55
                          have c55b1 : (t172 != 0) = true := bne_iff_ne.mpr c55
                          obtain rfl := Option.some.inj H
                          go_wp2_with (first | (go_at_call 5; (with_reducible refine (text_Quote.calls t164 t168 t169 _ A52.out).mono ?_); rintro e w76 ⟨rfl, hb⟩; have n0_ := Aside0.mk (below_step (by repeat (first | (with_reducible first | exact HB.out | apply below_alloc | apply pw_below_drewN | apply below_drew1) | exact HB.out)) hb); clear HB; have HB := n0_; clear n0_; (try clear hb); (try clear hb2); (try clear hk); (try clear hi)) | (go_at_call 7; (with_reducible refine (text_Quoted.calls kj47 t168 t170 t171 t172 _ A53.out).mono ?_); rintro e w77 ⟨rfl, hb⟩; have n0_ := Aside0.mk (below_step (by repeat (first | (with_reducible first | exact HB.out | apply below_alloc | apply pw_below_drewN | apply below_drew1) | exact HB.out)) hb); clear HB; have HB := n0_; clear n0_; (try clear hb); (try clear hb2); (try clear hk); (try clear hi)))
                          repeat (go_quiet (first | (go_at_call 5; (with_reducible refine (text_Quote.calls t164 t168 t169 _ A52.out).mono ?_); rintro e w76 ⟨rfl, hb⟩; have n0_ := Aside0.mk (below_step (by repeat (first | (with_reducible first | exact HB.out | apply below_alloc | apply pw_below_drewN | apply below_drew1) | exact HB.out)) hb); clear HB; have HB := n0_; clear n0_; (try clear hb); (try clear hb2); (try clear hk); (try clear hi)) | (go_at_call 7; (with_reducible refine (text_Quoted.calls kj47 t168 t170 t171 t172 _ A53.out).mono ?_); rintro e w77 ⟨rfl, hb⟩; have n0_ := Aside0.mk (below_step (by repeat (first | (with_reducible first | exact HB.out | apply below_alloc | apply pw_below_drewN | apply below_drew1) | exact HB.out)) hb); clear HB; have HB := n0_; clear n0_; (try clear hb); (try clear hb2); (try clear hk); (try clear hi))); try go_wp2_with (first | (go_at_call 5; (with_reducible refine (text_Quote.calls t164 t168 t169 _ A52.out).mono ?_); rintro e w76 ⟨rfl, hb⟩; have n0_ := Aside0.mk (below_step (by repeat (first | (with_reducible first | exact HB.out | apply below_alloc | apply pw_below_drewN | apply below_drew1) | exact HB.out)) hb); clear HB; have HB := n0_; clear n0_; (try clear hb); (try clear hb2); (try clear hk); (try clear hi)) | (go_at_call 7; (with_reducible refine (text_Quoted.calls kj47 t168 t170 t171 t172 _ A53.out).mono ?_); rintro e w77 ⟨rfl, hb⟩; have n0_ := Aside0.mk (below_step (by repeat (first | (with_reducible first | exact HB.out | apply below_alloc | apply pw_below_drewN | apply below_drew1) | exact HB.out)) hb); clear HB; have HB := n0_; clear n0_; (try clear hb); (try clear hb2); (try clear hk); (try clear hi))))
                          go_ret
                          exact ⟨by first | rfl | (simp [errW_none, errW_some] <;> rfl) | (simp only [← hji4, ← hji8]; first | rfl | (simp [errW_none, errW_some] <;> rfl)) | (simp [*, errW_none, errW_some] <;> rfl), by repeat (first | (with_reducible first | exact HB.out | apply below_alloc | apply pw_below_drewN | apply below_drew1) | exact HB.out)⟩
                      · rw [if_neg c54] at H
                        have c54b0 : (t169 == 0) = false := beq_eq_false_iff_ne.mpr c54
                        have c54b1 : (t169 != 0) = true := bne_iff_ne.mpr c54
                        obtain rfl := Option.some.inj H
                        go_wp2_with (first | (go_at_call 5; (with_reducible refine (text_Quote.calls t164 t168 t169 _ A52.out).mono ?_); rintro e w78 ⟨rfl, hb⟩; have n0_ := Aside0.mk (below_step (by repeat (first | (with_reducible first | exact HB.out | apply below_alloc | apply pw_below_drewN | apply below_drew1) | exact HB.out)) hb); clear HB; have HB := n0_; clear n0_; (try clear hb); (try clear hb2); (try clear hk); (try clear hi)) | (go_at_call 7; (with_reducible refine (text_Quoted.calls kj47 t168 t170 t171 t172 _ A53.out).mono ?_); rintro e w79 ⟨rfl, hb⟩; have n0_ := Aside0.mk (below_step (by repeat (first | (with_reducible first | exact HB.out | apply below_alloc | apply pw_below_drewN | apply below_drew1) | exact HB.out)) hb); clear HB; have HB := n0_; clear n0_; (try clear hb); (try clear hb2); (try clear hk); (try clear hi)))
                        repeat (go_quiet (first | (go_at_call 5; (with_reducible refine (text_Quote.calls t164 t168 t169 _ A52.out).mono ?_); rintro e w78 ⟨rfl, hb⟩; have n0_ := Aside0.mk (below_step (by repeat (first | (with_reducible first | exact HB.out | apply below_alloc | apply pw_below_drewN | apply below_drew1) | exact HB.out)) hb); clear HB; have HB := n0_; clear n0_; (try clear hb); (try clear hb2); (try clear hk); (try clear hi)) | (go_at_call 7; (with_reducible refine (text_Quoted.calls kj47 t168 t170 t171 t172 _ A53.out).mono ?_); rintro e w79 ⟨rfl, hb⟩; have n0_ := Aside0.mk (below_step (by repeat (first | (with_reducible first | exact HB.out | apply below_alloc | apply pw_below_drewN | apply below_drew1) | exact HB.out)) hb); clear HB; have HB := n0_; clear n0_; (try clear hb); (try clear hb2); (try clear hk); (try clear hi))); try go_wp2_with (first | (go_at_call 5; (with_reducible refine (text_Quote.calls t164 t168 t169 _ A52.out).mono ?_); rintro e w78 ⟨rfl, hb⟩; have n0_ := Aside0.mk (below_step (by repeat (first | (with_reducible first | exact HB.out | apply below_alloc | apply pw_below_drewN | apply below_drew1) | exact HB.out)) hb); clear HB; have HB := n0_; clear n0_; (try clear hb); (try clear hb2); (try clear hk); (try clear hi)) | (go_at_call 7; (with_reducible refine (text_Quoted.calls kj47 t168 t170 t171 t172 _ A53.out).mono ?_); rintro e w79 ⟨rfl, hb⟩; have n0_ := Aside0.mk (below_step (by repeat (first | (with_reducible first | exact HB.out | apply below_alloc | apply pw_below_drewN | apply below_drew1) | exact HB.out)) hb); clear HB; have HB := n0_; clear n0_; (try clear hb); (try clear hb2); (try clear hk); (try clear hi))))
                        go_ret
                        exact ⟨by first | rfl | (simp [errW_none, errW_some] <;> rfl) | (simp only [← hji4, ← hji8]; first | rfl | (simp [errW_none, errW_some] <;> rfl)) | (simp [*, errW_none, errW_some] <;> rfl), by repeat (first | (with_reducible first | exact HB.out | apply below_alloc | apply pw_below_drewN | apply below_drew1) | exact HB.out)⟩
              · rw [if_neg c47] at H
                have c47b0 : (t166 == 0) = false := beq_eq_false_iff_ne.mpr c47
                have c47b1 : (t166 != 0) = true := bne_iff_ne.mpr c47
                by_cases c80 : t164.toList = ([] : List UInt8)
                · rw [if_pos c80] at H
                  have c80b0 : (t164.toList == ([] : List UInt8)) = true := beq_iff_eq.mpr c80
                  have c80b1 : (t164.toList != ([] : List UInt8)) = false := bne_eq_false_iff_eq.mpr c80
                  clear c80
                  by_cases c81 : t165 = 0
                  · rw [if_pos c81] at H
                    have c81b0 : (t165 == 0) = true := beq_iff_eq.mpr c81
                    have c81b1 : (t165 != 0) = false := bne_eq_false_iff_eq.mpr c81
                    clear c81
                    replace H := Option.bind_eq_some_iff.mp H
                    obtain ⟨t167, A820, H⟩ := H
                    replace H : (some t167) = some r := H
                    have A82 := Aside0.mk A820
                    clear A820
                    obtain rfl := Option.some.inj H
                    go_wp2_with (first | (go_at_call 7; (with_reducible refine (text_Quoted.calls kj12 js11 t164 t165 t166 _ A46.out).mono ?_); rintro e w83 ⟨rfl, hb⟩; have n0_ := Aside0.mk (below_step (by repeat (first | (with_reducible first | exact HB.out | apply below_alloc | apply pw_below_drewN | apply below_drew1) | exact HB.out)) hb); clear HB; have HB := n0_; clear n0_; (try clear hb); (try clear hb2); (try clear hk); (try clear hi)) | (go_at_call 13; (with_reducible refine (postriderlaw04_tells.calls kj12  t167 _ A82.out).mono ?_); rintro e w84 ⟨rfl, hb⟩; have n0_ := Aside0.mk (below_step (by repeat (first | (with_reducible first | exact HB.out | apply below_alloc | apply pw_below_drewN | apply below_drew1) | exact HB.out)) hb); clear HB; have HB := n0_; clear n0_; (try clear hb); (try clear hb2); (try clear hk); (try clear hi)))
                    repeat (go_quiet (first | (go_at_call 7; (with_reducible refine (text_Quoted.calls kj12 js11 t164 t165 t166 _ A46.out).mono ?_); rintro e w83 ⟨rfl, hb⟩; have n0_ := Aside0.mk (below_step (by repeat (first | (with_reducible first | exact HB.out | apply below_alloc | apply pw_below_drewN | apply below_drew1) | exact HB.out)) hb); clear HB; have HB := n0_; clear n0_; (try clear hb); (try clear hb2); (try clear hk); (try clear hi)) | (go_at_call 13; (with_reducible refine (postriderlaw04_tells.calls kj12  t167 _ A82.out).mono ?_); rintro e w84 ⟨rfl, hb⟩; have n0_ := Aside0.mk (below_step (by repeat (first | (with_reducible first | exact HB.out | apply below_alloc | apply pw_below_drewN | apply below_drew1) | exact HB.out)) hb); clear HB; have HB := n0_; clear n0_; (try clear hb); (try clear hb2); (try clear hk); (try clear hi))); try go_wp2_with (first | (go_at_call 7; (with_reducible refine (text_Quoted.calls kj12 js11 t164 t165 t166 _ A46.out).mono ?_); rintro e w83 ⟨rfl, hb⟩; have n0_ := Aside0.mk (below_step (by repeat (first | (with_reducible first | exact HB.out | apply below_alloc | apply pw_below_drewN | apply below_drew1) | exact HB.out)) hb); clear HB; have HB := n0_; clear n0_; (try clear hb); (try clear hb2); (try clear hk); (try clear hi)) | (go_at_call 13; (with_reducible refine (postriderlaw04_tells.calls kj12  t167 _ A82.out).mono ?_); rintro e w84 ⟨rfl, hb⟩; have n0_ := Aside0.mk (below_step (by repeat (first | (with_reducible first | exact HB.out | apply below_alloc | apply pw_below_drewN | apply below_drew1) | exact HB.out)) hb); clear HB; have HB := n0_; clear n0_; (try clear hb); (try clear hb2); (try clear hk); (try clear hi))))
                    go_ret
                    exact ⟨by first | rfl | (simp [errW_none, errW_some] <;> rfl) | (simp only [← hji4, ← hji8]; first | rfl | (simp [errW_none, errW_some] <;> rfl)) | (simp [*, errW_none, errW_some] <;> rfl), by repeat (first | (with_reducible first | exact HB.out | apply below_alloc | apply pw_below_drewN | apply below_drew1) | exact HB.out)⟩
                  · rw [if_neg c81] at H
                    have c81b0 : (t165 == 0) = false := beq_eq_false_iff_ne.mpr c81
                    have c81b1 : (t165 != 0) = true := bne_iff_ne.mpr c81
                    obtain rfl := Option.some.inj H
                    go_wp2_with (first | (go_at_call 7; (with_reducible refine (text_Quoted.calls kj12 js11 t164 t165 t166 _ A46.out).mono ?_); rintro e w85 ⟨rfl, hb⟩; have n0_ := Aside0.mk (below_step (by repeat (first | (with_reducible first | exact HB.out | apply below_alloc | apply pw_below_drewN | apply below_drew1) | exact HB.out)) hb); clear HB; have HB := n0_; clear n0_; (try clear hb); (try clear hb2); (try clear hk); (try clear hi)))
                    repeat (go_quiet (first | (go_at_call 7; (with_reducible refine (text_Quoted.calls kj12 js11 t164 t165 t166 _ A46.out).mono ?_); rintro e w85 ⟨rfl, hb⟩; have n0_ := Aside0.mk (below_step (by repeat (first | (with_reducible first | exact HB.out | apply below_alloc | apply pw_below_drewN | apply below_drew1) | exact HB.out)) hb); clear HB; have HB := n0_; clear n0_; (try clear hb); (try clear hb2); (try clear hk); (try clear hi))); try go_wp2_with (first | (go_at_call 7; (with_reducible refine (text_Quoted.calls kj12 js11 t164 t165 t166 _ A46.out).mono ?_); rintro e w85 ⟨rfl, hb⟩; have n0_ := Aside0.mk (below_step (by repeat (first | (with_reducible first | exact HB.out | apply below_alloc | apply pw_below_drewN | apply below_drew1) | exact HB.out)) hb); clear HB; have HB := n0_; clear n0_; (try clear hb); (try clear hb2); (try clear hk); (try clear hi))))
                    go_ret
                    exact ⟨by first | rfl | (simp [errW_none, errW_some] <;> rfl) | (simp only [← hji4, ← hji8]; first | rfl | (simp [errW_none, errW_some] <;> rfl)) | (simp [*, errW_none, errW_some] <;> rfl), by repeat (first | (with_reducible first | exact HB.out | apply below_alloc | apply pw_below_drewN | apply below_drew1) | exact HB.out)⟩
                · rw [if_neg c80] at H
                  have c80b0 : (t164.toList == ([] : List UInt8)) = false := beq_eq_false_iff_ne.mpr c80
                  have c80b1 : (t164.toList != ([] : List UInt8)) = true := bne_iff_ne.mpr c80
                  obtain rfl := Option.some.inj H
                  go_wp2_with (first | (go_at_call 7; (with_reducible refine (text_Quoted.calls kj12 js11 t164 t165 t166 _ A46.out).mono ?_); rintro e w86 ⟨rfl, hb⟩; have n0_ := Aside0.mk (below_step (by repeat (first | (with_reducible first | exact HB.out | apply below_alloc | apply pw_below_drewN | apply below_drew1) | exact HB.out)) hb); clear HB; have HB := n0_; clear n0_; (try clear hb); (try clear hb2); (try clear hk); (try clear hi)))
                  repeat (go_quiet (first | (go_at_call 7; (with_reducible refine (text_Quoted.calls kj12 js11 t164 t165 t166 _ A46.out).mono ?_); rintro e w86 ⟨rfl, hb⟩; have n0_ := Aside0.mk (below_step (by repeat (first | (with_reducible first | exact HB.out | apply below_alloc | apply pw_below_drewN | apply below_drew1) | exact HB.out)) hb); clear HB; have HB := n0_; clear n0_; (try clear hb); (try clear hb2); (try clear hk); (try clear hi))); try go_wp2_with (first | (go_at_call 7; (with_reducible refine (text_Quoted.calls kj12 js11 t164 t165 t166 _ A46.out).mono ?_); rintro e w86 ⟨rfl, hb⟩; have n0_ := Aside0.mk (below_step (by repeat (first | (with_reducible first | exact HB.out | apply below_alloc | apply pw_below_drewN | apply below_drew1) | exact HB.out)) hb); clear HB; have HB := n0_; clear n0_; (try clear hb); (try clear hb2); (try clear hk); (try clear hi))))
                  go_ret
                  exact ⟨by first | rfl | (simp [errW_none, errW_some] <;> rfl) | (simp only [← hji4, ← hji8]; first | rfl | (simp [errW_none, errW_some] <;> rfl)) | (simp [*, errW_none, errW_some] <;> rfl), by repeat (first | (with_reducible first | exact HB.out | apply below_alloc | apply pw_below_drewN | apply below_drew1) | exact HB.out)⟩
        · rw [if_neg c10] at H
          exact absurd H (by simp)
      · rw [if_neg c9] at H
        exact absurd H (by simp)
    · rw [if_neg c6] at H
      exact absurd H (by simp)
  · rw [if_neg c5] at H
    exact absurd H (by simp)

/-- THE ONE PURE STATEMENT of postriderlaw04_TextBack: yours. -/
def postriderlaw04_TextBack.Pure : Prop := ∀ (a0 : ByteArray) (a1 : ByteArray) (a2 : Int), a0.size ≤ 140737488351232 → a1.size ≤ 140737488351232 → (Lit.int .u8 a2).wf = true → ∃ k, postriderlaw04_TextBack.f k a0 a1 a2 = some true
theorem postriderlaw04_TextBack.walk (P : postriderlaw04_TextBack.Pure) (a0 : ByteArray) (a1 : ByteArray) (a2 : Int) (w : World) (w0 : a0.size ≤ 140737488351232) (w1 : a1.size ≤ 140737488351232) (w2 : (Lit.int .u8 a2).wf = true) :
    Calls Try.prog 4 #[.string a0, .string a1, .int .u8 a2] w fun e w' => e = .returned (.bool true) ∧ Below w.heap.size w w' := by
  obtain ⟨k, h⟩ := P a0 a1 a2 w0 w1 w2
  refine (postriderlaw04_TextBack.calls k a0 a1 a2 true w h).mono ?_
  rintro e w' ⟨rfl, hd⟩
  exact ⟨rfl, hd⟩

end Go.Proofs.Ytfeihligcondgaa.Q
