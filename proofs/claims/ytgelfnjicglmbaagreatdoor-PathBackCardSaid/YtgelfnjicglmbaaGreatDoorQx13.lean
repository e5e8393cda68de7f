/- Walks of functions. -/
import Derived.Test.YtgelfnjicglmbaaGreatDoorQx0
import Derived.Test.YtgelfnjicglmbaaGreatDoorQx7
import Derived.Test.YtgelfnjicglmbaaGreatDoorQx12
namespace Go.Proofs.YtgelfnjicglmbaaGreatDoor.Q
set_option linter.unusedSimpArgs false
set_option linter.unusedVariables false
open Go.RowKit Go.Proofs.YtgelfnjicglmbaaGreatDoorW.PrintWords Go.Proofs.YtgelfnjicglmbaaGreatDoorW.PrintLast Go.Proofs.YtgelfnjicglmbaaGreatDoorW.PrintMore
attribute [local go_sem] max2_int min2_int max_two min_two max_three min_three max_four min_four

/-! ### postriderlaw06_PathBack: function 4 -/
mutual
def postriderlaw06_PathBack.j0 : Nat → ByteArray → Option (Bool)
 | 0, _ => none
 | k + 1, x1 => (some (([(⟨true, false, ([] : List ByteArray), (⟨(⟨#[]⟩ : ByteArray), (⟨#[]⟩ : ByteArray)⟩ : S24)⟩ : S26), (⟨false, true, ([] : List ByteArray), (⟨(⟨#[]⟩ : ByteArray), (⟨#[]⟩ : ByteArray)⟩ : S24)⟩ : S26)] : List (S26)) : List (S26))).bind fun y384 => (postriderlaw06_PathBack.l0 k x1 y384 (y384.length : Int) 0)
def postriderlaw06_PathBack.l0 : Nat → ByteArray → List (S26) → Int → Int → Option (Bool)
 | 0, _, _, _, _ => none
 | k + 1, x1, x82, x83, x84 => if x84 < x83 then (if 0 ≤ x84 then (if x84 < (x82.length : Int) then ((path_Path_Text.f k ((rd_T26 x82 x84).f0) ((rd_T26 x82 x84).f1) ((rd_T26 x82 x84).f2) ((rd_T26 x82 x84).f3.f0) ((rd_T26 x82 x84).f3.f1)).bind fun t389 => (if t389.size + x1.size ≤ 9223372036854775807 then ((path_Parse.f k (t389 ++ x1)).bind fun bt390 => (if bt390.2.2.2.2.2.2 = 0 then (if bt390.2.2.2.2.2.1.toList = x1.toList then ((postriderlaw06_Of.f bt390.1 bt390.2.1 bt390.2.2.1 bt390.2.2.2.1 bt390.2.2.2.2.1).bind fun bt400 => ((postriderlaw06_Of.f ((rd_T26 x82 x84).f0) ((rd_T26 x82 x84).f1) ((rd_T26 x82 x84).f2) ((rd_T26 x82 x84).f3.f0) ((rd_T26 x82 x84).f3.f1)).bind fun bt407 => ((postriderlaw06_Like.f k bt400.1 bt400.2.1 bt400.2.2.1 bt400.2.2.2.1 bt400.2.2.2.2 bt407.1 bt407.2.1 bt407.2.2.1 bt407.2.2.2.1 bt407.2.2.2.2).bind fun t414 => (if t414 = true then (postriderlaw06_PathBack.l0 k x1 x82 x83 (wrap64 (x84 + 1))) else (some false))))) else (some false)) else (some false))) else (none))) else (none)) else (none)) else ((path_Parse.f k x1).bind fun bt415 => (if bt415.2.2.2.2.2.2 = 0 then ((path_Path_Text.f k bt415.1 bt415.2.1 bt415.2.2.1 bt415.2.2.2.1 bt415.2.2.2.2.1).bind fun t441 => ((path_Parse.f k t441).bind fun bt442 => ((strings_HasSuffix.f x1 bt415.2.2.2.2.2.1).bind fun t452 => (if t452 = true then (if (bt415.2.2.2.2.2.1.size : Int) < (wrap64 ((x1.size : Int) - 1)) then (if bt442.2.2.2.2.2.2 = 0 then (if bt442.2.2.2.2.2.1.toList = ([] : List UInt8) then ((postriderlaw06_Of.f bt442.1 bt442.2.1 bt442.2.2.1 bt442.2.2.2.1 bt442.2.2.2.2.1).bind fun bt453 => ((postriderlaw06_Of.f bt415.1 bt415.2.1 ([] : List ByteArray) bt415.2.2.2.1 bt415.2.2.2.2.1).bind fun bt460 => ((postriderlaw06_Like.f k bt453.1 bt453.2.1 bt453.2.2.1 bt453.2.2.2.1 bt453.2.2.2.2 bt460.1 bt460.2.1 bt460.2.2.1 bt460.2.2.2.1 bt460.2.2.2.2).bind fun t467 => (if t467 = true then ((postriderlaw06_tells.f k).bind fun t468 => (some t468)) else (some false))))) else (some false)) else (some false)) else (some false)) else (some false))))) else ((postriderlaw06_Of.f bt415.1 bt415.2.1 bt415.2.2.1 bt415.2.2.2.1 bt415.2.2.2.2.1).bind fun bt425 => ((postriderlaw06_Of.f false false ([] : List ByteArray) (⟨#[]⟩ : ByteArray) (⟨#[]⟩ : ByteArray)).bind fun bt432 => ((postriderlaw06_Like.f k bt425.1 bt425.2.1 bt425.2.2.1 bt425.2.2.2.1 bt425.2.2.2.2 bt432.1 bt432.2.1 bt432.2.2.1 bt432.2.2.2.1 bt432.2.2.2.2).bind fun t439 => (if t439 = true then (if bt415.2.2.2.2.2.1.toList = ([] : List UInt8) then ((postriderlaw06_tells.f k).bind fun t440 => (some t440)) else (some false)) else (some false)))))))
end
def postriderlaw06_PathBack.f (k : Nat) (a0_0 : ByteArray) (a0_1 : ByteArray) (a1 : ByteArray) : Option (Bool) := if 0 ≤ (mn (a0_0.size : Int) 300) then (if (mn (a0_0.size : Int) 300) ≤ (a0_0.size : Int) then (if 0 ≤ (mn (a0_1.size : Int) 300) then (if (mn (a0_1.size : Int) 300) ≤ (a0_1.size : Int) then (if 0 ≤ (mn (a1.size : Int) 300) then (if (mn (a1.size : Int) 300) ≤ (a1.size : Int) then ((path_Path_Text.f k false false ([] : List ByteArray) (a0_0.extract 0 ((mn (a0_0.size : Int) 300) : Int).toNat) (a0_1.extract 0 ((mn (a0_1.size : Int) 300) : Int).toNat)).bind fun t356 => ((addr_May.f (a0_0.extract 0 ((mn (a0_0.size : Int) 300) : Int).toNat) (a0_1.extract 0 ((mn (a0_1.size : Int) 300) : Int).toNat)).bind fun t357 => (if t357 = true then (if t356.size + (a1.extract 0 ((mn (a1.size : Int) 300) : Int).toNat).size ≤ 9223372036854775807 then ((path_Parse.f k (t356 ++ (a1.extract 0 ((mn (a1.size : Int) 300) : Int).toNat))).bind fun bt358 => (if (t356.size : Int) > 256 then (if bt358.2.2.2.2.2.2 = 3 then ((postriderlaw06_tells.f k).bind fun t368 => (some t368)) else (some false)) else (if bt358.2.2.2.2.2.2 = 0 then (if bt358.2.2.2.2.2.1.toList = (a1.extract 0 ((mn (a1.size : Int) 300) : Int).toNat).toList then ((postriderlaw06_Of.f bt358.1 bt358.2.1 bt358.2.2.1 bt358.2.2.2.1 bt358.2.2.2.2.1).bind fun bt369 => ((postriderlaw06_Of.f false false ([] : List ByteArray) (a0_0.extract 0 ((mn (a0_0.size : Int) 300) : Int).toNat) (a0_1.extract 0 ((mn (a0_1.size : Int) 300) : Int).toNat)).bind fun bt376 => ((postriderlaw06_Like.f k bt369.1 bt369.2.1 bt369.2.2.1 bt369.2.2.2.1 bt369.2.2.2.2 bt376.1 bt376.2.1 bt376.2.2.1 bt376.2.2.2.1 bt376.2.2.2.2).bind fun t383 => (if t383 = true then (postriderlaw06_PathBack.j0 k (a1.extract 0 ((mn (a1.size : Int) 300) : Int).toNat)) else (some false))))) else (some false)) else (some false)))) else (none)) else (if t356.toList = ([] : List UInt8) then (postriderlaw06_PathBack.j0 k (a1.extract 0 ((mn (a1.size : Int) 300) : Int).toNat)) else (some false))))) else (none)) else (none)) else (none)) else (none)) else (none)) else (none)
theorem postriderlaw06_PathBack.mono_l : ∀ k, (∀ y0, LeO (postriderlaw06_PathBack.j0 k y0) (postriderlaw06_PathBack.j0 (k + 1) y0)) ∧ (∀ y0 y1 y2 y3, LeO (postriderlaw06_PathBack.l0 k y0 y1 y2 y3) (postriderlaw06_PathBack.l0 (k + 1) y0 y1 y2 y3))
 | 0 => ⟨fun _ r h => by simp [postriderlaw06_PathBack.j0] at h, fun _ _ _ _ r h => by simp [postriderlaw06_PathBack.l0] at h⟩
 | k + 1 => by
  obtain ⟨ih0, ih1⟩ := postriderlaw06_PathBack.mono_l k
  refine ⟨?_, ?_⟩
  ·intro y0
   unfold postriderlaw06_PathBack.j0
   repeat' first
   | (with_reducible first | exact ih0 _ | exact ih1 _ _ _ _ | exact path_Parse.mono _ _ | exact path_Path_Text.mono _ _ _ _ _ _ | exact postriderlaw06_Like.mono _ _ _ _ _ _ _ _ _ _ _ | exact postriderlaw06_tells.mono _ | exact LeO.refl _ | exact LeO.none _ | refine LeO.ite ?_ ?_ | refine LeO.bind ?_ (fun _ => ?_))
  ·intro y0 y1 y2 y3
   unfold postriderlaw06_PathBack.l0
   repeat' first
   | (with_reducible first | exact ih0 _ | exact ih1 _ _ _ _ | exact path_Parse.mono _ _ | exact path_Path_Text.mono _ _ _ _ _ _ | exact postriderlaw06_Like.mono _ _ _ _ _ _ _ _ _ _ _ | exact postriderlaw06_tells.mono _ | exact LeO.refl _ | exact LeO.none _ | refine LeO.ite ?_ ?_ | refine LeO.bind ?_ (fun _ => ?_))
theorem postriderlaw06_PathBack.mono : ∀ a0 a1 a2 k, LeO (postriderlaw06_PathBack.f k a0 a1 a2) (postriderlaw06_PathBack.f (k + 1) a0 a1 a2) := by
 intro a0 a1 a2 k
 obtain ⟨ih0, ih1⟩ := postriderlaw06_PathBack.mono_l k
 unfold postriderlaw06_PathBack.f
 repeat' first
   | (with_reducible first | exact ih0 _ | exact ih1 _ _ _ _ | exact path_Parse.mono _ _ | exact path_Path_Text.mono _ _ _ _ _ _ | exact postriderlaw06_Like.mono _ _ _ _ _ _ _ _ _ _ _ | exact postriderlaw06_tells.mono _ | exact LeO.refl _ | exact LeO.none _ | refine LeO.ite ?_ ?_ | refine LeO.bind ?_ (fun _ => ?_))
def postriderlaw06_PathBack.T1 : Bool × List (List Nat × List Nat) := (true, [([], []), ([0], [0]), ([], []), ([2], [2]), ([3], [3]), ([4], [4]), ([1, 5], [1, 5]), ([], []), ([7], [7]), ([], []), ([9], [9]), ([10], [10]), ([11], [11]), ([8, 12], [8, 12]), ([6, 13], [6, 13]), ([14, 0, 1, 2, 3, 4, 5, 6, 7, 8, 9, 10, 11, 12, 13, 14], [14])])
def postriderlaw06_PathBack.B1 : List Nat := [0, 1, 0, 4, 12, 28, 63, 0, 128, 0, 512, 1536, 3584, 8064, 16383, 32767]
theorem postriderlaw06_PathBack.tab1 : rtab .any (opsOf Tryz.f4 1) = postriderlaw06_PathBack.T1 := by kernel_rfl
theorem postriderlaw06_PathBack.bits1 : waitsOk postriderlaw06_PathBack.T1.2 postriderlaw06_PathBack.B1 = true := by kernel_rfl
def postriderlaw06_PathBack.T9 : Bool × List (List Nat × List Nat) := (true, [([], []), ([0], [0]), ([1], [1]), ([2], [2]), ([2], [2]), ([3, 4, 2], [2, 3, 4]), ([2, 5], [2, 5]), ([6, 2], [6]), ([7], [7]), ([8, 7, 7], [7, 8]), ([7], [7]), ([10, 9, 7], [7, 10]), ([9, 11, 11, 7], [7, 9, 11]), ([12, 7], [7, 12]), ([7, 13], [7, 13])])
def postriderlaw06_PathBack.B9 : List Nat := [0, 1, 3, 7, 7, 31, 63, 127, 255, 511, 255, 2047, 4095, 8191, 16383]
theorem postriderlaw06_PathBack.tab9 : rtab .any (opsOf Tryz.f4 9) = postriderlaw06_PathBack.T9 := by kernel_rfl
theorem postriderlaw06_PathBack.bits9 : waitsOk postriderlaw06_PathBack.T9.2 postriderlaw06_PathBack.B9 = true := by kernel_rfl
def postriderlaw06_PathBack.T17 : Bool × List (List Nat × List Nat) := (true, [([], []), ([0], [0]), ([1], [1]), ([2], [2]), ([2], [2]), ([3, 4, 2], [2, 3, 4]), ([2, 5], [2, 5]), ([6, 2], [6]), ([7], [7]), ([8, 7, 7], [7, 8]), ([7], [7]), ([10, 9, 7], [7, 10]), ([9, 11, 11, 7], [7, 9, 11]), ([12, 7], [7, 12]), ([7, 13], [7, 13])])
def postriderlaw06_PathBack.B17 : List Nat := [0, 1, 3, 7, 7, 31, 63, 127, 255, 511, 255, 2047, 4095, 8191, 16383]
theorem postriderlaw06_PathBack.tab17 : rtab .any (opsOf Tryz.f4 17) = postriderlaw06_PathBack.T17 := by kernel_rfl
theorem postriderlaw06_PathBack.bits17 : waitsOk postriderlaw06_PathBack.T17.2 postriderlaw06_PathBack.B17 = true := by kernel_rfl
def postriderlaw06_PathBack.T25 : Bool × List (List Nat × List Nat) := (true, [([], []), ([], []), ([0, 1], [0, 1]), ([2, 2], [2]), ([3], [3]), ([4, 3], [3, 4]), ([3], [3]), ([6, 3], [3, 6]), ([7, 3], [3, 7]), ([5, 8, 3], [3, 5, 8]), ([3, 9], [3, 9]), ([10, 3], [10]), ([11], [11]), ([12, 11], [11, 12]), ([11, 13], [11, 13]), ([14, 11], [14]), ([15], [15]), ([16, 15], [15, 16]), ([15, 17], [15, 17]), ([18, 15], [18]), ([19], [19]), ([20, 19, 19], [19, 20]), ([19], [19]), ([22, 21, 19], [19, 22]), ([21, 23, 23, 19], [19, 21, 23]), ([19, 24], [19, 24]), ([25, 24], [25]), ([26, 26], [26]), ([26, 27], [26, 27]), ([28, 27, 0, 1, 2, 3, 4, 5, 6, 7, 8, 9, 10, 11, 12, 13, 14, 15, 16, 17, 18, 19, 20, 21, 22, 23, 24, 25, 26, 27, 28], [28])])
def postriderlaw06_PathBack.B25 : List Nat := [0, 0, 3, 7, 15, 31, 15, 79, 207, 511, 1023, 2047, 4095, 8191, 16383, 32767, 65535, 131071, 262143, 524287, 1048575, 2097151, 1048575, 8388607, 16777215, 33554431, 67108863, 134217727, 268435455, 536870911]
theorem postriderlaw06_PathBack.tab25 : rtab .any (opsOf Tryz.f4 25) = postriderlaw06_PathBack.T25 := by kernel_rfl
theorem postriderlaw06_PathBack.bits25 : waitsOk postriderlaw06_PathBack.T25.2 postriderlaw06_PathBack.B25 = true := by kernel_rfl
set_option maxHeartbeats 8000000 in
set_option maxRecDepth 100000 in
theorem postriderlaw06_PathBack.calls (k : Nat) (a0_0 : ByteArray) (a0_1 : ByteArray) (a1 : ByteArray) (r : Bool) (w : World) (hG : Glob w) (hT : r = true) (h : postriderlaw06_PathBack.f k a0_0 a0_1 a1 = some r) :
  Calls Tryz.prog 4 #[.agg #[.string a0_0, .string a0_1], .string a1] w fun e w' => e = .returned (.bool r) ∧ Below w.heap.size w w' := by
 have hu24 := Tryz.underlying24
 have hu26 := Tryz.underlying26
 have HB := Aside0.mk (Below.refl w.heap.size w)
 have HG := Aside0.mk hG
 clear hG
 have HT_r := Aside0.mk hT
 clear hT
 have H : (if 0 ≤ (mn (a0_0.size : Int) 300) then (if (mn (a0_0.size : Int) 300) ≤ (a0_0.size : Int) then (if 0 ≤ (mn (a0_1.size : Int) 300) then (if (mn (a0_1.size : Int) 300) ≤ (a0_1.size : Int) then (if 0 ≤ (mn (a1.size : Int) 300) then (if (mn (a1.size : Int) 300) ≤ (a1.size : Int) then ((path_Path_Text.f k false false ([] : List ByteArray) (a0_0.extract 0 ((mn (a0_0.size : Int) 300) : Int).toNat) (a0_1.extract 0 ((mn (a0_1.size : Int) 300) : Int).toNat)).bind fun t356 => ((addr_May.f (a0_0.extract 0 ((mn (a0_0.size : Int) 300) : Int).toNat) (a0_1.extract 0 ((mn (a0_1.size : Int) 300) : Int).toNat)).bind fun t357 => (if t357 = true then (if t356.size + (a1.extract 0 ((mn (a1.size : Int) 300) : Int).toNat).size ≤ 9223372036854775807 then ((path_Parse.f k (t356 ++ (a1.extract 0 ((mn (a1.size : Int) 300) : Int).toNat))).bind fun bt358 => (if (t356.size : Int) > 256 then (if bt358.2.2.2.2.2.2 = 3 then ((postriderlaw06_tells.f k).bind fun t368 => (some t368)) else (some false)) else (if bt358.2.2.2.2.2.2 = 0 then (if bt358.2.2.2.2.2.1.toList = (a1.extract 0 ((mn (a1.size : Int) 300) : Int).toNat).toList then ((postriderlaw06_Of.f bt358.1 bt358.2.1 bt358.2.2.1 bt358.2.2.2.1 bt358.2.2.2.2.1).bind fun bt369 => ((postriderlaw06_Of.f false false ([] : List ByteArray) (a0_0.extract 0 ((mn (a0_0.size : Int) 300) : Int).toNat) (a0_1.extract 0 ((mn (a0_1.size : Int) 300) : Int).toNat)).bind fun bt376 => ((postriderlaw06_Like.f k bt369.1 bt369.2.1 bt369.2.2.1 bt369.2.2.2.1 bt369.2.2.2.2 bt376.1 bt376.2.1 bt376.2.2.1 bt376.2.2.2.1 bt376.2.2.2.2).bind fun t383 => (if t383 = true then (postriderlaw06_PathBack.j0 k (a1.extract 0 ((mn (a1.size : Int) 300) : Int).toNat)) else (some false))))) else (some false)) else (some false)))) else (none)) else (if t356.toList = ([] : List UInt8) then (postriderlaw06_PathBack.j0 k (a1.extract 0 ((mn (a1.size : Int) 300) : Int).toNat)) else (some false))))) else (none)) else (none)) else (none)) else (none)) else (none)) else (none)) = some r := h
 clear h
 obtain ⟨ji3, hji3⟩ : ∃ j_ : Int, (mn (a0_0.size : Int) 300) = j_ := ⟨_, rfl⟩
 replace H : (if 0 ≤ (ji3) then (if (ji3) ≤ (a0_0.size : Int) then (if 0 ≤ (mn (a0_1.size : Int) 300) then (if (mn (a0_1.size : Int) 300) ≤ (a0_1.size : Int) then (if 0 ≤ (mn (a1.size : Int) 300) then (if (mn (a1.size : Int) 300) ≤ (a1.size : Int) then ((path_Path_Text.f k false false ([] : List ByteArray) (a0_0.extract 0 ((ji3) : Int).toNat) (a0_1.extract 0 ((mn (a0_1.size : Int) 300) : Int).toNat)).bind fun t356 => ((addr_May.f (a0_0.extract 0 ((ji3) : Int).toNat) (a0_1.extract 0 ((mn (a0_1.size : Int) 300) : Int).toNat)).bind fun t357 => (if t357 = true then (if t356.size + (a1.extract 0 ((mn (a1.size : Int) 300) : Int).toNat).size ≤ 9223372036854775807 then ((path_Parse.f k (t356 ++ (a1.extract 0 ((mn (a1.size : Int) 300) : Int).toNat))).bind fun bt358 => (if (t356.size : Int) > 256 then (if bt358.2.2.2.2.2.2 = 3 then ((postriderlaw06_tells.f k).bind fun t368 => (some t368)) else (some false)) else (if bt358.2.2.2.2.2.2 = 0 then (if bt358.2.2.2.2.2.1.toList = (a1.extract 0 ((mn (a1.size : Int) 300) : Int).toNat).toList then ((postriderlaw06_Of.f bt358.1 bt358.2.1 bt358.2.2.1 bt358.2.2.2.1 bt358.2.2.2.2.1).bind fun bt369 => ((postriderlaw06_Of.f false false ([] : List ByteArray) (a0_0.extract 0 ((ji3) : Int).toNat) (a0_1.extract 0 ((mn (a0_1.size : Int) 300) : Int).toNat)).bind fun bt376 => ((postriderlaw06_Like.f k bt369.1 bt369.2.1 bt369.2.2.1 bt369.2.2.2.1 bt369.2.2.2.2 bt376.1 bt376.2.1 bt376.2.2.1 bt376.2.2.2.1 bt376.2.2.2.2).bind fun t383 => (if t383 = true then (postriderlaw06_PathBack.j0 k (a1.extract 0 ((mn (a1.size : Int) 300) : Int).toNat)) else (some false))))) else (some false)) else (some false)))) else (none)) else (if t356.toList = ([] : List UInt8) then (postriderlaw06_PathBack.j0 k (a1.extract 0 ((mn (a1.size : Int) 300) : Int).toNat)) else (some false))))) else (none)) else (none)) else (none)) else (none)) else (none)) else (none)) = some r := by first | (rw [hji3] at H; exact H) | (simp only [hji3] at H ⊢; exact H)
 (try (have hji3h : ji3 ≤ 300 := by (rw [← hji3]; unfold mn; (repeat' split) <;> omega)))
 (try (have hji3g : ji3 ≤ 64 := by omega))
 (try (have hji3l : 0 ≤ ji3 := by (rw [← hji3]; unfold mn; (repeat' split) <;> omega)))
 (try (have hji3m : 0 ≤ ji3 := by omega))
 have hji3_ : (if 300 < (a0_0.size : Int) then 300 else (a0_0.size : Int)) = ji3 := hji3
 by_cases c4 : 0 ≤ (ji3)
 rotate_left
 ·rw [if_neg c4] at H
  exact ab H
 rw [if_pos c4] at H
 have c4b0 := eq_true c4
 have c4b1 : decide (0 ≤ (ji3)) = true := decide_eq_true c4
 clear c4
 by_cases c5 : (ji3) ≤ (a0_0.size : Int)
 rotate_left
 ·rw [if_neg c5] at H
  exact ab H
 rw [if_pos c5] at H
 have c5b0 := eq_true c5
 have c5b1 : decide ((ji3) ≤ (a0_0.size : Int)) = true := decide_eq_true c5
 clear c5
 obtain ⟨js6, hjs6⟩ : ∃ j_ : ByteArray, (a0_0.extract 0 ((ji3) : Int).toNat) = j_ := ⟨_, rfl⟩
 replace H : (if 0 ≤ (mn (a0_1.size : Int) 300) then (if (mn (a0_1.size : Int) 300) ≤ (a0_1.size : Int) then (if 0 ≤ (mn (a1.size : Int) 300) then (if (mn (a1.size : Int) 300) ≤ (a1.size : Int) then ((path_Path_Text.f k false false ([] : List ByteArray) js6 (a0_1.extract 0 ((mn (a0_1.size : Int) 300) : Int).toNat)).bind fun t356 => ((addr_May.f js6 (a0_1.extract 0 ((mn (a0_1.size : Int) 300) : Int).toNat)).bind fun t357 => (if t357 = true then (if t356.size + (a1.extract 0 ((mn (a1.size : Int) 300) : Int).toNat).size ≤ 9223372036854775807 then ((path_Parse.f k (t356 ++ (a1.extract 0 ((mn (a1.size : Int) 300) : Int).toNat))).bind fun bt358 => (if (t356.size : Int) > 256 then (if bt358.2.2.2.2.2.2 = 3 then ((postriderlaw06_tells.f k).bind fun t368 => (some t368)) else (some false)) else (if bt358.2.2.2.2.2.2 = 0 then (if bt358.2.2.2.2.2.1.toList = (a1.extract 0 ((mn (a1.size : Int) 300) : Int).toNat).toList then ((postriderlaw06_Of.f bt358.1 bt358.2.1 bt358.2.2.1 bt358.2.2.2.1 bt358.2.2.2.2.1).bind fun bt369 => ((postriderlaw06_Of.f false false ([] : List ByteArray) js6 (a0_1.extract 0 ((mn (a0_1.size : Int) 300) : Int).toNat)).bind fun bt376 => ((postriderlaw06_Like.f k bt369.1 bt369.2.1 bt369.2.2.1 bt369.2.2.2.1 bt369.2.2.2.2 bt376.1 bt376.2.1 bt376.2.2.1 bt376.2.2.2.1 bt376.2.2.2.2).bind fun t383 => (if t383 = true then (postriderlaw06_PathBack.j0 k (a1.extract 0 ((mn (a1.size : Int) 300) : Int).toNat)) else (some false))))) else (some false)) else (some false)))) else (none)) else (if t356.toList = ([] : List UInt8) then (postriderlaw06_PathBack.j0 k (a1.extract 0 ((mn (a1.size : Int) 300) : Int).toNat)) else (some false))))) else (none)) else (none)) else (none)) else (none)) = some r := by first | (rw [hjs6] at H; exact H) | (simp only [hjs6] at H ⊢; exact H)
 obtain ⟨ji7, hji7⟩ : ∃ j_ : Int, (mn (a0_1.size : Int) 300) = j_ := ⟨_, rfl⟩
 replace H : (if 0 ≤ (ji7) then (if (ji7) ≤ (a0_1.size : Int) then (if 0 ≤ (mn (a1.size : Int) 300) then (if (mn (a1.size : Int) 300) ≤ (a1.size : Int) then ((path_Path_Text.f k false false ([] : List ByteArray) js6 (a0_1.extract 0 ((ji7) : Int).toNat)).bind fun t356 => ((addr_May.f js6 (a0_1.extract 0 ((ji7) : Int).toNat)).bind fun t357 => (if t357 = true then (if t356.size + (a1.extract 0 ((mn (a1.size : Int) 300) : Int).toNat).size ≤ 9223372036854775807 then ((path_Parse.f k (t356 ++ (a1.extract 0 ((mn (a1.size : Int) 300) : Int).toNat))).bind fun bt358 => (if (t356.size : Int) > 256 then (if bt358.2.2.2.2.2.2 = 3 then ((postriderlaw06_tells.f k).bind fun t368 => (some t368)) else (some false)) else (if bt358.2.2.2.2.2.2 = 0 then (if bt358.2.2.2.2.2.1.toList = (a1.extract 0 ((mn (a1.size : Int) 300) : Int).toNat).toList then ((postriderlaw06_Of.f bt358.1 bt358.2.1 bt358.2.2.1 bt358.2.2.2.1 bt358.2.2.2.2.1).bind fun bt369 => ((postriderlaw06_Of.f false false ([] : List ByteArray) js6 (a0_1.extract 0 ((ji7) : Int).toNat)).bind fun bt376 => ((postriderlaw06_Like.f k bt369.1 bt369.2.1 bt369.2.2.1 bt369.2.2.2.1 bt369.2.2.2.2 bt376.1 bt376.2.1 bt376.2.2.1 bt376.2.2.2.1 bt376.2.2.2.2).bind fun t383 => (if t383 = true then (postriderlaw06_PathBack.j0 k (a1.extract 0 ((mn (a1.size : Int) 300) : Int).toNat)) else (some false))))) else (some false)) else (some false)))) else (none)) else (if t356.toList = ([] : List UInt8) then (postriderlaw06_PathBack.j0 k (a1.extract 0 ((mn (a1.size : Int) 300) : Int).toNat)) else (some false))))) else (none)) else (none)) else (none)) else (none)) = some r := by first | (rw [hji7] at H; exact H) | (simp only [hji7] at H ⊢; exact H)
 (try (have hji7h : ji7 ≤ 300 := by (rw [← hji7]; unfold mn; (repeat' split) <;> omega)))
 (try (have hji7g : ji7 ≤ 64 := by omega))
 (try (have hji7l : 0 ≤ ji7 := by (rw [← hji7]; unfold mn; (repeat' split) <;> omega)))
 (try (have hji7m : 0 ≤ ji7 := by omega))
 have hji7_ : (if 300 < (a0_1.size : Int) then 300 else (a0_1.size : Int)) = ji7 := hji7
 by_cases c8 : 0 ≤ (ji7)
 rotate_left
 ·rw [if_neg c8] at H
  exact ab H
 rw [if_pos c8] at H
 have c8b0 := eq_true c8
 have c8b1 : decide (0 ≤ (ji7)) = true := decide_eq_true c8
 clear c8
 by_cases c9 : (ji7) ≤ (a0_1.size : Int)
 rotate_left
 ·rw [if_neg c9] at H
  exact ab H
 rw [if_pos c9] at H
 have c9b0 := eq_true c9
 have c9b1 : decide ((ji7) ≤ (a0_1.size : Int)) = true := decide_eq_true c9
 clear c9
 obtain ⟨js10, hjs10⟩ : ∃ j_ : ByteArray, (a0_1.extract 0 ((ji7) : Int).toNat) = j_ := ⟨_, rfl⟩
 replace H : (if 0 ≤ (mn (a1.size : Int) 300) then (if (mn (a1.size : Int) 300) ≤ (a1.size : Int) then ((path_Path_Text.f k false false ([] : List ByteArray) js6 js10).bind fun t356 => ((addr_May.f js6 js10).bind fun t357 => (if t357 = true then (if t356.size + (a1.extract 0 ((mn (a1.size : Int) 300) : Int).toNat).size ≤ 9223372036854775807 then ((path_Parse.f k (t356 ++ (a1.extract 0 ((mn (a1.size : Int) 300) : Int).toNat))).bind fun bt358 => (if (t356.size : Int) > 256 then (if bt358.2.2.2.2.2.2 = 3 then ((postriderlaw06_tells.f k).bind fun t368 => (some t368)) else (some false)) else (if bt358.2.2.2.2.2.2 = 0 then (if bt358.2.2.2.2.2.1.toList = (a1.extract 0 ((mn (a1.size : Int) 300) : Int).toNat).toList then ((postriderlaw06_Of.f bt358.1 bt358.2.1 bt358.2.2.1 bt358.2.2.2.1 bt358.2.2.2.2.1).bind fun bt369 => ((postriderlaw06_Of.f false false ([] : List ByteArray) js6 js10).bind fun bt376 => ((postriderlaw06_Like.f k bt369.1 bt369.2.1 bt369.2.2.1 bt369.2.2.2.1 bt369.2.2.2.2 bt376.1 bt376.2.1 bt376.2.2.1 bt376.2.2.2.1 bt376.2.2.2.2).bind fun t383 => (if t383 = true then (postriderlaw06_PathBack.j0 k (a1.extract 0 ((mn (a1.size : Int) 300) : Int).toNat)) else (some false))))) else (some false)) else (some false)))) else (none)) else (if t356.toList = ([] : List UInt8) then (postriderlaw06_PathBack.j0 k (a1.extract 0 ((mn (a1.size : Int) 300) : Int).toNat)) else (some false))))) else (none)) else (none)) = some r := by first | (rw [hjs10] at H; exact H) | (simp only [hjs10] at H ⊢; exact H)
 obtain ⟨ji11, hji11⟩ : ∃ j_ : Int, (mn (a1.size : Int) 300) = j_ := ⟨_, rfl⟩
 replace H : (if 0 ≤ (ji11) then (if (ji11) ≤ (a1.size : Int) then ((path_Path_Text.f k false false ([] : List ByteArray) js6 js10).bind fun t356 => ((addr_May.f js6 js10).bind fun t357 => (if t357 = true then (if t356.size + (a1.extract 0 ((ji11) : Int).toNat).size ≤ 9223372036854775807 then ((path_Parse.f k (t356 ++ (a1.extract 0 ((ji11) : Int).toNat))).bind fun bt358 => (if (t356.size : Int) > 256 then (if bt358.2.2.2.2.2.2 = 3 then ((postriderlaw06_tells.f k).bind fun t368 => (some t368)) else (some false)) else (if bt358.2.2.2.2.2.2 = 0 then (if bt358.2.2.2.2.2.1.toList = (a1.extract 0 ((ji11) : Int).toNat).toList then ((postriderlaw06_Of.f bt358.1 bt358.2.1 bt358.2.2.1 bt358.2.2.2.1 bt358.2.2.2.2.1).bind fun bt369 => ((postriderlaw06_Of.f false false ([] : List ByteArray) js6 js10).bind fun bt376 => ((postriderlaw06_Like.f k bt369.1 bt369.2.1 bt369.2.2.1 bt369.2.2.2.1 bt369.2.2.2.2 bt376.1 bt376.2.1 bt376.2.2.1 bt376.2.2.2.1 bt376.2.2.2.2).bind fun t383 => (if t383 = true then (postriderlaw06_PathBack.j0 k (a1.extract 0 ((ji11) : Int).toNat)) else (some false))))) else (some false)) else (some false)))) else (none)) else (if t356.toList = ([] : List UInt8) then (postriderlaw06_PathBack.j0 k (a1.extract 0 ((ji11) : Int).toNat)) else (some false))))) else (none)) else (none)) = some r := by first | (rw [hji11] at H; exact H) | (simp only [hji11] at H ⊢; exact H)
 (try (have hji11h : ji11 ≤ 300 := by (rw [← hji11]; unfold mn; (repeat' split) <;> omega)))
 (try (have hji11g : ji11 ≤ 64 := by omega))
 (try (have hji11l : 0 ≤ ji11 := by (rw [← hji11]; unfold mn; (repeat' split) <;> omega)))
 (try (have hji11m : 0 ≤ ji11 := by omega))
 have hji11_ : (if 300 < (a1.size : Int) then 300 else (a1.size : Int)) = ji11 := hji11
 by_cases c12 : 0 ≤ (ji11)
 rotate_left
 ·rw [if_neg c12] at H
  exact ab H
 rw [if_pos c12] at H
 have c12b0 := eq_true c12
 have c12b1 : decide (0 ≤ (ji11)) = true := decide_eq_true c12
 clear c12
 by_cases c13 : (ji11) ≤ (a1.size : Int)
 rotate_left
 ·rw [if_neg c13] at H
  exact ab H
 rw [if_pos c13] at H
 have c13b0 := eq_true c13
 have c13b1 : decide ((ji11) ≤ (a1.size : Int)) = true := decide_eq_true c13
 clear c13
 obtain ⟨js14, hjs14⟩ : ∃ j_ : ByteArray, (a1.extract 0 ((ji11) : Int).toNat) = j_ := ⟨_, rfl⟩
 replace H : ((path_Path_Text.f k false false ([] : List ByteArray) js6 js10).bind fun t356 => ((addr_May.f js6 js10).bind fun t357 => (if t357 = true then (if t356.size + js14.size ≤ 9223372036854775807 then ((path_Parse.f k (t356 ++ js14)).bind fun bt358 => (if (t356.size : Int) > 256 then (if bt358.2.2.2.2.2.2 = 3 then ((postriderlaw06_tells.f k).bind fun t368 => (some t368)) else (some false)) else (if bt358.2.2.2.2.2.2 = 0 then (if bt358.2.2.2.2.2.1.toList = js14.toList then ((postriderlaw06_Of.f bt358.1 bt358.2.1 bt358.2.2.1 bt358.2.2.2.1 bt358.2.2.2.2.1).bind fun bt369 => ((postriderlaw06_Of.f false false ([] : List ByteArray) js6 js10).bind fun bt376 => ((postriderlaw06_Like.f k bt369.1 bt369.2.1 bt369.2.2.1 bt369.2.2.2.1 bt369.2.2.2.2 bt376.1 bt376.2.1 bt376.2.2.1 bt376.2.2.2.1 bt376.2.2.2.2).bind fun t383 => (if t383 = true then (postriderlaw06_PathBack.j0 k js14) else (some false))))) else (some false)) else (some false)))) else (none)) else (if t356.toList = ([] : List UInt8) then (postriderlaw06_PathBack.j0 k js14) else (some false))))) = some r := by first | (rw [hjs14] at H; exact H) | (simp only [hjs14] at H ⊢; exact H)
 obtain ⟨t356, A150, H⟩ := Option.bind_eq_some_iff.mp H
 replace H : ((addr_May.f js6 js10).bind fun t357 => (if t357 = true then (if t356.size + js14.size ≤ 9223372036854775807 then ((path_Parse.f k (t356 ++ js14)).bind fun bt358 => (if (t356.size : Int) > 256 then (if bt358.2.2.2.2.2.2 = 3 then ((postriderlaw06_tells.f k).bind fun t368 => (some t368)) else (some false)) else (if bt358.2.2.2.2.2.2 = 0 then (if bt358.2.2.2.2.2.1.toList = js14.toList then ((postriderlaw06_Of.f bt358.1 bt358.2.1 bt358.2.2.1 bt358.2.2.2.1 bt358.2.2.2.2.1).bind fun bt369 => ((postriderlaw06_Of.f false false ([] : List ByteArray) js6 js10).bind fun bt376 => ((postriderlaw06_Like.f k bt369.1 bt369.2.1 bt369.2.2.1 bt369.2.2.2.1 bt369.2.2.2.2 bt376.1 bt376.2.1 bt376.2.2.1 bt376.2.2.2.1 bt376.2.2.2.2).bind fun t383 => (if t383 = true then (postriderlaw06_PathBack.j0 k js14) else (some false))))) else (some false)) else (some false)))) else (none)) else (if t356.toList = ([] : List UInt8) then (postriderlaw06_PathBack.j0 k js14) else (some false)))) = some r := H
 have A15 := Aside0.mk A150
 clear A150
 obtain ⟨t357, A160, H⟩ := Option.bind_eq_some_iff.mp H
 replace H : (if t357 = true then (if t356.size + js14.size ≤ 9223372036854775807 then ((path_Parse.f k (t356 ++ js14)).bind fun bt358 => (if (t356.size : Int) > 256 then (if bt358.2.2.2.2.2.2 = 3 then ((postriderlaw06_tells.f k).bind fun t368 => (some t368)) else (some false)) else (if bt358.2.2.2.2.2.2 = 0 then (if bt358.2.2.2.2.2.1.toList = js14.toList then ((postriderlaw06_Of.f bt358.1 bt358.2.1 bt358.2.2.1 bt358.2.2.2.1 bt358.2.2.2.2.1).bind fun bt369 => ((postriderlaw06_Of.f false false ([] : List ByteArray) js6 js10).bind fun bt376 => ((postriderlaw06_Like.f k bt369.1 bt369.2.1 bt369.2.2.1 bt369.2.2.2.1 bt369.2.2.2.2 bt376.1 bt376.2.1 bt376.2.2.1 bt376.2.2.2.1 bt376.2.2.2.2).bind fun t383 => (if t383 = true then (postriderlaw06_PathBack.j0 k js14) else (some false))))) else (some false)) else (some false)))) else (none)) else (if t356.toList = ([] : List UInt8) then (postriderlaw06_PathBack.j0 k js14) else (some false))) = some r := H
 have A16 := Aside0.mk A160
 clear A160
 have HC17 := Aside0.mk H
 clear H
 go_enter Tryz.func4, Tryz.ntmps4
 try go_wp2_with (first | ((with_reducible refine gate_dst (N := 2) rfl ?_); (try (refine gate_guard (by rfl) ?_; dsimp only)); refine box_event ?hg (N := 2) ?hd (cs := #[.string a0_0, .string a0_1]) (t := 24) ?hr ?_; (case hd => rfl); (case hg => rfl); (case hr => first | (go_simp; done) | (go_simp; rfl)); intro gb354 hg w18 hbox hb; have BK354 := Aside0.mk (hbox); have GW354 := Aside0.mk (gz hg : w.heap.size ≤ gb354); have GE354 := Aside0.mk (gz hg : w.heap.size ≤ gb354); replace HB := Aside0.mk (below_step bl hb); clear hb hbox hg))
 replace BK354 := Aside0.mk (blk_drew BK354.out)
 replace HB := Aside0.mk (below_drew1 HB.out)
 refine start_ (n := 16) (S := fun w' => w'.cell? ⟨gb354, 0, none⟩ = some (.string a0_0) ∧ w'.cell? ⟨gb354, 1, none⟩ = some (.string a0_1)) (ds := [15]) #[false, false, false, false, false, false, false, false, false, false, false, false, false, false, false, false] kf rfl rfl ⟨(blk_cell BK354.out 0).trans rfl, (blk_cell BK354.out 1).trans rfl⟩ (fun hHeld => ?_); refine with_tabW postriderlaw06_PathBack.tab1 postriderlaw06_PathBack.bits1 (fun HT_ HW_ => ?_)
 generalize w18.drew = w19 at BK354 HB hHeld ⊢
 refine pure_ (i := 0) (N := some 21) (v := ?_) (a' := ?_) #[true, false, false, false, false, false, false, false, false, false, false, false, false, false, false, false] rfl rfl (any_of HT_.out kf) (fun _ _ _ h => h) (Or.inl ⟨by rfl, ?_⟩) ?_ ?_
 rotate_left
 ·intro w'
  go_simp
  with_reducible rfl
 rotate_left
 ·simp only [Act.put, sA, sB, sC, i64_w, i32_w]
  rfl
 refine pure_ (i := 2) (N := some 23) (v := ?_) (a' := ?_) #[true, false, true, false, false, false, false, false, false, false, false, false, false, false, false, false] rfl rfl (any_of HT_.out kf) (fun _ _ _ h => h) (Or.inl ⟨by rfl, ?_⟩) ?_ ?_
 rotate_left
 ·intro w'
  go_simp
  with_reducible rfl
 rotate_left
 ·simp only [Act.put, sA, sB, sC, i64_w, i32_w]
  rfl
 refine pure_ (i := 7) (N := some 28) (v := ?_) (a' := ?_) #[true, false, true, false, false, false, false, true, false, false, false, false, false, false, false, false] rfl rfl (any_of HT_.out kf) (fun _ _ _ h => h) (Or.inl ⟨by rfl, ?_⟩) ?_ ?_
 rotate_left
 ·intro w'
  go_simp
  with_reducible rfl
 rotate_left
 ·simp only [Act.put, sA, sB, sC, i64_w, i32_w]
  rfl
 refine pure_ (i := 9) (N := some 30) (v := ?_) (a' := ?_) #[true, false, true, false, false, false, false, true, false, true, false, false, false, false, false, false] rfl rfl (any_of HT_.out kf) (fun _ _ _ h => h) (Or.inl ⟨by rfl, ?_⟩) ?_ ?_
 rotate_left
 ·intro w'
  go_simp
  with_reducible rfl
 rotate_left
 ·simp only [Act.put, sA, sB, sC, i64_w, i32_w]
  rfl
 refine take_ (i := 1) (N := some 22) (v := ?_) (a' := ?_) #[true, true, true, false, false, false, false, true, false, true, false, false, false, false, false, false] rfl rfl (take_ofW HT_.out HW_.out kf) (fun _ _ _ h => h) (Or.inl ⟨by rfl, ?_⟩) hHeld ?_ ?_
 rotate_left
 ·rintro w' ⟨s0, s1⟩
  go_simp
  with_reducible rfl
 rotate_left
 ·simp only [Act.put, sA, sB, sC, i64_w, i32_w]
  rfl
 refine take_ (i := 3) (N := some 24) (v := ?_) (a' := ?_) #[true, true, true, true, false, false, false, true, false, true, false, false, false, false, false, false] rfl rfl (take_ofW HT_.out HW_.out kf) (fun _ _ _ h => h) (Or.inl ⟨by rfl, ?_⟩) hHeld ?_ ?_
 rotate_left
 ·rintro w' ⟨s0, s1⟩
  go_simp
  with_reducible rfl
 rotate_left
 ·simp only [Act.put, sA, sB, sC, i64_w, i32_w]
  rfl
 refine pure_ (i := 4) (N := some 25) (v := ?_) (a' := ?_) #[true, true, true, true, true, false, false, true, false, true, false, false, false, false, false, false] rfl rfl (any_of HT_.out kf) (fun _ _ _ h => h) (Or.inl ⟨by rfl, ?_⟩) ?_ ?_
 rotate_left
 ·intro w'
  go_simp
  with_reducible rfl
 rotate_left
 ·simp only [Act.put, sA, sB, sC, i64_w, i32_w]
  rfl
 refine pure_ (i := 5) (N := some 26) (v := ?_) (a' := ?_) #[true, true, true, true, true, true, false, true, false, true, false, false, false, false, false, false] rfl rfl (any_of HT_.out kf) (fun _ _ _ h => h) (Or.inl ⟨by rfl, ?_⟩) ?_ ?_
 rotate_left
 ·intro w'
  go_simp
  with_reducible rfl
 rotate_left
 ·simp only [Act.put, sA, sB, sC, i64_w, i32_w]
  rfl
 refine pure_ (i := 6) (N := some 27) (v := ?_) (a' := ?_) #[true, true, true, true, true, true, true, true, false, true, false, false, false, false, false, false] rfl rfl (any_of HT_.out kf) (fun _ _ _ h => h) (Or.inl ⟨by rfl, ?_⟩) ?_ ?_
 rotate_left
 ·intro w'
  go_simp
  with_reducible rfl
 rotate_left
 ·simp only [Act.put, sA, sB, sC, i64_w, i32_w]
  rfl
 refine take_ (i := 8) (N := some 29) (v := ?_) (a' := ?_) #[true, true, true, true, true, true, true, true, true, true, false, false, false, false, false, false] rfl rfl (take_ofW HT_.out HW_.out kf) (fun _ _ _ h => h) (Or.inl ⟨by rfl, ?_⟩) hHeld ?_ ?_
 rotate_left
 ·rintro w' ⟨s0, s1⟩
  go_simp
  with_reducible rfl
 rotate_left
 ·simp only [Act.put, sA, sB, sC, i64_w, i32_w]
  rfl
 refine take_ (i := 10) (N := some 31) (v := ?_) (a' := ?_) #[true, true, true, true, true, true, true, true, true, true, true, false, false, false, false, false] rfl rfl (take_ofW HT_.out HW_.out kf) (fun _ _ _ h => h) (Or.inl ⟨by rfl, ?_⟩) hHeld ?_ ?_
 rotate_left
 ·rintro w' ⟨s0, s1⟩
  go_simp
  with_reducible rfl
 rotate_left
 ·simp only [Act.put, sA, sB, sC, i64_w, i32_w]
  rfl
 refine pure_ (i := 11) (N := some 32) (v := ?_) (a' := ?_) #[true, true, true, true, true, true, true, true, true, true, true, true, false, false, false, false] rfl rfl (any_of HT_.out kf) (fun _ _ _ h => h) (Or.inl ⟨by rfl, ?_⟩) ?_ ?_
 rotate_left
 ·intro w'
  go_simp
  with_reducible rfl
 rotate_left
 ·simp only [Act.put, sA, sB, sC, i64_w, i32_w]
  rfl
 refine pure_ (i := 12) (N := some 33) (v := ?_) (a' := ?_) #[true, true, true, true, true, true, true, true, true, true, true, true, true, false, false, false] rfl rfl (any_of HT_.out kf) (fun _ _ _ h => h) (Or.inl ⟨by rfl, ?_⟩) ?_ ?_
 rotate_left
 ·intro w'
  go_simp
  with_reducible rfl
 rotate_left
 ·simp only [Act.put, sA, sB, sC, i64_w, i32_w]
  rfl
 refine pure_ (i := 13) (N := some 34) (v := ?_) (a' := ?_) #[true, true, true, true, true, true, true, true, true, true, true, true, true, true, false, false] rfl rfl (any_of HT_.out kf) (fun _ _ _ h => h) (Or.inl ⟨by rfl, ?_⟩) ?_ ?_
 rotate_left
 ·intro w'
  go_simp
  with_reducible rfl
 rotate_left
 ·simp only [Act.put, sA, sB, sC, i64_w, i32_w]
  rfl
 refine pure_ (i := 14) (N := some 35) (v := ?_) (a' := ?_) #[true, true, true, true, true, true, true, true, true, true, true, true, true, true, true, false] rfl rfl (any_of HT_.out kf) (fun _ _ _ h => h) (Or.inl ⟨by rfl, ?_⟩) ?_ ?_
 rotate_left
 ·intro w'
  go_simp
  with_reducible rfl
 rotate_left
 ·simp only [Act.put, sA, sB, sC, i64_w, i32_w]
  rfl
 refine last_ (i := 15) (N := none) #[true, true, true, true, true, true, true, true, true, true, true, true, true, true, true, true] rfl rfl (one_of HT_.out kf) (by decide) (fun K hK => ?_)
 have hs20 : w19.cell? ⟨gb354, 0, none⟩ = some (.string a0_0) := (blk_cell BK354.out 0).trans rfl
 have hfs20 := blk_frozen BK354.out 0
 have hs21 : w19.cell? ⟨gb354, 1, none⟩ = some (.string a0_1) := (blk_cell BK354.out 1).trans rfl
 have hfs21 := blk_frozen BK354.out 1
 refine skip_ (w1 := ?_) (by rfl) rfl ?_ ?_
 rotate_left
 ·go_simp
  rfl
 refine hK.out _ _ ?_
 clear hK K
 refine done_ (done_of HT_.out kf) ?_
 have hcz22_0 := cz BK354.out 0 (.string a0_0)
 have hcz22_1 := cz BK354.out 1 (.string a0_1)
 have hfz22_0 := blk_frozen BK354.out 0
 have hfz22_1 := blk_frozen BK354.out 1
 go_upto_if 46 with (first | ((with_reducible refine gate_dst (N := 5) rfl ?_); (try (refine gate_guard (by rfl) ?_; dsimp only)); refine box_event ?hg (N := 5) ?hd (cs := #[.bool false, .bool false, .slice none 0 0, .string (⟨#[]⟩ : ByteArray), .string (⟨#[]⟩ : ByteArray)]) (t := 26) ?hr ?_; (case hd => rfl); (case hg => rfl); (case hr => first | (go_simp; done) | (go_simp; rfl)); intro gb355 hg w23 hbox hb; have BK355 := Aside0.mk (hbox); have GW355 := Aside0.mk (gz hg : w.heap.size ≤ gb355); have GE355 := Aside0.mk (gz hg : w.heap.size ≤ gb355); replace HB := Aside0.mk (below_step bl hb); have NB354_355 := Aside0.mk ((by rw [hg]; exact Nat.ne_of_lt (blk_lt (g := gb354) (o := .cells #[.string js6, .string js10] 24 (0, 0)) (by (with_reducible repeat (first | refine blk_drewN ?_ _ | refine blk_drew ?_ | refine blk_alloc ?_ _)); refine blk_put (cs := #[.string js6, .string a0_1]) ?_ 1 _ rfl; (with_reducible repeat (first | refine blk_drewN ?_ _ | refine blk_drew ?_ | refine blk_alloc ?_ _)); refine blk_put (cs := #[.string a0_0, .string a0_1]) ?_ 0 _ rfl; (with_reducible repeat (first | refine blk_drewN ?_ _ | refine blk_drew ?_ | refine blk_alloc ?_ _)); exact BK354.out)) : gb354 ≠ gb355)); have NB355_354 := Aside0.mk ((by rw [hg]; exact Nat.ne_of_gt (blk_lt (g := gb354) (o := .cells #[.string js6, .string js10] 24 (0, 0)) (by (with_reducible repeat (first | refine blk_drewN ?_ _ | refine blk_drew ?_ | refine blk_alloc ?_ _)); refine blk_put (cs := #[.string js6, .string a0_1]) ?_ 1 _ rfl; (with_reducible repeat (first | refine blk_drewN ?_ _ | refine blk_drew ?_ | refine blk_alloc ?_ _)); refine blk_put (cs := #[.string a0_0, .string a0_1]) ?_ 0 _ rfl; (with_reducible repeat (first | refine blk_drewN ?_ _ | refine blk_drew ?_ | refine blk_alloc ?_ _)); exact BK354.out)) : gb355 ≠ gb354)); replace BK354 := Aside0.mk (blk_below (g := gb354) (o := .cells #[.string js6, .string js10] 24 (0, 0)) (by (with_reducible repeat (first | refine blk_drewN ?_ _ | refine blk_drew ?_ | refine blk_alloc ?_ _)); refine blk_put (cs := #[.string js6, .string a0_1]) ?_ 1 _ rfl; (with_reducible repeat (first | refine blk_drewN ?_ _ | refine blk_drew ?_ | refine blk_alloc ?_ _)); refine blk_put (cs := #[.string a0_0, .string a0_1]) ?_ 0 _ rfl; (with_reducible repeat (first | refine blk_drewN ?_ _ | refine blk_drew ?_ | refine blk_alloc ?_ _)); exact BK354.out) hb); clear hb hbox hg; have hnb24 := NB355_354.out; have hnc24 := NB354_355.out; have hcz25_0 := cz BK355.out 0 (.bool false); have hcz25_1 := cz BK355.out 1 (.bool false); have hcz25_2 := cz BK355.out 2 (.slice none 0 0); have hcz25_3 := cz BK355.out 3 (.string (⟨#[]⟩ : ByteArray)); have hcz25_4 := cz BK355.out 4 (.string (⟨#[]⟩ : ByteArray)); have hfz25_0 := blk_frozen BK355.out 0; have hfz25_1 := blk_frozen BK355.out 1; have hfz25_2 := blk_frozen BK355.out 2; have hfz25_3 := blk_frozen BK355.out 3; have hfz25_4 := blk_frozen BK355.out 4) | ((with_reducible refine gate_callee (f := 8) rfl ?_); refine goesL_ (some 44) rfl rfl Tryz.func8 kf rfl #[.agg #[.bool false, .bool false, .slice none 0 0, .string js6, .string js10]] rfl ml ?_; (refine (path_Path_Text.calls k false false _ _ ([] : List ByteArray) js6 js10 t356 _ ?side1 ?side2 ?side3 A15.out).mono ?_); (case side1 => exact Kd.C_nil _ _); (case side2 => exact Nat.le_refl _); (case side3 => exact Glob.below HG.out bl); rintro e w26 ⟨rfl, hb⟩; refine ⟨_, rfl, ?_⟩; replace BK354 := Aside0.mk (kb BK354.out hb); replace BK355 := Aside0.mk (blk_below (g := gb355) (o := .cells #[.bool false, .bool false, .slice none 0 0, .string js6, .string js10] 26 (0, 0)) (by (with_reducible repeat (first | refine blk_drewN ?_ _ | refine blk_drew ?_ | refine blk_alloc ?_ _)); refine blk_put (cs := #[.bool false, .bool false, .slice none 0 0, .string js6, .string (⟨#[]⟩ : ByteArray)]) ?_ 4 _ rfl; (with_reducible repeat (first | refine blk_drewN ?_ _ | refine blk_drew ?_ | refine blk_alloc ?_ _)); refine blk_put (cs := #[.bool false, .bool false, .slice none 0 0, .string (⟨#[]⟩ : ByteArray), .string (⟨#[]⟩ : ByteArray)]) ?_ 3 _ rfl; (with_reducible repeat (first | refine blk_drewN ?_ _ | refine blk_drew ?_ | refine blk_alloc ?_ _)); refine blk_put (cs := #[.bool false, .bool false, .slice none 0 0, .string (⟨#[]⟩ : ByteArray), .string (⟨#[]⟩ : ByteArray)]) ?_ 2 _ rfl; (with_reducible repeat (first | refine blk_drewN ?_ _ | refine blk_drew ?_ | refine blk_alloc ?_ _)); refine blk_put (cs := #[.bool false, .bool false, .slice none 0 0, .string (⟨#[]⟩ : ByteArray), .string (⟨#[]⟩ : ByteArray)]) ?_ 1 _ rfl; (with_reducible repeat (first | refine blk_drewN ?_ _ | refine blk_drew ?_ | refine blk_alloc ?_ _)); refine blk_put (cs := #[.bool false, .bool false, .slice none 0 0, .string (⟨#[]⟩ : ByteArray), .string (⟨#[]⟩ : ByteArray)]) ?_ 0 _ rfl; (with_reducible repeat (first | refine blk_drewN ?_ _ | refine blk_drew ?_ | refine blk_alloc ?_ _)); exact BK355.out) hb); replace HB := Aside0.mk (below_step bl hb); (try clear hb); (try clear hb2); (try clear hk); (try clear hi); have hcz27_0 := cz BK354.out 0 (.string js6); have hcz27_1 := cz BK354.out 1 (.string js10); have hfz27_0 := blk_frozen BK354.out 0; have hfz27_1 := blk_frozen BK354.out 1) | ((with_reducible refine gate_callee (f := 12) rfl ?_); refine goesL_ (some 46) rfl rfl Tryz.func12 kf rfl #[.agg #[.string js6, .string js10]] rfl ml ?_; (with_reducible refine (addr_May.calls js6 js10 t357 _ ?side1 A16.out).mono ?_); (case side1 => exact Glob.below HG.out bl); rintro e w28 ⟨rfl, hb⟩; refine ⟨_, rfl, ?_⟩; replace BK354 := Aside0.mk (kb BK354.out hb); replace BK355 := Aside0.mk (kb BK355.out hb); replace HB := Aside0.mk (below_step bl hb); (try clear hb); (try clear hb2); (try clear hk); (try clear hi)))
 (try simp only [Act.put, sA, sB, sC])
 go_cut [] (fun wc => ∃ (kq : Nat), Aside0 (postriderlaw06_PathBack.j0 kq js14 = some r) ∧ Aside0 (kq ≤ k) ∧ Aside0 (wc.heap[gb354]? = some (.cells #[.string js6, .string js10] 24 (0, 0))) ∧ Aside0 (wc.heap[gb355]? = some (.cells #[.bool false, .bool false, (.slice none 0 0), .string js6, .string js10] 26 (0, 0))) ∧ Aside0 (Below w.heap.size w wc))
 case first =>
  have H := HC17.out
  clear HC17
  by_cases c29 : t357 = true
  ·subst c29
   replace H : (if t356.size + js14.size ≤ 9223372036854775807 then ((path_Parse.f k (t356 ++ js14)).bind fun bt358 => (if (t356.size : Int) > 256 then (if bt358.2.2.2.2.2.2 = 3 then ((postriderlaw06_tells.f k).bind fun t368 => (some t368)) else (some false)) else (if bt358.2.2.2.2.2.2 = 0 then (if bt358.2.2.2.2.2.1.toList = js14.toList then ((postriderlaw06_Of.f bt358.1 bt358.2.1 bt358.2.2.1 bt358.2.2.2.1 bt358.2.2.2.2.1).bind fun bt369 => ((postriderlaw06_Of.f false false ([] : List ByteArray) js6 js10).bind fun bt376 => ((postriderlaw06_Like.f k bt369.1 bt369.2.1 bt369.2.2.1 bt369.2.2.2.1 bt369.2.2.2.2 bt376.1 bt376.2.1 bt376.2.2.1 bt376.2.2.2.1 bt376.2.2.2.2).bind fun t383 => (if t383 = true then (postriderlaw06_PathBack.j0 k js14) else (some false))))) else (some false)) else (some false)))) else (none)) = some r := by rw [if_pos rfl] at H; exact H
   by_cases c30 : t356.size + js14.size ≤ 9223372036854775807
   rotate_left
   ·rw [if_neg c30] at H
    exact ab H
   rw [if_pos c30] at H
   have c30b0 := eq_true c30
   have c30b1 : decide (t356.size + js14.size ≤ 9223372036854775807) = true := decide_eq_true c30
   try have c30b2 : (9223372036854775807 < t356.size + js14.size) = False := eq_false (Nat.not_lt.2 c30)
   obtain ⟨⟨t358, t359, t360, t363, t364, t365, t366⟩, A310, H⟩ := Option.bind_eq_some_iff.mp H
   replace H : (if (t356.size : Int) > 256 then (if t366 = 3 then ((postriderlaw06_tells.f k).bind fun t368 => (some t368)) else (some false)) else (if t366 = 0 then (if t365.toList = js14.toList then ((postriderlaw06_Of.f t358 t359 t360 t363 t364).bind fun bt369 => ((postriderlaw06_Of.f false false ([] : List ByteArray) js6 js10).bind fun bt376 => ((postriderlaw06_Like.f k bt369.1 bt369.2.1 bt369.2.2.1 bt369.2.2.2.1 bt369.2.2.2.2 bt376.1 bt376.2.1 bt376.2.2.1 bt376.2.2.2.1 bt376.2.2.2.2).bind fun t383 => (if t383 = true then (postriderlaw06_PathBack.j0 k js14) else (some false))))) else (some false)) else (some false))) = some r := H
   have A31 := Aside0.mk A310
   clear A310
   by_cases c32 : (t356.size : Int) > 256
   ·rw [if_pos c32] at H
    have c32b0 : decide (256 < (t356.size : Int)) = true := decide_eq_true c32
    have c32b1 : decide (256 < t356.size) = true := decide_eq_true (by omega)
    clear c32
    (first | rw [c32b0] | (simp only [i64_w, i32_w]; rw [c32b0]) | skip)
    by_cases c33 : t366 = 3
    ·rw [if_pos c33] at H
     have c33b0 : (t366 == 3) = true := beq_iff_eq.mpr c33
     have c33b1 : (t366 != 3) = false := bne_eq_false_iff_eq.mpr c33
     clear c33
     obtain ⟨t368, A340, H⟩ := Option.bind_eq_some_iff.mp H
     replace H : (some t368) = some r := H
     have A34 := Aside0.mk A340
     clear A340
     obtain rfl := Option.some.inj H
     go_wp2_with (first | ((with_reducible refine gate_callee (f := 13) rfl ?_); refine goesL_ (some 51) rfl rfl Tryz.func13 kf rfl #[.string (t356 ++ js14)] rfl ml ?_; (with_reducible refine (path_Parse.calls k (t356 ++ js14) t358 t359 t360 t363 t364 t365 t366 _ ?side1 A31.out).mono ?_); (case side1 => exact Glob.below HG.out bl); rintro e w35 ⟨v361, rfl, ho0, hb⟩; refine ⟨_, rfl, ?_⟩; have HO362 := Aside0.mk (Kd.R_lower ho0 (below_size bl)); replace BK354 := Aside0.mk (kb BK354.out hb); replace BK355 := Aside0.mk (kb BK355.out hb); replace HB := Aside0.mk (below_step bl hb); (try clear hb); (try clear hb2); (try clear hk); (try clear hi); (try clear ho0)) | ((with_reducible refine gate_dst (N := 7) rfl ?_); (try (refine gate_guard (by rfl) ?_; dsimp only)); refine box_event ?hg (N := 7) ?hd (cs := #[.bool false, .bool false, .slice none 0 0, .string (⟨#[]⟩ : ByteArray), .string (⟨#[]⟩ : ByteArray)]) (t := 26) ?hr ?_; (case hd => rfl); (case hg => rfl); (case hr => first | (go_simp; done) | (go_simp; rfl)); intro gb367 hg w36 hbox hb; replace HO362 := Aside0.mk (Kd.R_below (kr HO362.out) hb); have BK367 := Aside0.mk (hbox); have GW367 := Aside0.mk (gz hg : w.heap.size ≤ gb367); have GE367 := Aside0.mk (gz hg : w.heap.size ≤ gb367); replace HB := Aside0.mk (below_step bl hb); have NB354_367 := Aside0.mk (nl hg BK354.out : gb354 ≠ gb367); have NB367_354 := Aside0.mk (ng hg BK354.out : gb367 ≠ gb354); replace BK354 := Aside0.mk (kb BK354.out hb); have NB355_367 := Aside0.mk (nl hg BK355.out : gb355 ≠ gb367); have NB367_355 := Aside0.mk (ng hg BK355.out : gb367 ≠ gb355); replace BK355 := Aside0.mk (kb BK355.out hb); clear hb hbox hg; have hnb37 := NB367_354.out; have hnc37 := NB354_367.out; have hnb38 := NB367_355.out; have hnc38 := NB355_367.out; have hcz39_0 := cz BK367.out 0 (.bool false); have hcz39_1 := cz BK367.out 1 (.bool false); have hcz39_2 := cz BK367.out 2 (.slice none 0 0); have hcz39_3 := cz BK367.out 3 (.string (⟨#[]⟩ : ByteArray)); have hcz39_4 := cz BK367.out 4 (.string (⟨#[]⟩ : ByteArray)); have hfz39_0 := blk_frozen BK367.out 0; have hfz39_1 := blk_frozen BK367.out 1; have hfz39_2 := blk_frozen BK367.out 2; have hfz39_3 := blk_frozen BK367.out 3; have hfz39_4 := blk_frozen BK367.out 4; obtain ⟨Ao40, co40, eo40⟩ := Kd.R_slice HO362.out; subst eo40) | (go_at_call 11; (with_reducible refine (postriderlaw06_tells.calls k  t368 _ ?side1 ?side2 A34.out).mono ?_); (case side1 => exact Glob.below HG.out bl); (case side2 => first | rfl | exact HT_r.out); rintro e w41 ⟨rfl, hb⟩; replace HO362 := Aside0.mk (Kd.R_below (by (with_reducible repeat (first | apply Kd.R_alloc | apply Kd.R_drewN | apply Kd.R_drew)); exact (Kd.R_mono (Kd.R_far (p := ⟨gb367, 4, none⟩) (Kd.R_far (p := ⟨gb367, 3, none⟩) (Kd.R_far (p := ⟨gb367, 2, none⟩) (Kd.R_far (p := ⟨gb367, 1, none⟩) (Kd.R_far (p := ⟨gb367, 0, none⟩) (Kd.R_types HO362.out BK367.out (by decide)) (fun _ hk => hk.2) (.bool t358)) (fun _ hk => hk.2) (.bool t359)) (fun _ hk => hk.2) (.slice Ao40 t360.length co40)) (fun _ hk => hk.2) (.string t363)) (fun _ hk => hk.2) (.string t364)) (fun _ h_ => h_.1))) hb); replace BK354 := Aside0.mk (kb BK354.out hb); replace BK355 := Aside0.mk (kb BK355.out hb); replace BK367 := Aside0.mk (blk_below (g := gb367) (o := .cells #[.bool t358, .bool t359, .slice Ao40 t360.length co40, .string t363, .string t364] 26 (0, 0)) (by (with_reducible repeat (first | refine blk_drewN ?_ _ | refine blk_drew ?_ | refine blk_alloc ?_ _)); refine blk_put (cs := #[.bool t358, .bool t359, .slice Ao40 t360.length co40, .string t363, .string (⟨#[]⟩ : ByteArray)]) ?_ 4 _ rfl; (with_reducible repeat (first | refine blk_drewN ?_ _ | refine blk_drew ?_ | refine blk_alloc ?_ _)); refine blk_put (cs := #[.bool t358, .bool t359, .slice Ao40 t360.length co40, .string (⟨#[]⟩ : ByteArray), .string (⟨#[]⟩ : ByteArray)]) ?_ 3 _ rfl; (with_reducible repeat (first | refine blk_drewN ?_ _ | refine blk_drew ?_ | refine blk_alloc ?_ _)); refine blk_put (cs := #[.bool t358, .bool t359, .slice none 0 0, .string (⟨#[]⟩ : ByteArray), .string (⟨#[]⟩ : ByteArray)]) ?_ 2 _ rfl; (with_reducible repeat (first | refine blk_drewN ?_ _ | refine blk_drew ?_ | refine blk_alloc ?_ _)); refine blk_put (cs := #[.bool t358, .bool false, .slice none 0 0, .string (⟨#[]⟩ : ByteArray), .string (⟨#[]⟩ : ByteArray)]) ?_ 1 _ rfl; (with_reducible repeat (first | refine blk_drewN ?_ _ | refine blk_drew ?_ | refine blk_alloc ?_ _)); refine blk_put (cs := #[.bool false, .bool false, .slice none 0 0, .string (⟨#[]⟩ : ByteArray), .string (⟨#[]⟩ : ByteArray)]) ?_ 0 _ rfl; (with_reducible repeat (first | refine blk_drewN ?_ _ | refine blk_drew ?_ | refine blk_alloc ?_ _)); exact BK367.out) hb); replace HB := Aside0.mk (below_step bl hb); (try clear hb); (try clear hb2); (try clear hk); (try clear hi)))
     go_ret
     exact ⟨by first | rfl | (simp [bneNil]; done) | (simp [errW_none, errW_some] <;> rfl) | (simp only [← hji3, ← hji7, ← hji11]; first | rfl | (simp [errW_none, errW_some] <;> rfl)) | (simp [*, errW_none, errW_some] <;> rfl), bl⟩
    ·rw [if_neg c33] at H
     have c33b0 : (t366 == 3) = false := beq_eq_false_iff_ne.mpr c33
     have c33b1 : (t366 != 3) = true := bne_iff_ne.mpr c33
     exact absurd ((Option.some.inj H).trans HT_r.out) (by decide)
   ·rw [if_neg c32] at H
    have c32b0 : decide (256 < (t356.size : Int)) = false := decide_eq_false c32
    have c32b1 : decide (256 < t356.size) = false := decide_eq_false (by omega)
    clear c32
    (first | rw [c32b0] | (simp only [i64_w, i32_w]; rw [c32b0]) | skip)
    by_cases c42 : t366 = 0
    ·rw [if_pos c42] at H
     have c42b0 : (t366 == 0) = true := beq_iff_eq.mpr c42
     have c42b1 : (t366 != 0) = false := bne_eq_false_iff_eq.mpr c42
     clear c42
     by_cases c43 : t365.toList = js14.toList
     ·rw [if_pos c43] at H
      have c43b0 : (t365.toList == js14.toList) = true := beq_iff_eq.mpr c43
      have c43b1 : (t365.toList != js14.toList) = false := bne_eq_false_iff_eq.mpr c43
      clear c43
      obtain ⟨⟨t369, t370, t371, t374, t375⟩, A440, H⟩ := Option.bind_eq_some_iff.mp H
      replace H : ((postriderlaw06_Of.f false false ([] : List ByteArray) js6 js10).bind fun bt376 => ((postriderlaw06_Like.f k t369 t370 t371 t374 t375 bt376.1 bt376.2.1 bt376.2.2.1 bt376.2.2.2.1 bt376.2.2.2.2).bind fun t383 => (if t383 = true then (postriderlaw06_PathBack.j0 k js14) else (some false)))) = some r := H
      have A44 := Aside0.mk A440
      clear A440
      obtain ⟨⟨t376, t377, t378, t381, t382⟩, A450, H⟩ := Option.bind_eq_some_iff.mp H
      replace H : ((postriderlaw06_Like.f k t369 t370 t371 t374 t375 t376 t377 t378 t381 t382).bind fun t383 => (if t383 = true then (postriderlaw06_PathBack.j0 k js14) else (some false))) = some r := H
      have A45 := Aside0.mk A450
      clear A450
      obtain ⟨t383, A460, H⟩ := Option.bind_eq_some_iff.mp H
      replace H : (if t383 = true then (postriderlaw06_PathBack.j0 k js14) else (some false)) = some r := H
      have A46 := Aside0.mk A460
      clear A460
      by_cases c47 : t383 = true
      ·subst c47
       replace H : (postriderlaw06_PathBack.j0 k js14) = some r := by rw [if_pos rfl] at H; exact H
       have H' := Aside0.mk H
       clear H
       try go_wp2_with (first | ((with_reducible refine gate_callee (f := 13) rfl ?_); refine goesL_ (some 51) rfl rfl Tryz.func13 kf rfl #[.string (t356 ++ js14)] rfl ml ?_; (with_reducible refine (path_Parse.calls k (t356 ++ js14) t358 t359 t360 t363 t364 t365 t366 _ ?side1 A31.out).mono ?_); (case side1 => exact Glob.below HG.out bl); rintro e w48 ⟨v361, rfl, ho0, hb⟩; refine ⟨_, rfl, ?_⟩; have HO362 := Aside0.mk (Kd.R_lower ho0 (below_size bl)); replace BK354 := Aside0.mk (kb BK354.out hb); replace BK355 := Aside0.mk (kb BK355.out hb); replace HB := Aside0.mk (below_step bl hb); (try clear hb); (try clear hb2); (try clear hk); (try clear hi); (try clear ho0)) | ((with_reducible refine gate_dst (N := 7) rfl ?_); (try (refine gate_guard (by rfl) ?_; dsimp only)); refine box_event ?hg (N := 7) ?hd (cs := #[.bool false, .bool false, .slice none 0 0, .string (⟨#[]⟩ : ByteArray), .string (⟨#[]⟩ : ByteArray)]) (t := 26) ?hr ?_; (case hd => rfl); (case hg => rfl); (case hr => first | (go_simp; done) | (go_simp; rfl)); intro gb367 hg w49 hbox hb; replace HO362 := Aside0.mk (Kd.R_below (kr HO362.out) hb); have BK367 := Aside0.mk (hbox); have GW367 := Aside0.mk (gz hg : w.heap.size ≤ gb367); have GE367 := Aside0.mk (gz hg : w.heap.size ≤ gb367); replace HB := Aside0.mk (below_step bl hb); have NB354_367 := Aside0.mk (nl hg BK354.out : gb354 ≠ gb367); have NB367_354 := Aside0.mk (ng hg BK354.out : gb367 ≠ gb354); replace BK354 := Aside0.mk (kb BK354.out hb); have NB355_367 := Aside0.mk (nl hg BK355.out : gb355 ≠ gb367); have NB367_355 := Aside0.mk (ng hg BK355.out : gb367 ≠ gb355); replace BK355 := Aside0.mk (kb BK355.out hb); clear hb hbox hg; have hnb50 := NB367_354.out; have hnc50 := NB354_367.out; have hnb51 := NB367_355.out; have hnc51 := NB355_367.out; have hcz52_0 := cz BK367.out 0 (.bool false); have hcz52_1 := cz BK367.out 1 (.bool false); have hcz52_2 := cz BK367.out 2 (.slice none 0 0); have hcz52_3 := cz BK367.out 3 (.string (⟨#[]⟩ : ByteArray)); have hcz52_4 := cz BK367.out 4 (.string (⟨#[]⟩ : ByteArray)); have hfz52_0 := blk_frozen BK367.out 0; have hfz52_1 := blk_frozen BK367.out 1; have hfz52_2 := blk_frozen BK367.out 2; have hfz52_3 := blk_frozen BK367.out 3; have hfz52_4 := blk_frozen BK367.out 4; obtain ⟨Ao53, co53, eo53⟩ := Kd.R_slice HO362.out; subst eo53))
       have n0_ : Aside0 (Kd.R Kd.string 9 (((((w49.setCell ⟨gb367, 0, none⟩ (.bool t358)).setCell ⟨gb367, 1, none⟩ (.bool t359)).setCell ⟨gb367, 2, none⟩ (.slice Ao53 t360.length co53)).setCell ⟨gb367, 3, none⟩ (.string t363)).setCell ⟨gb367, 4, none⟩ (.string t364)) w.heap.size (fun _ => True) (.slice Ao53 t360.length co53) t360) := ⟨by (with_reducible repeat (first | apply Kd.R_alloc | apply Kd.R_drewN | apply Kd.R_drew)); exact Kd.R_mono (Kd.R_far (p := ⟨gb367, 4, none⟩) (Kd.R_far (p := ⟨gb367, 3, none⟩) (Kd.R_far (p := ⟨gb367, 2, none⟩) (Kd.R_far (p := ⟨gb367, 1, none⟩) (Kd.R_far (p := ⟨gb367, 0, none⟩) (Kd.R_types HO362.out BK367.out (by decide)) (fun _ hk => hk.2) (.bool t358)) (fun _ hk => hk.2) (.bool t359)) (fun _ hk => hk.2) (.slice Ao53 t360.length co53)) (fun _ hk => hk.2) (.string t363)) (fun _ hk => hk.2) (.string t364)) (fun _ hk => trivial)⟩
       have n1_ : Aside0 ((((((w49.setCell ⟨gb367, 0, none⟩ (.bool t358)).setCell ⟨gb367, 1, none⟩ (.bool t359)).setCell ⟨gb367, 2, none⟩ (.slice Ao53 t360.length co53)).setCell ⟨gb367, 3, none⟩ (.string t363)).setCell ⟨gb367, 4, none⟩ (.string t364)).heap[gb354]? = some (.cells #[.string js6, .string js10] 24 (0, 0))) := ⟨bk BK354.out⟩
       have n2_ : Aside0 ((((((w49.setCell ⟨gb367, 0, none⟩ (.bool t358)).setCell ⟨gb367, 1, none⟩ (.bool t359)).setCell ⟨gb367, 2, none⟩ (.slice Ao53 t360.length co53)).setCell ⟨gb367, 3, none⟩ (.string t363)).setCell ⟨gb367, 4, none⟩ (.string t364)).heap[gb355]? = some (.cells #[.bool false, .bool false, .slice none 0 0, .string js6, .string js10] 26 (0, 0))) := ⟨bk BK355.out⟩
       have n3_ : Aside0 ((((((w49.setCell ⟨gb367, 0, none⟩ (.bool t358)).setCell ⟨gb367, 1, none⟩ (.bool t359)).setCell ⟨gb367, 2, none⟩ (.slice Ao53 t360.length co53)).setCell ⟨gb367, 3, none⟩ (.string t363)).setCell ⟨gb367, 4, none⟩ (.string t364)).heap[gb367]? = some (.cells #[.bool t358, .bool t359, .slice Ao53 t360.length co53, .string t363, .string t364] 26 (0, 0))) := ⟨by (with_reducible repeat (first | refine blk_drewN ?_ _ | refine blk_drew ?_ | refine blk_alloc ?_ _)); refine blk_put (cs := #[.bool t358, .bool t359, .slice Ao53 t360.length co53, .string t363, .string (⟨#[]⟩ : ByteArray)]) ?_ 4 _ rfl; (with_reducible repeat (first | refine blk_drewN ?_ _ | refine blk_drew ?_ | refine blk_alloc ?_ _)); refine blk_put (cs := #[.bool t358, .bool t359, .slice Ao53 t360.length co53, .string (⟨#[]⟩ : ByteArray), .string (⟨#[]⟩ : ByteArray)]) ?_ 3 _ rfl; (with_reducible repeat (first | refine blk_drewN ?_ _ | refine blk_drew ?_ | refine blk_alloc ?_ _)); refine blk_put (cs := #[.bool t358, .bool t359, .slice none 0 0, .string (⟨#[]⟩ : ByteArray), .string (⟨#[]⟩ : ByteArray)]) ?_ 2 _ rfl; (with_reducible repeat (first | refine blk_drewN ?_ _ | refine blk_drew ?_ | refine blk_alloc ?_ _)); refine blk_put (cs := #[.bool t358, .bool false, .slice none 0 0, .string (⟨#[]⟩ : ByteArray), .string (⟨#[]⟩ : ByteArray)]) ?_ 1 _ rfl; (with_reducible repeat (first | refine blk_drewN ?_ _ | refine blk_drew ?_ | refine blk_alloc ?_ _)); refine blk_put (cs := #[.bool false, .bool false, .slice none 0 0, .string (⟨#[]⟩ : ByteArray), .string (⟨#[]⟩ : ByteArray)]) ?_ 0 _ rfl; (with_reducible repeat (first | refine blk_drewN ?_ _ | refine blk_drew ?_ | refine blk_alloc ?_ _)); exact BK367.out⟩
       have n4_ : Aside0 (Below w.heap.size w (((((w49.setCell ⟨gb367, 0, none⟩ (.bool t358)).setCell ⟨gb367, 1, none⟩ (.bool t359)).setCell ⟨gb367, 2, none⟩ (.slice Ao53 t360.length co53)).setCell ⟨gb367, 3, none⟩ (.string t363)).setCell ⟨gb367, 4, none⟩ (.string t364))) := ⟨bl⟩
       (try clear HO362)
       (try clear BK354)
       (try clear BK355)
       (try clear BK367)
       (try clear HB)
       generalize (((((w49.setCell ⟨gb367, 0, none⟩ (.bool t358)).setCell ⟨gb367, 1, none⟩ (.bool t359)).setCell ⟨gb367, 2, none⟩ (.slice Ao53 t360.length co53)).setCell ⟨gb367, 3, none⟩ (.string t363)).setCell ⟨gb367, 4, none⟩ (.string t364)) = w54 at n0_ n1_ n2_ n3_ n4_ ⊢
       have HO362 := n0_
       have BK354 := n1_
       have BK355 := n2_
       have BK367 := n3_
       have HB := n4_
       clear n0_ n1_ n2_ n3_ n4_
       replace HO362 := Aside0.mk (Kd.R_drew HO362.out)
       replace BK354 := Aside0.mk (blk_drew BK354.out)
       replace BK355 := Aside0.mk (blk_drew BK355.out)
       replace BK367 := Aside0.mk (blk_drew BK367.out)
       replace HB := Aside0.mk (below_drew1 HB.out)
       refine start_ (n := 15) (S := fun w' => w'.cell? ⟨gb367, 0, none⟩ = some (.bool t358) ∧ w'.cell? ⟨gb367, 1, none⟩ = some (.bool t359) ∧ w'.cell? ⟨gb367, 2, none⟩ = some (.slice Ao53 t360.length co53) ∧ w'.cell? ⟨gb367, 3, none⟩ = some (.string t363) ∧ w'.cell? ⟨gb367, 4, none⟩ = some (.string t364) ∧ w'.cell? ⟨gb355, 0, none⟩ = some (.bool false) ∧ w'.cell? ⟨gb355, 1, none⟩ = some (.bool false) ∧ w'.cell? ⟨gb355, 2, none⟩ = some (.slice none 0 0) ∧ w'.cell? ⟨gb355, 3, none⟩ = some (.string js6) ∧ w'.cell? ⟨gb355, 4, none⟩ = some (.string js10)) (ds := []) #[false, false, false, false, false, false, false, false, false, false, false, false, false, false, false] kf rfl rfl ⟨(blk_cell BK367.out 0).trans rfl, (blk_cell BK367.out 1).trans rfl, (blk_cell BK367.out 2).trans rfl, (blk_cell BK367.out 3).trans rfl, (blk_cell BK367.out 4).trans rfl, (blk_cell BK355.out 0).trans rfl, (blk_cell BK355.out 1).trans rfl, (blk_cell BK355.out 2).trans rfl, (blk_cell BK355.out 3).trans rfl, (blk_cell BK355.out 4).trans rfl⟩ (fun hHeld => ?_); refine with_tabW postriderlaw06_PathBack.tab9 postriderlaw06_PathBack.bits9 (fun HT_ HW_ => ?_)
       generalize w54.drew = w55 at HO362 BK354 BK355 BK367 HB HO362 hHeld ⊢
       refine pure_ (i := 0) (N := some 63) (v := ?_) (a' := ?_) #[true, false, false, false, false, false, false, false, false, false, false, false, false, false, false] rfl rfl (any_of HT_.out kf) (fun _ _ _ h => h) (Or.inl ⟨by rfl, ?_⟩) ?_ ?_
       rotate_left
       ·intro w'
        go_simp
        with_reducible rfl
       rotate_left
       ·simp only [Act.put, sA, sB, sC, i64_w, i32_w]
        rfl
       refine pure_ (i := 1) (N := some 64) (v := ?_) (a' := ?_) #[true, true, false, false, false, false, false, false, false, false, false, false, false, false, false] rfl rfl (any_of HT_.out kf) (fun _ _ _ h => h) (Or.inl ⟨by rfl, ?_⟩) ?_ ?_
       rotate_left
       ·intro w'
        go_simp
        with_reducible rfl
       rotate_left
       ·simp only [Act.put, sA, sB, sC, i64_w, i32_w]
        rfl
       refine pure_ (i := 2) (N := some 65) (v := ?_) (a' := ?_) #[true, true, true, false, false, false, false, false, false, false, false, false, false, false, false] rfl rfl (any_of HT_.out kf) (fun _ _ _ h => h) (Or.inl ⟨by rfl, ?_⟩) ?_ ?_
       rotate_left
       ·intro w'
        go_simp
        with_reducible rfl
       rotate_left
       ·simp only [Act.put, sA, sB, sC, i64_w, i32_w]
        rfl
       refine pure_ (i := 3) (N := some 66) (v := ?_) (a' := ?_) #[true, true, true, true, false, false, false, false, false, false, false, false, false, false, false] rfl rfl (any_of HT_.out kf) (fun _ _ _ h => h) (Or.inl ⟨by rfl, ?_⟩) ?_ ?_
       rotate_left
       ·intro w'
        go_simp
        with_reducible rfl
       rotate_left
       ·simp only [Act.put, sA, sB, sC, i64_w, i32_w]
        rfl
       refine pure_ (i := 4) (N := some 67) (v := ?_) (a' := ?_) #[true, true, true, true, true, false, false, false, false, false, false, false, false, false, false] rfl rfl (any_of HT_.out kf) (fun _ _ _ h => h) (Or.inl ⟨by rfl, ?_⟩) ?_ ?_
       rotate_left
       ·intro w'
        go_simp
        with_reducible rfl
       rotate_left
       ·simp only [Act.put, sA, sB, sC, i64_w, i32_w]
        rfl
       refine pure_ (i := 5) (N := some 68) (v := ?_) (a' := ?_) #[true, true, true, true, true, true, false, false, false, false, false, false, false, false, false] rfl rfl (any_of HT_.out kf) (fun _ _ _ h => h) (Or.inl ⟨by rfl, ?_⟩) ?_ ?_
       rotate_left
       ·intro w'
        go_simp
        with_reducible rfl
       rotate_left
       ·simp only [Act.put, sA, sB, sC, i64_w, i32_w]
        rfl
       refine pure_ (i := 6) (N := some 69) (v := ?_) (a' := ?_) #[true, true, true, true, true, true, true, false, false, false, false, false, false, false, false] rfl rfl (any_of HT_.out kf) (fun _ _ _ h => h) (Or.inl ⟨by rfl, ?_⟩) ?_ ?_
       rotate_left
       ·intro w'
        go_simp
        with_reducible rfl
       rotate_left
       ·simp only [Act.put, sA, sB, sC, i64_w, i32_w]
        rfl
       refine pure_ (i := 7) (N := some 70) (v := ?_) (a' := ?_) #[true, true, true, true, true, true, true, true, false, false, false, false, false, false, false] rfl rfl (any_of HT_.out kf) (fun _ _ _ h => h) (Or.inl ⟨by rfl, ?_⟩) ?_ ?_
       rotate_left
       ·intro w'
        go_simp
        with_reducible rfl
       rotate_left
       ·simp only [Act.put, sA, sB, sC, i64_w, i32_w]
        rfl
       refine take_ (i := 8) (N := some 71) (v := ?_) (a' := ?_) #[true, true, true, true, true, true, true, true, true, false, false, false, false, false, false] rfl rfl (take_ofW HT_.out HW_.out kf) (fun _ _ _ h => h) (Or.inl ⟨by rfl, ?_⟩) hHeld ?_ ?_
       rotate_left
       ·rintro w' ⟨s0, s1, s2, s3, s4, s5, s6, s7, s8, s9⟩
        go_simp
        with_reducible rfl
       rotate_left
       ·simp only [Act.put, sA, sB, sC, i64_w, i32_w]
        rfl
       refine take_ (i := 10) (N := some 73) (v := ?_) (a' := ?_) #[true, true, true, true, true, true, true, true, true, false, true, false, false, false, false] rfl rfl (take_ofW HT_.out HW_.out kf) (fun _ _ _ h => h) (Or.inl ⟨by rfl, ?_⟩) hHeld ?_ ?_
       rotate_left
       ·rintro w' ⟨s0, s1, s2, s3, s4, s5, s6, s7, s8, s9⟩
        go_simp
        with_reducible rfl
       rotate_left
       ·simp only [Act.put, sA, sB, sC, i64_w, i32_w]
        rfl
       refine one_ (i := 9) (N := some 72) #[true, true, true, true, true, true, true, true, true, true, true, false, false, false, false] rfl rfl (one_of HT_.out kf) (by decide) (fun K hK => ?_)
       refine goes_ Tryz.func10 kf rfl #[.agg #[.bool t358, .bool t359, .slice Ao53 t360.length co53, .string t363, .string t364]] (by rfl) rfl rfl ml ?_
       with_reducible refine (postriderlaw06_Of.calls t358 t359 (fun k_ => some k_ = (.slice Ao53 t360.length co53 : Value).ownBlock) _ _ t360 t363 t364 t369 t370 t371 t374 t375 _ ?side1 A44.out).mono ?_
       (case side1 => exact Kd.R_V (Kd.R_tight rfl (Kd.R_types (Kd.R_types (Kd.R_types (HO362.out) BK354.out (by decide)) BK355.out (by decide)) BK367.out (by decide))))
       rintro e w56 ⟨v372, rfl, ho0, hb⟩
       refine ⟨_, rfl, ?_⟩
       have HO373 := Aside0.mk (Kd.V_lower (Kd.V_mono (ok' := fun k_ => k_ ≠ gb354 ∧ k_ ≠ gb355 ∧ k_ ≠ gb367) ho0 (fun k_ hk_ => ⟨Or.elim hk_ (fun hs_ => ((Kd.R_types (Kd.R_types (Kd.R_types (HO362.out) BK354.out (by decide)) BK355.out (by decide)) BK367.out (by decide)).1 k_ hs_.symm).1.1.2) (fun hn_ => (Kd.freshB (g := gb354) (o := .cells #[.string js6, .string js10] 24 (0, 0)) (bk BK354.out) k_ hn_)), Or.elim hk_ (fun hs_ => ((Kd.R_types (Kd.R_types (Kd.R_types (HO362.out) BK354.out (by decide)) BK355.out (by decide)) BK367.out (by decide)).1 k_ hs_.symm).1.2) (fun hn_ => (Kd.freshB (g := gb355) (o := .cells #[.bool false, .bool false, .slice none 0 0, .string js6, .string js10] 26 (0, 0)) (bk BK355.out) k_ hn_)), Or.elim hk_ (fun hs_ => ((Kd.R_types (Kd.R_types (Kd.R_types (HO362.out) BK354.out (by decide)) BK355.out (by decide)) BK367.out (by decide)).1 k_ hs_.symm).2) (fun hn_ => (Kd.freshB (g := gb367) (o := .cells #[.bool t358, .bool t359, .slice Ao53 t360.length co53, .string t363, .string t364] 26 (0, 0)) (bk BK367.out) k_ hn_))⟩)) (below_size bl))
       replace HO362 := Aside0.mk (Kd.R_below (kr HO362.out) hb)
       replace BK354 := Aside0.mk (kb BK354.out hb)
       replace BK355 := Aside0.mk (kb BK355.out hb)
       replace BK367 := Aside0.mk (kb BK367.out hb)
       replace HB := Aside0.mk (below_step bl hb)
       (try clear hb)
       (try clear hb2)
       (try clear hk)
       (try clear hi)
       (try clear ho0)
       refine hK.out _ _ ⟨(blk_cell BK367.out 0).trans rfl, (blk_cell BK367.out 1).trans rfl, (blk_cell BK367.out 2).trans rfl, (blk_cell BK367.out 3).trans rfl, (blk_cell BK367.out 4).trans rfl, (blk_cell BK355.out 0).trans rfl, (blk_cell BK355.out 1).trans rfl, (blk_cell BK355.out 2).trans rfl, (blk_cell BK355.out 3).trans rfl, (blk_cell BK355.out 4).trans rfl⟩ (fun hHeld => ?_)
       clear hK K
       refine norm_ (a' := ?_) ?_ ?_
       rotate_left
       ·show Act.put _ (some 72) _ = _
        simp only [Act.put, sA, sB, sC, i64_w, i32_w]
        rfl
       refine one_ (i := 11) (N := some 74) #[true, true, true, true, true, true, true, true, true, true, true, true, false, false, false] rfl rfl (one_of HT_.out kf) (by decide) (fun K hK => ?_)
       refine goes_ Tryz.func10 kf rfl #[.agg #[.bool false, .bool false, .slice none 0 0, .string js6, .string js10]] (by rfl) rfl rfl ml ?_
       refine (postriderlaw06_Of.calls false false (fun k_ => False) _ _ ([] : List ByteArray) js6 js10 t376 t377 t378 t381 t382 _ ?side1 A45.out).mono ?_
       (case side1 => exact Kd.V_nil _ _ _ _ _)
       rintro e w57 ⟨v379, rfl, ho0, hb⟩
       refine ⟨_, rfl, ?_⟩
       replace HO373 := Aside0.mk (Kd.V_below (by (with_reducible repeat (first | apply Kd.V_alloc | apply Kd.V_drewN | apply Kd.V_drew)); exact HO373.out) hb)
       have HO380 := Aside0.mk (Kd.V_lower (Kd.V_mono (ok' := fun k_ => some k_ ≠ (.slice Ao53 t360.length co53 : Value).ownBlock ∧ k_ ≠ gb354 ∧ k_ ≠ gb355 ∧ k_ ≠ gb367) ho0 (fun k_ hk_ => ⟨Or.elim hk_ (fun hs_ => (hs_).elim) (fun hn_ => (Kd.fresh' (Kd.R_lt (kr HO362.out)) k_ hn_)), Or.elim hk_ (fun hs_ => (hs_).elim) (fun hn_ => (Kd.freshB (g := gb354) (o := .cells #[.string js6, .string js10] 24 (0, 0)) (bk BK354.out) k_ hn_)), Or.elim hk_ (fun hs_ => (hs_).elim) (fun hn_ => (Kd.freshB (g := gb355) (o := .cells #[.bool false, .bool false, .slice none 0 0, .string js6, .string js10] 26 (0, 0)) (bk BK355.out) k_ hn_)), Or.elim hk_ (fun hs_ => (hs_).elim) (fun hn_ => (Kd.freshB (g := gb367) (o := .cells #[.bool t358, .bool t359, .slice Ao53 t360.length co53, .string t363, .string t364] 26 (0, 0)) (bk BK367.out) k_ hn_))⟩)) (below_size bl))
       replace HO362 := Aside0.mk (Kd.R_below (kr HO362.out) hb)
       replace BK354 := Aside0.mk (kb BK354.out hb)
       replace BK355 := Aside0.mk (kb BK355.out hb)
       replace BK367 := Aside0.mk (kb BK367.out hb)
       replace HB := Aside0.mk (below_step bl hb)
       (try clear hb)
       (try clear hb2)
       (try clear hk)
       (try clear hi)
       (try clear ho0)
       obtain ⟨Ao58, co58, eo58⟩ := Kd.V_slice HO373.out
       (first | subst eo58 | (injection eo58 with f1_ f2_ f3_; have f4_ := f1_.symm; have f5_ := f3_.symm; clear f1_ f2_ f3_; subst f4_; subst f5_))
       obtain ⟨Ao59, co59, eo59⟩ := Kd.V_slice HO380.out
       (first | subst eo59 | (injection eo59 with f1_ f2_ f3_; have f4_ := f1_.symm; have f5_ := f3_.symm; clear f1_ f2_ f3_; subst f4_; subst f5_))
       refine hK.out _ _ ⟨(blk_cell BK367.out 0).trans rfl, (blk_cell BK367.out 1).trans rfl, (blk_cell BK367.out 2).trans rfl, (blk_cell BK367.out 3).trans rfl, (blk_cell BK367.out 4).trans rfl, (blk_cell BK355.out 0).trans rfl, (blk_cell BK355.out 1).trans rfl, (blk_cell BK355.out 2).trans rfl, (blk_cell BK355.out 3).trans rfl, (blk_cell BK355.out 4).trans rfl⟩ (fun hHeld => ?_)
       clear hK K
       refine norm_ (a' := ?_) ?_ ?_
       rotate_left
       ·show Act.put _ (some 74) _ = _
        simp only [Act.put, sA, sB, sC, i64_w, i32_w]
        rfl
       refine one_ (i := 12) (N := some 75) #[true, true, true, true, true, true, true, true, true, true, true, true, true, false, false] rfl rfl (one_of HT_.out kf) (by decide) (fun K hK => ?_)
       refine goes_ Tryz.func14 kf rfl #[.agg #[.bool t369, .bool t370, .slice Ao58 t371.length co58, .string t374, .string t375], .agg #[.bool t376, .bool t377, .slice Ao59 t378.length co59, .string t381, .string t382]] (by rfl) rfl rfl ml ?_
       with_reducible refine (postriderlaw06_Like.calls k t369 t370 _ _ t371 t374 t375 t376 t377 _ _ t378 t381 t382 true _ ?side1 ?side2 ?side3 ?side4 A46.out).mono ?_
       (case side1 => repeat (first | exact (Kd.V_reads' HO373.out).2.2 | (with_reducible refine Kd.C_alloc ?_ _) | (with_reducible refine Kd.C_drewN ?_ _) | (with_reducible refine Kd.C_drew ?_)))
       (case side2 => exact (Kd.V_reads' HO373.out).2.1)
       (case side3 => repeat (first | exact (Kd.V_reads' HO380.out).2.2 | (with_reducible refine Kd.C_alloc ?_ _) | (with_reducible refine Kd.C_drewN ?_ _) | (with_reducible refine Kd.C_drew ?_)))
       (case side4 => exact (Kd.V_reads' HO380.out).2.1)
       rintro e w60 ⟨rfl, hb⟩
       refine ⟨_, rfl, ?_⟩
       replace HO362 := Aside0.mk (Kd.R_below (kr HO362.out) hb)
       replace HO373 := Aside0.mk (Kd.V_below (by (with_reducible repeat (first | apply Kd.V_alloc | apply Kd.V_drewN | apply Kd.V_drew)); exact HO373.out) hb)
       replace HO380 := Aside0.mk (Kd.V_below (by (with_reducible repeat (first | apply Kd.V_alloc | apply Kd.V_drewN | apply Kd.V_drew)); exact HO380.out) hb)
       replace BK354 := Aside0.mk (kb BK354.out hb)
       replace BK355 := Aside0.mk (kb BK355.out hb)
       replace BK367 := Aside0.mk (kb BK367.out hb)
       replace HB := Aside0.mk (below_step bl hb)
       (try clear hb)
       (try clear hb2)
       (try clear hk)
       (try clear hi)
       refine hK.out _ _ ⟨(blk_cell BK367.out 0).trans rfl, (blk_cell BK367.out 1).trans rfl, (blk_cell BK367.out 2).trans rfl, (blk_cell BK367.out 3).trans rfl, (blk_cell BK367.out 4).trans rfl, (blk_cell BK355.out 0).trans rfl, (blk_cell BK355.out 1).trans rfl, (blk_cell BK355.out 2).trans rfl, (blk_cell BK355.out 3).trans rfl, (blk_cell BK355.out 4).trans rfl⟩ (fun hHeld => ?_)
       clear hK K
       refine norm_ (a' := ?_) ?_ ?_
       rotate_left
       ·show Act.put _ (some 75) _ = _
        simp only [Act.put, sA, sB, sC, i64_w, i32_w]
        rfl
       refine pure_ (i := 13) (N := some 76) (v := ?_) (a' := ?_) #[true, true, true, true, true, true, true, true, true, true, true, true, true, true, false] rfl rfl (any_of HT_.out kf) (fun _ _ _ h => h) (Or.inl ⟨by rfl, ?_⟩) ?_ ?_
       rotate_left
       ·intro w'
        go_simp
        with_reducible rfl
       rotate_left
       ·simp only [Act.put, sA, sB, sC, i64_w, i32_w]
        rfl
       refine pure_ (i := 14) (N := some 77) (v := ?_) (a' := ?_) #[true, true, true, true, true, true, true, true, true, true, true, true, true, true, true] rfl rfl (any_of HT_.out kf) (fun _ _ _ h => h) (Or.inl ⟨by rfl, ?_⟩) ?_ ?_
       rotate_left
       ·intro w'
        go_simp
        with_reducible rfl
       rotate_left
       ·simp only [Act.put, sA, sB, sC, i64_w, i32_w]
        rfl
       refine done_ (done_of HT_.out kf) ?_
       try go_wp2
       go_meet
       case rel => exact ⟨_, H', ⟨by first | omega | exact Nat.le_refl _⟩, ⟨bk BK354.out⟩, ⟨bk BK355.out⟩, ⟨bl⟩⟩
      ·replace c47 := Bool.eq_false_iff.mpr c47
       subst c47
       replace H : (some false) = some r := by rw [if_neg (show ¬ (false = true) by decide)] at H; exact H
       exact absurd ((Option.some.inj H).trans HT_r.out) (by decide)
     ·rw [if_neg c43] at H
      have c43b0 : (t365.toList == js14.toList) = false := beq_eq_false_iff_ne.mpr c43
      have c43b1 : (t365.toList != js14.toList) = true := bne_iff_ne.mpr c43
      exact absurd ((Option.some.inj H).trans HT_r.out) (by decide)
    ·rw [if_neg c42] at H
     have c42b0 : (t366 == 0) = false := beq_eq_false_iff_ne.mpr c42
     have c42b1 : (t366 != 0) = true := bne_iff_ne.mpr c42
     exact absurd ((Option.some.inj H).trans HT_r.out) (by decide)
  ·replace c29 := Bool.eq_false_iff.mpr c29
   subst c29
   replace H : (if t356.toList = ([] : List UInt8) then (postriderlaw06_PathBack.j0 k js14) else (some false)) = some r := by rw [if_neg (show ¬ (false = true) by decide)] at H; exact H
   by_cases c61 : t356.toList = ([] : List UInt8)
   ·rw [if_pos c61] at H
    have c61b0 : (t356.toList == ([] : List UInt8)) = true := beq_iff_eq.mpr c61
    have c61b1 : (t356.toList != ([] : List UInt8)) = false := bne_eq_false_iff_eq.mpr c61
    clear c61
    have H' := Aside0.mk H
    clear H
    go_wp2
    go_meet
    case rel => exact ⟨_, H', ⟨by first | omega | exact Nat.le_refl _⟩, ⟨bk BK354.out⟩, ⟨bk BK355.out⟩, ⟨bl⟩⟩
   ·rw [if_neg c61] at H
    have c61b0 : (t356.toList == ([] : List UInt8)) = false := beq_eq_false_iff_ne.mpr c61
    have c61b1 : (t356.toList != ([] : List UInt8)) = true := bne_iff_ne.mpr c61
    exact absurd ((Option.some.inj H).trans HT_r.out) (by decide)
 case rest =>
  clear HC17
  try clear c1
  try clear c2
  try clear p2
  try clear c3
  try clear c4
  try clear c4b0
  try clear c4b1
  try clear c5
  try clear c5b0
  try clear c5b1
  try clear c6
  try clear c8
  try clear c8b0
  try clear c8b1
  try clear c9
  try clear c9b0
  try clear c9b1
  try clear c10
  try clear c12
  try clear c12b0
  try clear c12b1
  try clear c13
  try clear c13b0
  try clear c13b1
  try clear c14
  try clear c24
  try clear c29
  try clear c30
  try clear c30b0
  try clear c30b1
  try clear c30b2
  try clear c32
  try clear c32b0
  try clear c32b1
  try clear c33
  try clear c33b0
  try clear c33b1
  try clear c37
  try clear c38
  try clear c42
  try clear c42b0
  try clear c42b1
  try clear c43
  try clear c43b0
  try clear c43b1
  try clear c47
  try clear c50
  try clear c51
  try clear c61
  try clear c61b0
  try clear c61b1
  try clear hcz22_0
  try clear hcz22_1
  try clear hcz25_0
  try clear hcz25_1
  try clear hcz25_2
  try clear hcz25_3
  try clear hcz25_4
  try clear hcz27_0
  try clear hcz27_1
  try clear hcz39_0
  try clear hcz39_1
  try clear hcz39_2
  try clear hcz39_3
  try clear hcz39_4
  try clear hcz52_0
  try clear hcz52_1
  try clear hcz52_2
  try clear hcz52_3
  try clear hcz52_4
  try clear hfz22_0
  try clear hfz22_1
  try clear hfz25_0
  try clear hfz25_1
  try clear hfz25_2
  try clear hfz25_3
  try clear hfz25_4
  try clear hfz27_0
  try clear hfz27_1
  try clear hfz39_0
  try clear hfz39_1
  try clear hfz39_2
  try clear hfz39_3
  try clear hfz39_4
  try clear hfz52_0
  try clear hfz52_1
  try clear hfz52_2
  try clear hfz52_3
  try clear hfz52_4
  obtain ⟨kq, HA, HJ16, BK354, BK355, HB⟩ := hcut
  cases kq with
  | zero => exact absurd HA.out (by simp [postriderlaw06_PathBack.j0])
  | succ kj16 =>
   have H := HA.out
   clear HA
   simp only [postriderlaw06_PathBack.j0] at H
   obtain ⟨y384, hy384⟩ : ∃ y_ : List (S26), y_ = (([(⟨true, false, ([] : List ByteArray), (⟨(⟨#[]⟩ : ByteArray), (⟨#[]⟩ : ByteArray)⟩ : S24)⟩ : S26), (⟨false, true, ([] : List ByteArray), (⟨(⟨#[]⟩ : ByteArray), (⟨#[]⟩ : ByteArray)⟩ : S24)⟩ : S26)] : List (S26))) := ⟨_, rfl⟩
   replace H : (postriderlaw06_PathBack.l0 kj16 js14 y384 (y384.length : Int) 0) = some r := by first | (rw [hy384]; with_reducible exact H) | (have H2_ := (Option.bind_some _ _).symm.trans H; rw [hy384]; with_reducible exact H2_) | (have H2_ := (Option.bind_some _ _).symm.trans H; with_reducible exact H2_) | with_reducible exact H | (rw [hy384]; exact H) | exact H
   have Ny384 := Aside0.mk hy384
   clear hy384
   have H' := Aside0.mk H
   clear H
   go_wp2_with (first | ((with_reducible refine gate_dst (N := 82) rfl ?_); (try (refine gate_guard (by rfl) ?_; dsimp only)); refine Kd.S_lit k26 _ 26 ?hg (N := 82) ?hd (xs := ([(⟨true, false, ([] : List ByteArray), (⟨(⟨#[]⟩ : ByteArray), (⟨#[]⟩ : ByteArray)⟩ : S24)⟩ : S26), (⟨false, true, ([] : List ByteArray), (⟨(⟨#[]⟩ : ByteArray), (⟨#[]⟩ : ByteArray)⟩ : S24)⟩ : S26)] : List (S26))) (inner := [.bool true, .bool false, .slice none 0 0, .string (⟨#[]⟩ : ByteArray), .string (⟨#[]⟩ : ByteArray), .bool false, .bool true, .slice none 0 0, .string (⟨#[]⟩ : ByteArray), .string (⟨#[]⟩ : ByteArray)]) (ok := fun _ => True) (okp := fun _ => True) ?hr ?hp (fun _ hk => hk) trivial (Below.refl _ _) (Nat.le_refl _) (by simp) ?_; (case hd => rfl); (case hg => rfl); (case hr => first | (go_simp; done) | (go_simp; rfl)); (case hp => exact (Reps.c5 (show Kd.M k26 _ _ _ (⟨true, false, ([] : List ByteArray), (⟨(⟨#[]⟩ : ByteArray), (⟨#[]⟩ : ByteArray)⟩ : S24)⟩ : S26) [.bool true, .bool false, .slice none 0 0, .string (⟨#[]⟩ : ByteArray), .string (⟨#[]⟩ : ByteArray)] from (k26_mkM _ _ _ (⟨true, false, ([] : List ByteArray), (⟨(⟨#[]⟩ : ByteArray), (⟨#[]⟩ : ByteArray)⟩ : S24)⟩ : S26) (Kd.R_nil _ _ _ _ _))) (Reps.c5 (show Kd.M k26 _ _ _ (⟨false, true, ([] : List ByteArray), (⟨(⟨#[]⟩ : ByteArray), (⟨#[]⟩ : ByteArray)⟩ : S24)⟩ : S26) [.bool false, .bool true, .slice none 0 0, .string (⟨#[]⟩ : ByteArray), .string (⟨#[]⟩ : ByteArray)] from (k26_mkM _ _ _ (⟨false, true, ([] : List ByteArray), (⟨(⟨#[]⟩ : ByteArray), (⟨#[]⟩ : ByteArray)⟩ : S24)⟩ : S26) (Kd.R_nil _ _ _ _ _))) (Reps.none _ _)))); intro v385 w62 ho63 hb hg_ hnew_; clear hg_ hnew_; (first | rw [← Ny384.out] at ho63 | (simp only [Int.reduceToNat] at ho63; rw [← Ny384.out] at ho63)); have HO386 := Aside0.mk (Kd.S_lower (Kd.S_newB ho63 (g := gb355) (o := .cells #[.bool false, .bool false, .slice none 0 0, .string js6, .string js10] 26 (0, 0)) (bk BK355.out)) (below_size bl)); replace BK354 := Aside0.mk (kb BK354.out hb); replace BK355 := Aside0.mk (kb BK355.out hb); replace HB := Aside0.mk (below_step bl hb); clear hb ho63; obtain ⟨Ao64, co64, eo64⟩ := Kd.S_slice HO386.out; subst eo64))
   go_loopg [84] kj16 (fun kq v84 w' => ∃ (x84_2 : Int), v84 = .int .i64 x84_2 ∧ Aside0 (postriderlaw06_PathBack.l0 kq js14 y384 (y384.length : Int) x84_2 = some r) ∧ Aside0 (kq ≤ kj16) ∧ Aside0 (Kd.S k26 26 w' w.heap.size (fun k_ => k_ ≠ gb355) (.slice Ao64 y384.length co64) y384) ∧ Aside0 (w'.heap[gb354]? = some (.cells #[.string js6, .string js10] 24 (0, 0))) ∧ Aside0 (w'.heap[gb355]? = some (.cells #[.bool false, .bool false, (.slice none 0 0), .string js6, .string js10] 26 (0, 0))) ∧ Aside0 (Below w.heap.size w w'))
   case atStart => exact ⟨(0), rs, H', ⟨Nat.le_refl _⟩, ⟨by (with_reducible repeat (first | apply Kd.S_alloc | apply Kd.S_drewN | apply Kd.S_drew)); exact Kd.S_mono HO386.out (fun _ hk => hk.2)⟩, ⟨bk BK354.out⟩, ⟨bk BK355.out⟩, ⟨bl⟩⟩
   case round =>
    clear H'
    try clear c1
    try clear c2
    try clear p2
    try clear c3
    try clear c4
    try clear c4b0
    try clear c4b1
    try clear c5
    try clear c5b0
    try clear c5b1
    try clear c6
    try clear c8
    try clear c8b0
    try clear c8b1
    try clear c9
    try clear c9b0
    try clear c9b1
    try clear c10
    try clear c12
    try clear c12b0
    try clear c12b1
    try clear c13
    try clear c13b0
    try clear c13b1
    try clear c14
    try clear c24
    try clear c29
    try clear c30
    try clear c30b0
    try clear c30b1
    try clear c30b2
    try clear c32
    try clear c32b0
    try clear c32b1
    try clear c33
    try clear c33b0
    try clear c33b1
    try clear c37
    try clear c38
    try clear c42
    try clear c42b0
    try clear c42b1
    try clear c43
    try clear c43b0
    try clear c43b1
    try clear c47
    try clear c50
    try clear c51
    try clear c61
    try clear c61b0
    try clear c61b1
    try clear hcz22_0
    try clear hcz22_1
    try clear hcz25_0
    try clear hcz25_1
    try clear hcz25_2
    try clear hcz25_3
    try clear hcz25_4
    try clear hcz27_0
    try clear hcz27_1
    try clear hcz39_0
    try clear hcz39_1
    try clear hcz39_2
    try clear hcz39_3
    try clear hcz39_4
    try clear hcz52_0
    try clear hcz52_1
    try clear hcz52_2
    try clear hcz52_3
    try clear hcz52_4
    try clear hfz22_0
    try clear hfz22_1
    try clear hfz25_0
    try clear hfz25_1
    try clear hfz25_2
    try clear hfz25_3
    try clear hfz25_4
    try clear hfz27_0
    try clear hfz27_1
    try clear hfz39_0
    try clear hfz39_1
    try clear hfz39_2
    try clear hfz39_3
    try clear hfz39_4
    try clear hfz52_0
    try clear hfz52_1
    try clear hfz52_2
    try clear hfz52_3
    try clear hfz52_4
    try clear p2
    obtain ⟨x84_2, rfl, HA, HK2, HO_82, BK354, BK355, HB⟩ := hrel
    cases gk with
    | zero => exact absurd HA.out (by simp [postriderlaw06_PathBack.l0])
    | succ k2 =>
     have H := HA.out
     clear HA
     simp only [postriderlaw06_PathBack.l0] at H
     by_cases c65 : x84_2 < (y384.length : Int)
     ·rw [if_pos c65] at H
      have c65b0 : decide (x84_2 < (y384.length : Int)) = true := decide_eq_true c65
      clear c65
      by_cases c66 : 0 ≤ x84_2
      rotate_left
      ·rw [if_neg c66] at H
       exact ab H
      rw [if_pos c66] at H
      have c66b0 : decide (0 ≤ x84_2) = true := decide_eq_true c66
      clear c66
      by_cases c67 : x84_2 < (y384.length : Int)
      rotate_left
      ·rw [if_neg c67] at H
       exact ab H
      rw [if_pos c67] at H
      have c67b0 : decide (x84_2 < (y384.length : Int)) = true := decide_eq_true c67
      clear c67
      obtain ⟨t389, A680, H⟩ := Option.bind_eq_some_iff.mp H
      replace H : (if t389.size + js14.size ≤ 9223372036854775807 then ((path_Parse.f k2 (t389 ++ js14)).bind fun bt390 => (if bt390.2.2.2.2.2.2 = 0 then (if bt390.2.2.2.2.2.1.toList = js14.toList then ((postriderlaw06_Of.f bt390.1 bt390.2.1 bt390.2.2.1 bt390.2.2.2.1 bt390.2.2.2.2.1).bind fun bt400 => ((postriderlaw06_Of.f ((rd_T26 y384 x84_2).f0) ((rd_T26 y384 x84_2).f1) ((rd_T26 y384 x84_2).f2) ((rd_T26 y384 x84_2).f3.f0) ((rd_T26 y384 x84_2).f3.f1)).bind fun bt407 => ((postriderlaw06_Like.f k2 bt400.1 bt400.2.1 bt400.2.2.1 bt400.2.2.2.1 bt400.2.2.2.2 bt407.1 bt407.2.1 bt407.2.2.1 bt407.2.2.2.1 bt407.2.2.2.2).bind fun t414 => (if t414 = true then (postriderlaw06_PathBack.l0 k2 js14 y384 (y384.length : Int) (wrap64 (x84_2 + 1))) else (some false))))) else (some false)) else (some false))) else (none)) = some r := H
      have A68 := Aside0.mk A680
      clear A680
      by_cases c69 : t389.size + js14.size ≤ 9223372036854775807
      rotate_left
      ·rw [if_neg c69] at H
       exact ab H
      rw [if_pos c69] at H
      have c69b0 := eq_true c69
      have c69b1 : decide (t389.size + js14.size ≤ 9223372036854775807) = true := decide_eq_true c69
      try have c69b2 : (9223372036854775807 < t389.size + js14.size) = False := eq_false (Nat.not_lt.2 c69)
      obtain ⟨⟨t390, t391, t392, t395, t396, t397, t398⟩, A700, H⟩ := Option.bind_eq_some_iff.mp H
      replace H : (if t398 = 0 then (if t397.toList = js14.toList then ((postriderlaw06_Of.f t390 t391 t392 t395 t396).bind fun bt400 => ((postriderlaw06_Of.f ((rd_T26 y384 x84_2).f0) ((rd_T26 y384 x84_2).f1) ((rd_T26 y384 x84_2).f2) ((rd_T26 y384 x84_2).f3.f0) ((rd_T26 y384 x84_2).f3.f1)).bind fun bt407 => ((postriderlaw06_Like.f k2 bt400.1 bt400.2.1 bt400.2.2.1 bt400.2.2.2.1 bt400.2.2.2.2 bt407.1 bt407.2.1 bt407.2.2.1 bt407.2.2.2.1 bt407.2.2.2.2).bind fun t414 => (if t414 = true then (postriderlaw06_PathBack.l0 k2 js14 y384 (y384.length : Int) (wrap64 (x84_2 + 1))) else (some false))))) else (some false)) else (some false)) = some r := H
      have A70 := Aside0.mk A700
      clear A700
      by_cases c71 : t398 = 0
      ·rw [if_pos c71] at H
       have c71b0 : (t398 == 0) = true := beq_iff_eq.mpr c71
       have c71b1 : (t398 != 0) = false := bne_eq_false_iff_eq.mpr c71
       clear c71
       by_cases c72 : t397.toList = js14.toList
       ·rw [if_pos c72] at H
        have c72b0 : (t397.toList == js14.toList) = true := beq_iff_eq.mpr c72
        have c72b1 : (t397.toList != js14.toList) = false := bne_eq_false_iff_eq.mpr c72
        clear c72
        obtain ⟨⟨t400, t401, t402, t405, t406⟩, A730, H⟩ := Option.bind_eq_some_iff.mp H
        replace H : ((postriderlaw06_Of.f ((rd_T26 y384 x84_2).f0) ((rd_T26 y384 x84_2).f1) ((rd_T26 y384 x84_2).f2) ((rd_T26 y384 x84_2).f3.f0) ((rd_T26 y384 x84_2).f3.f1)).bind fun bt407 => ((postriderlaw06_Like.f k2 t400 t401 t402 t405 t406 bt407.1 bt407.2.1 bt407.2.2.1 bt407.2.2.2.1 bt407.2.2.2.2).bind fun t414 => (if t414 = true then (postriderlaw06_PathBack.l0 k2 js14 y384 (y384.length : Int) (wrap64 (x84_2 + 1))) else (some false)))) = some r := H
        have A73 := Aside0.mk A730
        clear A730
        obtain ⟨⟨t407, t408, t409, t412, t413⟩, A740, H⟩ := Option.bind_eq_some_iff.mp H
        replace H : ((postriderlaw06_Like.f k2 t400 t401 t402 t405 t406 t407 t408 t409 t412 t413).bind fun t414 => (if t414 = true then (postriderlaw06_PathBack.l0 k2 js14 y384 (y384.length : Int) (wrap64 (x84_2 + 1))) else (some false))) = some r := H
        have A74 := Aside0.mk A740
        clear A740
        obtain ⟨t414, A750, H⟩ := Option.bind_eq_some_iff.mp H
        replace H : (if t414 = true then (postriderlaw06_PathBack.l0 k2 js14 y384 (y384.length : Int) (wrap64 (x84_2 + 1))) else (some false)) = some r := H
        have A75 := Aside0.mk A750
        clear A750
        by_cases c76 : t414 = true
        ·subst c76
         replace H : (postriderlaw06_PathBack.l0 k2 js14 y384 (y384.length : Int) (wrap64 (x84_2 + 1))) = some r := by rw [if_pos rfl] at H; exact H
         have H' := Aside0.mk H
         clear H
         have p387 : 0 ≤ (x84_2 : Int) := od
         have q387 : x84_2 < (y384.length : Int) := od
         obtain ⟨ad387, A387_2, c387_2, e387, hx387_0, hx387_1, hx387_2, hx387_3, hx387_4, hl387_2, hi387_2⟩ := at_T26 (Kd.S_reads' HO_82.out).2.2 x84_2 p387 q387
         cases e387
         obtain ⟨ce387, hce387, hMe387, hcc387⟩ := Kd.S_get HO_82.out z26 x84_2 p387 (by first | exact q387 | exact od | (have e_ := (Kd.S_reads' HO_82.out).1; omega))
         obtain ⟨ve387_2, rfl, ge387_2⟩ := k26_openM hMe387
         have hv387_2 := hcc387 2 _ rfl
         rw [add_field _ _ 2 (by omega)] at hv387_2
         replace hv387_2 := Option.some.inj (hv387_2.symm.trans hx387_2)
         rw [hv387_2] at ge387_2
         have HL387_2 := Aside0.mk (show Kd.R Kd.string 9 _ _ _ _ ((rd_T26 y384 x84_2).f2) from ge387_2)
         clear hv387_2 ge387_2 hcc387 hce387
         have HR387_2 := Aside0.mk hi387_2
         have HC387_2 := Aside0.mk hl387_2
         clear hi387_2 hl387_2
         replace p387 := eq_true p387
         replace q387 := eq_true q387
         try go_wp2_with (first | ((with_reducible refine gate_dst (N := 11) rfl ?_); (try (refine gate_guard (by rfl) ?_; dsimp only)); refine box_event ?hg (N := 11) ?hd (cs := #[.bool false, .bool false, .slice none 0 0, .string (⟨#[]⟩ : ByteArray), .string (⟨#[]⟩ : ByteArray)]) (t := 26) ?hr ?_; (case hd => rfl); (case hg => rfl); (case hr => first | (go_simp; done) | (go_simp; rfl)); intro gb388 hg w77 hbox hb; replace HO_82 := Aside0.mk (Kd.S_below (Kd.S_elderB (by (with_reducible repeat (first | apply Kd.S_alloc | apply Kd.S_drewN | apply Kd.S_drew)); exact HO_82.out) gb388 (Nat.le_of_eq hg.symm)) hb); replace HL387_2 := Aside0.mk (Kd.R_below (kr HL387_2.out) hb); replace HR387_2 := Aside0.mk (Kd.C_below (by repeat (first | (with_reducible exact HR387_2.out) | (with_reducible refine Kd.C_alloc ?_ _) | (with_reducible refine Kd.C_drewN ?_ _) | (with_reducible refine Kd.C_drew ?_) | exact HR387_2.out)) hb); have BK388 := Aside0.mk (hbox); have GW388 := Aside0.mk (gz hg : w.heap.size ≤ gb388); have GE388 := Aside0.mk (gz hg : w.heap.size ≤ gb388); replace HB := Aside0.mk (below_step bl hb); have NB354_388 := Aside0.mk (nl hg BK354.out : gb354 ≠ gb388); have NB388_354 := Aside0.mk (ng hg BK354.out : gb388 ≠ gb354); replace BK354 := Aside0.mk (kb BK354.out hb); have NB355_388 := Aside0.mk (nl hg BK355.out : gb355 ≠ gb388); have NB388_355 := Aside0.mk (ng hg BK355.out : gb388 ≠ gb355); replace BK355 := Aside0.mk (kb BK355.out hb); clear hb hbox hg; have hnb78 := NB388_354.out; have hnc78 := NB354_388.out; have hnb79 := NB388_355.out; have hnc79 := NB355_388.out; have hcz80_0 := cz BK388.out 0 (.bool false); have hcz80_1 := cz BK388.out 1 (.bool false); have hcz80_2 := cz BK388.out 2 (.slice none 0 0); have hcz80_3 := cz BK388.out 3 (.string (⟨#[]⟩ : ByteArray)); have hcz80_4 := cz BK388.out 4 (.string (⟨#[]⟩ : ByteArray)); have hfz80_0 := blk_frozen BK388.out 0; have hfz80_1 := blk_frozen BK388.out 1; have hfz80_2 := blk_frozen BK388.out 2; have hfz80_3 := blk_frozen BK388.out 3; have hfz80_4 := blk_frozen BK388.out 4) | ((with_reducible refine gate_callee (f := 8) rfl ?_); refine goesL_ (some 90) rfl rfl Tryz.func8 kf rfl #[.agg #[.bool ((rd_T26 y384 x84_2).f0), .bool ((rd_T26 y384 x84_2).f1), .slice A387_2 ((rd_T26 y384 x84_2).f2).length c387_2, .string ((rd_T26 y384 x84_2).f3.f0), .string ((rd_T26 y384 x84_2).f3.f1)]] rfl ml ?_; (with_reducible refine (path_Path_Text.calls k2 ((rd_T26 y384 x84_2).f0) ((rd_T26 y384 x84_2).f1) _ _ ((rd_T26 y384 x84_2).f2) ((rd_T26 y384 x84_2).f3.f0) ((rd_T26 y384 x84_2).f3.f1) t389 _ ?side1 ?side2 ?side3 A68.out).mono ?_); (case side1 => repeat (first | exact ((Kd.R_reads' (by (with_reducible repeat (first | apply Kd.R_alloc | apply Kd.R_drewN | apply Kd.R_drew)); exact (Kd.R_mono (Kd.R_far (p := ⟨gb388, 4, none⟩) (Kd.R_far (p := ⟨gb388, 3, none⟩) (Kd.R_far (p := ⟨gb388, 2, none⟩) (Kd.R_far (p := ⟨gb388, 1, none⟩) (Kd.R_far (p := ⟨gb388, 0, none⟩) (Kd.R_types HL387_2.out BK388.out (by decide)) (fun _ hk => hk.2) (.bool ((rd_T26 y384 x84_2).f0))) (fun _ hk => hk.2) (.bool ((rd_T26 y384 x84_2).f1))) (fun _ hk => hk.2) (.slice A387_2 ((rd_T26 y384 x84_2).f2).length c387_2)) (fun _ hk => hk.2) (.string ((rd_T26 y384 x84_2).f3.f0))) (fun _ hk => hk.2) (.string ((rd_T26 y384 x84_2).f3.f1))) (fun _ h_ => h_.1)))).2.2) | (with_reducible refine Kd.C_alloc ?_ _) | (with_reducible refine Kd.C_drewN ?_ _) | (with_reducible refine Kd.C_drew ?_))); (case side2 => exact HC387_2.out); (case side3 => exact Glob.below HG.out bl); rintro e w81 ⟨rfl, hb⟩; refine ⟨_, rfl, ?_⟩; replace HO_82 := Aside0.mk (Kd.S_below (by (with_reducible repeat (first | apply Kd.S_alloc | apply Kd.S_drewN | apply Kd.S_drew)); exact (Kd.S_mono (Kd.S_far (p := ⟨gb388, 4, none⟩) (Kd.S_far (p := ⟨gb388, 3, none⟩) (Kd.S_far (p := ⟨gb388, 2, none⟩) (Kd.S_far (p := ⟨gb388, 1, none⟩) (Kd.S_far (p := ⟨gb388, 0, none⟩) (Kd.S_mono HO_82.out (fun k_ hk => (⟨hk, hk.2⟩ : _ ∧ k_ ≠ gb388))) (fun _ hk => hk.2) (.bool ((rd_T26 y384 x84_2).f0))) (fun _ hk => hk.2) (.bool ((rd_T26 y384 x84_2).f1))) (fun _ hk => hk.2) (.slice A387_2 ((rd_T26 y384 x84_2).f2).length c387_2)) (fun _ hk => hk.2) (.string ((rd_T26 y384 x84_2).f3.f0))) (fun _ hk => hk.2) (.string ((rd_T26 y384 x84_2).f3.f1))) (fun _ h_ => h_.1))) hb); replace BK354 := Aside0.mk (kb BK354.out hb); replace BK355 := Aside0.mk (kb BK355.out hb); replace HR387_2 := Aside0.mk (Kd.C_below ((Kd.R_reads' (by (with_reducible repeat (first | apply Kd.R_alloc | apply Kd.R_drewN | apply Kd.R_drew)); exact (Kd.R_mono (Kd.R_far (p := ⟨gb388, 4, none⟩) (Kd.R_far (p := ⟨gb388, 3, none⟩) (Kd.R_far (p := ⟨gb388, 2, none⟩) (Kd.R_far (p := ⟨gb388, 1, none⟩) (Kd.R_far (p := ⟨gb388, 0, none⟩) (Kd.R_types HL387_2.out BK388.out (by decide)) (fun _ hk => hk.2) (.bool ((rd_T26 y384 x84_2).f0))) (fun _ hk => hk.2) (.bool ((rd_T26 y384 x84_2).f1))) (fun _ hk => hk.2) (.slice A387_2 ((rd_T26 y384 x84_2).f2).length c387_2)) (fun _ hk => hk.2) (.string ((rd_T26 y384 x84_2).f3.f0))) (fun _ hk => hk.2) (.string ((rd_T26 y384 x84_2).f3.f1))) (fun _ h_ => h_.1)))).2.2) hb); replace HL387_2 := Aside0.mk (Kd.R_below (by (with_reducible repeat (first | apply Kd.R_alloc | apply Kd.R_drewN | apply Kd.R_drew)); exact (Kd.R_mono (Kd.R_far (p := ⟨gb388, 4, none⟩) (Kd.R_far (p := ⟨gb388, 3, none⟩) (Kd.R_far (p := ⟨gb388, 2, none⟩) (Kd.R_far (p := ⟨gb388, 1, none⟩) (Kd.R_far (p := ⟨gb388, 0, none⟩) (Kd.R_types HL387_2.out BK388.out (by decide)) (fun _ hk => hk.2) (.bool ((rd_T26 y384 x84_2).f0))) (fun _ hk => hk.2) (.bool ((rd_T26 y384 x84_2).f1))) (fun _ hk => hk.2) (.slice A387_2 ((rd_T26 y384 x84_2).f2).length c387_2)) (fun _ hk => hk.2) (.string ((rd_T26 y384 x84_2).f3.f0))) (fun _ hk => hk.2) (.string ((rd_T26 y384 x84_2).f3.f1))) (fun _ h_ => h_.1))) hb); replace BK388 := Aside0.mk (blk_below (g := gb388) (o := .cells #[.bool ((rd_T26 y384 x84_2).f0), .bool ((rd_T26 y384 x84_2).f1), .slice A387_2 ((rd_T26 y384 x84_2).f2).length c387_2, .string ((rd_T26 y384 x84_2).f3.f0), .string ((rd_T26 y384 x84_2).f3.f1)] 26 (0, 0)) (by (with_reducible repeat (first | refine blk_drewN ?_ _ | refine blk_drew ?_ | refine blk_alloc ?_ _)); refine blk_put (cs := #[.bool ((rd_T26 y384 x84_2).f0), .bool ((rd_T26 y384 x84_2).f1), .slice A387_2 ((rd_T26 y384 x84_2).f2).length c387_2, .string ((rd_T26 y384 x84_2).f3.f0), .string (⟨#[]⟩ : ByteArray)]) ?_ 4 _ rfl; (with_reducible repeat (first | refine blk_drewN ?_ _ | refine blk_drew ?_ | refine blk_alloc ?_ _)); refine blk_put (cs := #[.bool ((rd_T26 y384 x84_2).f0), .bool ((rd_T26 y384 x84_2).f1), .slice A387_2 ((rd_T26 y384 x84_2).f2).length c387_2, .string (⟨#[]⟩ : ByteArray), .string (⟨#[]⟩ : ByteArray)]) ?_ 3 _ rfl; (with_reducible repeat (first | refine blk_drewN ?_ _ | refine blk_drew ?_ | refine blk_alloc ?_ _)); refine blk_put (cs := #[.bool ((rd_T26 y384 x84_2).f0), .bool ((rd_T26 y384 x84_2).f1), .slice none 0 0, .string (⟨#[]⟩ : ByteArray), .string (⟨#[]⟩ : ByteArray)]) ?_ 2 _ rfl; (with_reducible repeat (first | refine blk_drewN ?_ _ | refine blk_drew ?_ | refine blk_alloc ?_ _)); refine blk_put (cs := #[.bool ((rd_T26 y384 x84_2).f0), .bool false, .slice none 0 0, .string (⟨#[]⟩ : ByteArray), .string (⟨#[]⟩ : ByteArray)]) ?_ 1 _ rfl; (with_reducible repeat (first | refine blk_drewN ?_ _ | refine blk_drew ?_ | refine blk_alloc ?_ _)); refine blk_put (cs := #[.bool false, .bool false, .slice none 0 0, .string (⟨#[]⟩ : ByteArray), .string (⟨#[]⟩ : ByteArray)]) ?_ 0 _ rfl; (with_reducible repeat (first | refine blk_drewN ?_ _ | refine blk_drew ?_ | refine blk_alloc ?_ _)); exact BK388.out) hb); replace HB := Aside0.mk (below_step bl hb); (try clear hb); (try clear hb2); (try clear hk); (try clear hi)) | ((with_reducible refine gate_callee (f := 13) rfl ?_); refine goesL_ (some 93) rfl rfl Tryz.func13 kf rfl #[.string (t389 ++ js14)] rfl ml ?_; (with_reducible refine (path_Parse.calls k2 (t389 ++ js14) t390 t391 t392 t395 t396 t397 t398 _ ?side1 A70.out).mono ?_); (case side1 => exact Glob.below HG.out bl); rintro e w82 ⟨v393, rfl, ho0, hb⟩; refine ⟨_, rfl, ?_⟩; replace HO_82 := Aside0.mk (Kd.S_elder' (by (with_reducible repeat (first | apply Kd.S_alloc | apply Kd.S_drewN | apply Kd.S_drew)); exact HO_82.out) (Kd.R_base ho0) hb); have HO394 := Aside0.mk (Kd.R_lower (Kd.R_new' ho0 (Kd.R_lt (kr HL387_2.out))) (below_size bl)); replace HL387_2 := Aside0.mk (Kd.R_elder' (kr HL387_2.out) (Kd.R_base ho0) hb); replace BK354 := Aside0.mk (kb BK354.out hb); replace BK355 := Aside0.mk (kb BK355.out hb); replace HR387_2 := Aside0.mk (Kd.C_below (by repeat (first | (with_reducible exact HR387_2.out) | (with_reducible refine Kd.C_alloc ?_ _) | (with_reducible refine Kd.C_drewN ?_ _) | (with_reducible refine Kd.C_drew ?_) | exact HR387_2.out)) hb); replace BK388 := Aside0.mk (kb BK388.out hb); replace HB := Aside0.mk (below_step bl hb); (try clear hb); (try clear hb2); (try clear hk); (try clear hi); (try clear ho0)) | ((with_reducible refine gate_dst (N := 12) rfl ?_); (try (refine gate_guard (by rfl) ?_; dsimp only)); refine box_event ?hg (N := 12) ?hd (cs := #[.bool false, .bool false, .slice none 0 0, .string (⟨#[]⟩ : ByteArray), .string (⟨#[]⟩ : ByteArray)]) (t := 26) ?hr ?_; (case hd => rfl); (case hg => rfl); (case hr => first | (go_simp; done) | (go_simp; rfl)); intro gb399 hg w83 hbox hb; replace HO_82 := Aside0.mk (Kd.S_below (Kd.S_elderB (by (with_reducible repeat (first | apply Kd.S_alloc | apply Kd.S_drewN | apply Kd.S_drew)); exact HO_82.out) gb399 (Nat.le_of_eq hg.symm)) hb); replace HL387_2 := Aside0.mk (Kd.R_below (kr HL387_2.out) hb); replace HO394 := Aside0.mk (Kd.R_below (kr HO394.out) hb); replace HR387_2 := Aside0.mk (Kd.C_below (by repeat (first | (with_reducible exact HR387_2.out) | (with_reducible refine Kd.C_alloc ?_ _) | (with_reducible refine Kd.C_drewN ?_ _) | (with_reducible refine Kd.C_drew ?_) | exact HR387_2.out)) hb); have BK399 := Aside0.mk (hbox); have GW399 := Aside0.mk (gz hg : w.heap.size ≤ gb399); have GE399 := Aside0.mk (gz hg : w.heap.size ≤ gb399); replace HB := Aside0.mk (below_step bl hb); have NB354_399 := Aside0.mk (nl hg BK354.out : gb354 ≠ gb399); have NB399_354 := Aside0.mk (ng hg BK354.out : gb399 ≠ gb354); replace BK354 := Aside0.mk (kb BK354.out hb); have NB355_399 := Aside0.mk (nl hg BK355.out : gb355 ≠ gb399); have NB399_355 := Aside0.mk (ng hg BK355.out : gb399 ≠ gb355); replace BK355 := Aside0.mk (kb BK355.out hb); have NB388_399 := Aside0.mk (nl hg BK388.out : gb388 ≠ gb399); have NB399_388 := Aside0.mk (ng hg BK388.out : gb399 ≠ gb388); replace BK388 := Aside0.mk (kb BK388.out hb); clear hb hbox hg; have hnb84 := NB399_354.out; have hnc84 := NB354_399.out; have hnb85 := NB399_355.out; have hnc85 := NB355_399.out; have hnb86 := NB399_388.out; have hnc86 := NB388_399.out; have hcz87_0 := cz BK399.out 0 (.bool false); have hcz87_1 := cz BK399.out 1 (.bool false); have hcz87_2 := cz BK399.out 2 (.slice none 0 0); have hcz87_3 := cz BK399.out 3 (.string (⟨#[]⟩ : ByteArray)); have hcz87_4 := cz BK399.out 4 (.string (⟨#[]⟩ : ByteArray)); have hfz87_0 := blk_frozen BK399.out 0; have hfz87_1 := blk_frozen BK399.out 1; have hfz87_2 := blk_frozen BK399.out 2; have hfz87_3 := blk_frozen BK399.out 3; have hfz87_4 := blk_frozen BK399.out 4; obtain ⟨Ao88, co88, eo88⟩ := Kd.R_slice HO394.out; subst eo88))
         have n0_ : Aside0 (Kd.S k26 26 (((((w83.setCell ⟨gb399, 0, none⟩ (.bool t390)).setCell ⟨gb399, 1, none⟩ (.bool t391)).setCell ⟨gb399, 2, none⟩ (.slice Ao88 t392.length co88)).setCell ⟨gb399, 3, none⟩ (.string t395)).setCell ⟨gb399, 4, none⟩ (.string t396)) w.heap.size (fun k_ => some k_ ≠ (.slice Ao88 t392.length co88 : Value).ownBlock ∧ k_ ≠ gb355 ∧ k_ ≠ gb388 ∧ k_ ≠ gb399) (.slice (some ad387) y384.length co64) y384) := ⟨by (with_reducible repeat (first | apply Kd.S_alloc | apply Kd.S_drewN | apply Kd.S_drew)); exact Kd.S_mono (Kd.S_far (p := ⟨gb399, 4, none⟩) (Kd.S_far (p := ⟨gb399, 3, none⟩) (Kd.S_far (p := ⟨gb399, 2, none⟩) (Kd.S_far (p := ⟨gb399, 1, none⟩) (Kd.S_far (p := ⟨gb399, 0, none⟩) (Kd.S_mono HO_82.out (fun k_ hk => (⟨hk, hk.2⟩ : _ ∧ k_ ≠ gb399))) (fun _ hk => hk.2) (.bool t390)) (fun _ hk => hk.2) (.bool t391)) (fun _ hk => hk.2) (.slice Ao88 t392.length co88)) (fun _ hk => hk.2) (.string t395)) (fun _ hk => hk.2) (.string t396)) (fun _ hk => ⟨hk.1.1.2, ⟨hk.1.1.1.1, ⟨hk.1.1.1.2, hk.1.2⟩⟩⟩)⟩
         have n1_ : Aside0 (Kd.R Kd.string 9 (((((w83.setCell ⟨gb399, 0, none⟩ (.bool t390)).setCell ⟨gb399, 1, none⟩ (.bool t391)).setCell ⟨gb399, 2, none⟩ (.slice Ao88 t392.length co88)).setCell ⟨gb399, 3, none⟩ (.string t395)).setCell ⟨gb399, 4, none⟩ (.string t396)) w.heap.size (fun k_ => some k_ ≠ (.slice (some ad387) y384.length co64 : Value).ownBlock ∧ some k_ ≠ (.slice Ao88 t392.length co88 : Value).ownBlock ∧ k_ ≠ gb355) (.slice A387_2 ((rd_T26 y384 x84_2).f2).length c387_2) ((rd_T26 y384 x84_2).f2)) := ⟨by (with_reducible repeat (first | apply Kd.R_alloc | apply Kd.R_drewN | apply Kd.R_drew)); exact Kd.R_mono (Kd.R_far (p := ⟨gb399, 4, none⟩) (Kd.R_far (p := ⟨gb399, 3, none⟩) (Kd.R_far (p := ⟨gb399, 2, none⟩) (Kd.R_far (p := ⟨gb399, 1, none⟩) (Kd.R_far (p := ⟨gb399, 0, none⟩) (Kd.R_types HL387_2.out BK399.out (by decide)) (fun _ hk => hk.2) (.bool t390)) (fun _ hk => hk.2) (.bool t391)) (fun _ hk => hk.2) (.slice Ao88 t392.length co88)) (fun _ hk => hk.2) (.string t395)) (fun _ hk => hk.2) (.string t396)) (fun _ hk => ⟨hk.1.1.2, ⟨hk.1.2, hk.1.1.1⟩⟩)⟩
         have n2_ : Aside0 (Kd.R Kd.string 9 (((((w83.setCell ⟨gb399, 0, none⟩ (.bool t390)).setCell ⟨gb399, 1, none⟩ (.bool t391)).setCell ⟨gb399, 2, none⟩ (.slice Ao88 t392.length co88)).setCell ⟨gb399, 3, none⟩ (.string t395)).setCell ⟨gb399, 4, none⟩ (.string t396)) w.heap.size (fun k_ => some k_ ≠ (.slice A387_2 ((rd_T26 y384 x84_2).f2).length c387_2 : Value).ownBlock) (.slice Ao88 t392.length co88) t392) := ⟨by (with_reducible repeat (first | apply Kd.R_alloc | apply Kd.R_drewN | apply Kd.R_drew)); exact Kd.R_mono (Kd.R_far (p := ⟨gb399, 4, none⟩) (Kd.R_far (p := ⟨gb399, 3, none⟩) (Kd.R_far (p := ⟨gb399, 2, none⟩) (Kd.R_far (p := ⟨gb399, 1, none⟩) (Kd.R_far (p := ⟨gb399, 0, none⟩) (Kd.R_types HO394.out BK399.out (by decide)) (fun _ hk => hk.2) (.bool t390)) (fun _ hk => hk.2) (.bool t391)) (fun _ hk => hk.2) (.slice Ao88 t392.length co88)) (fun _ hk => hk.2) (.string t395)) (fun _ hk => hk.2) (.string t396)) (fun _ hk => hk.1.2)⟩
         have n3_ : Aside0 ((((((w83.setCell ⟨gb399, 0, none⟩ (.bool t390)).setCell ⟨gb399, 1, none⟩ (.bool t391)).setCell ⟨gb399, 2, none⟩ (.slice Ao88 t392.length co88)).setCell ⟨gb399, 3, none⟩ (.string t395)).setCell ⟨gb399, 4, none⟩ (.string t396)).heap[gb354]? = some (.cells #[.string js6, .string js10] 24 (0, 0))) := ⟨bk BK354.out⟩
         have n4_ : Aside0 ((((((w83.setCell ⟨gb399, 0, none⟩ (.bool t390)).setCell ⟨gb399, 1, none⟩ (.bool t391)).setCell ⟨gb399, 2, none⟩ (.slice Ao88 t392.length co88)).setCell ⟨gb399, 3, none⟩ (.string t395)).setCell ⟨gb399, 4, none⟩ (.string t396)).heap[gb355]? = some (.cells #[.bool false, .bool false, .slice none 0 0, .string js6, .string js10] 26 (0, 0))) := ⟨bk BK355.out⟩
         have n5_ : Aside0 ((((((w83.setCell ⟨gb399, 0, none⟩ (.bool t390)).setCell ⟨gb399, 1, none⟩ (.bool t391)).setCell ⟨gb399, 2, none⟩ (.slice Ao88 t392.length co88)).setCell ⟨gb399, 3, none⟩ (.string t395)).setCell ⟨gb399, 4, none⟩ (.string t396)).heap[gb388]? = some (.cells #[.bool ((rd_T26 y384 x84_2).f0), .bool ((rd_T26 y384 x84_2).f1), .slice A387_2 ((rd_T26 y384 x84_2).f2).length c387_2, .string ((rd_T26 y384 x84_2).f3.f0), .string ((rd_T26 y384 x84_2).f3.f1)] 26 (0, 0))) := ⟨bk BK388.out⟩
         have n6_ : Aside0 ((((((w83.setCell ⟨gb399, 0, none⟩ (.bool t390)).setCell ⟨gb399, 1, none⟩ (.bool t391)).setCell ⟨gb399, 2, none⟩ (.slice Ao88 t392.length co88)).setCell ⟨gb399, 3, none⟩ (.string t395)).setCell ⟨gb399, 4, none⟩ (.string t396)).heap[gb399]? = some (.cells #[.bool t390, .bool t391, .slice Ao88 t392.length co88, .string t395, .string t396] 26 (0, 0))) := ⟨by (with_reducible repeat (first | refine blk_drewN ?_ _ | refine blk_drew ?_ | refine blk_alloc ?_ _)); refine blk_put (cs := #[.bool t390, .bool t391, .slice Ao88 t392.length co88, .string t395, .string (⟨#[]⟩ : ByteArray)]) ?_ 4 _ rfl; (with_reducible repeat (first | refine blk_drewN ?_ _ | refine blk_drew ?_ | refine blk_alloc ?_ _)); refine blk_put (cs := #[.bool t390, .bool t391, .slice Ao88 t392.length co88, .string (⟨#[]⟩ : ByteArray), .string (⟨#[]⟩ : ByteArray)]) ?_ 3 _ rfl; (with_reducible repeat (first | refine blk_drewN ?_ _ | refine blk_drew ?_ | refine blk_alloc ?_ _)); refine blk_put (cs := #[.bool t390, .bool t391, .slice none 0 0, .string (⟨#[]⟩ : ByteArray), .string (⟨#[]⟩ : ByteArray)]) ?_ 2 _ rfl; (with_reducible repeat (first | refine blk_drewN ?_ _ | refine blk_drew ?_ | refine blk_alloc ?_ _)); refine blk_put (cs := #[.bool t390, .bool false, .slice none 0 0, .string (⟨#[]⟩ : ByteArray), .string (⟨#[]⟩ : ByteArray)]) ?_ 1 _ rfl; (with_reducible repeat (first | refine blk_drewN ?_ _ | refine blk_drew ?_ | refine blk_alloc ?_ _)); refine blk_put (cs := #[.bool false, .bool false, .slice none 0 0, .string (⟨#[]⟩ : ByteArray), .string (⟨#[]⟩ : ByteArray)]) ?_ 0 _ rfl; (with_reducible repeat (first | refine blk_drewN ?_ _ | refine blk_drew ?_ | refine blk_alloc ?_ _)); exact BK399.out⟩
         have n7_ : Aside0 (Below w.heap.size w (((((w83.setCell ⟨gb399, 0, none⟩ (.bool t390)).setCell ⟨gb399, 1, none⟩ (.bool t391)).setCell ⟨gb399, 2, none⟩ (.slice Ao88 t392.length co88)).setCell ⟨gb399, 3, none⟩ (.string t395)).setCell ⟨gb399, 4, none⟩ (.string t396))) := ⟨bl⟩
         (try clear HO_82)
         (try clear HL387_2)
         (try clear HO394)
         (try clear BK354)
         (try clear BK355)
         (try clear BK388)
         (try clear BK399)
         (try clear HB)
         generalize (((((w83.setCell ⟨gb399, 0, none⟩ (.bool t390)).setCell ⟨gb399, 1, none⟩ (.bool t391)).setCell ⟨gb399, 2, none⟩ (.slice Ao88 t392.length co88)).setCell ⟨gb399, 3, none⟩ (.string t395)).setCell ⟨gb399, 4, none⟩ (.string t396)) = w89 at n0_ n1_ n2_ n3_ n4_ n5_ n6_ n7_ ⊢
         have HO_82 := n0_
         have HL387_2 := n1_
         have HO394 := n2_
         have BK354 := n3_
         have BK355 := n4_
         have BK388 := n5_
         have BK399 := n6_
         have HB := n7_
         clear n0_ n1_ n2_ n3_ n4_ n5_ n6_ n7_
         replace HO_82 := Aside0.mk (Kd.S_drew HO_82.out)
         replace HL387_2 := Aside0.mk (Kd.R_drew HL387_2.out)
         replace HO394 := Aside0.mk (Kd.R_drew HO394.out)
         replace BK354 := Aside0.mk (blk_drew BK354.out)
         replace BK355 := Aside0.mk (blk_drew BK355.out)
         replace BK388 := Aside0.mk (blk_drew BK388.out)
         replace BK399 := Aside0.mk (blk_drew BK399.out)
         replace HB := Aside0.mk (below_drew1 HB.out)
         refine start_ (n := 15) (S := fun w' => w'.cell? ⟨gb399, 0, none⟩ = some (.bool t390) ∧ w'.cell? ⟨gb399, 1, none⟩ = some (.bool t391) ∧ w'.cell? ⟨gb399, 2, none⟩ = some (.slice Ao88 t392.length co88) ∧ w'.cell? ⟨gb399, 3, none⟩ = some (.string t395) ∧ w'.cell? ⟨gb399, 4, none⟩ = some (.string t396) ∧ w'.cell? ⟨gb388, 0, none⟩ = some (.bool ((rd_T26 y384 x84_2).f0)) ∧ w'.cell? ⟨gb388, 1, none⟩ = some (.bool ((rd_T26 y384 x84_2).f1)) ∧ w'.cell? ⟨gb388, 2, none⟩ = some (.slice A387_2 ((rd_T26 y384 x84_2).f2).length c387_2) ∧ w'.cell? ⟨gb388, 3, none⟩ = some (.string ((rd_T26 y384 x84_2).f3.f0)) ∧ w'.cell? ⟨gb388, 4, none⟩ = some (.string ((rd_T26 y384 x84_2).f3.f1))) (ds := []) #[false, false, false, false, false, false, false, false, false, false, false, false, false, false, false] kf rfl rfl ⟨(blk_cell BK399.out 0).trans rfl, (blk_cell BK399.out 1).trans rfl, (blk_cell BK399.out 2).trans rfl, (blk_cell BK399.out 3).trans rfl, (blk_cell BK399.out 4).trans rfl, (blk_cell BK388.out 0).trans rfl, (blk_cell BK388.out 1).trans rfl, (blk_cell BK388.out 2).trans rfl, (blk_cell BK388.out 3).trans rfl, (blk_cell BK388.out 4).trans rfl⟩ (fun hHeld => ?_); refine with_tabW postriderlaw06_PathBack.tab17 postriderlaw06_PathBack.bits17 (fun HT_ HW_ => ?_)
         generalize w89.drew = w90 at HO_82 HL387_2 HO394 BK354 BK355 BK388 BK399 HB HL387_2 HO394 hHeld ⊢
         refine pure_ (i := 0) (N := some 97) (v := ?_) (a' := ?_) #[true, false, false, false, false, false, false, false, false, false, false, false, false, false, false] rfl rfl (any_of HT_.out kf) (fun _ _ _ h => h) (Or.inl ⟨by rfl, ?_⟩) ?_ ?_
         rotate_left
         ·intro w'
          go_simp
          with_reducible rfl
         rotate_left
         ·simp only [Act.put, sA, sB, sC, i64_w, i32_w]
          rfl
         refine pure_ (i := 1) (N := some 98) (v := ?_) (a' := ?_) #[true, true, false, false, false, false, false, false, false, false, false, false, false, false, false] rfl rfl (any_of HT_.out kf) (fun _ _ _ h => h) (Or.inl ⟨by rfl, ?_⟩) ?_ ?_
         rotate_left
         ·intro w'
          go_simp
          with_reducible rfl
         rotate_left
         ·simp only [Act.put, sA, sB, sC, i64_w, i32_w]
          rfl
         refine pure_ (i := 2) (N := some 99) (v := ?_) (a' := ?_) #[true, true, true, false, false, false, false, false, false, false, false, false, false, false, false] rfl rfl (any_of HT_.out kf) (fun _ _ _ h => h) (Or.inl ⟨by rfl, ?_⟩) ?_ ?_
         rotate_left
         ·intro w'
          go_simp
          with_reducible rfl
         rotate_left
         ·simp only [Act.put, sA, sB, sC, i64_w, i32_w]
          rfl
         refine pure_ (i := 3) (N := some 100) (v := ?_) (a' := ?_) #[true, true, true, true, false, false, false, false, false, false, false, false, false, false, false] rfl rfl (any_of HT_.out kf) (fun _ _ _ h => h) (Or.inl ⟨by rfl, ?_⟩) ?_ ?_
         rotate_left
         ·intro w'
          go_simp
          with_reducible rfl
         rotate_left
         ·simp only [Act.put, sA, sB, sC, i64_w, i32_w]
          rfl
         refine pure_ (i := 4) (N := some 101) (v := ?_) (a' := ?_) #[true, true, true, true, true, false, false, false, false, false, false, false, false, false, false] rfl rfl (any_of HT_.out kf) (fun _ _ _ h => h) (Or.inl ⟨by rfl, ?_⟩) ?_ ?_
         rotate_left
         ·intro w'
          go_simp
          with_reducible rfl
         rotate_left
         ·simp only [Act.put, sA, sB, sC, i64_w, i32_w]
          rfl
         refine pure_ (i := 5) (N := some 102) (v := ?_) (a' := ?_) #[true, true, true, true, true, true, false, false, false, false, false, false, false, false, false] rfl rfl (any_of HT_.out kf) (fun _ _ _ h => h) (Or.inl ⟨by rfl, ?_⟩) ?_ ?_
         rotate_left
         ·intro w'
          go_simp
          with_reducible rfl
         rotate_left
         ·simp only [Act.put, sA, sB, sC, i64_w, i32_w]
          rfl
         refine pure_ (i := 6) (N := some 103) (v := ?_) (a' := ?_) #[true, true, true, true, true, true, true, false, false, false, false, false, false, false, false] rfl rfl (any_of HT_.out kf) (fun _ _ _ h => h) (Or.inl ⟨by rfl, ?_⟩) ?_ ?_
         rotate_left
         ·intro w'
          go_simp
          with_reducible rfl
         rotate_left
         ·simp only [Act.put, sA, sB, sC, i64_w, i32_w]
          rfl
         refine pure_ (i := 7) (N := some 104) (v := ?_) (a' := ?_) #[true, true, true, true, true, true, true, true, false, false, false, false, false, false, false] rfl rfl (any_of HT_.out kf) (fun _ _ _ h => h) (Or.inl ⟨by rfl, ?_⟩) ?_ ?_
         rotate_left
         ·intro w'
          go_simp
          with_reducible rfl
         rotate_left
         ·simp only [Act.put, sA, sB, sC, i64_w, i32_w]
          rfl
         refine take_ (i := 8) (N := some 105) (v := ?_) (a' := ?_) #[true, true, true, true, true, true, true, true, true, false, false, false, false, false, false] rfl rfl (take_ofW HT_.out HW_.out kf) (fun _ _ _ h => h) (Or.inl ⟨by rfl, ?_⟩) hHeld ?_ ?_
         rotate_left
         ·rintro w' ⟨s0, s1, s2, s3, s4, s5, s6, s7, s8, s9⟩
          go_simp
          with_reducible rfl
         rotate_left
         ·simp only [Act.put, sA, sB, sC, i64_w, i32_w]
          rfl
         refine take_ (i := 10) (N := some 107) (v := ?_) (a' := ?_) #[true, true, true, true, true, true, true, true, true, false, true, false, false, false, false] rfl rfl (take_ofW HT_.out HW_.out kf) (fun _ _ _ h => h) (Or.inl ⟨by rfl, ?_⟩) hHeld ?_ ?_
         rotate_left
         ·rintro w' ⟨s0, s1, s2, s3, s4, s5, s6, s7, s8, s9⟩
          go_simp
          with_reducible rfl
         rotate_left
         ·simp only [Act.put, sA, sB, sC, i64_w, i32_w]
          rfl
         refine one_ (i := 9) (N := some 106) #[true, true, true, true, true, true, true, true, true, true, true, false, false, false, false] rfl rfl (one_of HT_.out kf) (by decide) (fun K hK => ?_)
         refine goes_ Tryz.func10 kf rfl #[.agg #[.bool t390, .bool t391, .slice Ao88 t392.length co88, .string t395, .string t396]] (by rfl) rfl rfl ml ?_
         with_reducible refine (postriderlaw06_Of.calls t390 t391 (fun k_ => some k_ = (.slice Ao88 t392.length co88 : Value).ownBlock) _ _ t392 t395 t396 t400 t401 t402 t405 t406 _ ?side1 A73.out).mono ?_
         (case side1 => exact Kd.R_V (Kd.R_tight rfl (Kd.R_types (Kd.R_types (Kd.R_types (Kd.R_types (Kd.R_apart' (HO394.out) (Kd.S_typed HO_82.out) (by decide)) BK354.out (by decide)) BK355.out (by decide)) BK388.out (by decide)) BK399.out (by decide))))
         rintro e w91 ⟨v403, rfl, ho0, hb⟩
         refine ⟨_, rfl, ?_⟩
         replace HL387_2 := Aside0.mk (Kd.R_below (kr HL387_2.out) hb)
         have HO404 := Aside0.mk (Kd.V_lower (Kd.V_mono (ok' := fun k_ => some k_ ≠ (.slice (some ad387) y384.length co64 : Value).ownBlock ∧ k_ ≠ gb354 ∧ k_ ≠ gb355 ∧ k_ ≠ gb388 ∧ k_ ≠ gb399) ho0 (fun k_ hk_ => ⟨Or.elim hk_ (fun hs_ => ((Kd.R_types (Kd.R_types (Kd.R_types (Kd.R_types (Kd.R_apart' (HO394.out) (Kd.S_typed HO_82.out) (by decide)) BK354.out (by decide)) BK355.out (by decide)) BK388.out (by decide)) BK399.out (by decide)).1 k_ hs_.symm).1.1.1.1.2) (fun hn_ => (Kd.fresh' (Kd.S_lt (by (with_reducible repeat (first | apply Kd.S_alloc | apply Kd.S_drewN | apply Kd.S_drew)); exact HO_82.out)) k_ hn_)), Or.elim hk_ (fun hs_ => ((Kd.R_types (Kd.R_types (Kd.R_types (Kd.R_types (Kd.R_apart' (HO394.out) (Kd.S_typed HO_82.out) (by decide)) BK354.out (by decide)) BK355.out (by decide)) BK388.out (by decide)) BK399.out (by decide)).1 k_ hs_.symm).1.1.1.2) (fun hn_ => (Kd.freshB (g := gb354) (o := .cells #[.string js6, .string js10] 24 (0, 0)) (bk BK354.out) k_ hn_)), Or.elim hk_ (fun hs_ => ((Kd.R_types (Kd.R_types (Kd.R_types (Kd.R_types (Kd.R_apart' (HO394.out) (Kd.S_typed HO_82.out) (by decide)) BK354.out (by decide)) BK355.out (by decide)) BK388.out (by decide)) BK399.out (by decide)).1 k_ hs_.symm).1.1.2) (fun hn_ => (Kd.freshB (g := gb355) (o := .cells #[.bool false, .bool false, .slice none 0 0, .string js6, .string js10] 26 (0, 0)) (bk BK355.out) k_ hn_)), Or.elim hk_ (fun hs_ => ((Kd.R_types (Kd.R_types (Kd.R_types (Kd.R_types (Kd.R_apart' (HO394.out) (Kd.S_typed HO_82.out) (by decide)) BK354.out (by decide)) BK355.out (by decide)) BK388.out (by decide)) BK399.out (by decide)).1 k_ hs_.symm).1.2) (fun hn_ => (Kd.freshB (g := gb388) (o := .cells #[.bool ((rd_T26 y384 x84_2).f0), .bool ((rd_T26 y384 x84_2).f1), .slice A387_2 ((rd_T26 y384 x84_2).f2).length c387_2, .string ((rd_T26 y384 x84_2).f3.f0), .string ((rd_T26 y384 x84_2).f3.f1)] 26 (0, 0)) (bk BK388.out) k_ hn_)), Or.elim hk_ (fun hs_ => ((Kd.R_types (Kd.R_types (Kd.R_types (Kd.R_types (Kd.R_apart' (HO394.out) (Kd.S_typed HO_82.out) (by decide)) BK354.out (by decide)) BK355.out (by decide)) BK388.out (by decide)) BK399.out (by decide)).1 k_ hs_.symm).2) (fun hn_ => (Kd.freshB (g := gb399) (o := .cells #[.bool t390, .bool t391, .slice Ao88 t392.length co88, .string t395, .string t396] 26 (0, 0)) (bk BK399.out) k_ hn_))⟩)) (below_size bl))
         replace HO_82 := Aside0.mk (Kd.S_below (by (with_reducible repeat (first | apply Kd.S_alloc | apply Kd.S_drewN | apply Kd.S_drew)); exact HO_82.out) hb)
         replace HO394 := Aside0.mk (Kd.R_below (kr HO394.out) hb)
         replace BK354 := Aside0.mk (kb BK354.out hb)
         replace BK355 := Aside0.mk (kb BK355.out hb)
         replace BK388 := Aside0.mk (kb BK388.out hb)
         replace BK399 := Aside0.mk (kb BK399.out hb)
         replace HB := Aside0.mk (below_step bl hb)
         (try clear hb)
         (try clear hb2)
         (try clear hk)
         (try clear hi)
         (try clear ho0)
         refine hK.out _ _ ⟨(blk_cell BK399.out 0).trans rfl, (blk_cell BK399.out 1).trans rfl, (blk_cell BK399.out 2).trans rfl, (blk_cell BK399.out 3).trans rfl, (blk_cell BK399.out 4).trans rfl, (blk_cell BK388.out 0).trans rfl, (blk_cell BK388.out 1).trans rfl, (blk_cell BK388.out 2).trans rfl, (blk_cell BK388.out 3).trans rfl, (blk_cell BK388.out 4).trans rfl⟩ (fun hHeld => ?_)
         clear hK K
         refine norm_ (a' := ?_) ?_ ?_
         rotate_left
         ·show Act.put _ (some 106) _ = _
          simp only [Act.put, sA, sB, sC, i64_w, i32_w]
          rfl
         refine one_ (i := 11) (N := some 108) #[true, true, true, true, true, true, true, true, true, true, true, true, false, false, false] rfl rfl (one_of HT_.out kf) (by decide) (fun K hK => ?_)
         refine goes_ Tryz.func10 kf rfl #[.agg #[.bool ((rd_T26 y384 x84_2).f0), .bool ((rd_T26 y384 x84_2).f1), .slice A387_2 ((rd_T26 y384 x84_2).f2).length c387_2, .string ((rd_T26 y384 x84_2).f3.f0), .string ((rd_T26 y384 x84_2).f3.f1)]] (by rfl) rfl rfl ml ?_
         with_reducible refine (postriderlaw06_Of.calls ((rd_T26 y384 x84_2).f0) ((rd_T26 y384 x84_2).f1) (fun k_ => some k_ = (.slice A387_2 ((rd_T26 y384 x84_2).f2).length c387_2 : Value).ownBlock) _ _ ((rd_T26 y384 x84_2).f2) ((rd_T26 y384 x84_2).f3.f0) ((rd_T26 y384 x84_2).f3.f1) t407 t408 t409 t412 t413 _ ?side1 A74.out).mono ?_
         (case side1 => exact Kd.R_V (Kd.R_tight rfl (Kd.R_types (Kd.R_types (Kd.R_types (HL387_2.out) BK354.out (by decide)) BK388.out (by decide)) BK399.out (by decide))))
         rintro e w92 ⟨v410, rfl, ho0, hb⟩
         refine ⟨_, rfl, ?_⟩
         replace HO404 := Aside0.mk (Kd.V_below (by (with_reducible repeat (first | apply Kd.V_alloc | apply Kd.V_drewN | apply Kd.V_drew)); exact HO404.out) hb)
         have HO411 := Aside0.mk (Kd.V_lower (Kd.V_mono (ok' := fun k_ => some k_ ≠ (.slice (some ad387) y384.length co64 : Value).ownBlock ∧ some k_ ≠ (.slice Ao88 t392.length co88 : Value).ownBlock ∧ k_ ≠ gb354 ∧ k_ ≠ gb355 ∧ k_ ≠ gb388 ∧ k_ ≠ gb399) ho0 (fun k_ hk_ => ⟨Or.elim hk_ (fun hs_ => ((Kd.R_types (Kd.R_types (Kd.R_types (HL387_2.out) BK354.out (by decide)) BK388.out (by decide)) BK399.out (by decide)).1 k_ hs_.symm).1.1.1.1) (fun hn_ => (Kd.fresh' (Kd.S_lt (by (with_reducible repeat (first | apply Kd.S_alloc | apply Kd.S_drewN | apply Kd.S_drew)); exact HO_82.out)) k_ hn_)), Or.elim hk_ (fun hs_ => ((Kd.R_types (Kd.R_types (Kd.R_types (HL387_2.out) BK354.out (by decide)) BK388.out (by decide)) BK399.out (by decide)).1 k_ hs_.symm).1.1.1.2.1) (fun hn_ => (Kd.fresh' (Kd.R_lt (kr HO394.out)) k_ hn_)), Or.elim hk_ (fun hs_ => ((Kd.R_types (Kd.R_types (Kd.R_types (HL387_2.out) BK354.out (by decide)) BK388.out (by decide)) BK399.out (by decide)).1 k_ hs_.symm).1.1.2) (fun hn_ => (Kd.freshB (g := gb354) (o := .cells #[.string js6, .string js10] 24 (0, 0)) (bk BK354.out) k_ hn_)), Or.elim hk_ (fun hs_ => ((Kd.R_types (Kd.R_types (Kd.R_types (HL387_2.out) BK354.out (by decide)) BK388.out (by decide)) BK399.out (by decide)).1 k_ hs_.symm).1.1.1.2.2) (fun hn_ => (Kd.freshB (g := gb355) (o := .cells #[.bool false, .bool false, .slice none 0 0, .string js6, .string js10] 26 (0, 0)) (bk BK355.out) k_ hn_)), Or.elim hk_ (fun hs_ => ((Kd.R_types (Kd.R_types (Kd.R_types (HL387_2.out) BK354.out (by decide)) BK388.out (by decide)) BK399.out (by decide)).1 k_ hs_.symm).1.2) (fun hn_ => (Kd.freshB (g := gb388) (o := .cells #[.bool ((rd_T26 y384 x84_2).f0), .bool ((rd_T26 y384 x84_2).f1), .slice A387_2 ((rd_T26 y384 x84_2).f2).length c387_2, .string ((rd_T26 y384 x84_2).f3.f0), .string ((rd_T26 y384 x84_2).f3.f1)] 26 (0, 0)) (bk BK388.out) k_ hn_)), Or.elim hk_ (fun hs_ => ((Kd.R_types (Kd.R_types (Kd.R_types (HL387_2.out) BK354.out (by decide)) BK388.out (by decide)) BK399.out (by decide)).1 k_ hs_.symm).2) (fun hn_ => (Kd.freshB (g := gb399) (o := .cells #[.bool t390, .bool t391, .slice Ao88 t392.length co88, .string t395, .string t396] 26 (0, 0)) (bk BK399.out) k_ hn_))⟩)) (below_size bl))
         replace HO_82 := Aside0.mk (Kd.S_below (by (with_reducible repeat (first | apply Kd.S_alloc | apply Kd.S_drewN | apply Kd.S_drew)); exact HO_82.out) hb)
         replace HL387_2 := Aside0.mk (Kd.R_below (kr HL387_2.out) hb)
         replace HO394 := Aside0.mk (Kd.R_below (kr HO394.out) hb)
         replace BK354 := Aside0.mk (kb BK354.out hb)
         replace BK355 := Aside0.mk (kb BK355.out hb)
         replace BK388 := Aside0.mk (kb BK388.out hb)
         replace BK399 := Aside0.mk (kb BK399.out hb)
         replace HB := Aside0.mk (below_step bl hb)
         (try clear hb)
         (try clear hb2)
         (try clear hk)
         (try clear hi)
         (try clear ho0)
         obtain ⟨Ao93, co93, eo93⟩ := Kd.V_slice HO404.out
         (first | subst eo93 | (injection eo93 with f1_ f2_ f3_; have f4_ := f1_.symm; have f5_ := f3_.symm; clear f1_ f2_ f3_; subst f4_; subst f5_))
         obtain ⟨Ao94, co94, eo94⟩ := Kd.V_slice HO411.out
         (first | subst eo94 | (injection eo94 with f1_ f2_ f3_; have f4_ := f1_.symm; have f5_ := f3_.symm; clear f1_ f2_ f3_; subst f4_; subst f5_))
         refine hK.out _ _ ⟨(blk_cell BK399.out 0).trans rfl, (blk_cell BK399.out 1).trans rfl, (blk_cell BK399.out 2).trans rfl, (blk_cell BK399.out 3).trans rfl, (blk_cell BK399.out 4).trans rfl, (blk_cell BK388.out 0).trans rfl, (blk_cell BK388.out 1).trans rfl, (blk_cell BK388.out 2).trans rfl, (blk_cell BK388.out 3).trans rfl, (blk_cell BK388.out 4).trans rfl⟩ (fun hHeld => ?_)
         clear hK K
         refine norm_ (a' := ?_) ?_ ?_
         rotate_left
         ·show Act.put _ (some 108) _ = _
          simp only [Act.put, sA, sB, sC, i64_w, i32_w]
          rfl
         refine one_ (i := 12) (N := some 109) #[true, true, true, true, true, true, true, true, true, true, true, true, true, false, false] rfl rfl (one_of HT_.out kf) (by decide) (fun K hK => ?_)
         refine goes_ Tryz.func14 kf rfl #[.agg #[.bool t400, .bool t401, .slice Ao93 t402.length co93, .string t405, .string t406], .agg #[.bool t407, .bool t408, .slice Ao94 t409.length co94, .string t412, .string t413]] (by rfl) rfl rfl ml ?_
         with_reducible refine (postriderlaw06_Like.calls k2 t400 t401 _ _ t402 t405 t406 t407 t408 _ _ t409 t412 t413 true _ ?side1 ?side2 ?side3 ?side4 A75.out).mono ?_
         (case side1 => repeat (first | exact (Kd.V_reads' HO404.out).2.2 | (with_reducible refine Kd.C_alloc ?_ _) | (with_reducible refine Kd.C_drewN ?_ _) | (with_reducible refine Kd.C_drew ?_)))
         (case side2 => exact (Kd.V_reads' HO404.out).2.1)
         (case side3 => repeat (first | exact (Kd.V_reads' HO411.out).2.2 | (with_reducible refine Kd.C_alloc ?_ _) | (with_reducible refine Kd.C_drewN ?_ _) | (with_reducible refine Kd.C_drew ?_)))
         (case side4 => exact (Kd.V_reads' HO411.out).2.1)
         rintro e w95 ⟨rfl, hb⟩
         refine ⟨_, rfl, ?_⟩
         replace HO_82 := Aside0.mk (Kd.S_below (by (with_reducible repeat (first | apply Kd.S_alloc | apply Kd.S_drewN | apply Kd.S_drew)); exact HO_82.out) hb)
         replace HL387_2 := Aside0.mk (Kd.R_below (kr HL387_2.out) hb)
         replace HO394 := Aside0.mk (Kd.R_below (kr HO394.out) hb)
         replace HO404 := Aside0.mk (Kd.V_below (by (with_reducible repeat (first | apply Kd.V_alloc | apply Kd.V_drewN | apply Kd.V_drew)); exact HO404.out) hb)
         replace HO411 := Aside0.mk (Kd.V_below (by (with_reducible repeat (first | apply Kd.V_alloc | apply Kd.V_drewN | apply Kd.V_drew)); exact HO411.out) hb)
         replace BK354 := Aside0.mk (kb BK354.out hb)
         replace BK355 := Aside0.mk (kb BK355.out hb)
         replace BK388 := Aside0.mk (kb BK388.out hb)
         replace BK399 := Aside0.mk (kb BK399.out hb)
         replace HB := Aside0.mk (below_step bl hb)
         (try clear hb)
         (try clear hb2)
         (try clear hk)
         (try clear hi)
         refine hK.out _ _ ⟨(blk_cell BK399.out 0).trans rfl, (blk_cell BK399.out 1).trans rfl, (blk_cell BK399.out 2).trans rfl, (blk_cell BK399.out 3).trans rfl, (blk_cell BK399.out 4).trans rfl, (blk_cell BK388.out 0).trans rfl, (blk_cell BK388.out 1).trans rfl, (blk_cell BK388.out 2).trans rfl, (blk_cell BK388.out 3).trans rfl, (blk_cell BK388.out 4).trans rfl⟩ (fun hHeld => ?_)
         clear hK K
         refine norm_ (a' := ?_) ?_ ?_
         rotate_left
         ·show Act.put _ (some 109) _ = _
          simp only [Act.put, sA, sB, sC, i64_w, i32_w]
          rfl
         refine pure_ (i := 13) (N := some 110) (v := ?_) (a' := ?_) #[true, true, true, true, true, true, true, true, true, true, true, true, true, true, false] rfl rfl (any_of HT_.out kf) (fun _ _ _ h => h) (Or.inl ⟨by rfl, ?_⟩) ?_ ?_
         rotate_left
         ·intro w'
          go_simp
          with_reducible rfl
         rotate_left
         ·simp only [Act.put, sA, sB, sC, i64_w, i32_w]
          rfl
         refine pure_ (i := 14) (N := some 111) (v := ?_) (a' := ?_) #[true, true, true, true, true, true, true, true, true, true, true, true, true, true, true] rfl rfl (any_of HT_.out kf) (fun _ _ _ h => h) (Or.inl ⟨by rfl, ?_⟩) ?_ ?_
         rotate_left
         ·intro w'
          go_simp
          with_reducible rfl
         rotate_left
         ·simp only [Act.put, sA, sB, sC, i64_w, i32_w]
          rfl
         refine done_ (done_of HT_.out kf) ?_
         try go_wp2
         go_roundg k2
         case measure => have := HJ16.out; have := HK2.out; omega
         case rel => exact ⟨(wrap64 (x84_2 + 1)), rs, H', ⟨by have := HJ16.out; have := HK2.out; omega⟩, ⟨by (with_reducible repeat (first | apply Kd.S_alloc | apply Kd.S_drewN | apply Kd.S_drew)); exact Kd.S_mono HO_82.out (fun _ hk => hk.2.1)⟩, ⟨bk BK354.out⟩, ⟨bk BK355.out⟩, ⟨bl⟩⟩
        ·replace c76 := Bool.eq_false_iff.mpr c76
         subst c76
         replace H : (some false) = some r := by rw [if_neg (show ¬ (false = true) by decide)] at H; exact H
         exact absurd ((Option.some.inj H).trans HT_r.out) (by decide)
       ·rw [if_neg c72] at H
        have c72b0 : (t397.toList == js14.toList) = false := beq_eq_false_iff_ne.mpr c72
        have c72b1 : (t397.toList != js14.toList) = true := bne_iff_ne.mpr c72
        exact absurd ((Option.some.inj H).trans HT_r.out) (by decide)
      ·rw [if_neg c71] at H
       have c71b0 : (t398 == 0) = false := beq_eq_false_iff_ne.mpr c71
       have c71b1 : (t398 != 0) = true := bne_iff_ne.mpr c71
       exact absurd ((Option.some.inj H).trans HT_r.out) (by decide)
     ·rw [if_neg c65] at H
      have c65b0 : decide (x84_2 < (y384.length : Int)) = false := decide_eq_false c65
      clear c65
      obtain ⟨⟨t415, t416, t417, t420, t421, t422, t423⟩, A960, H⟩ := Option.bind_eq_some_iff.mp H
      replace H : (if t423 = 0 then ((path_Path_Text.f k2 t415 t416 t417 t420 t421).bind fun t441 => ((path_Parse.f k2 t441).bind fun bt442 => ((strings_HasSuffix.f js14 t422).bind fun t452 => (if t452 = true then (if (t422.size : Int) < (wrap64 ((js14.size : Int) - 1)) then (if bt442.2.2.2.2.2.2 = 0 then (if bt442.2.2.2.2.2.1.toList = ([] : List UInt8) then ((postriderlaw06_Of.f bt442.1 bt442.2.1 bt442.2.2.1 bt442.2.2.2.1 bt442.2.2.2.2.1).bind fun bt453 => ((postriderlaw06_Of.f t415 t416 ([] : List ByteArray) t420 t421).bind fun bt460 => ((postriderlaw06_Like.f k2 bt453.1 bt453.2.1 bt453.2.2.1 bt453.2.2.2.1 bt453.2.2.2.2 bt460.1 bt460.2.1 bt460.2.2.1 bt460.2.2.2.1 bt460.2.2.2.2).bind fun t467 => (if t467 = true then ((postriderlaw06_tells.f k2).bind fun t468 => (some t468)) else (some false))))) else (some false)) else (some false)) else (some false)) else (some false))))) else ((postriderlaw06_Of.f t415 t416 t417 t420 t421).bind fun bt425 => ((postriderlaw06_Of.f false false ([] : List ByteArray) (⟨#[]⟩ : ByteArray) (⟨#[]⟩ : ByteArray)).bind fun bt432 => ((postriderlaw06_Like.f k2 bt425.1 bt425.2.1 bt425.2.2.1 bt425.2.2.2.1 bt425.2.2.2.2 bt432.1 bt432.2.1 bt432.2.2.1 bt432.2.2.2.1 bt432.2.2.2.2).bind fun t439 => (if t439 = true then (if t422.toList = ([] : List UInt8) then ((postriderlaw06_tells.f k2).bind fun t440 => (some t440)) else (some false)) else (some false)))))) = some r := H
      have A96 := Aside0.mk A960
      clear A960
      by_cases c97 : t423 = 0
      ·rw [if_pos c97] at H
       have c97b0 : (t423 == 0) = true := beq_iff_eq.mpr c97
       have c97b1 : (t423 != 0) = false := bne_eq_false_iff_eq.mpr c97
       clear c97
       obtain ⟨t441, A980, H⟩ := Option.bind_eq_some_iff.mp H
       replace H : ((path_Parse.f k2 t441).bind fun bt442 => ((strings_HasSuffix.f js14 t422).bind fun t452 => (if t452 = true then (if (t422.size : Int) < (wrap64 ((js14.size : Int) - 1)) then (if bt442.2.2.2.2.2.2 = 0 then (if bt442.2.2.2.2.2.1.toList = ([] : List UInt8) then ((postriderlaw06_Of.f bt442.1 bt442.2.1 bt442.2.2.1 bt442.2.2.2.1 bt442.2.2.2.2.1).bind fun bt453 => ((postriderlaw06_Of.f t415 t416 ([] : List ByteArray) t420 t421).bind fun bt460 => ((postriderlaw06_Like.f k2 bt453.1 bt453.2.1 bt453.2.2.1 bt453.2.2.2.1 bt453.2.2.2.2 bt460.1 bt460.2.1 bt460.2.2.1 bt460.2.2.2.1 bt460.2.2.2.2).bind fun t467 => (if t467 = true then ((postriderlaw06_tells.f k2).bind fun t468 => (some t468)) else (some false))))) else (some false)) else (some false)) else (some false)) else (some false)))) = some r := H
       have A98 := Aside0.mk A980
       clear A980
       obtain ⟨⟨t442, t443, t444, t447, t448, t449, t450⟩, A990, H⟩ := Option.bind_eq_some_iff.mp H
       replace H : ((strings_HasSuffix.f js14 t422).bind fun t452 => (if t452 = true then (if (t422.size : Int) < (wrap64 ((js14.size : Int) - 1)) then (if t450 = 0 then (if t449.toList = ([] : List UInt8) then ((postriderlaw06_Of.f t442 t443 t444 t447 t448).bind fun bt453 => ((postriderlaw06_Of.f t415 t416 ([] : List ByteArray) t420 t421).bind fun bt460 => ((postriderlaw06_Like.f k2 bt453.1 bt453.2.1 bt453.2.2.1 bt453.2.2.2.1 bt453.2.2.2.2 bt460.1 bt460.2.1 bt460.2.2.1 bt460.2.2.2.1 bt460.2.2.2.2).bind fun t467 => (if t467 = true then ((postriderlaw06_tells.f k2).bind fun t468 => (some t468)) else (some false))))) else (some false)) else (some false)) else (some false)) else (some false))) = some r := H
       have A99 := Aside0.mk A990
       clear A990
       obtain ⟨t452, A1000, H⟩ := Option.bind_eq_some_iff.mp H
       replace H : (if t452 = true then (if (t422.size : Int) < (wrap64 ((js14.size : Int) - 1)) then (if t450 = 0 then (if t449.toList = ([] : List UInt8) then ((postriderlaw06_Of.f t442 t443 t444 t447 t448).bind fun bt453 => ((postriderlaw06_Of.f t415 t416 ([] : List ByteArray) t420 t421).bind fun bt460 => ((postriderlaw06_Like.f k2 bt453.1 bt453.2.1 bt453.2.2.1 bt453.2.2.2.1 bt453.2.2.2.2 bt460.1 bt460.2.1 bt460.2.2.1 bt460.2.2.2.1 bt460.2.2.2.2).bind fun t467 => (if t467 = true then ((postriderlaw06_tells.f k2).bind fun t468 => (some t468)) else (some false))))) else (some false)) else (some false)) else (some false)) else (some false)) = some r := H
       have A100 := Aside0.mk A1000
       clear A1000
       by_cases c101 : t452 = true
       ·subst c101
        replace H : (if (t422.size : Int) < (wrap64 ((js14.size : Int) - 1)) then (if t450 = 0 then (if t449.toList = ([] : List UInt8) then ((postriderlaw06_Of.f t442 t443 t444 t447 t448).bind fun bt453 => ((postriderlaw06_Of.f t415 t416 ([] : List ByteArray) t420 t421).bind fun bt460 => ((postriderlaw06_Like.f k2 bt453.1 bt453.2.1 bt453.2.2.1 bt453.2.2.2.1 bt453.2.2.2.2 bt460.1 bt460.2.1 bt460.2.2.1 bt460.2.2.2.1 bt460.2.2.2.2).bind fun t467 => (if t467 = true then ((postriderlaw06_tells.f k2).bind fun t468 => (some t468)) else (some false))))) else (some false)) else (some false)) else (some false)) = some r := by rw [if_pos rfl] at H; exact H
        by_cases c102 : (t422.size : Int) < (wrap64 ((js14.size : Int) - 1))
        ·rw [if_pos c102] at H
         have c102b0 : decide ((t422.size : Int) < (wrap64 ((js14.size : Int) - 1))) = true := decide_eq_true c102
         clear c102
         by_cases c103 : t450 = 0
         ·rw [if_pos c103] at H
          have c103b0 : (t450 == 0) = true := beq_iff_eq.mpr c103
          have c103b1 : (t450 != 0) = false := bne_eq_false_iff_eq.mpr c103
          clear c103
          by_cases c104 : t449.toList = ([] : List UInt8)
          ·rw [if_pos c104] at H
           have c104b0 : (t449.toList == ([] : List UInt8)) = true := beq_iff_eq.mpr c104
           have c104b1 : (t449.toList != ([] : List UInt8)) = false := bne_eq_false_iff_eq.mpr c104
           clear c104
           obtain ⟨⟨t453, t454, t455, t458, t459⟩, A1050, H⟩ := Option.bind_eq_some_iff.mp H
           replace H : ((postriderlaw06_Of.f t415 t416 ([] : List ByteArray) t420 t421).bind fun bt460 => ((postriderlaw06_Like.f k2 t453 t454 t455 t458 t459 bt460.1 bt460.2.1 bt460.2.2.1 bt460.2.2.2.1 bt460.2.2.2.2).bind fun t467 => (if t467 = true then ((postriderlaw06_tells.f k2).bind fun t468 => (some t468)) else (some false)))) = some r := H
           have A105 := Aside0.mk A1050
           clear A1050
           obtain ⟨⟨t460, t461, t462, t465, t466⟩, A1060, H⟩ := Option.bind_eq_some_iff.mp H
           replace H : ((postriderlaw06_Like.f k2 t453 t454 t455 t458 t459 t460 t461 t462 t465 t466).bind fun t467 => (if t467 = true then ((postriderlaw06_tells.f k2).bind fun t468 => (some t468)) else (some false))) = some r := H
           have A106 := Aside0.mk A1060
           clear A1060
           obtain ⟨t467, A1070, H⟩ := Option.bind_eq_some_iff.mp H
           replace H : (if t467 = true then ((postriderlaw06_tells.f k2).bind fun t468 => (some t468)) else (some false)) = some r := H
           have A107 := Aside0.mk A1070
           clear A1070
           by_cases c108 : t467 = true
           ·subst c108
            replace H : ((postriderlaw06_tells.f k2).bind fun t468 => (some t468)) = some r := by rw [if_pos rfl] at H; exact H
            obtain ⟨t468, A1090, H⟩ := Option.bind_eq_some_iff.mp H
            replace H : (some t468) = some r := H
            have A109 := Aside0.mk A1090
            clear A1090
            obtain rfl := Option.some.inj H
            try go_wp2_with (first | ((with_reducible refine gate_callee (f := 13) rfl ?_); refine goesL_ (some 115) rfl rfl Tryz.func13 kf rfl #[.string js14] rfl ml ?_; (with_reducible refine (path_Parse.calls k2 js14 t415 t416 t417 t420 t421 t422 t423 _ ?side1 A96.out).mono ?_); (case side1 => exact Glob.below HG.out bl); rintro e w110 ⟨v418, rfl, ho0, hb⟩; refine ⟨_, rfl, ?_⟩; replace HO_82 := Aside0.mk (Kd.S_elder' (by (with_reducible repeat (first | apply Kd.S_alloc | apply Kd.S_drewN | apply Kd.S_drew)); exact HO_82.out) (Kd.R_base ho0) hb); have HO419 := Aside0.mk (Kd.R_lower ho0 (below_size bl)); replace BK354 := Aside0.mk (kb BK354.out hb); replace BK355 := Aside0.mk (kb BK355.out hb); replace HB := Aside0.mk (below_step bl hb); (try clear hb); (try clear hb2); (try clear hk); (try clear hi); (try clear ho0)) | ((with_reducible refine gate_dst (N := 15) rfl ?_); (try (refine gate_guard (by rfl) ?_; dsimp only)); refine box_event ?hg (N := 15) ?hd (cs := #[.bool false, .bool false, .slice none 0 0, .string (⟨#[]⟩ : ByteArray), .string (⟨#[]⟩ : ByteArray)]) (t := 26) ?hr ?_; (case hd => rfl); (case hg => rfl); (case hr => first | (go_simp; done) | (go_simp; rfl)); intro gb424 hg w111 hbox hb; replace HO_82 := Aside0.mk (Kd.S_below (Kd.S_elderB (by (with_reducible repeat (first | apply Kd.S_alloc | apply Kd.S_drewN | apply Kd.S_drew)); exact HO_82.out) gb424 (Nat.le_of_eq hg.symm)) hb); replace HO419 := Aside0.mk (Kd.R_below (kr HO419.out) hb); have BK424 := Aside0.mk (hbox); have GW424 := Aside0.mk (gz hg : w.heap.size ≤ gb424); have GE424 := Aside0.mk (gz hg : w.heap.size ≤ gb424); replace HB := Aside0.mk (below_step bl hb); have NB354_424 := Aside0.mk (nl hg BK354.out : gb354 ≠ gb424); have NB424_354 := Aside0.mk (ng hg BK354.out : gb424 ≠ gb354); replace BK354 := Aside0.mk (kb BK354.out hb); have NB355_424 := Aside0.mk (nl hg BK355.out : gb355 ≠ gb424); have NB424_355 := Aside0.mk (ng hg BK355.out : gb424 ≠ gb355); replace BK355 := Aside0.mk (kb BK355.out hb); clear hb hbox hg; have hnb112 := NB424_354.out; have hnc112 := NB354_424.out; have hnb113 := NB424_355.out; have hnc113 := NB355_424.out; have hcz114_0 := cz BK424.out 0 (.bool false); have hcz114_1 := cz BK424.out 1 (.bool false); have hcz114_2 := cz BK424.out 2 (.slice none 0 0); have hcz114_3 := cz BK424.out 3 (.string (⟨#[]⟩ : ByteArray)); have hcz114_4 := cz BK424.out 4 (.string (⟨#[]⟩ : ByteArray)); have hfz114_0 := blk_frozen BK424.out 0; have hfz114_1 := blk_frozen BK424.out 1; have hfz114_2 := blk_frozen BK424.out 2; have hfz114_3 := blk_frozen BK424.out 3; have hfz114_4 := blk_frozen BK424.out 4; obtain ⟨Ao115, co115, eo115⟩ := Kd.R_slice HO419.out; subst eo115) | ((with_reducible refine gate_callee (f := 8) rfl ?_); refine goesL_ (some 135) rfl rfl Tryz.func8 kf rfl #[.agg #[.bool t415, .bool t416, .slice Ao115 t417.length co115, .string t420, .string t421]] rfl ml ?_; (with_reducible refine (path_Path_Text.calls k2 t415 t416 _ _ t417 t420 t421 t441 _ ?side1 ?side2 ?side3 A98.out).mono ?_); (case side1 => refine (Kd.R_reads' (e := 9) (base := w.heap.size) (ok := fun k_ => True) (n := t417.length) (c := co115) ?_).2.2; exact (by (with_reducible repeat (first | apply Kd.R_alloc | apply Kd.R_drewN | apply Kd.R_drew)); exact (Kd.R_mono (Kd.R_far (p := ⟨gb424, 4, none⟩) (Kd.R_far (p := ⟨gb424, 3, none⟩) (Kd.R_far (p := ⟨gb424, 2, none⟩) (Kd.R_far (p := ⟨gb424, 1, none⟩) (Kd.R_far (p := ⟨gb424, 0, none⟩) (Kd.R_types HO419.out BK424.out (by decide)) (fun _ hk => hk.2) (.bool t415)) (fun _ hk => hk.2) (.bool t416)) (fun _ hk => hk.2) (.slice Ao115 t417.length co115)) (fun _ hk => hk.2) (.string t420)) (fun _ hk => hk.2) (.string t421)) (fun _ h_ => h_.1)))); (case side2 => exact (Kd.R_reads' HO419.out).2.1); (case side3 => exact Glob.below HG.out bl); rintro e w116 ⟨rfl, hb⟩; refine ⟨_, rfl, ?_⟩; replace HO_82 := Aside0.mk (Kd.S_below (by (with_reducible repeat (first | apply Kd.S_alloc | apply Kd.S_drewN | apply Kd.S_drew)); exact (Kd.S_mono (Kd.S_far (p := ⟨gb424, 4, none⟩) (Kd.S_far (p := ⟨gb424, 3, none⟩) (Kd.S_far (p := ⟨gb424, 2, none⟩) (Kd.S_far (p := ⟨gb424, 1, none⟩) (Kd.S_far (p := ⟨gb424, 0, none⟩) (Kd.S_mono HO_82.out (fun k_ hk => (⟨hk, hk.2⟩ : _ ∧ k_ ≠ gb424))) (fun _ hk => hk.2) (.bool t415)) (fun _ hk => hk.2) (.bool t416)) (fun _ hk => hk.2) (.slice Ao115 t417.length co115)) (fun _ hk => hk.2) (.string t420)) (fun _ hk => hk.2) (.string t421)) (fun _ h_ => h_.1))) hb); replace HO419 := Aside0.mk (Kd.R_below (by (with_reducible repeat (first | apply Kd.R_alloc | apply Kd.R_drewN | apply Kd.R_drew)); exact (Kd.R_mono (Kd.R_far (p := ⟨gb424, 4, none⟩) (Kd.R_far (p := ⟨gb424, 3, none⟩) (Kd.R_far (p := ⟨gb424, 2, none⟩) (Kd.R_far (p := ⟨gb424, 1, none⟩) (Kd.R_far (p := ⟨gb424, 0, none⟩) (Kd.R_types HO419.out BK424.out (by decide)) (fun _ hk => hk.2) (.bool t415)) (fun _ hk => hk.2) (.bool t416)) (fun _ hk => hk.2) (.slice Ao115 t417.length co115)) (fun _ hk => hk.2) (.string t420)) (fun _ hk => hk.2) (.string t421)) (fun _ h_ => h_.1))) hb); replace BK354 := Aside0.mk (kb BK354.out hb); replace BK355 := Aside0.mk (kb BK355.out hb); replace BK424 := Aside0.mk (blk_below (g := gb424) (o := .cells #[.bool t415, .bool t416, .slice Ao115 t417.length co115, .string t420, .string t421] 26 (0, 0)) (by (with_reducible repeat (first | refine blk_drewN ?_ _ | refine blk_drew ?_ | refine blk_alloc ?_ _)); refine blk_put (cs := #[.bool t415, .bool t416, .slice Ao115 t417.length co115, .string t420, .string (⟨#[]⟩ : ByteArray)]) ?_ 4 _ rfl; (with_reducible repeat (first | refine blk_drewN ?_ _ | refine blk_drew ?_ | refine blk_alloc ?_ _)); refine blk_put (cs := #[.bool t415, .bool t416, .slice Ao115 t417.length co115, .string (⟨#[]⟩ : ByteArray), .string (⟨#[]⟩ : ByteArray)]) ?_ 3 _ rfl; (with_reducible repeat (first | refine blk_drewN ?_ _ | refine blk_drew ?_ | refine blk_alloc ?_ _)); refine blk_put (cs := #[.bool t415, .bool t416, .slice none 0 0, .string (⟨#[]⟩ : ByteArray), .string (⟨#[]⟩ : ByteArray)]) ?_ 2 _ rfl; (with_reducible repeat (first | refine blk_drewN ?_ _ | refine blk_drew ?_ | refine blk_alloc ?_ _)); refine blk_put (cs := #[.bool t415, .bool false, .slice none 0 0, .string (⟨#[]⟩ : ByteArray), .string (⟨#[]⟩ : ByteArray)]) ?_ 1 _ rfl; (with_reducible repeat (first | refine blk_drewN ?_ _ | refine blk_drew ?_ | refine blk_alloc ?_ _)); refine blk_put (cs := #[.bool false, .bool false, .slice none 0 0, .string (⟨#[]⟩ : ByteArray), .string (⟨#[]⟩ : ByteArray)]) ?_ 0 _ rfl; (with_reducible repeat (first | refine blk_drewN ?_ _ | refine blk_drew ?_ | refine blk_alloc ?_ _)); exact BK424.out) hb); replace HB := Aside0.mk (below_step bl hb); (try clear hb); (try clear hb2); (try clear hk); (try clear hi)) | ((with_reducible refine gate_callee (f := 13) rfl ?_); refine goesL_ (some 136) rfl rfl Tryz.func13 kf rfl #[.string t441] rfl ml ?_; (with_reducible refine (path_Parse.calls k2 t441 t442 t443 t444 t447 t448 t449 t450 _ ?side1 A99.out).mono ?_); (case side1 => exact Glob.below HG.out bl); rintro e w117 ⟨v445, rfl, ho0, hb⟩; refine ⟨_, rfl, ?_⟩; replace HO_82 := Aside0.mk (Kd.S_elder' (by (with_reducible repeat (first | apply Kd.S_alloc | apply Kd.S_drewN | apply Kd.S_drew)); exact HO_82.out) (Kd.R_base ho0) hb); have HO446 := Aside0.mk (Kd.R_lower (Kd.R_new' ho0 (Kd.R_lt (kr HO419.out))) (below_size bl)); replace HO419 := Aside0.mk (Kd.R_elder' (kr HO419.out) (Kd.R_base ho0) hb); replace BK354 := Aside0.mk (kb BK354.out hb); replace BK355 := Aside0.mk (kb BK355.out hb); replace BK424 := Aside0.mk (kb BK424.out hb); replace HB := Aside0.mk (below_step bl hb); (try clear hb); (try clear hb2); (try clear hk); (try clear hi); (try clear ho0)) | ((with_reducible refine gate_dst (N := 18) rfl ?_); (try (refine gate_guard (by rfl) ?_; dsimp only)); refine box_event ?hg (N := 18) ?hd (cs := #[.bool false, .bool false, .slice none 0 0, .string (⟨#[]⟩ : ByteArray), .string (⟨#[]⟩ : ByteArray)]) (t := 26) ?hr ?_; (case hd => rfl); (case hg => rfl); (case hr => first | (go_simp; done) | (go_simp; rfl)); intro gb451 hg w118 hbox hb; replace HO_82 := Aside0.mk (Kd.S_below (Kd.S_elderB (by (with_reducible repeat (first | apply Kd.S_alloc | apply Kd.S_drewN | apply Kd.S_drew)); exact HO_82.out) gb451 (Nat.le_of_eq hg.symm)) hb); replace HO419 := Aside0.mk (Kd.R_below (kr HO419.out) hb); replace HO446 := Aside0.mk (Kd.R_below (kr HO446.out) hb); have BK451 := Aside0.mk (hbox); have GW451 := Aside0.mk (gz hg : w.heap.size ≤ gb451); have GE451 := Aside0.mk (gz hg : w.heap.size ≤ gb451); replace HB := Aside0.mk (below_step bl hb); have NB354_451 := Aside0.mk (nl hg BK354.out : gb354 ≠ gb451); have NB451_354 := Aside0.mk (ng hg BK354.out : gb451 ≠ gb354); replace BK354 := Aside0.mk (kb BK354.out hb); have NB355_451 := Aside0.mk (nl hg BK355.out : gb355 ≠ gb451); have NB451_355 := Aside0.mk (ng hg BK355.out : gb451 ≠ gb355); replace BK355 := Aside0.mk (kb BK355.out hb); have NB424_451 := Aside0.mk (nl hg BK424.out : gb424 ≠ gb451); have NB451_424 := Aside0.mk (ng hg BK424.out : gb451 ≠ gb424); replace BK424 := Aside0.mk (kb BK424.out hb); clear hb hbox hg; have hnb119 := NB451_354.out; have hnc119 := NB354_451.out; have hnb120 := NB451_355.out; have hnc120 := NB355_451.out; have hnb121 := NB451_424.out; have hnc121 := NB424_451.out; have hcz122_0 := cz BK451.out 0 (.bool false); have hcz122_1 := cz BK451.out 1 (.bool false); have hcz122_2 := cz BK451.out 2 (.slice none 0 0); have hcz122_3 := cz BK451.out 3 (.string (⟨#[]⟩ : ByteArray)); have hcz122_4 := cz BK451.out 4 (.string (⟨#[]⟩ : ByteArray)); have hfz122_0 := blk_frozen BK451.out 0; have hfz122_1 := blk_frozen BK451.out 1; have hfz122_2 := blk_frozen BK451.out 2; have hfz122_3 := blk_frozen BK451.out 3; have hfz122_4 := blk_frozen BK451.out 4; obtain ⟨Ao123, co123, eo123⟩ := Kd.R_slice HO446.out; subst eo123; have hcz124_0 := cz BK424.out 0 (.bool t415); have hcz124_1 := cz BK424.out 1 (.bool t416); have hcz124_2 := cz BK424.out 2 (.slice Ao115 t417.length co115); have hcz124_3 := cz BK424.out 3 (.string t420); have hcz124_4 := cz BK424.out 4 (.string t421); have hfz124_0 := blk_frozen BK424.out 0; have hfz124_1 := blk_frozen BK424.out 1; have hfz124_2 := blk_frozen BK424.out 2; have hfz124_3 := blk_frozen BK424.out 3; have hfz124_4 := blk_frozen BK424.out 4))
            have n0_ : Aside0 (Kd.S k26 26 ((((((w118.setCell ⟨gb451, 0, none⟩ (.bool t442)).setCell ⟨gb451, 1, none⟩ (.bool t443)).setCell ⟨gb451, 2, none⟩ (.slice Ao123 t444.length co123)).setCell ⟨gb451, 3, none⟩ (.string t447)).setCell ⟨gb451, 4, none⟩ (.string t448)).setCell ⟨gb424, 2, none⟩ (.slice none 0 0)) w.heap.size (fun k_ => some k_ ≠ (.slice Ao115 t417.length co115 : Value).ownBlock ∧ some k_ ≠ (.slice Ao123 t444.length co123 : Value).ownBlock ∧ k_ ≠ gb355 ∧ k_ ≠ gb424 ∧ k_ ≠ gb451) (.slice Ao64 y384.length co64) y384) := ⟨by (with_reducible repeat (first | apply Kd.S_alloc | apply Kd.S_drewN | apply Kd.S_drew)); exact Kd.S_mono (Kd.S_far (p := ⟨gb424, 2, none⟩) (Kd.S_far (p := ⟨gb451, 4, none⟩) (Kd.S_far (p := ⟨gb451, 3, none⟩) (Kd.S_far (p := ⟨gb451, 2, none⟩) (Kd.S_far (p := ⟨gb451, 1, none⟩) (Kd.S_far (p := ⟨gb451, 0, none⟩) (Kd.S_mono (Kd.S_mono HO_82.out (fun k_ hk => (⟨hk, hk.2⟩ : _ ∧ k_ ≠ gb451))) (fun k_ hk => (⟨hk, hk.1.1.1.2⟩ : _ ∧ k_ ≠ gb424))) (fun _ hk => hk.1.2) (.bool t442)) (fun _ hk => hk.1.2) (.bool t443)) (fun _ hk => hk.1.2) (.slice Ao123 t444.length co123)) (fun _ hk => hk.1.2) (.string t447)) (fun _ hk => hk.1.2) (.string t448)) (fun _ hk => hk.2) (.slice none 0 0)) (fun _ hk => ⟨hk.1.1.1.1.1.2, ⟨hk.1.1.1.2, ⟨hk.1.1.1.1.1.1, ⟨hk.1.1.1.1.2, hk.1.1.2⟩⟩⟩⟩)⟩
            have n1_ : Aside0 (Kd.R Kd.string 9 ((((((w118.setCell ⟨gb451, 0, none⟩ (.bool t442)).setCell ⟨gb451, 1, none⟩ (.bool t443)).setCell ⟨gb451, 2, none⟩ (.slice Ao123 t444.length co123)).setCell ⟨gb451, 3, none⟩ (.string t447)).setCell ⟨gb451, 4, none⟩ (.string t448)).setCell ⟨gb424, 2, none⟩ (.slice none 0 0)) w.heap.size (fun k_ => some k_ ≠ (.slice Ao123 t444.length co123 : Value).ownBlock) (.slice Ao115 t417.length co115) t417) := ⟨by (with_reducible repeat (first | apply Kd.R_alloc | apply Kd.R_drewN | apply Kd.R_drew)); exact Kd.R_mono (Kd.R_far (p := ⟨gb424, 2, none⟩) (Kd.R_far (p := ⟨gb451, 4, none⟩) (Kd.R_far (p := ⟨gb451, 3, none⟩) (Kd.R_far (p := ⟨gb451, 2, none⟩) (Kd.R_far (p := ⟨gb451, 1, none⟩) (Kd.R_far (p := ⟨gb451, 0, none⟩) (Kd.R_types (Kd.R_types HO419.out BK451.out (by decide)) BK424.out (by decide)) (fun _ hk => hk.1.2) (.bool t442)) (fun _ hk => hk.1.2) (.bool t443)) (fun _ hk => hk.1.2) (.slice Ao123 t444.length co123)) (fun _ hk => hk.1.2) (.string t447)) (fun _ hk => hk.1.2) (.string t448)) (fun _ hk => hk.2) (.slice none 0 0)) (fun _ hk => hk.1.1.2)⟩
            have n2_ : Aside0 (Kd.R Kd.string 9 ((((((w118.setCell ⟨gb451, 0, none⟩ (.bool t442)).setCell ⟨gb451, 1, none⟩ (.bool t443)).setCell ⟨gb451, 2, none⟩ (.slice Ao123 t444.length co123)).setCell ⟨gb451, 3, none⟩ (.string t447)).setCell ⟨gb451, 4, none⟩ (.string t448)).setCell ⟨gb424, 2, none⟩ (.slice none 0 0)) w.heap.size (fun k_ => some k_ ≠ (.slice Ao115 t417.length co115 : Value).ownBlock) (.slice Ao123 t444.length co123) t444) := ⟨by (with_reducible repeat (first | apply Kd.R_alloc | apply Kd.R_drewN | apply Kd.R_drew)); exact Kd.R_mono (Kd.R_far (p := ⟨gb424, 2, none⟩) (Kd.R_far (p := ⟨gb451, 4, none⟩) (Kd.R_far (p := ⟨gb451, 3, none⟩) (Kd.R_far (p := ⟨gb451, 2, none⟩) (Kd.R_far (p := ⟨gb451, 1, none⟩) (Kd.R_far (p := ⟨gb451, 0, none⟩) (Kd.R_types (Kd.R_types HO446.out BK451.out (by decide)) BK424.out (by decide)) (fun _ hk => hk.1.2) (.bool t442)) (fun _ hk => hk.1.2) (.bool t443)) (fun _ hk => hk.1.2) (.slice Ao123 t444.length co123)) (fun _ hk => hk.1.2) (.string t447)) (fun _ hk => hk.1.2) (.string t448)) (fun _ hk => hk.2) (.slice none 0 0)) (fun _ hk => hk.1.1.2)⟩
            have n3_ : Aside0 (((((((w118.setCell ⟨gb451, 0, none⟩ (.bool t442)).setCell ⟨gb451, 1, none⟩ (.bool t443)).setCell ⟨gb451, 2, none⟩ (.slice Ao123 t444.length co123)).setCell ⟨gb451, 3, none⟩ (.string t447)).setCell ⟨gb451, 4, none⟩ (.string t448)).setCell ⟨gb424, 2, none⟩ (.slice none 0 0)).heap[gb354]? = some (.cells #[.string js6, .string js10] 24 (0, 0))) := ⟨bk BK354.out⟩
            have n4_ : Aside0 (((((((w118.setCell ⟨gb451, 0, none⟩ (.bool t442)).setCell ⟨gb451, 1, none⟩ (.bool t443)).setCell ⟨gb451, 2, none⟩ (.slice Ao123 t444.length co123)).setCell ⟨gb451, 3, none⟩ (.string t447)).setCell ⟨gb451, 4, none⟩ (.string t448)).setCell ⟨gb424, 2, none⟩ (.slice none 0 0)).heap[gb355]? = some (.cells #[.bool false, .bool false, .slice none 0 0, .string js6, .string js10] 26 (0, 0))) := ⟨bk BK355.out⟩
            have n5_ : Aside0 (((((((w118.setCell ⟨gb451, 0, none⟩ (.bool t442)).setCell ⟨gb451, 1, none⟩ (.bool t443)).setCell ⟨gb451, 2, none⟩ (.slice Ao123 t444.length co123)).setCell ⟨gb451, 3, none⟩ (.string t447)).setCell ⟨gb451, 4, none⟩ (.string t448)).setCell ⟨gb424, 2, none⟩ (.slice none 0 0)).heap[gb424]? = some (.cells #[.bool t415, .bool t416, .slice none 0 0, .string t420, .string t421] 26 (0, 0))) := ⟨by (with_reducible repeat (first | refine blk_drewN ?_ _ | refine blk_drew ?_ | refine blk_alloc ?_ _)); refine blk_put (cs := #[.bool t415, .bool t416, .slice Ao115 t417.length co115, .string t420, .string t421]) ?_ 2 _ rfl; (with_reducible repeat (first | refine blk_drewN ?_ _ | refine blk_drew ?_ | refine blk_alloc ?_ _)); refine blk_far ?_ NB424_451.out _; (with_reducible repeat (first | refine blk_drewN ?_ _ | refine blk_drew ?_ | refine blk_alloc ?_ _)); refine blk_far ?_ NB424_451.out _; (with_reducible repeat (first | refine blk_drewN ?_ _ | refine blk_drew ?_ | refine blk_alloc ?_ _)); refine blk_far ?_ NB424_451.out _; (with_reducible repeat (first | refine blk_drewN ?_ _ | refine blk_drew ?_ | refine blk_alloc ?_ _)); refine blk_far ?_ NB424_451.out _; (with_reducible repeat (first | refine blk_drewN ?_ _ | refine blk_drew ?_ | refine blk_alloc ?_ _)); refine blk_far ?_ NB424_451.out _; (with_reducible repeat (first | refine blk_drewN ?_ _ | refine blk_drew ?_ | refine blk_alloc ?_ _)); exact BK424.out⟩
            have n6_ : Aside0 (((((((w118.setCell ⟨gb451, 0, none⟩ (.bool t442)).setCell ⟨gb451, 1, none⟩ (.bool t443)).setCell ⟨gb451, 2, none⟩ (.slice Ao123 t444.length co123)).setCell ⟨gb451, 3, none⟩ (.string t447)).setCell ⟨gb451, 4, none⟩ (.string t448)).setCell ⟨gb424, 2, none⟩ (.slice none 0 0)).heap[gb451]? = some (.cells #[.bool t442, .bool t443, .slice Ao123 t444.length co123, .string t447, .string t448] 26 (0, 0))) := ⟨by (with_reducible repeat (first | refine blk_drewN ?_ _ | refine blk_drew ?_ | refine blk_alloc ?_ _)); refine blk_far ?_ NB451_424.out _; (with_reducible repeat (first | refine blk_drewN ?_ _ | refine blk_drew ?_ | refine blk_alloc ?_ _)); refine blk_put (cs := #[.bool t442, .bool t443, .slice Ao123 t444.length co123, .string t447, .string (⟨#[]⟩ : ByteArray)]) ?_ 4 _ rfl; (with_reducible repeat (first | refine blk_drewN ?_ _ | refine blk_drew ?_ | refine blk_alloc ?_ _)); refine blk_put (cs := #[.bool t442, .bool t443, .slice Ao123 t444.length co123, .string (⟨#[]⟩ : ByteArray), .string (⟨#[]⟩ : ByteArray)]) ?_ 3 _ rfl; (with_reducible repeat (first | refine blk_drewN ?_ _ | refine blk_drew ?_ | refine blk_alloc ?_ _)); refine blk_put (cs := #[.bool t442, .bool t443, .slice none 0 0, .string (⟨#[]⟩ : ByteArray), .string (⟨#[]⟩ : ByteArray)]) ?_ 2 _ rfl; (with_reducible repeat (first | refine blk_drewN ?_ _ | refine blk_drew ?_ | refine blk_alloc ?_ _)); refine blk_put (cs := #[.bool t442, .bool false, .slice none 0 0, .string (⟨#[]⟩ : ByteArray), .string (⟨#[]⟩ : ByteArray)]) ?_ 1 _ rfl; (with_reducible repeat (first | refine blk_drewN ?_ _ | refine blk_drew ?_ | refine blk_alloc ?_ _)); refine blk_put (cs := #[.bool false, .bool false, .slice none 0 0, .string (⟨#[]⟩ : ByteArray), .string (⟨#[]⟩ : ByteArray)]) ?_ 0 _ rfl; (with_reducible repeat (first | refine blk_drewN ?_ _ | refine blk_drew ?_ | refine blk_alloc ?_ _)); exact BK451.out⟩
            have n7_ : Aside0 (Below w.heap.size w ((((((w118.setCell ⟨gb451, 0, none⟩ (.bool t442)).setCell ⟨gb451, 1, none⟩ (.bool t443)).setCell ⟨gb451, 2, none⟩ (.slice Ao123 t444.length co123)).setCell ⟨gb451, 3, none⟩ (.string t447)).setCell ⟨gb451, 4, none⟩ (.string t448)).setCell ⟨gb424, 2, none⟩ (.slice none 0 0))) := ⟨bl⟩
            (try clear HO_82)
            (try clear HO419)
            (try clear HO446)
            (try clear BK354)
            (try clear BK355)
            (try clear BK424)
            (try clear BK451)
            (try clear HB)
            generalize ((((((w118.setCell ⟨gb451, 0, none⟩ (.bool t442)).setCell ⟨gb451, 1, none⟩ (.bool t443)).setCell ⟨gb451, 2, none⟩ (.slice Ao123 t444.length co123)).setCell ⟨gb451, 3, none⟩ (.string t447)).setCell ⟨gb451, 4, none⟩ (.string t448)).setCell ⟨gb424, 2, none⟩ (.slice none 0 0)) = w125 at n0_ n1_ n2_ n3_ n4_ n5_ n6_ n7_ ⊢
            have HO_82 := n0_
            have HO419 := n1_
            have HO446 := n2_
            have BK354 := n3_
            have BK355 := n4_
            have BK424 := n5_
            have BK451 := n6_
            have HB := n7_
            clear n0_ n1_ n2_ n3_ n4_ n5_ n6_ n7_
            replace HO_82 := Aside0.mk (Kd.S_drew HO_82.out)
            replace HO419 := Aside0.mk (Kd.R_drew HO419.out)
            replace HO446 := Aside0.mk (Kd.R_drew HO446.out)
            replace BK354 := Aside0.mk (blk_drew BK354.out)
            replace BK355 := Aside0.mk (blk_drew BK355.out)
            replace BK424 := Aside0.mk (blk_drew BK424.out)
            replace BK451 := Aside0.mk (blk_drew BK451.out)
            replace HB := Aside0.mk (below_drew1 HB.out)
            refine start_ (n := 30) (S := fun w' => w'.cell? ⟨gb451, 0, none⟩ = some (.bool t442) ∧ w'.cell? ⟨gb451, 1, none⟩ = some (.bool t443) ∧ w'.cell? ⟨gb451, 2, none⟩ = some (.slice Ao123 t444.length co123) ∧ w'.cell? ⟨gb451, 3, none⟩ = some (.string t447) ∧ w'.cell? ⟨gb451, 4, none⟩ = some (.string t448) ∧ w'.cell? ⟨gb424, 0, none⟩ = some (.bool t415) ∧ w'.cell? ⟨gb424, 1, none⟩ = some (.bool t416) ∧ w'.cell? ⟨gb424, 2, none⟩ = some (.slice none 0 0) ∧ w'.cell? ⟨gb424, 3, none⟩ = some (.string t420) ∧ w'.cell? ⟨gb424, 4, none⟩ = some (.string t421)) (ds := []) #[false, false, false, false, false, false, false, false, false, false, false, false, false, false, false, false, false, false, false, false, false, false, false, false, false, false, false, false, false, false] kf rfl rfl ⟨(blk_cell BK451.out 0).trans rfl, (blk_cell BK451.out 1).trans rfl, (blk_cell BK451.out 2).trans rfl, (blk_cell BK451.out 3).trans rfl, (blk_cell BK451.out 4).trans rfl, (blk_cell BK424.out 0).trans rfl, (blk_cell BK424.out 1).trans rfl, (blk_cell BK424.out 2).trans rfl, (blk_cell BK424.out 3).trans rfl, (blk_cell BK424.out 4).trans rfl⟩ (fun hHeld => ?_); refine with_tabW postriderlaw06_PathBack.tab25 postriderlaw06_PathBack.bits25 (fun HT_ HW_ => ?_)
            generalize w125.drew = w126 at HO_82 HO419 HO446 BK354 BK355 BK424 BK451 HB HO419 HO446 hHeld ⊢
            refine pure_ (i := 0) (N := some 141) (v := ?_) (a' := ?_) #[true, false, false, false, false, false, false, false, false, false, false, false, false, false, false, false, false, false, false, false, false, false, false, false, false, false, false, false, false, false] rfl rfl (any_of HT_.out kf) (fun _ _ _ h => h) (Or.inl ⟨by rfl, ?_⟩) ?_ ?_
            rotate_left
            ·intro w'
             go_simp
             with_reducible rfl
            rotate_left
            ·simp only [Act.put, sA, sB, sC, i64_w, i32_w]
             rfl
            refine pure_ (i := 1) (N := some 142) (v := ?_) (a' := ?_) #[true, true, false, false, false, false, false, false, false, false, false, false, false, false, false, false, false, false, false, false, false, false, false, false, false, false, false, false, false, false] rfl rfl (any_of HT_.out kf) (fun _ _ _ h => h) (Or.inl ⟨by rfl, ?_⟩) ?_ ?_
            rotate_left
            ·intro w'
             go_simp
             with_reducible rfl
            rotate_left
            ·simp only [Act.put, sA, sB, sC, i64_w, i32_w]
             rfl
            refine one_ (i := 2) (N := some 143) #[true, true, true, false, false, false, false, false, false, false, false, false, false, false, false, false, false, false, false, false, false, false, false, false, false, false, false, false, false, false] rfl rfl (one_of HT_.out kf) (by decide) (fun K hK => ?_)
            refine goes_ Tryz.func15 kf rfl #[.string js14, .string t422] (by rfl) rfl rfl ml ?_
            with_reducible refine (strings_HasSuffix.calls js14 t422 true _ A100.out).mono ?_
            rintro e w' ⟨rfl, ⟨nd, rfl⟩⟩
            refine ⟨_, rfl, ?_⟩
            refine hK.out _ _ ⟨(blk_cell BK451.out 0).trans rfl, (blk_cell BK451.out 1).trans rfl, (blk_cell BK451.out 2).trans rfl, (blk_cell BK451.out 3).trans rfl, (blk_cell BK451.out 4).trans rfl, (blk_cell BK424.out 0).trans rfl, (blk_cell BK424.out 1).trans rfl, (blk_cell BK424.out 2).trans rfl, (blk_cell BK424.out 3).trans rfl, (blk_cell BK424.out 4).trans rfl⟩ (fun hHeld => ?_)
            clear hK K
            refine norm_ (a' := ?_) ?_ ?_
            rotate_left
            ·show Act.put _ (some 143) _ = _
             simp only [Act.put, sA, sB, sC, i64_w, i32_w]
             rfl
            refine pure_ (i := 3) (N := some 144) (v := ?_) (a' := ?_) #[true, true, true, true, false, false, false, false, false, false, false, false, false, false, false, false, false, false, false, false, false, false, false, false, false, false, false, false, false, false] rfl rfl (any_of HT_.out kf) (fun _ _ _ h => h) (Or.inl ⟨by rfl, ?_⟩) ?_ ?_
            rotate_left
            ·intro w'
             go_simp
             with_reducible rfl
            rotate_left
            ·simp only [Act.put, sA, sB, sC, i64_w, i32_w]
             rfl
            refine pure_ (i := 4) (N := some 145) (v := ?_) (a' := ?_) #[true, true, true, true, true, false, false, false, false, false, false, false, false, false, false, false, false, false, false, false, false, false, false, false, false, false, false, false, false, false] rfl rfl (any_of HT_.out kf) (fun _ _ _ h => h) (Or.inl ⟨by rfl, ?_⟩) ?_ ?_
            rotate_left
            ·intro w'
             go_simp
             with_reducible rfl
            rotate_left
            ·simp only [Act.put, sA, sB, sC, i64_w, i32_w]
             rfl
            refine pure_ (i := 5) (N := some 146) (v := ?_) (a' := ?_) #[true, true, true, true, true, true, false, false, false, false, false, false, false, false, false, false, false, false, false, false, false, false, false, false, false, false, false, false, false, false] rfl rfl (any_of HT_.out kf) (fun _ _ _ h => h) (Or.inl ⟨by rfl, ?_⟩) ?_ ?_
            rotate_left
            ·intro w'
             go_simp
             with_reducible rfl
            rotate_left
            ·simp only [Act.put, sA, sB, sC, i64_w, i32_w]
             rfl
            refine pure_ (i := 6) (N := some 147) (v := ?_) (a' := ?_) #[true, true, true, true, true, true, true, false, false, false, false, false, false, false, false, false, false, false, false, false, false, false, false, false, false, false, false, false, false, false] rfl rfl (any_of HT_.out kf) (fun _ _ _ h => h) (Or.inl ⟨by rfl, ?_⟩) ?_ ?_
            rotate_left
            ·intro w'
             go_simp
             with_reducible rfl
            rotate_left
            ·simp only [Act.put, sA, sB, sC, i64_w, i32_w]
             rfl
            refine pure_ (i := 7) (N := some 148) (v := ?_) (a' := ?_) #[true, true, true, true, true, true, true, true, false, false, false, false, false, false, false, false, false, false, false, false, false, false, false, false, false, false, false, false, false, false] rfl rfl (any_of HT_.out kf) (fun _ _ _ h => h) (Or.inl ⟨by rfl, ?_⟩) ?_ ?_
            rotate_left
            ·intro w'
             go_simp
             with_reducible rfl
            rotate_left
            ·simp only [Act.put, sA, sB, sC, i64_w, i32_w]
             rfl
            refine pure_ (i := 8) (N := some 149) (v := ?_) (a' := ?_) #[true, true, true, true, true, true, true, true, true, false, false, false, false, false, false, false, false, false, false, false, false, false, false, false, false, false, false, false, false, false] rfl rfl (any_of HT_.out kf) (fun _ _ _ h => h) (Or.inl ⟨by rfl, ?_⟩) ?_ ?_
            rotate_left
            ·intro w'
             go_simp
             with_reducible rfl
            rotate_left
            ·simp only [Act.put, sA, sB, sC, i64_w, i32_w]
             rfl
            refine pure_ (i := 9) (N := some 150) (v := ?_) (a' := ?_) #[true, true, true, true, true, true, true, true, true, true, false, false, false, false, false, false, false, false, false, false, false, false, false, false, false, false, false, false, false, false] rfl rfl (any_of HT_.out kf) (fun _ _ _ h => h) (Or.inl ⟨by rfl, ?_⟩) ?_ ?_
            rotate_left
            ·intro w'
             go_simp
             with_reducible rfl
            rotate_left
            ·simp only [Act.put, sA, sB, sC, i64_w, i32_w]
             rfl
            refine pure_ (i := 10) (N := some 151) (v := ?_) (a' := ?_) #[true, true, true, true, true, true, true, true, true, true, true, false, false, false, false, false, false, false, false, false, false, false, false, false, false, false, false, false, false, false] rfl rfl (any_of HT_.out kf) (fun _ _ _ h => h) (Or.inl ⟨by rfl, ?_⟩) ?_ ?_
            rotate_left
            ·intro w'
             go_simp
             with_reducible rfl
            rotate_left
            ·simp only [Act.put, sA, sB, sC, i64_w, i32_w]
             rfl
            refine pure_ (i := 11) (N := some 152) (v := ?_) (a' := ?_) #[true, true, true, true, true, true, true, true, true, true, true, true, false, false, false, false, false, false, false, false, false, false, false, false, false, false, false, false, false, false] rfl rfl (any_of HT_.out kf) (fun _ _ _ h => h) (Or.inl ⟨by rfl, ?_⟩) ?_ ?_
            rotate_left
            ·intro w'
             go_simp
             with_reducible rfl
            rotate_left
            ·simp only [Act.put, sA, sB, sC, i64_w, i32_w]
             rfl
            refine pure_ (i := 12) (N := some 153) (v := ?_) (a' := ?_) #[true, true, true, true, true, true, true, true, true, true, true, true, true, false, false, false, false, false, false, false, false, false, false, false, false, false, false, false, false, false] rfl rfl (any_of HT_.out kf) (fun _ _ _ h => h) (Or.inl ⟨by rfl, ?_⟩) ?_ ?_
            rotate_left
            ·intro w'
             go_simp
             with_reducible rfl
            rotate_left
            ·simp only [Act.put, sA, sB, sC, i64_w, i32_w]
             rfl
            refine pure_ (i := 13) (N := some 154) (v := ?_) (a' := ?_) #[true, true, true, true, true, true, true, true, true, true, true, true, true, true, false, false, false, false, false, false, false, false, false, false, false, false, false, false, false, false] rfl rfl (any_of HT_.out kf) (fun _ _ _ h => h) (Or.inl ⟨by rfl, ?_⟩) ?_ ?_
            rotate_left
            ·intro w'
             go_simp
             with_reducible rfl
            rotate_left
            ·simp only [Act.put, sA, sB, sC, i64_w, i32_w]
             rfl
            refine pure_ (i := 14) (N := some 155) (v := ?_) (a' := ?_) #[true, true, true, true, true, true, true, true, true, true, true, true, true, true, true, false, false, false, false, false, false, false, false, false, false, false, false, false, false, false] rfl rfl (any_of HT_.out kf) (fun _ _ _ h => h) (Or.inl ⟨by rfl, ?_⟩) ?_ ?_
            rotate_left
            ·intro w'
             go_simp
             with_reducible rfl
            rotate_left
            ·simp only [Act.put, sA, sB, sC, i64_w, i32_w]
             rfl
            refine pure_ (i := 15) (N := some 156) (v := ?_) (a' := ?_) #[true, true, true, true, true, true, true, true, true, true, true, true, true, true, true, true, false, false, false, false, false, false, false, false, false, false, false, false, false, false] rfl rfl (any_of HT_.out kf) (fun _ _ _ h => h) (Or.inl ⟨by rfl, ?_⟩) ?_ ?_
            rotate_left
            ·intro w'
             go_simp
             with_reducible rfl
            rotate_left
            ·simp only [Act.put, sA, sB, sC, i64_w, i32_w]
             rfl
            refine pure_ (i := 16) (N := some 157) (v := ?_) (a' := ?_) #[true, true, true, true, true, true, true, true, true, true, true, true, true, true, true, true, true, false, false, false, false, false, false, false, false, false, false, false, false, false] rfl rfl (any_of HT_.out kf) (fun _ _ _ h => h) (Or.inl ⟨by rfl, ?_⟩) ?_ ?_
            rotate_left
            ·intro w'
             go_simp
             with_reducible rfl
            rotate_left
            ·simp only [Act.put, sA, sB, sC, i64_w, i32_w]
             rfl
            refine pure_ (i := 17) (N := some 158) (v := ?_) (a' := ?_) #[true, true, true, true, true, true, true, true, true, true, true, true, true, true, true, true, true, true, false, false, false, false, false, false, false, false, false, false, false, false] rfl rfl (any_of HT_.out kf) (fun _ _ _ h => h) (Or.inl ⟨by rfl, ?_⟩) ?_ ?_
            rotate_left
            ·intro w'
             go_simp
             with_reducible rfl
            rotate_left
            ·simp only [Act.put, sA, sB, sC, i64_w, i32_w]
             rfl
            refine pure_ (i := 18) (N := some 159) (v := ?_) (a' := ?_) #[true, true, true, true, true, true, true, true, true, true, true, true, true, true, true, true, true, true, true, false, false, false, false, false, false, false, false, false, false, false] rfl rfl (any_of HT_.out kf) (fun _ _ _ h => h) (Or.inl ⟨by rfl, ?_⟩) ?_ ?_
            rotate_left
            ·intro w'
             go_simp
             with_reducible rfl
            rotate_left
            ·simp only [Act.put, sA, sB, sC, i64_w, i32_w]
             rfl
            refine pure_ (i := 19) (N := some 160) (v := ?_) (a' := ?_) #[true, true, true, true, true, true, true, true, true, true, true, true, true, true, true, true, true, true, true, true, false, false, false, false, false, false, false, false, false, false] rfl rfl (any_of HT_.out kf) (fun _ _ _ h => h) (Or.inl ⟨by rfl, ?_⟩) ?_ ?_
            rotate_left
            ·intro w'
             go_simp
             with_reducible rfl
            rotate_left
            ·simp only [Act.put, sA, sB, sC, i64_w, i32_w]
             rfl
            refine take_ (i := 20) (N := some 161) (v := ?_) (a' := ?_) #[true, true, true, true, true, true, true, true, true, true, true, true, true, true, true, true, true, true, true, true, true, false, false, false, false, false, false, false, false, false] rfl rfl (take_ofW HT_.out HW_.out kf) (fun _ _ _ h => h) (Or.inl ⟨by rfl, ?_⟩) hHeld ?_ ?_
            rotate_left
            ·rintro w' ⟨s0, s1, s2, s3, s4, s5, s6, s7, s8, s9⟩
             go_simp
             with_reducible rfl
            rotate_left
            ·simp only [Act.put, sA, sB, sC, i64_w, i32_w]
             rfl
            refine take_ (i := 22) (N := some 163) (v := ?_) (a' := ?_) #[true, true, true, true, true, true, true, true, true, true, true, true, true, true, true, true, true, true, true, true, true, false, true, false, false, false, false, false, false, false] rfl rfl (take_ofW HT_.out HW_.out kf) (fun _ _ _ h => h) (Or.inl ⟨by rfl, ?_⟩) hHeld ?_ ?_
            rotate_left
            ·rintro w' ⟨s0, s1, s2, s3, s4, s5, s6, s7, s8, s9⟩
             go_simp
             with_reducible rfl
            rotate_left
            ·simp only [Act.put, sA, sB, sC, i64_w, i32_w]
             rfl
            refine one_ (i := 21) (N := some 162) #[true, true, true, true, true, true, true, true, true, true, true, true, true, true, true, true, true, true, true, true, true, true, true, false, false, false, false, false, false, false] rfl rfl (one_of HT_.out kf) (by decide) (fun K hK => ?_)
            refine goes_ Tryz.func10 kf rfl #[.agg #[.bool t442, .bool t443, .slice Ao123 t444.length co123, .string t447, .string t448]] (by rfl) rfl rfl ml ?_
            with_reducible refine (postriderlaw06_Of.calls t442 t443 (fun k_ => some k_ = (.slice Ao123 t444.length co123 : Value).ownBlock) _ _ t444 t447 t448 t453 t454 t455 t458 t459 _ ?side1 A105.out).mono ?_
            (case side1 => exact Kd.R_V (Kd.R_tight rfl (Kd.R_types (Kd.R_types (Kd.R_types (Kd.R_types (Kd.R_apart' (HO446.out) (Kd.S_typed HO_82.out) (by decide)) BK354.out (by decide)) BK355.out (by decide)) BK424.out (by decide)) BK451.out (by decide))))
            rintro e w127 ⟨v456, rfl, ho0, hb⟩
            refine ⟨_, rfl, ?_⟩
            have HO457 := Aside0.mk (Kd.V_lower (Kd.V_mono (ok' := fun k_ => some k_ ≠ (.slice Ao64 y384.length co64 : Value).ownBlock ∧ some k_ ≠ (.slice Ao115 t417.length co115 : Value).ownBlock ∧ k_ ≠ gb354 ∧ k_ ≠ gb355 ∧ k_ ≠ gb424 ∧ k_ ≠ gb451) ho0 (fun k_ hk_ => ⟨Or.elim hk_ (fun hs_ => ((Kd.R_types (Kd.R_types (Kd.R_types (Kd.R_types (Kd.R_apart' (HO446.out) (Kd.S_typed HO_82.out) (by decide)) BK354.out (by decide)) BK355.out (by decide)) BK424.out (by decide)) BK451.out (by decide)).1 k_ hs_.symm).1.1.1.1.2) (fun hn_ => (Kd.fresh' (Kd.S_lt (by (with_reducible repeat (first | apply Kd.S_alloc | apply Kd.S_drewN | apply Kd.S_drew)); exact HO_82.out)) k_ hn_)), Or.elim hk_ (fun hs_ => ((Kd.R_types (Kd.R_types (Kd.R_types (Kd.R_types (Kd.R_apart' (HO446.out) (Kd.S_typed HO_82.out) (by decide)) BK354.out (by decide)) BK355.out (by decide)) BK424.out (by decide)) BK451.out (by decide)).1 k_ hs_.symm).1.1.1.1.1) (fun hn_ => (Kd.fresh' (Kd.R_lt (kr HO419.out)) k_ hn_)), Or.elim hk_ (fun hs_ => ((Kd.R_types (Kd.R_types (Kd.R_types (Kd.R_types (Kd.R_apart' (HO446.out) (Kd.S_typed HO_82.out) (by decide)) BK354.out (by decide)) BK355.out (by decide)) BK424.out (by decide)) BK451.out (by decide)).1 k_ hs_.symm).1.1.1.2) (fun hn_ => (Kd.freshB (g := gb354) (o := .cells #[.string js6, .string js10] 24 (0, 0)) (bk BK354.out) k_ hn_)), Or.elim hk_ (fun hs_ => ((Kd.R_types (Kd.R_types (Kd.R_types (Kd.R_types (Kd.R_apart' (HO446.out) (Kd.S_typed HO_82.out) (by decide)) BK354.out (by decide)) BK355.out (by decide)) BK424.out (by decide)) BK451.out (by decide)).1 k_ hs_.symm).1.1.2) (fun hn_ => (Kd.freshB (g := gb355) (o := .cells #[.bool false, .bool false, .slice none 0 0, .string js6, .string js10] 26 (0, 0)) (bk BK355.out) k_ hn_)), Or.elim hk_ (fun hs_ => ((Kd.R_types (Kd.R_types (Kd.R_types (Kd.R_types (Kd.R_apart' (HO446.out) (Kd.S_typed HO_82.out) (by decide)) BK354.out (by decide)) BK355.out (by decide)) BK424.out (by decide)) BK451.out (by decide)).1 k_ hs_.symm).1.2) (fun hn_ => (Kd.freshB (g := gb424) (o := .cells #[.bool t415, .bool t416, .slice none 0 0, .string t420, .string t421] 26 (0, 0)) (bk BK424.out) k_ hn_)), Or.elim hk_ (fun hs_ => ((Kd.R_types (Kd.R_types (Kd.R_types (Kd.R_types (Kd.R_apart' (HO446.out) (Kd.S_typed HO_82.out) (by decide)) BK354.out (by decide)) BK355.out (by decide)) BK424.out (by decide)) BK451.out (by decide)).1 k_ hs_.symm).2) (fun hn_ => (Kd.freshB (g := gb451) (o := .cells #[.bool t442, .bool t443, .slice Ao123 t444.length co123, .string t447, .string t448] 26 (0, 0)) (bk BK451.out) k_ hn_))⟩)) (below_size bl))
            replace HO_82 := Aside0.mk (Kd.S_below (by (with_reducible repeat (first | apply Kd.S_alloc | apply Kd.S_drewN | apply Kd.S_drew)); exact HO_82.out) hb)
            replace HO419 := Aside0.mk (Kd.R_below (kr HO419.out) hb)
            replace HO446 := Aside0.mk (Kd.R_below (kr HO446.out) hb)
            replace BK354 := Aside0.mk (kb BK354.out hb)
            replace BK355 := Aside0.mk (kb BK355.out hb)
            replace BK424 := Aside0.mk (kb BK424.out hb)
            replace BK451 := Aside0.mk (kb BK451.out hb)
            replace HB := Aside0.mk (below_step bl hb)
            (try clear hb)
            (try clear hb2)
            (try clear hk)
            (try clear hi)
            (try clear ho0)
            refine hK.out _ _ ⟨(blk_cell BK451.out 0).trans rfl, (blk_cell BK451.out 1).trans rfl, (blk_cell BK451.out 2).trans rfl, (blk_cell BK451.out 3).trans rfl, (blk_cell BK451.out 4).trans rfl, (blk_cell BK424.out 0).trans rfl, (blk_cell BK424.out 1).trans rfl, (blk_cell BK424.out 2).trans rfl, (blk_cell BK424.out 3).trans rfl, (blk_cell BK424.out 4).trans rfl⟩ (fun hHeld => ?_)
            clear hK K
            refine norm_ (a' := ?_) ?_ ?_
            rotate_left
            ·show Act.put _ (some 162) _ = _
             simp only [Act.put, sA, sB, sC, i64_w, i32_w]
             rfl
            refine one_ (i := 23) (N := some 164) #[true, true, true, true, true, true, true, true, true, true, true, true, true, true, true, true, true, true, true, true, true, true, true, true, false, false, false, false, false, false] rfl rfl (one_of HT_.out kf) (by decide) (fun K hK => ?_)
            refine goes_ Tryz.func10 kf rfl #[.agg #[.bool t415, .bool t416, .slice none 0 0, .string t420, .string t421]] (by rfl) rfl rfl ml ?_
            refine (postriderlaw06_Of.calls t415 t416 (fun k_ => False) _ _ ([] : List ByteArray) t420 t421 t460 t461 t462 t465 t466 _ ?side1 A106.out).mono ?_
            (case side1 => exact Kd.V_nil _ _ _ _ _)
            rintro e w128 ⟨v463, rfl, ho0, hb⟩
            refine ⟨_, rfl, ?_⟩
            replace HO457 := Aside0.mk (Kd.V_below (by (with_reducible repeat (first | apply Kd.V_alloc | apply Kd.V_drewN | apply Kd.V_drew)); exact HO457.out) hb)
            have HO464 := Aside0.mk (Kd.V_lower (Kd.V_mono (ok' := fun k_ => some k_ ≠ (.slice Ao64 y384.length co64 : Value).ownBlock ∧ some k_ ≠ (.slice Ao115 t417.length co115 : Value).ownBlock ∧ some k_ ≠ (.slice Ao123 t444.length co123 : Value).ownBlock ∧ k_ ≠ gb354 ∧ k_ ≠ gb355 ∧ k_ ≠ gb424 ∧ k_ ≠ gb451) ho0 (fun k_ hk_ => ⟨Or.elim hk_ (fun hs_ => (hs_).elim) (fun hn_ => (Kd.fresh' (Kd.S_lt (by (with_reducible repeat (first | apply Kd.S_alloc | apply Kd.S_drewN | apply Kd.S_drew)); exact HO_82.out)) k_ hn_)), Or.elim hk_ (fun hs_ => (hs_).elim) (fun hn_ => (Kd.fresh' (Kd.R_lt (kr HO419.out)) k_ hn_)), Or.elim hk_ (fun hs_ => (hs_).elim) (fun hn_ => (Kd.fresh' (Kd.R_lt (kr HO446.out)) k_ hn_)), Or.elim hk_ (fun hs_ => (hs_).elim) (fun hn_ => (Kd.freshB (g := gb354) (o := .cells #[.string js6, .string js10] 24 (0, 0)) (bk BK354.out) k_ hn_)), Or.elim hk_ (fun hs_ => (hs_).elim) (fun hn_ => (Kd.freshB (g := gb355) (o := .cells #[.bool false, .bool false, .slice none 0 0, .string js6, .string js10] 26 (0, 0)) (bk BK355.out) k_ hn_)), Or.elim hk_ (fun hs_ => (hs_).elim) (fun hn_ => (Kd.freshB (g := gb424) (o := .cells #[.bool t415, .bool t416, .slice none 0 0, .string t420, .string t421] 26 (0, 0)) (bk BK424.out) k_ hn_)), Or.elim hk_ (fun hs_ => (hs_).elim) (fun hn_ => (Kd.freshB (g := gb451) (o := .cells #[.bool t442, .bool t443, .slice Ao123 t444.length co123, .string t447, .string t448] 26 (0, 0)) (bk BK451.out) k_ hn_))⟩)) (below_size bl))
            replace HO_82 := Aside0.mk (Kd.S_below (by (with_reducible repeat (first | apply Kd.S_alloc | apply Kd.S_drewN | apply Kd.S_drew)); exact HO_82.out) hb)
            replace HO419 := Aside0.mk (Kd.R_below (kr HO419.out) hb)
            replace HO446 := Aside0.mk (Kd.R_below (kr HO446.out) hb)
            replace BK354 := Aside0.mk (kb BK354.out hb)
            replace BK355 := Aside0.mk (kb BK355.out hb)
            replace BK424 := Aside0.mk (kb BK424.out hb)
            replace BK451 := Aside0.mk (kb BK451.out hb)
            replace HB := Aside0.mk (below_step bl hb)
            (try clear hb)
            (try clear hb2)
            (try clear hk)
            (try clear hi)
            (try clear ho0)
            obtain ⟨Ao129, co129, eo129⟩ := Kd.V_slice HO457.out
            (first | subst eo129 | (injection eo129 with f1_ f2_ f3_; have f4_ := f1_.symm; have f5_ := f3_.symm; clear f1_ f2_ f3_; subst f4_; subst f5_))
            obtain ⟨Ao130, co130, eo130⟩ := Kd.V_slice HO464.out
            (first | subst eo130 | (injection eo130 with f1_ f2_ f3_; have f4_ := f1_.symm; have f5_ := f3_.symm; clear f1_ f2_ f3_; subst f4_; subst f5_))
            refine hK.out _ _ ⟨(blk_cell BK451.out 0).trans rfl, (blk_cell BK451.out 1).trans rfl, (blk_cell BK451.out 2).trans rfl, (blk_cell BK451.out 3).trans rfl, (blk_cell BK451.out 4).trans rfl, (blk_cell BK424.out 0).trans rfl, (blk_cell BK424.out 1).trans rfl, (blk_cell BK424.out 2).trans rfl, (blk_cell BK424.out 3).trans rfl, (blk_cell BK424.out 4).trans rfl⟩ (fun hHeld => ?_)
            clear hK K
            refine norm_ (a' := ?_) ?_ ?_
            rotate_left
            ·show Act.put _ (some 164) _ = _
             simp only [Act.put, sA, sB, sC, i64_w, i32_w]
             rfl
            refine one_ (i := 24) (N := some 165) #[true, true, true, true, true, true, true, true, true, true, true, true, true, true, true, true, true, true, true, true, true, true, true, true, true, false, false, false, false, false] rfl rfl (one_of HT_.out kf) (by decide) (fun K hK => ?_)
            refine goes_ Tryz.func14 kf rfl #[.agg #[.bool t453, .bool t454, .slice Ao129 t455.length co129, .string t458, .string t459], .agg #[.bool t460, .bool t461, .slice Ao130 t462.length co130, .string t465, .string t466]] (by rfl) rfl rfl ml ?_
            with_reducible refine (postriderlaw06_Like.calls k2 t453 t454 _ _ t455 t458 t459 t460 t461 _ _ t462 t465 t466 true _ ?side1 ?side2 ?side3 ?side4 A107.out).mono ?_
            (case side1 => repeat (first | exact (Kd.V_reads' HO457.out).2.2 | (with_reducible refine Kd.C_alloc ?_ _) | (with_reducible refine Kd.C_drewN ?_ _) | (with_reducible refine Kd.C_drew ?_)))
            (case side2 => exact (Kd.V_reads' HO457.out).2.1)
            (case side3 => repeat (first | exact (Kd.V_reads' HO464.out).2.2 | (with_reducible refine Kd.C_alloc ?_ _) | (with_reducible refine Kd.C_drewN ?_ _) | (with_reducible refine Kd.C_drew ?_)))
            (case side4 => exact (Kd.V_reads' HO464.out).2.1)
            rintro e w131 ⟨rfl, hb⟩
            refine ⟨_, rfl, ?_⟩
            replace HO_82 := Aside0.mk (Kd.S_below (by (with_reducible repeat (first | apply Kd.S_alloc | apply Kd.S_drewN | apply Kd.S_drew)); exact HO_82.out) hb)
            replace HO419 := Aside0.mk (Kd.R_below (kr HO419.out) hb)
            replace HO446 := Aside0.mk (Kd.R_below (kr HO446.out) hb)
            replace HO457 := Aside0.mk (Kd.V_below (by (with_reducible repeat (first | apply Kd.V_alloc | apply Kd.V_drewN | apply Kd.V_drew)); exact HO457.out) hb)
            replace HO464 := Aside0.mk (Kd.V_below (by (with_reducible repeat (first | apply Kd.V_alloc | apply Kd.V_drewN | apply Kd.V_drew)); exact HO464.out) hb)
            replace BK354 := Aside0.mk (kb BK354.out hb)
            replace BK355 := Aside0.mk (kb BK355.out hb)
            replace BK424 := Aside0.mk (kb BK424.out hb)
            replace BK451 := Aside0.mk (kb BK451.out hb)
            replace HB := Aside0.mk (below_step bl hb)
            (try clear hb)
            (try clear hb2)
            (try clear hk)
            (try clear hi)
            refine hK.out _ _ ⟨(blk_cell BK451.out 0).trans rfl, (blk_cell BK451.out 1).trans rfl, (blk_cell BK451.out 2).trans rfl, (blk_cell BK451.out 3).trans rfl, (blk_cell BK451.out 4).trans rfl, (blk_cell BK424.out 0).trans rfl, (blk_cell BK424.out 1).trans rfl, (blk_cell BK424.out 2).trans rfl, (blk_cell BK424.out 3).trans rfl, (blk_cell BK424.out 4).trans rfl⟩ (fun hHeld => ?_)
            clear hK K
            refine norm_ (a' := ?_) ?_ ?_
            rotate_left
            ·show Act.put _ (some 165) _ = _
             simp only [Act.put, sA, sB, sC, i64_w, i32_w]
             rfl
            refine pure_ (i := 25) (N := some 166) (v := ?_) (a' := ?_) #[true, true, true, true, true, true, true, true, true, true, true, true, true, true, true, true, true, true, true, true, true, true, true, true, true, true, false, false, false, false] rfl rfl (any_of HT_.out kf) (fun _ _ _ h => h) (Or.inl ⟨by rfl, ?_⟩) ?_ ?_
            rotate_left
            ·intro w'
             go_simp
             with_reducible rfl
            rotate_left
            ·simp only [Act.put, sA, sB, sC, i64_w, i32_w]
             rfl
            refine pure_ (i := 26) (N := some 167) (v := ?_) (a' := ?_) #[true, true, true, true, true, true, true, true, true, true, true, true, true, true, true, true, true, true, true, true, true, true, true, true, true, true, true, false, false, false] rfl rfl (any_of HT_.out kf) (fun _ _ _ h => h) (Or.inl ⟨by rfl, ?_⟩) ?_ ?_
            rotate_left
            ·intro w'
             go_simp
             with_reducible rfl
            rotate_left
            ·simp only [Act.put, sA, sB, sC, i64_w, i32_w]
             rfl
            refine one_ (i := 27) (N := some 168) #[true, true, true, true, true, true, true, true, true, true, true, true, true, true, true, true, true, true, true, true, true, true, true, true, true, true, true, true, false, false] rfl rfl (one_of HT_.out kf) (by decide) (fun K hK => ?_)
            refine goes_ Tryz.func11 kf rfl #[] (by rfl) rfl rfl ml ?_
            with_reducible refine (postriderlaw06_tells.calls k2  t468 _ ?side1 ?side2 A109.out).mono ?_
            (case side1 => exact Glob.below HG.out bl)
            (case side2 => first | rfl | exact HT_r.out)
            rintro e w132 ⟨rfl, hb⟩
            refine ⟨_, rfl, ?_⟩
            replace HO_82 := Aside0.mk (Kd.S_below (by (with_reducible repeat (first | apply Kd.S_alloc | apply Kd.S_drewN | apply Kd.S_drew)); exact HO_82.out) hb)
            replace HO419 := Aside0.mk (Kd.R_below (kr HO419.out) hb)
            replace HO446 := Aside0.mk (Kd.R_below (kr HO446.out) hb)
            replace HO457 := Aside0.mk (Kd.V_below (by (with_reducible repeat (first | apply Kd.V_alloc | apply Kd.V_drewN | apply Kd.V_drew)); exact HO457.out) hb)
            replace HO464 := Aside0.mk (Kd.V_below (by (with_reducible repeat (first | apply Kd.V_alloc | apply Kd.V_drewN | apply Kd.V_drew)); exact HO464.out) hb)
            replace BK354 := Aside0.mk (kb BK354.out hb)
            replace BK355 := Aside0.mk (kb BK355.out hb)
            replace BK424 := Aside0.mk (kb BK424.out hb)
            replace BK451 := Aside0.mk (kb BK451.out hb)
            replace HB := Aside0.mk (below_step bl hb)
            (try clear hb)
            (try clear hb2)
            (try clear hk)
            (try clear hi)
            refine hK.out _ _ ⟨(blk_cell BK451.out 0).trans rfl, (blk_cell BK451.out 1).trans rfl, (blk_cell BK451.out 2).trans rfl, (blk_cell BK451.out 3).trans rfl, (blk_cell BK451.out 4).trans rfl, (blk_cell BK424.out 0).trans rfl, (blk_cell BK424.out 1).trans rfl, (blk_cell BK424.out 2).trans rfl, (blk_cell BK424.out 3).trans rfl, (blk_cell BK424.out 4).trans rfl⟩ (fun hHeld => ?_)
            clear hK K
            refine norm_ (a' := ?_) ?_ ?_
            rotate_left
            ·show Act.put _ (some 168) _ = _
             simp only [Act.put, sA, sB, sC, i64_w, i32_w]
             rfl
            refine pure_ (i := 28) (N := some 169) (v := ?_) (a' := ?_) #[true, true, true, true, true, true, true, true, true, true, true, true, true, true, true, true, true, true, true, true, true, true, true, true, true, true, true, true, true, false] rfl rfl (any_of HT_.out kf) (fun _ _ _ h => h) (Or.inl ⟨by rfl, ?_⟩) ?_ ?_
            rotate_left
            ·intro w'
             go_simp
             with_reducible rfl
            rotate_left
            ·simp only [Act.put, sA, sB, sC, i64_w, i32_w]
             rfl
            refine pure_ (i := 29) (N := some 4) (v := ?_) (a' := ?_) #[true, true, true, true, true, true, true, true, true, true, true, true, true, true, true, true, true, true, true, true, true, true, true, true, true, true, true, true, true, true] rfl rfl (any_of HT_.out kf) (fun _ _ _ h => h) (Or.inl ⟨by rfl, ?_⟩) ?_ ?_
            rotate_left
            ·intro w'
             go_simp
             with_reducible rfl
            rotate_left
            ·simp only [Act.put, sA, sB, sC, i64_w, i32_w]
             rfl
            refine done_ (done_of HT_.out kf) ?_
            try go_wp2
            go_ret
            exact ⟨by first | rfl | (simp [bneNil]; done) | (simp [errW_none, errW_some] <;> rfl) | (simp only [← hji3, ← hji7, ← hji11]; first | rfl | (simp [errW_none, errW_some] <;> rfl)) | (simp [*, errW_none, errW_some] <;> rfl), bl⟩
           ·replace c108 := Bool.eq_false_iff.mpr c108
            subst c108
            replace H : (some false) = some r := by rw [if_neg (show ¬ (false = true) by decide)] at H; exact H
            exact absurd ((Option.some.inj H).trans HT_r.out) (by decide)
          ·rw [if_neg c104] at H
           have c104b0 : (t449.toList == ([] : List UInt8)) = false := beq_eq_false_iff_ne.mpr c104
           have c104b1 : (t449.toList != ([] : List UInt8)) = true := bne_iff_ne.mpr c104
           exact absurd ((Option.some.inj H).trans HT_r.out) (by decide)
         ·rw [if_neg c103] at H
          have c103b0 : (t450 == 0) = false := beq_eq_false_iff_ne.mpr c103
          have c103b1 : (t450 != 0) = true := bne_iff_ne.mpr c103
          exact absurd ((Option.some.inj H).trans HT_r.out) (by decide)
        ·rw [if_neg c102] at H
         have c102b0 : decide ((t422.size : Int) < (wrap64 ((js14.size : Int) - 1))) = false := decide_eq_false c102
         clear c102
         exact absurd ((Option.some.inj H).trans HT_r.out) (by decide)
       ·replace c101 := Bool.eq_false_iff.mpr c101
        subst c101
        replace H : (some false) = some r := by rw [if_neg (show ¬ (false = true) by decide)] at H; exact H
        exact absurd ((Option.some.inj H).trans HT_r.out) (by decide)
      ·rw [if_neg c97] at H
       have c97b0 : (t423 == 0) = false := beq_eq_false_iff_ne.mpr c97
       have c97b1 : (t423 != 0) = true := bne_iff_ne.mpr c97
       obtain ⟨⟨t425, t426, t427, t430, t431⟩, A1330, H⟩ := Option.bind_eq_some_iff.mp H
       replace H : ((postriderlaw06_Of.f false false ([] : List ByteArray) (⟨#[]⟩ : ByteArray) (⟨#[]⟩ : ByteArray)).bind fun bt432 => ((postriderlaw06_Like.f k2 t425 t426 t427 t430 t431 bt432.1 bt432.2.1 bt432.2.2.1 bt432.2.2.2.1 bt432.2.2.2.2).bind fun t439 => (if t439 = true then (if t422.toList = ([] : List UInt8) then ((postriderlaw06_tells.f k2).bind fun t440 => (some t440)) else (some false)) else (some false)))) = some r := H
       have A133 := Aside0.mk A1330
       clear A1330
       obtain ⟨⟨t432, t433, t434, t437, t438⟩, A1340, H⟩ := Option.bind_eq_some_iff.mp H
       replace H : ((postriderlaw06_Like.f k2 t425 t426 t427 t430 t431 t432 t433 t434 t437 t438).bind fun t439 => (if t439 = true then (if t422.toList = ([] : List UInt8) then ((postriderlaw06_tells.f k2).bind fun t440 => (some t440)) else (some false)) else (some false))) = some r := H
       have A134 := Aside0.mk A1340
       clear A1340
       obtain ⟨t439, A1350, H⟩ := Option.bind_eq_some_iff.mp H
       replace H : (if t439 = true then (if t422.toList = ([] : List UInt8) then ((postriderlaw06_tells.f k2).bind fun t440 => (some t440)) else (some false)) else (some false)) = some r := H
       have A135 := Aside0.mk A1350
       clear A1350
       by_cases c136 : t439 = true
       ·subst c136
        replace H : (if t422.toList = ([] : List UInt8) then ((postriderlaw06_tells.f k2).bind fun t440 => (some t440)) else (some false)) = some r := by rw [if_pos rfl] at H; exact H
        by_cases c137 : t422.toList = ([] : List UInt8)
        ·rw [if_pos c137] at H
         have c137b0 : (t422.toList == ([] : List UInt8)) = true := beq_iff_eq.mpr c137
         have c137b1 : (t422.toList != ([] : List UInt8)) = false := bne_eq_false_iff_eq.mpr c137
         clear c137
         obtain ⟨t440, A1380, H⟩ := Option.bind_eq_some_iff.mp H
         replace H : (some t440) = some r := H
         have A138 := Aside0.mk A1380
         clear A1380
         obtain rfl := Option.some.inj H
         go_wp2_with (first | ((with_reducible refine gate_callee (f := 13) rfl ?_); refine goesL_ (some 115) rfl rfl Tryz.func13 kf rfl #[.string js14] rfl ml ?_; (with_reducible refine (path_Parse.calls k2 js14 t415 t416 t417 t420 t421 t422 t423 _ ?side1 A96.out).mono ?_); (case side1 => exact Glob.below HG.out bl); rintro e w139 ⟨v418, rfl, ho0, hb⟩; refine ⟨_, rfl, ?_⟩; replace HO_82 := Aside0.mk (Kd.S_elder' (by (with_reducible repeat (first | apply Kd.S_alloc | apply Kd.S_drewN | apply Kd.S_drew)); exact HO_82.out) (Kd.R_base ho0) hb); have HO419 := Aside0.mk (Kd.R_lower ho0 (below_size bl)); replace BK354 := Aside0.mk (kb BK354.out hb); replace BK355 := Aside0.mk (kb BK355.out hb); replace HB := Aside0.mk (below_step bl hb); (try clear hb); (try clear hb2); (try clear hk); (try clear hi); (try clear ho0)) | ((with_reducible refine gate_dst (N := 15) rfl ?_); (try (refine gate_guard (by rfl) ?_; dsimp only)); refine box_event ?hg (N := 15) ?hd (cs := #[.bool false, .bool false, .slice none 0 0, .string (⟨#[]⟩ : ByteArray), .string (⟨#[]⟩ : ByteArray)]) (t := 26) ?hr ?_; (case hd => rfl); (case hg => rfl); (case hr => first | (go_simp; done) | (go_simp; rfl)); intro gb424 hg w140 hbox hb; replace HO_82 := Aside0.mk (Kd.S_below (Kd.S_elderB (by (with_reducible repeat (first | apply Kd.S_alloc | apply Kd.S_drewN | apply Kd.S_drew)); exact HO_82.out) gb424 (Nat.le_of_eq hg.symm)) hb); replace HO419 := Aside0.mk (Kd.R_below (kr HO419.out) hb); have BK424 := Aside0.mk (hbox); have GW424 := Aside0.mk (gz hg : w.heap.size ≤ gb424); have GE424 := Aside0.mk (gz hg : w.heap.size ≤ gb424); replace HB := Aside0.mk (below_step bl hb); have NB354_424 := Aside0.mk (nl hg BK354.out : gb354 ≠ gb424); have NB424_354 := Aside0.mk (ng hg BK354.out : gb424 ≠ gb354); replace BK354 := Aside0.mk (kb BK354.out hb); have NB355_424 := Aside0.mk (nl hg BK355.out : gb355 ≠ gb424); have NB424_355 := Aside0.mk (ng hg BK355.out : gb424 ≠ gb355); replace BK355 := Aside0.mk (kb BK355.out hb); clear hb hbox hg; have hnb141 := NB424_354.out; have hnc141 := NB354_424.out; have hnb142 := NB424_355.out; have hnc142 := NB355_424.out; have hcz143_0 := cz BK424.out 0 (.bool false); have hcz143_1 := cz BK424.out 1 (.bool false); have hcz143_2 := cz BK424.out 2 (.slice none 0 0); have hcz143_3 := cz BK424.out 3 (.string (⟨#[]⟩ : ByteArray)); have hcz143_4 := cz BK424.out 4 (.string (⟨#[]⟩ : ByteArray)); have hfz143_0 := blk_frozen BK424.out 0; have hfz143_1 := blk_frozen BK424.out 1; have hfz143_2 := blk_frozen BK424.out 2; have hfz143_3 := blk_frozen BK424.out 3; have hfz143_4 := blk_frozen BK424.out 4; obtain ⟨Ao144, co144, eo144⟩ := Kd.R_slice HO419.out; subst eo144) | ((with_reducible refine gate_store (t := 26) (p := 15) rfl ?_); refine store_event (t := 26) (p := 15) (v := ?vo_w145) (w1 := (((((w140.setCell ⟨gb424, 0, none⟩ (.bool t415)).setCell ⟨gb424, 1, none⟩ (.bool t416)).setCell ⟨gb424, 2, none⟩ (.slice Ao144 t417.length co144)).setCell ⟨gb424, 3, none⟩ (.string t420)).setCell ⟨gb424, 4, none⟩ (.string t421))) ?hg ?ho ?hn ?hr ?_; (case ho => rfl); (case hg => rfl); (case hn => rfl); (case hr => first | (go_simp; done) | (go_simp; rfl)); intro w145 hw; have n0_ : Aside0 (Kd.S k26 26 w145 w.heap.size (fun k_ => some k_ ≠ (.slice Ao144 t417.length co144 : Value).ownBlock ∧ k_ ≠ gb355 ∧ k_ ≠ gb424) (.slice Ao64 y384.length co64) y384) := ⟨(by rw [hw]; exact (by (with_reducible repeat (first | apply Kd.S_alloc | apply Kd.S_drewN | apply Kd.S_drew)); exact Kd.S_mono (Kd.S_far (p := ⟨gb424, 4, none⟩) (Kd.S_far (p := ⟨gb424, 3, none⟩) (Kd.S_far (p := ⟨gb424, 2, none⟩) (Kd.S_far (p := ⟨gb424, 1, none⟩) (Kd.S_far (p := ⟨gb424, 0, none⟩) (Kd.S_mono HO_82.out (fun k_ hk => (⟨hk, hk.2⟩ : _ ∧ k_ ≠ gb424))) (fun _ hk => hk.2) (.bool t415)) (fun _ hk => hk.2) (.bool t416)) (fun _ hk => hk.2) (.slice Ao144 t417.length co144)) (fun _ hk => hk.2) (.string t420)) (fun _ hk => hk.2) (.string t421)) (fun _ hk => ⟨hk.1.1.2, ⟨hk.1.1.1, hk.1.2⟩⟩)))⟩; have n1_ : Aside0 (Kd.R Kd.string 9 w145 w.heap.size (fun _ => True) (.slice Ao144 t417.length co144) t417) := ⟨(by rw [hw]; exact (by (with_reducible repeat (first | apply Kd.R_alloc | apply Kd.R_drewN | apply Kd.R_drew)); exact Kd.R_mono (Kd.R_far (p := ⟨gb424, 4, none⟩) (Kd.R_far (p := ⟨gb424, 3, none⟩) (Kd.R_far (p := ⟨gb424, 2, none⟩) (Kd.R_far (p := ⟨gb424, 1, none⟩) (Kd.R_far (p := ⟨gb424, 0, none⟩) (Kd.R_types HO419.out BK424.out (by decide)) (fun _ hk => hk.2) (.bool t415)) (fun _ hk => hk.2) (.bool t416)) (fun _ hk => hk.2) (.slice Ao144 t417.length co144)) (fun _ hk => hk.2) (.string t420)) (fun _ hk => hk.2) (.string t421)) (fun _ hk => trivial)))⟩; have n2_ : Aside0 (w145.heap[gb354]? = some (.cells #[.string js6, .string js10] 24 (0, 0))) := ⟨(by rw [hw]; exact (bk BK354.out))⟩; have n3_ : Aside0 (w145.heap[gb355]? = some (.cells #[.bool false, .bool false, .slice none 0 0, .string js6, .string js10] 26 (0, 0))) := ⟨(by rw [hw]; exact (bk BK355.out))⟩; have n4_ : Aside0 (w145.heap[gb424]? = some (.cells #[.bool t415, .bool t416, .slice Ao144 t417.length co144, .string t420, .string t421] 26 (0, 0))) := ⟨(by rw [hw]; exact (by (with_reducible repeat (first | refine blk_drewN ?_ _ | refine blk_drew ?_ | refine blk_alloc ?_ _)); refine blk_put (cs := #[.bool t415, .bool t416, .slice Ao144 t417.length co144, .string t420, .string (⟨#[]⟩ : ByteArray)]) ?_ 4 _ rfl; (with_reducible repeat (first | refine blk_drewN ?_ _ | refine blk_drew ?_ | refine blk_alloc ?_ _)); refine blk_put (cs := #[.bool t415, .bool t416, .slice Ao144 t417.length co144, .string (⟨#[]⟩ : ByteArray), .string (⟨#[]⟩ : ByteArray)]) ?_ 3 _ rfl; (with_reducible repeat (first | refine blk_drewN ?_ _ | refine blk_drew ?_ | refine blk_alloc ?_ _)); refine blk_put (cs := #[.bool t415, .bool t416, .slice none 0 0, .string (⟨#[]⟩ : ByteArray), .string (⟨#[]⟩ : ByteArray)]) ?_ 2 _ rfl; (with_reducible repeat (first | refine blk_drewN ?_ _ | refine blk_drew ?_ | refine blk_alloc ?_ _)); refine blk_put (cs := #[.bool t415, .bool false, .slice none 0 0, .string (⟨#[]⟩ : ByteArray), .string (⟨#[]⟩ : ByteArray)]) ?_ 1 _ rfl; (with_reducible repeat (first | refine blk_drewN ?_ _ | refine blk_drew ?_ | refine blk_alloc ?_ _)); refine blk_put (cs := #[.bool false, .bool false, .slice none 0 0, .string (⟨#[]⟩ : ByteArray), .string (⟨#[]⟩ : ByteArray)]) ?_ 0 _ rfl; (with_reducible repeat (first | refine blk_drewN ?_ _ | refine blk_drew ?_ | refine blk_alloc ?_ _)); exact BK424.out))⟩; have n5_ : Aside0 (Below w.heap.size w w145) := ⟨(by rw [hw]; exact bl)⟩; clear hw HO_82; clear HO419 BK354; clear BK355 BK424; clear HB; have HO_82 := n0_; have HO419 := n1_; have BK354 := n2_; have BK355 := n3_; have BK424 := n4_; have HB := n5_; clear n0_ n1_ n2_ n3_ n4_ n5_; have hcz146_0 := cz BK424.out 0 (.bool t415); have hcz146_1 := cz BK424.out 1 (.bool t416); have hcz146_2 := cz BK424.out 2 (.slice Ao144 t417.length co144); have hcz146_3 := cz BK424.out 3 (.string t420); have hcz146_4 := cz BK424.out 4 (.string t421); have hfz146_0 := blk_frozen BK424.out 0; have hfz146_1 := blk_frozen BK424.out 1; have hfz146_2 := blk_frozen BK424.out 2; have hfz146_3 := blk_frozen BK424.out 3; have hfz146_4 := blk_frozen BK424.out 4) | ((with_reducible refine gate_callee (f := 10) rfl ?_); refine goesL_ (some 122) rfl rfl Tryz.func10 kf rfl #[.agg #[.bool t415, .bool t416, .slice Ao144 t417.length co144, .string t420, .string t421]] rfl ml ?_; (with_reducible refine (postriderlaw06_Of.calls t415 t416 (fun k_ => some k_ = (.slice Ao144 t417.length co144 : Value).ownBlock) _ _ t417 t420 t421 t425 t426 t427 t430 t431 _ ?side1 A133.out).mono ?_); (case side1 => exact Kd.R_V (Kd.R_tight rfl (Kd.R_types (Kd.R_types (Kd.R_types (Kd.R_apart' (HO419.out) (Kd.S_typed HO_82.out) (by decide)) BK354.out (by decide)) BK355.out (by decide)) BK424.out (by decide)))); rintro e w147 ⟨v428, rfl, ho0, hb⟩; refine ⟨_, rfl, ?_⟩; have HO429 := Aside0.mk (Kd.V_lower (Kd.V_mono (ok' := fun k_ => some k_ ≠ (.slice Ao64 y384.length co64 : Value).ownBlock ∧ k_ ≠ gb354 ∧ k_ ≠ gb355 ∧ k_ ≠ gb424) ho0 (fun k_ hk_ => ⟨Or.elim hk_ (fun hs_ => ((Kd.R_types (Kd.R_types (Kd.R_types (Kd.R_apart' (HO419.out) (Kd.S_typed HO_82.out) (by decide)) BK354.out (by decide)) BK355.out (by decide)) BK424.out (by decide)).1 k_ hs_.symm).1.1.1.2) (fun hn_ => (Kd.fresh' (Kd.S_lt (by (with_reducible repeat (first | apply Kd.S_alloc | apply Kd.S_drewN | apply Kd.S_drew)); exact HO_82.out)) k_ hn_)), Or.elim hk_ (fun hs_ => ((Kd.R_types (Kd.R_types (Kd.R_types (Kd.R_apart' (HO419.out) (Kd.S_typed HO_82.out) (by decide)) BK354.out (by decide)) BK355.out (by decide)) BK424.out (by decide)).1 k_ hs_.symm).1.1.2) (fun hn_ => (Kd.freshB (g := gb354) (o := .cells #[.string js6, .string js10] 24 (0, 0)) (bk BK354.out) k_ hn_)), Or.elim hk_ (fun hs_ => ((Kd.R_types (Kd.R_types (Kd.R_types (Kd.R_apart' (HO419.out) (Kd.S_typed HO_82.out) (by decide)) BK354.out (by decide)) BK355.out (by decide)) BK424.out (by decide)).1 k_ hs_.symm).1.2) (fun hn_ => (Kd.freshB (g := gb355) (o := .cells #[.bool false, .bool false, .slice none 0 0, .string js6, .string js10] 26 (0, 0)) (bk BK355.out) k_ hn_)), Or.elim hk_ (fun hs_ => ((Kd.R_types (Kd.R_types (Kd.R_types (Kd.R_apart' (HO419.out) (Kd.S_typed HO_82.out) (by decide)) BK354.out (by decide)) BK355.out (by decide)) BK424.out (by decide)).1 k_ hs_.symm).2) (fun hn_ => (Kd.freshB (g := gb424) (o := .cells #[.bool t415, .bool t416, .slice Ao144 t417.length co144, .string t420, .string t421] 26 (0, 0)) (bk BK424.out) k_ hn_))⟩)) (below_size bl)); replace HO_82 := Aside0.mk (Kd.S_below (by (with_reducible repeat (first | apply Kd.S_alloc | apply Kd.S_drewN | apply Kd.S_drew)); exact HO_82.out) hb); replace HO419 := Aside0.mk (Kd.R_below (kr HO419.out) hb); replace BK354 := Aside0.mk (kb BK354.out hb); replace BK355 := Aside0.mk (kb BK355.out hb); replace BK424 := Aside0.mk (kb BK424.out hb); replace HB := Aside0.mk (below_step bl hb); (try clear hb); (try clear hb2); (try clear hk); (try clear hi); (try clear ho0)) | ((with_reducible refine gate_callee (f := 10) rfl ?_); refine goesL_ (some 124) rfl rfl Tryz.func10 kf rfl #[.agg #[.bool false, .bool false, .slice none 0 0, .string (⟨#[]⟩ : ByteArray), .string (⟨#[]⟩ : ByteArray)]] rfl ml ?_; (refine (postriderlaw06_Of.calls false false (fun k_ => False) _ _ ([] : List ByteArray) (⟨#[]⟩ : ByteArray) (⟨#[]⟩ : ByteArray) t432 t433 t434 t437 t438 _ ?side1 A134.out).mono ?_); (case side1 => exact Kd.V_nil _ _ _ _ _); rintro e w148 ⟨v435, rfl, ho0, hb⟩; refine ⟨_, rfl, ?_⟩; replace HO429 := Aside0.mk (Kd.V_below (by (with_reducible repeat (first | apply Kd.V_alloc | apply Kd.V_drewN | apply Kd.V_drew)); exact HO429.out) hb); have HO436 := Aside0.mk (Kd.V_lower (Kd.V_mono (ok' := fun k_ => some k_ ≠ (.slice Ao64 y384.length co64 : Value).ownBlock ∧ some k_ ≠ (.slice Ao144 t417.length co144 : Value).ownBlock ∧ k_ ≠ gb354 ∧ k_ ≠ gb355 ∧ k_ ≠ gb424) ho0 (fun k_ hk_ => ⟨Or.elim hk_ (fun hs_ => (hs_).elim) (fun hn_ => (Kd.fresh' (Kd.S_lt (by (with_reducible repeat (first | apply Kd.S_alloc | apply Kd.S_drewN | apply Kd.S_drew)); exact HO_82.out)) k_ hn_)), Or.elim hk_ (fun hs_ => (hs_).elim) (fun hn_ => (Kd.fresh' (Kd.R_lt (kr HO419.out)) k_ hn_)), Or.elim hk_ (fun hs_ => (hs_).elim) (fun hn_ => (Kd.freshB (g := gb354) (o := .cells #[.string js6, .string js10] 24 (0, 0)) (bk BK354.out) k_ hn_)), Or.elim hk_ (fun hs_ => (hs_).elim) (fun hn_ => (Kd.freshB (g := gb355) (o := .cells #[.bool false, .bool false, .slice none 0 0, .string js6, .string js10] 26 (0, 0)) (bk BK355.out) k_ hn_)), Or.elim hk_ (fun hs_ => (hs_).elim) (fun hn_ => (Kd.freshB (g := gb424) (o := .cells #[.bool t415, .bool t416, .slice Ao144 t417.length co144, .string t420, .string t421] 26 (0, 0)) (bk BK424.out) k_ hn_))⟩)) (below_size bl)); replace HO_82 := Aside0.mk (Kd.S_below (by (with_reducible repeat (first | apply Kd.S_alloc | apply Kd.S_drewN | apply Kd.S_drew)); exact HO_82.out) hb); replace HO419 := Aside0.mk (Kd.R_below (kr HO419.out) hb); replace BK354 := Aside0.mk (kb BK354.out hb); replace BK355 := Aside0.mk (kb BK355.out hb); replace BK424 := Aside0.mk (kb BK424.out hb); replace HB := Aside0.mk (below_step bl hb); (try clear hb); (try clear hb2); (try clear hk); (try clear hi); (try clear ho0); obtain ⟨Ao149, co149, eo149⟩ := Kd.V_slice HO429.out; subst eo149; obtain ⟨Ao150, co150, eo150⟩ := Kd.V_slice HO436.out; subst eo150) | ((with_reducible refine gate_callee (f := 14) rfl ?_); refine goesL_ (some 125) rfl rfl Tryz.func14 kf rfl #[.agg #[.bool t425, .bool t426, .slice Ao149 t427.length co149, .string t430, .string t431], .agg #[.bool t432, .bool t433, .slice Ao150 t434.length co150, .string t437, .string t438]] rfl ml ?_; (with_reducible refine (postriderlaw06_Like.calls k2 t425 t426 _ _ t427 t430 t431 t432 t433 _ _ t434 t437 t438 true _ ?side1 ?side2 ?side3 ?side4 A135.out).mono ?_); (case side1 => repeat (first | exact (Kd.V_reads' HO429.out).2.2 | (with_reducible refine Kd.C_alloc ?_ _) | (with_reducible refine Kd.C_drewN ?_ _) | (with_reducible refine Kd.C_drew ?_))); (case side2 => exact (Kd.V_reads' HO429.out).2.1); (case side3 => repeat (first | exact (Kd.V_reads' HO436.out).2.2 | (with_reducible refine Kd.C_alloc ?_ _) | (with_reducible refine Kd.C_drewN ?_ _) | (with_reducible refine Kd.C_drew ?_))); (case side4 => exact (Kd.V_reads' HO436.out).2.1); rintro e w151 ⟨rfl, hb⟩; refine ⟨_, rfl, ?_⟩; replace HO_82 := Aside0.mk (Kd.S_below (by (with_reducible repeat (first | apply Kd.S_alloc | apply Kd.S_drewN | apply Kd.S_drew)); exact HO_82.out) hb); replace HO419 := Aside0.mk (Kd.R_below (kr HO419.out) hb); replace HO429 := Aside0.mk (Kd.V_below (by (with_reducible repeat (first | apply Kd.V_alloc | apply Kd.V_drewN | apply Kd.V_drew)); exact HO429.out) hb); replace HO436 := Aside0.mk (Kd.V_below (by (with_reducible repeat (first | apply Kd.V_alloc | apply Kd.V_drewN | apply Kd.V_drew)); exact HO436.out) hb); replace BK354 := Aside0.mk (kb BK354.out hb); replace BK355 := Aside0.mk (kb BK355.out hb); replace BK424 := Aside0.mk (kb BK424.out hb); replace HB := Aside0.mk (below_step bl hb); (try clear hb); (try clear hb2); (try clear hk); (try clear hi)) | (go_at_call 11; (with_reducible refine (postriderlaw06_tells.calls k2  t440 _ ?side1 ?side2 A138.out).mono ?_); (case side1 => exact Glob.below HG.out bl); (case side2 => first | rfl | exact HT_r.out); rintro e w152 ⟨rfl, hb⟩; replace HO_82 := Aside0.mk (Kd.S_below (by (with_reducible repeat (first | apply Kd.S_alloc | apply Kd.S_drewN | apply Kd.S_drew)); exact HO_82.out) hb); replace HO419 := Aside0.mk (Kd.R_below (kr HO419.out) hb); replace HO429 := Aside0.mk (Kd.V_below (by (with_reducible repeat (first | apply Kd.V_alloc | apply Kd.V_drewN | apply Kd.V_drew)); exact HO429.out) hb); replace HO436 := Aside0.mk (Kd.V_below (by (with_reducible repeat (first | apply Kd.V_alloc | apply Kd.V_drewN | apply Kd.V_drew)); exact HO436.out) hb); replace BK354 := Aside0.mk (kb BK354.out hb); replace BK355 := Aside0.mk (kb BK355.out hb); replace BK424 := Aside0.mk (kb BK424.out hb); replace HB := Aside0.mk (below_step bl hb); (try clear hb); (try clear hb2); (try clear hk); (try clear hi)))
         go_ret
         exact ⟨by first | rfl | (simp [bneNil]; done) | (simp [errW_none, errW_some] <;> rfl) | (simp only [← hji3, ← hji7, ← hji11]; first | rfl | (simp [errW_none, errW_some] <;> rfl)) | (simp [*, errW_none, errW_some] <;> rfl), bl⟩
        ·rw [if_neg c137] at H
         have c137b0 : (t422.toList == ([] : List UInt8)) = false := beq_eq_false_iff_ne.mpr c137
         have c137b1 : (t422.toList != ([] : List UInt8)) = true := bne_iff_ne.mpr c137
         exact absurd ((Option.some.inj H).trans HT_r.out) (by decide)
       ·replace c136 := Bool.eq_false_iff.mpr c136
        subst c136
        replace H : (some false) = some r := by rw [if_neg (show ¬ (false = true) by decide)] at H; exact H
        exact absurd ((Option.some.inj H).trans HT_r.out) (by decide)

/-- THE ONE PURE STATEMENT of postriderlaw06_PathBack: yours. -/
def postriderlaw06_PathBack.Pure : Prop := ∀ (a0_0 : ByteArray) (a0_1 : ByteArray) (a1 : ByteArray), a0_0.size ≤ maxLen → a0_1.size ≤ maxLen → a1.size ≤ 140737488351232 → ∃ k, postriderlaw06_PathBack.f k a0_0 a0_1 a1 = some true
theorem postriderlaw06_PathBack.walk (P : postriderlaw06_PathBack.Pure) (a0_0 : ByteArray) (a0_1 : ByteArray) (a1 : ByteArray) (w : World) (w0_0 : a0_0.size ≤ maxLen) (w0_1 : a0_1.size ≤ maxLen) (w1 : a1.size ≤ 140737488351232) (hG : Glob w) :
  Calls Tryz.prog 4 #[.agg #[.string a0_0, .string a0_1], .string a1] w fun e w' => e = .returned (.bool true) ∧ Below w.heap.size w w' := by
 obtain ⟨k, h⟩ := P a0_0 a0_1 a1 w0_0 w0_1 w1
 refine (postriderlaw06_PathBack.calls k a0_0 a0_1 a1 true w hG rfl h).mono ?_
 rintro e w' ⟨rfl, hd⟩
 exact ⟨rfl, hd⟩

end Go.Proofs.YtgelfnjicglmbaaGreatDoor.Q
