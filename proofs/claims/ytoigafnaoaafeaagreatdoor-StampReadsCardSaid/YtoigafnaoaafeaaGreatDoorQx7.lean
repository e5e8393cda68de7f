/- Walks of functions. -/
import Derived.Test.YtoigafnaoaafeaaGreatDoorQx0
import Derived.Test.YtoigafnaoaafeaaGreatDoorQx5
section
namespace Go.Proofs.YtoigafnaoaafeaaGreatDoor.Q
open Go.RowKit Go.Proofs.YtoigafnaoaafeaaGreatDoorW.PrintWords Go.Proofs.YtoigafnaoaafeaaGreatDoorW.PrintLast Go.Proofs.YtoigafnaoaafeaaGreatDoorW.PrintMore
attribute [local go_sem] max2_int min2_int max_two min_two max_three min_three max_four min_four   -- for this text's walks alone
set_option linter.unusedVariables false
set_option linter.unusedSimpArgs false

/-! ### postriderref09_ParseDate: function 7 -/
mutual
def postriderref09_ParseDate.j0 : Nat → ByteArray → List ByteArray → Int → Bool → Option (Int × Int)
 | 0, _, _, _, _ => none
 | k + 1, x0, x5, x6, x47 => if x47 = true then (some (0, 5)) else ((postriderref09_row.f k x0 5 2).bind fun t171 => ((postriderref09_place.f k x0 8 x5).bind fun t172 => (postriderref09_ParseDate.l0 k x0 x6 t171 t172 0)))
def postriderref09_ParseDate.j2 : Nat → ByteArray → Int → Int → Int → Int → Option (Int × Int)
 | 0, _, _, _, _, _ => none
 | k + 1, x0, x6, x7, x8, x9 => if x7 < 0 then (postriderref09_ParseDate.j3 k x0 x6 x7 x8 x9 true) else (if x8 < 0 then (postriderref09_ParseDate.j3 k x0 x6 x7 x8 x9 true) else (if x9 < 4 then (postriderref09_ParseDate.j3 k x0 x6 x7 x8 x9 true) else (if x9 > 10 then (postriderref09_ParseDate.j3 k x0 x6 x7 x8 x9 true) else (if x9 > 4 then (if 12 < (x0.size : Int) then (postriderref09_ParseDate.j3 k x0 x6 x7 x8 x9 ((bt x0 12) == 48)) else (none)) else (postriderref09_ParseDate.j3 k x0 x6 x7 x8 x9 false)))))
def postriderref09_ParseDate.j3 : Nat → ByteArray → Int → Int → Int → Int → Bool → Option (Int × Int)
 | 0, _, _, _, _, _, _ => none
 | k + 1, x0, x6, x7, x8, x9, x96 => if x96 = true then (some (0, 5)) else ((postriderref09_row.f k x0 12 x9).bind fun t173 => (if (x0.size : Int) = (wrap64 ((wrap64 (12 + x9)) + 15)) then (if 0 ≤ (wrap64 (12 + x9)) then (if (wrap64 (12 + x9)) < (x0.size : Int) then (if (bt x0 (wrap64 (12 + x9))) = 32 then (if 0 ≤ (wrap64 ((wrap64 (12 + x9)) + 3)) then (if (wrap64 ((wrap64 (12 + x9)) + 3)) < (x0.size : Int) then (if (bt x0 (wrap64 ((wrap64 (12 + x9)) + 3))) = 58 then (if 0 ≤ (wrap64 ((wrap64 (12 + x9)) + 6)) then (if (wrap64 ((wrap64 (12 + x9)) + 6)) < (x0.size : Int) then (if (bt x0 (wrap64 ((wrap64 (12 + x9)) + 6))) = 58 then (if 0 ≤ (wrap64 ((wrap64 (12 + x9)) + 9)) then (if (wrap64 ((wrap64 (12 + x9)) + 9)) ≤ (x0.size : Int) then (postriderref09_ParseDate.j4 k x0 x6 x7 x8 t173 (wrap64 (12 + x9)) ((x0.extract ((wrap64 ((wrap64 (12 + x9)) + 9)) : Int).toNat x0.size).toList != ([32, 43, 48, 48, 48, 48] : List UInt8))) else (none)) else (none)) else (postriderref09_ParseDate.j4 k x0 x6 x7 x8 t173 (wrap64 (12 + x9)) true)) else (none)) else (none)) else (postriderref09_ParseDate.j4 k x0 x6 x7 x8 t173 (wrap64 (12 + x9)) true)) else (none)) else (none)) else (postriderref09_ParseDate.j4 k x0 x6 x7 x8 t173 (wrap64 (12 + x9)) true)) else (none)) else (none)) else (postriderref09_ParseDate.j4 k x0 x6 x7 x8 t173 (wrap64 (12 + x9)) true)))
def postriderref09_ParseDate.j4 : Nat → ByteArray → Int → Int → Int → Int → Int → Bool → Option (Int × Int)
 | 0, _, _, _, _, _, _, _ => none
 | k + 1, x0, x6, x7, x8, x10, x11, x133 => if x133 = true then (some (0, 5)) else ((postriderref09_row.f k x0 (wrap64 (x11 + 1)) 2).bind fun t174 => ((postriderref09_row.f k x0 (wrap64 (x11 + 4)) 2).bind fun t175 => ((postriderref09_row.f k x0 (wrap64 (x11 + 7)) 2).bind fun t176 => (if t174 < 0 then (postriderref09_ParseDate.j5 k x6 x7 x8 x10 t174 t175 t176 true) else (if t175 < 0 then (postriderref09_ParseDate.j5 k x6 x7 x8 x10 t174 t175 t176 true) else (postriderref09_ParseDate.j5 k x6 x7 x8 x10 t174 t175 t176 (decide (t176 < 0))))))))
def postriderref09_ParseDate.j5 : Nat → Int → Int → Int → Int → Int → Int → Int → Bool → Option (Int × Int)
 | 0, _, _, _, _, _, _, _, _ => none
 | k + 1, x6, x7, x8, x10, x12, x13, x14, x155 => if x155 = true then (some (0, 5)) else (if x10 < 1970 then (postriderref09_ParseDate.j6 k x6 x7 x8 x10 x12 x13 x14 true) else (if x10 > 100000 then (postriderref09_ParseDate.j6 k x6 x7 x8 x10 x12 x13 x14 true) else (if x7 < 1 then (postriderref09_ParseDate.j6 k x6 x7 x8 x10 x12 x13 x14 true) else ((postriderref09_length.f x10 x8).bind fun t177 => (if x7 > t177 then (postriderref09_ParseDate.j6 k x6 x7 x8 x10 x12 x13 x14 true) else (if x12 > 23 then (postriderref09_ParseDate.j6 k x6 x7 x8 x10 x12 x13 x14 true) else (if x13 > 59 then (postriderref09_ParseDate.j6 k x6 x7 x8 x10 x12 x13 x14 true) else (postriderref09_ParseDate.j6 k x6 x7 x8 x10 x12 x13 x14 (decide (x14 > 59))))))))))
def postriderref09_ParseDate.j6 : Nat → Int → Int → Int → Int → Int → Int → Int → Bool → Option (Int × Int)
 | 0, _, _, _, _, _, _, _, _ => none
 | k + 1, x6, x7, x8, x10, x12, x13, x14, x184 => if x184 = true then (some (0, 24)) else (postriderref09_ParseDate.l1 k x6 x8 x10 x12 x13 x14 (wrap64 (x7 - 1)) 0)
def postriderref09_ParseDate.l1 : Nat → Int → Int → Int → Int → Int → Int → Int → Int → Option (Int × Int)
 | 0, _, _, _, _, _, _, _, _ => none
 | k + 1, x6, x8, x10, x12, x13, x14, x15, x16 => if x16 < x8 then ((postriderref09_length.f x10 x16).bind fun t178 => (postriderref09_ParseDate.l1 k x6 x8 x10 x12 x13 x14 (wrap64 (x15 + t178)) (wrap64 (x16 + 1)))) else (postriderref09_ParseDate.l2 k x6 x10 x12 x13 x14 (wrap64 (x15 + (wrap64 (146097 * (wrap64 (Int.tdiv (wrap64 (x10 - 1970)) 400)))))) (wrap64 (x10 - (Int.tmod (wrap64 (x10 - 1970)) 400))))
def postriderref09_ParseDate.l2 : Nat → Int → Int → Int → Int → Int → Int → Int → Option (Int × Int)
 | 0, _, _, _, _, _, _, _ => none
 | k + 1, x6, x10, x12, x13, x14, x15, x17 => if x17 < x10 then ((postriderref09_days.f x17).bind fun t179 => (postriderref09_ParseDate.l2 k x6 x10 x12 x13 x14 (wrap64 (x15 + t179)) (wrap64 (x17 + 1)))) else (if (wrap64 ((wrap64 ((wrap64 ((wrap64 (86400 * x15)) + (wrap64 (3600 * x12)))) + (wrap64 (60 * x13)))) + x14)) > 1099511627776 then (some (0, 24)) else (if (Int.tmod (wrap64 (x15 + 4)) 7) = x6 then (some (wrap64 ((wrap64 ((wrap64 ((wrap64 (86400 * x15)) + (wrap64 (3600 * x12)))) + (wrap64 (60 * x13)))) + x14), 0)) else (some (0, 24))))
def postriderref09_ParseDate.l0 : Nat → ByteArray → Int → Int → Int → Int → Option (Int × Int)
 | 0, _, _, _, _, _ => none
 | k + 1, x0, x6, x7, x8, x9 => if (wrap64 (12 + x9)) < (x0.size : Int) then (if 0 ≤ (wrap64 (12 + x9)) then (if (bt x0 (wrap64 (12 + x9))) ≥ 48 then (if (bt x0 (wrap64 (12 + x9))) ≤ 57 then (postriderref09_ParseDate.l0 k x0 x6 x7 x8 (wrap64 (x9 + 1))) else (postriderref09_ParseDate.j2 k x0 x6 x7 x8 x9)) else (postriderref09_ParseDate.j2 k x0 x6 x7 x8 x9)) else (none)) else (postriderref09_ParseDate.j2 k x0 x6 x7 x8 x9)
end
def postriderref09_ParseDate.f (k : Nat) (a0 : ByteArray) : Option (Int × Int) := (postriderref09_names.f).bind fun bt164 => ((postriderref09_place.f k a0 0 bt164.1).bind fun t170 => (if t170 < 0 then (postriderref09_ParseDate.j0 k a0 bt164.2 t170 true) else (if (a0.size : Int) < 12 then (postriderref09_ParseDate.j0 k a0 bt164.2 t170 true) else (if 3 ≤ 5 then (if 5 ≤ (a0.size : Int) then (if (a0.extract 3 5).toList = ([44, 32] : List UInt8) then (if 7 < (a0.size : Int) then (if (bt a0 7) = 32 then (if 11 < (a0.size : Int) then (postriderref09_ParseDate.j0 k a0 bt164.2 t170 ((bt a0 11) != 32)) else (none)) else (postriderref09_ParseDate.j0 k a0 bt164.2 t170 true)) else (none)) else (postriderref09_ParseDate.j0 k a0 bt164.2 t170 true)) else (none)) else (none)))))
theorem postriderref09_ParseDate.mono_l : ∀ k, (∀ y0 y1 y2 y3, LeO (postriderref09_ParseDate.j0 k y0 y1 y2 y3) (postriderref09_ParseDate.j0 (k + 1) y0 y1 y2 y3)) ∧ (∀ y0 y1 y2 y3 y4, LeO (postriderref09_ParseDate.j2 k y0 y1 y2 y3 y4) (postriderref09_ParseDate.j2 (k + 1) y0 y1 y2 y3 y4)) ∧ (∀ y0 y1 y2 y3 y4 y5, LeO (postriderref09_ParseDate.j3 k y0 y1 y2 y3 y4 y5) (postriderref09_ParseDate.j3 (k + 1) y0 y1 y2 y3 y4 y5)) ∧ (∀ y0 y1 y2 y3 y4 y5 y6, LeO (postriderref09_ParseDate.j4 k y0 y1 y2 y3 y4 y5 y6) (postriderref09_ParseDate.j4 (k + 1) y0 y1 y2 y3 y4 y5 y6)) ∧ (∀ y0 y1 y2 y3 y4 y5 y6 y7, LeO (postriderref09_ParseDate.j5 k y0 y1 y2 y3 y4 y5 y6 y7) (postriderref09_ParseDate.j5 (k + 1) y0 y1 y2 y3 y4 y5 y6 y7)) ∧ (∀ y0 y1 y2 y3 y4 y5 y6 y7, LeO (postriderref09_ParseDate.j6 k y0 y1 y2 y3 y4 y5 y6 y7) (postriderref09_ParseDate.j6 (k + 1) y0 y1 y2 y3 y4 y5 y6 y7)) ∧ (∀ y0 y1 y2 y3 y4 y5 y6 y7, LeO (postriderref09_ParseDate.l1 k y0 y1 y2 y3 y4 y5 y6 y7) (postriderref09_ParseDate.l1 (k + 1) y0 y1 y2 y3 y4 y5 y6 y7)) ∧ (∀ y0 y1 y2 y3 y4 y5 y6, LeO (postriderref09_ParseDate.l2 k y0 y1 y2 y3 y4 y5 y6) (postriderref09_ParseDate.l2 (k + 1) y0 y1 y2 y3 y4 y5 y6)) ∧ (∀ y0 y1 y2 y3 y4, LeO (postriderref09_ParseDate.l0 k y0 y1 y2 y3 y4) (postriderref09_ParseDate.l0 (k + 1) y0 y1 y2 y3 y4))
 | 0 => ⟨fun _ _ _ _ r h => by simp [postriderref09_ParseDate.j0] at h, fun _ _ _ _ _ r h => by simp [postriderref09_ParseDate.j2] at h, fun _ _ _ _ _ _ r h => by simp [postriderref09_ParseDate.j3] at h, fun _ _ _ _ _ _ _ r h => by simp [postriderref09_ParseDate.j4] at h, fun _ _ _ _ _ _ _ _ r h => by simp [postriderref09_ParseDate.j5] at h, fun _ _ _ _ _ _ _ _ r h => by simp [postriderref09_ParseDate.j6] at h, fun _ _ _ _ _ _ _ _ r h => by simp [postriderref09_ParseDate.l1] at h, fun _ _ _ _ _ _ _ r h => by simp [postriderref09_ParseDate.l2] at h, fun _ _ _ _ _ r h => by simp [postriderref09_ParseDate.l0] at h⟩
 | k + 1 => by
  obtain ⟨ih0, ih1, ih2, ih3, ih4, ih5, ih6, ih7, ih8⟩ := postriderref09_ParseDate.mono_l k
  refine ⟨?_, ?_, ?_, ?_, ?_, ?_, ?_, ?_, ?_⟩
  ·intro y0 y1 y2 y3
   unfold postriderref09_ParseDate.j0
   repeat' first
   | (with_reducible exact ih0 _ _ _ _)
   | (with_reducible exact ih1 _ _ _ _ _)
   | (with_reducible exact ih2 _ _ _ _ _ _)
   | (with_reducible exact ih3 _ _ _ _ _ _ _)
   | (with_reducible exact ih4 _ _ _ _ _ _ _ _)
   | (with_reducible exact ih5 _ _ _ _ _ _ _ _)
   | (with_reducible exact ih6 _ _ _ _ _ _ _ _)
   | (with_reducible exact ih7 _ _ _ _ _ _ _)
   | (with_reducible exact ih8 _ _ _ _ _)
   | (with_reducible exact postriderref09_place.mono _ _ _ _)
   | (with_reducible exact postriderref09_row.mono _ _ _ _)
   | (with_reducible exact LeO.refl _)
   | (with_reducible exact LeO.none _)
   | (with_reducible refine LeO.ite ?_ ?_)
   | (with_reducible refine LeO.bind ?_ (fun _ => ?_))
   | exact ih0 _ _ _ _
   | exact ih1 _ _ _ _ _
   | exact ih2 _ _ _ _ _ _
   | exact ih3 _ _ _ _ _ _ _
   | exact ih4 _ _ _ _ _ _ _ _
   | exact ih5 _ _ _ _ _ _ _ _
   | exact ih6 _ _ _ _ _ _ _ _
   | exact ih7 _ _ _ _ _ _ _
   | exact ih8 _ _ _ _ _
   | exact postriderref09_place.mono _ _ _ _
   | exact postriderref09_row.mono _ _ _ _
   | exact LeO.none _
   | refine LeO.ite ?_ ?_
   | refine LeO.bind ?_ (fun _ => ?_)
  ·intro y0 y1 y2 y3 y4
   unfold postriderref09_ParseDate.j2
   repeat' first
   | (with_reducible exact ih0 _ _ _ _)
   | (with_reducible exact ih1 _ _ _ _ _)
   | (with_reducible exact ih2 _ _ _ _ _ _)
   | (with_reducible exact ih3 _ _ _ _ _ _ _)
   | (with_reducible exact ih4 _ _ _ _ _ _ _ _)
   | (with_reducible exact ih5 _ _ _ _ _ _ _ _)
   | (with_reducible exact ih6 _ _ _ _ _ _ _ _)
   | (with_reducible exact ih7 _ _ _ _ _ _ _)
   | (with_reducible exact ih8 _ _ _ _ _)
   | (with_reducible exact postriderref09_place.mono _ _ _ _)
   | (with_reducible exact postriderref09_row.mono _ _ _ _)
   | (with_reducible exact LeO.refl _)
   | (with_reducible exact LeO.none _)
   | (with_reducible refine LeO.ite ?_ ?_)
   | (with_reducible refine LeO.bind ?_ (fun _ => ?_))
   | exact ih0 _ _ _ _
   | exact ih1 _ _ _ _ _
   | exact ih2 _ _ _ _ _ _
   | exact ih3 _ _ _ _ _ _ _
   | exact ih4 _ _ _ _ _ _ _ _
   | exact ih5 _ _ _ _ _ _ _ _
   | exact ih6 _ _ _ _ _ _ _ _
   | exact ih7 _ _ _ _ _ _ _
   | exact ih8 _ _ _ _ _
   | exact postriderref09_place.mono _ _ _ _
   | exact postriderref09_row.mono _ _ _ _
   | exact LeO.none _
   | refine LeO.ite ?_ ?_
   | refine LeO.bind ?_ (fun _ => ?_)
  ·intro y0 y1 y2 y3 y4 y5
   unfold postriderref09_ParseDate.j3
   repeat' first
   | (with_reducible exact ih0 _ _ _ _)
   | (with_reducible exact ih1 _ _ _ _ _)
   | (with_reducible exact ih2 _ _ _ _ _ _)
   | (with_reducible exact ih3 _ _ _ _ _ _ _)
   | (with_reducible exact ih4 _ _ _ _ _ _ _ _)
   | (with_reducible exact ih5 _ _ _ _ _ _ _ _)
   | (with_reducible exact ih6 _ _ _ _ _ _ _ _)
   | (with_reducible exact ih7 _ _ _ _ _ _ _)
   | (with_reducible exact ih8 _ _ _ _ _)
   | (with_reducible exact postriderref09_place.mono _ _ _ _)
   | (with_reducible exact postriderref09_row.mono _ _ _ _)
   | (with_reducible exact LeO.refl _)
   | (with_reducible exact LeO.none _)
   | (with_reducible refine LeO.ite ?_ ?_)
   | (with_reducible refine LeO.bind ?_ (fun _ => ?_))
   | exact ih0 _ _ _ _
   | exact ih1 _ _ _ _ _
   | exact ih2 _ _ _ _ _ _
   | exact ih3 _ _ _ _ _ _ _
   | exact ih4 _ _ _ _ _ _ _ _
   | exact ih5 _ _ _ _ _ _ _ _
   | exact ih6 _ _ _ _ _ _ _ _
   | exact ih7 _ _ _ _ _ _ _
   | exact ih8 _ _ _ _ _
   | exact postriderref09_place.mono _ _ _ _
   | exact postriderref09_row.mono _ _ _ _
   | exact LeO.none _
   | refine LeO.ite ?_ ?_
   | refine LeO.bind ?_ (fun _ => ?_)
  ·intro y0 y1 y2 y3 y4 y5 y6
   unfold postriderref09_ParseDate.j4
   repeat' first
   | (with_reducible exact ih0 _ _ _ _)
   | (with_reducible exact ih1 _ _ _ _ _)
   | (with_reducible exact ih2 _ _ _ _ _ _)
   | (with_reducible exact ih3 _ _ _ _ _ _ _)
   | (with_reducible exact ih4 _ _ _ _ _ _ _ _)
   | (with_reducible exact ih5 _ _ _ _ _ _ _ _)
   | (with_reducible exact ih6 _ _ _ _ _ _ _ _)
   | (with_reducible exact ih7 _ _ _ _ _ _ _)
   | (with_reducible exact ih8 _ _ _ _ _)
   | (with_reducible exact postriderref09_place.mono _ _ _ _)
   | (with_reducible exact postriderref09_row.mono _ _ _ _)
   | (with_reducible exact LeO.refl _)
   | (with_reducible exact LeO.none _)
   | (with_reducible refine LeO.ite ?_ ?_)
   | (with_reducible refine LeO.bind ?_ (fun _ => ?_))
   | exact ih0 _ _ _ _
   | exact ih1 _ _ _ _ _
   | exact ih2 _ _ _ _ _ _
   | exact ih3 _ _ _ _ _ _ _
   | exact ih4 _ _ _ _ _ _ _ _
   | exact ih5 _ _ _ _ _ _ _ _
   | exact ih6 _ _ _ _ _ _ _ _
   | exact ih7 _ _ _ _ _ _ _
   | exact ih8 _ _ _ _ _
   | exact postriderref09_place.mono _ _ _ _
   | exact postriderref09_row.mono _ _ _ _
   | exact LeO.none _
   | refine LeO.ite ?_ ?_
   | refine LeO.bind ?_ (fun _ => ?_)
  ·intro y0 y1 y2 y3 y4 y5 y6 y7
   unfold postriderref09_ParseDate.j5
   repeat' first
   | (with_reducible exact ih0 _ _ _ _)
   | (with_reducible exact ih1 _ _ _ _ _)
   | (with_reducible exact ih2 _ _ _ _ _ _)
   | (with_reducible exact ih3 _ _ _ _ _ _ _)
   | (with_reducible exact ih4 _ _ _ _ _ _ _ _)
   | (with_reducible exact ih5 _ _ _ _ _ _ _ _)
   | (with_reducible exact ih6 _ _ _ _ _ _ _ _)
   | (with_reducible exact ih7 _ _ _ _ _ _ _)
   | (with_reducible exact ih8 _ _ _ _ _)
   | (with_reducible exact postriderref09_place.mono _ _ _ _)
   | (with_reducible exact postriderref09_row.mono _ _ _ _)
   | (with_reducible exact LeO.refl _)
   | (with_reducible exact LeO.none _)
   | (with_reducible refine LeO.ite ?_ ?_)
   | (with_reducible refine LeO.bind ?_ (fun _ => ?_))
   | exact ih0 _ _ _ _
   | exact ih1 _ _ _ _ _
   | exact ih2 _ _ _ _ _ _
   | exact ih3 _ _ _ _ _ _ _
   | exact ih4 _ _ _ _ _ _ _ _
   | exact ih5 _ _ _ _ _ _ _ _
   | exact ih6 _ _ _ _ _ _ _ _
   | exact ih7 _ _ _ _ _ _ _
   | exact ih8 _ _ _ _ _
   | exact postriderref09_place.mono _ _ _ _
   | exact postriderref09_row.mono _ _ _ _
   | exact LeO.none _
   | refine LeO.ite ?_ ?_
   | refine LeO.bind ?_ (fun _ => ?_)
  ·intro y0 y1 y2 y3 y4 y5 y6 y7
   unfold postriderref09_ParseDate.j6
   repeat' first
   | (with_reducible exact ih0 _ _ _ _)
   | (with_reducible exact ih1 _ _ _ _ _)
   | (with_reducible exact ih2 _ _ _ _ _ _)
   | (with_reducible exact ih3 _ _ _ _ _ _ _)
   | (with_reducible exact ih4 _ _ _ _ _ _ _ _)
   | (with_reducible exact ih5 _ _ _ _ _ _ _ _)
   | (with_reducible exact ih6 _ _ _ _ _ _ _ _)
   | (with_reducible exact ih7 _ _ _ _ _ _ _)
   | (with_reducible exact ih8 _ _ _ _ _)
   | (with_reducible exact postriderref09_place.mono _ _ _ _)
   | (with_reducible exact postriderref09_row.mono _ _ _ _)
   | (with_reducible exact LeO.refl _)
   | (with_reducible exact LeO.none _)
   | (with_reducible refine LeO.ite ?_ ?_)
   | (with_reducible refine LeO.bind ?_ (fun _ => ?_))
   | exact ih0 _ _ _ _
   | exact ih1 _ _ _ _ _
   | exact ih2 _ _ _ _ _ _
   | exact ih3 _ _ _ _ _ _ _
   | exact ih4 _ _ _ _ _ _ _ _
   | exact ih5 _ _ _ _ _ _ _ _
   | exact ih6 _ _ _ _ _ _ _ _
   | exact ih7 _ _ _ _ _ _ _
   | exact ih8 _ _ _ _ _
   | exact postriderref09_place.mono _ _ _ _
   | exact postriderref09_row.mono _ _ _ _
   | exact LeO.none _
   | refine LeO.ite ?_ ?_
   | refine LeO.bind ?_ (fun _ => ?_)
  ·intro y0 y1 y2 y3 y4 y5 y6 y7
   unfold postriderref09_ParseDate.l1
   repeat' first
   | (with_reducible exact ih0 _ _ _ _)
   | (with_reducible exact ih1 _ _ _ _ _)
   | (with_reducible exact ih2 _ _ _ _ _ _)
   | (with_reducible exact ih3 _ _ _ _ _ _ _)
   | (with_reducible exact ih4 _ _ _ _ _ _ _ _)
   | (with_reducible exact ih5 _ _ _ _ _ _ _ _)
   | (with_reducible exact ih6 _ _ _ _ _ _ _ _)
   | (with_reducible exact ih7 _ _ _ _ _ _ _)
   | (with_reducible exact ih8 _ _ _ _ _)
   | (with_reducible exact postriderref09_place.mono _ _ _ _)
   | (with_reducible exact postriderref09_row.mono _ _ _ _)
   | (with_reducible exact LeO.refl _)
   | (with_reducible exact LeO.none _)
   | (with_reducible refine LeO.ite ?_ ?_)
   | (with_reducible refine LeO.bind ?_ (fun _ => ?_))
   | exact ih0 _ _ _ _
   | exact ih1 _ _ _ _ _
   | exact ih2 _ _ _ _ _ _
   | exact ih3 _ _ _ _ _ _ _
   | exact ih4 _ _ _ _ _ _ _ _
   | exact ih5 _ _ _ _ _ _ _ _
   | exact ih6 _ _ _ _ _ _ _ _
   | exact ih7 _ _ _ _ _ _ _
   | exact ih8 _ _ _ _ _
   | exact postriderref09_place.mono _ _ _ _
   | exact postriderref09_row.mono _ _ _ _
   | exact LeO.none _
   | refine LeO.ite ?_ ?_
   | refine LeO.bind ?_ (fun _ => ?_)
  ·intro y0 y1 y2 y3 y4 y5 y6
   unfold postriderref09_ParseDate.l2
   repeat' first
   | (with_reducible exact ih0 _ _ _ _)
   | (with_reducible exact ih1 _ _ _ _ _)
   | (with_reducible exact ih2 _ _ _ _ _ _)
   | (with_reducible exact ih3 _ _ _ _ _ _ _)
   | (with_reducible exact ih4 _ _ _ _ _ _ _ _)
   | (with_reducible exact ih5 _ _ _ _ _ _ _ _)
   | (with_reducible exact ih6 _ _ _ _ _ _ _ _)
   | (with_reducible exact ih7 _ _ _ _ _ _ _)
   | (with_reducible exact ih8 _ _ _ _ _)
   | (with_reducible exact postriderref09_place.mono _ _ _ _)
   | (with_reducible exact postriderref09_row.mono _ _ _ _)
   | (with_reducible exact LeO.refl _)
   | (with_reducible exact LeO.none _)
   | (with_reducible refine LeO.ite ?_ ?_)
   | (with_reducible refine LeO.bind ?_ (fun _ => ?_))
   | exact ih0 _ _ _ _
   | exact ih1 _ _ _ _ _
   | exact ih2 _ _ _ _ _ _
   | exact ih3 _ _ _ _ _ _ _
   | exact ih4 _ _ _ _ _ _ _ _
   | exact ih5 _ _ _ _ _ _ _ _
   | exact ih6 _ _ _ _ _ _ _ _
   | exact ih7 _ _ _ _ _ _ _
   | exact ih8 _ _ _ _ _
   | exact postriderref09_place.mono _ _ _ _
   | exact postriderref09_row.mono _ _ _ _
   | exact LeO.none _
   | refine LeO.ite ?_ ?_
   | refine LeO.bind ?_ (fun _ => ?_)
  ·intro y0 y1 y2 y3 y4
   unfold postriderref09_ParseDate.l0
   repeat' first
   | (with_reducible exact ih0 _ _ _ _)
   | (with_reducible exact ih1 _ _ _ _ _)
   | (with_reducible exact ih2 _ _ _ _ _ _)
   | (with_reducible exact ih3 _ _ _ _ _ _ _)
   | (with_reducible exact ih4 _ _ _ _ _ _ _ _)
   | (with_reducible exact ih5 _ _ _ _ _ _ _ _)
   | (with_reducible exact ih6 _ _ _ _ _ _ _ _)
   | (with_reducible exact ih7 _ _ _ _ _ _ _)
   | (with_reducible exact ih8 _ _ _ _ _)
   | (with_reducible exact postriderref09_place.mono _ _ _ _)
   | (with_reducible exact postriderref09_row.mono _ _ _ _)
   | (with_reducible exact LeO.refl _)
   | (with_reducible exact LeO.none _)
   | (with_reducible refine LeO.ite ?_ ?_)
   | (with_reducible refine LeO.bind ?_ (fun _ => ?_))
   | exact ih0 _ _ _ _
   | exact ih1 _ _ _ _ _
   | exact ih2 _ _ _ _ _ _
   | exact ih3 _ _ _ _ _ _ _
   | exact ih4 _ _ _ _ _ _ _ _
   | exact ih5 _ _ _ _ _ _ _ _
   | exact ih6 _ _ _ _ _ _ _ _
   | exact ih7 _ _ _ _ _ _ _
   | exact ih8 _ _ _ _ _
   | exact postriderref09_place.mono _ _ _ _
   | exact postriderref09_row.mono _ _ _ _
   | exact LeO.none _
   | refine LeO.ite ?_ ?_
   | refine LeO.bind ?_ (fun _ => ?_)
theorem postriderref09_ParseDate.mono : ∀ a0 k, LeO (postriderref09_ParseDate.f k a0) (postriderref09_ParseDate.f (k + 1) a0) := by
 intro a0 k
 obtain ⟨ih0, ih1, ih2, ih3, ih4, ih5, ih6, ih7, ih8⟩ := postriderref09_ParseDate.mono_l k
 unfold postriderref09_ParseDate.f
 repeat' first
   | (with_reducible exact ih0 _ _ _ _)
   | (with_reducible exact ih1 _ _ _ _ _)
   | (with_reducible exact ih2 _ _ _ _ _ _)
   | (with_reducible exact ih3 _ _ _ _ _ _ _)
   | (with_reducible exact ih4 _ _ _ _ _ _ _ _)
   | (with_reducible exact ih5 _ _ _ _ _ _ _ _)
   | (with_reducible exact ih6 _ _ _ _ _ _ _ _)
   | (with_reducible exact ih7 _ _ _ _ _ _ _)
   | (with_reducible exact ih8 _ _ _ _ _)
   | (with_reducible exact postriderref09_place.mono _ _ _ _)
   | (with_reducible exact postriderref09_row.mono _ _ _ _)
   | (with_reducible exact LeO.refl _)
   | (with_reducible exact LeO.none _)
   | (with_reducible refine LeO.ite ?_ ?_)
   | (with_reducible refine LeO.bind ?_ (fun _ => ?_))
   | exact ih0 _ _ _ _
   | exact ih1 _ _ _ _ _
   | exact ih2 _ _ _ _ _ _
   | exact ih3 _ _ _ _ _ _ _
   | exact ih4 _ _ _ _ _ _ _ _
   | exact ih5 _ _ _ _ _ _ _ _
   | exact ih6 _ _ _ _ _ _ _ _
   | exact ih7 _ _ _ _ _ _ _
   | exact ih8 _ _ _ _ _
   | exact postriderref09_place.mono _ _ _ _
   | exact postriderref09_row.mono _ _ _ _
   | exact LeO.none _
   | refine LeO.ite ?_ ?_
   | refine LeO.bind ?_ (fun _ => ?_)
set_option maxHeartbeats 8000000 in
set_option maxRecDepth 100000 in
theorem postriderref09_ParseDate.calls (k : Nat) (a0 : ByteArray) (r1 : Int) (r2 : Int) (w : World) (h : postriderref09_ParseDate.f k a0 = some (r1, r2)) :
  Calls Tryz.prog 7 #[.string a0] w fun e w' => e = .returned (.tuple #[.int .i64 r1, .int .i64 r2]) ∧ Below w.heap.size w w' := by
 have HB := Aside0.mk (Below.refl w.heap.size w)
 have H : ((postriderref09_names.f).bind fun bt164 => ((postriderref09_place.f k a0 0 bt164.1).bind fun t170 => (if t170 < 0 then (postriderref09_ParseDate.j0 k a0 bt164.2 t170 true) else (if (a0.size : Int) < 12 then (postriderref09_ParseDate.j0 k a0 bt164.2 t170 true) else (if 3 ≤ 5 then (if 5 ≤ (a0.size : Int) then (if (a0.extract 3 5).toList = ([44, 32] : List UInt8) then (if 7 < (a0.size : Int) then (if (bt a0 7) = 32 then (if 11 < (a0.size : Int) then (postriderref09_ParseDate.j0 k a0 bt164.2 t170 ((bt a0 11) != 32)) else (none)) else (postriderref09_ParseDate.j0 k a0 bt164.2 t170 true)) else (none)) else (postriderref09_ParseDate.j0 k a0 bt164.2 t170 true)) else (none)) else (none)))))) = some (r1, r2) := h
 clear h
 replace H := Option.bind_eq_some_iff.mp H
 obtain ⟨⟨t164, t165⟩, A20, H⟩ := H
 replace H : ((postriderref09_place.f k a0 0 t164).bind fun t170 => (if t170 < 0 then (postriderref09_ParseDate.j0 k a0 t165 t170 true) else (if (a0.size : Int) < 12 then (postriderref09_ParseDate.j0 k a0 t165 t170 true) else (if 3 ≤ 5 then (if 5 ≤ (a0.size : Int) then (if (a0.extract 3 5).toList = ([44, 32] : List UInt8) then (if 7 < (a0.size : Int) then (if (bt a0 7) = 32 then (if 11 < (a0.size : Int) then (postriderref09_ParseDate.j0 k a0 t165 t170 ((bt a0 11) != 32)) else (none)) else (postriderref09_ParseDate.j0 k a0 t165 t170 true)) else (none)) else (postriderref09_ParseDate.j0 k a0 t165 t170 true)) else (none)) else (none))))) = some (r1, r2) := H
 have A2 := Aside0.mk A20
 clear A20
 replace H := Option.bind_eq_some_iff.mp H
 obtain ⟨t170, A30, H⟩ := H
 replace H : (if t170 < 0 then (postriderref09_ParseDate.j0 k a0 t165 t170 true) else (if (a0.size : Int) < 12 then (postriderref09_ParseDate.j0 k a0 t165 t170 true) else (if 3 ≤ 5 then (if 5 ≤ (a0.size : Int) then (if (a0.extract 3 5).toList = ([44, 32] : List UInt8) then (if 7 < (a0.size : Int) then (if (bt a0 7) = 32 then (if 11 < (a0.size : Int) then (postriderref09_ParseDate.j0 k a0 t165 t170 ((bt a0 11) != 32)) else (none)) else (postriderref09_ParseDate.j0 k a0 t165 t170 true)) else (none)) else (postriderref09_ParseDate.j0 k a0 t165 t170 true)) else (none)) else (none)))) = some (r1, r2) := H
 have A3 := Aside0.mk A30
 clear A30
 have HC4 := Aside0.mk H
 clear H
 go_enter Tryz.func7, Tryz.ntmps7
 go_upto_region 3 with (first | ((with_reducible refine gate_callee (f := 14) rfl ?_); refine goesL_ (some 20) rfl rfl Tryz.func14 (by kernel_rfl) rfl #[] rfl ml ?_; (with_reducible refine (postriderref09_names.calls  t164 t165 _ A2.out).mono ?_); rintro e w5 ⟨v166, v168, rfl, ho0, ho1, hb⟩; refine ⟨_, rfl, ?_⟩; have n0_ := Aside0.mk (Kd.R_lower ho0 (below_size bl)); have n1_ := Aside0.mk (Kd.R_lower ho1 (below_size bl)); have n2_ := Aside0.mk (below_step bl hb); clear HB; have HO167 := n0_; have HO169 := n1_; have HB := n2_; clear n0_ n1_ n2_; (try clear hb); (try clear hb2); (try clear hk); (try clear hi); (try clear ho0); (try clear ho1); obtain ⟨Ao6, co6, eo6⟩ := Kd.R_slice HO167.out; subst eo6) | ((with_reducible refine gate_callee (f := 15) rfl ?_); refine goesL_ (some 25) rfl rfl Tryz.func15 (by kernel_rfl) rfl #[.string a0, .int .i64 0, .slice Ao6 t164.length co6] rfl ml ?_; (with_reducible refine (postriderref09_place.calls k a0 0 _ _ t164 t170 _ ?side1 ?side2 A3.out).mono ?_); (case side1 => repeat (first | exact (Kd.R_reads' HO167.out).2.2 | (with_reducible refine Kd.C_alloc ?_ _) | (with_reducible refine Kd.C_drewN ?_ _) | (with_reducible refine Kd.C_drew ?_))); (case side2 => exact (Kd.R_reads' HO167.out).2.1); rintro e w' ⟨rfl, ⟨nd, rfl⟩⟩; refine ⟨_, rfl, ?_⟩))
 (try simp only [Act.put, List.setIfInBounds_toArray, List.set_cons_zero, List.set_cons_succ])
 go_cut [47] (fun v47 wc => ∃ (kq : Nat) (x47_3 : Bool), v47 = .bool x47_3 ∧ Aside0 (postriderref09_ParseDate.j0 kq a0 t165 t170 x47_3 = some (r1, r2)) ∧ Aside0 (kq ≤ k) ∧ Aside0 (Kd.R Kd.string 9 wc w.heap.size (fun _ => True) v168 t165) ∧ Aside0 (Below w.heap.size w wc))
 case first => as_aux_lemma =>
  have H := HC4.out
  clear HC4
  by_cases c7 : t170 < 0
  ·rw [if_pos c7] at H
   have c7b0 : decide (t170 < 0) = true := decide_eq_true c7
   clear c7
   (first | rw [c7b0] | (simp only [i64_w, i32_w]; rw [c7b0]) | skip)
   have H' := Aside0.mk H
   clear H
   go_wp2
   go_meet
   case rel => exact ⟨_, (true), (by first | rfl | (simp; done) | (simp [*]; done)), H', ⟨by first | omega | exact Nat.le_refl _⟩, ⟨by (with_reducible repeat (first | apply Kd.R_alloc | apply Kd.R_drewN | apply Kd.R_drew)); exact Kd.R_mono HO169.out (fun _ hk => trivial)⟩, ⟨by repeat (first | (with_reducible first | exact HB.out | apply below_alloc | apply pw_below_drewN | apply below_drew1) | exact HB.out)⟩⟩
  ·rw [if_neg c7] at H
   have c7b0 : decide (t170 < 0) = false := decide_eq_false c7
   clear c7
   (first | rw [c7b0] | (simp only [i64_w, i32_w]; rw [c7b0]) | skip)
   by_cases c8 : (a0.size : Int) < 12
   ·rw [if_pos c8] at H
    have c8b0 : decide ((a0.size : Int) < 12) = true := decide_eq_true c8
    have c8b1 : decide (a0.size < 12) = true := decide_eq_true (by omega)
    clear c8
    have H' := Aside0.mk H
    clear H
    go_wp2
    go_meet
    case rel => exact ⟨_, (true), (by first | rfl | (simp; done) | (simp [*]; done)), H', ⟨by first | omega | exact Nat.le_refl _⟩, ⟨by (with_reducible repeat (first | apply Kd.R_alloc | apply Kd.R_drewN | apply Kd.R_drew)); exact Kd.R_mono HO169.out (fun _ hk => trivial)⟩, ⟨by repeat (first | (with_reducible first | exact HB.out | apply below_alloc | apply pw_below_drewN | apply below_drew1) | exact HB.out)⟩⟩
   ·rw [if_neg c8] at H
    have c8b0 : decide ((a0.size : Int) < 12) = false := decide_eq_false c8
    have c8b1 : decide (a0.size < 12) = false := decide_eq_false (by omega)
    clear c8
    by_cases c9 : 3 ≤ 5
    ·rw [if_pos c9] at H
     have c9b0 := eq_true c9
     have c9b1 : decide (3 ≤ 5) = true := decide_eq_true c9
     clear c9
     by_cases c10 : 5 ≤ (a0.size : Int)
     ·rw [if_pos c10] at H
      have c10b0 := eq_true c10
      have c10b1 : decide (5 ≤ (a0.size : Int)) = true := decide_eq_true c10
      clear c10
      by_cases c11 : (a0.extract 3 5).toList = ([44, 32] : List UInt8)
      ·rw [if_pos c11] at H
       have c11b0 : ((a0.extract 3 5).toList == ([44, 32] : List UInt8)) = true := beq_iff_eq.mpr c11
       have c11b1 : ((a0.extract 3 5).toList != ([44, 32] : List UInt8)) = false := bne_eq_false_iff_eq.mpr c11
       clear c11
       by_cases c12 : 7 < (a0.size : Int)
       ·rw [if_pos c12] at H
        have c12b0 : decide (7 < (a0.size : Int)) = true := decide_eq_true c12
        have c12b1 : decide (7 < a0.size) = true := decide_eq_true (by omega)
        clear c12
        by_cases c14 : (bt a0 7) = 32
        ·rw [if_pos c14] at H
         have c14b0 : ((bt a0 7) == 32) = true := beq_iff_eq.mpr c14
         have c14b1 : ((bt a0 7) != 32) = false := bne_eq_false_iff_eq.mpr c14
         clear c14
         by_cases c15 : 11 < (a0.size : Int)
         ·rw [if_pos c15] at H
          have c15b0 : decide (11 < (a0.size : Int)) = true := decide_eq_true c15
          have c15b1 : decide (11 < a0.size) = true := decide_eq_true (by omega)
          clear c15
          have H' := Aside0.mk H
          clear H
          have p13 : 0 ≤ (7 : Int) := (by omega)
          have q13 : 7 < a0.size := (by have : (7 : Int) < (a0.size : Int) := od; omega)
          have hx13 : ∀ h : 7 < a0.size, ((a0[7]'h).toNat : Int) = bt a0 7 := bt_at a0 7
          clear p13
          have qi13 : (7 < (a0.size : Int)) = True := eq_true (od)
          replace q13 := eq_true q13
          have p16 : 0 ≤ (11 : Int) := (by omega)
          have q16 : 11 < a0.size := (by have : (11 : Int) < (a0.size : Int) := od; omega)
          have hx16 : ∀ h : 11 < a0.size, ((a0[11]'h).toNat : Int) = bt a0 11 := bt_at a0 11
          clear p16
          have qi16 : (11 < (a0.size : Int)) = True := eq_true (od)
          replace q16 := eq_true q16
          go_wp2
          go_meet
          case rel => exact ⟨_, (((bt a0 11) != 32)), (by first | rfl | (simp; done) | (simp [*]; done)), H', ⟨by first | omega | exact Nat.le_refl _⟩, ⟨by (with_reducible repeat (first | apply Kd.R_alloc | apply Kd.R_drewN | apply Kd.R_drew)); exact Kd.R_mono HO169.out (fun _ hk => trivial)⟩, ⟨by repeat (first | (with_reducible first | exact HB.out | apply below_alloc | apply pw_below_drewN | apply below_drew1) | exact HB.out)⟩⟩
         ·rw [if_neg c15] at H
          exact absurd H (by simp)
        ·rw [if_neg c14] at H
         have c14b0 : ((bt a0 7) == 32) = false := beq_eq_false_iff_ne.mpr c14
         have c14b1 : ((bt a0 7) != 32) = true := bne_iff_ne.mpr c14
         have H' := Aside0.mk H
         clear H
         have p13 : 0 ≤ (7 : Int) := (by omega)
         have q13 : 7 < a0.size := (by have : (7 : Int) < (a0.size : Int) := od; omega)
         have hx13 : ∀ h : 7 < a0.size, ((a0[7]'h).toNat : Int) = bt a0 7 := bt_at a0 7
         clear p13
         have qi13 : (7 < (a0.size : Int)) = True := eq_true (od)
         replace q13 := eq_true q13
         go_wp2
         go_meet
         case rel => exact ⟨_, (true), (by first | rfl | (simp; done) | (simp [*]; done)), H', ⟨by first | omega | exact Nat.le_refl _⟩, ⟨by (with_reducible repeat (first | apply Kd.R_alloc | apply Kd.R_drewN | apply Kd.R_drew)); exact Kd.R_mono HO169.out (fun _ hk => trivial)⟩, ⟨by repeat (first | (with_reducible first | exact HB.out | apply below_alloc | apply pw_below_drewN | apply below_drew1) | exact HB.out)⟩⟩
       ·rw [if_neg c12] at H
        exact absurd H (by simp)
      ·rw [if_neg c11] at H
       have c11b0 : ((a0.extract 3 5).toList == ([44, 32] : List UInt8)) = false := beq_eq_false_iff_ne.mpr c11
       have c11b1 : ((a0.extract 3 5).toList != ([44, 32] : List UInt8)) = true := bne_iff_ne.mpr c11
       have H' := Aside0.mk H
       clear H
       go_wp2
       go_meet
       case rel => exact ⟨_, (true), (by first | rfl | (simp; done) | (simp [*]; done)), H', ⟨by first | omega | exact Nat.le_refl _⟩, ⟨by (with_reducible repeat (first | apply Kd.R_alloc | apply Kd.R_drewN | apply Kd.R_drew)); exact Kd.R_mono HO169.out (fun _ hk => trivial)⟩, ⟨by repeat (first | (with_reducible first | exact HB.out | apply below_alloc | apply pw_below_drewN | apply below_drew1) | exact HB.out)⟩⟩
     ·rw [if_neg c10] at H
      exact absurd H (by simp)
    ·rw [if_neg c9] at H
     exact absurd H (by simp)
 case rest => as_aux_lemma =>
  clear HC4
  try clear c1
  try clear p1
  try clear q1
  try clear hx1
  try clear qi1
  try clear p2
  try clear c7
  try clear c7b0
  try clear c8
  try clear c8b0
  try clear c8b1
  try clear c9
  try clear c9b0
  try clear c9b1
  try clear c10
  try clear c10b0
  try clear c10b1
  try clear c11
  try clear c11b0
  try clear c11b1
  try clear c12
  try clear c12b0
  try clear c12b1
  try clear p13
  try clear q13
  try clear hx13
  try clear qi13
  try clear c14
  try clear c14b0
  try clear c14b1
  try clear c15
  try clear c15b0
  try clear c15b1
  try clear p16
  try clear q16
  try clear hx16
  try clear qi16
  try clear p13
  try clear p16
  try clear q13
  try clear q16
  obtain ⟨kq, x47_3, rfl, HA, HJ3, HO_5, HB⟩ := hcut
  cases kq with
  | zero => exact absurd HA.out (by simp [postriderref09_ParseDate.j0])
  | succ kj3 =>
   have H := HA.out
   clear HA
   simp only [postriderref09_ParseDate.j0] at H
   by_cases c17 : x47_3 = true
   ·subst c17
    have H1 : (some (0, 5)) = some (r1, r2) := by rw [if_pos rfl] at H; exact H
    clear H
    have H := H1
    clear H1
    simp only [Option.some.injEq, Prod.mk.injEq] at H
    obtain ⟨rfl, rfl⟩ := H
    go_wp2
    go_ret2
    exact ⟨by first | rfl | (simp [bneNil]; done) | (simp [errW_none, errW_some] <;> rfl) | (simp [*, errW_none, errW_some] <;> rfl), by repeat (first | (with_reducible first | exact HB.out | apply below_alloc | apply pw_below_drewN | apply below_drew1) | exact HB.out)⟩
   ·replace c17 := Bool.eq_false_iff.mpr c17
    subst c17
    have H1 : ((postriderref09_row.f kj3 a0 5 2).bind fun t171 => ((postriderref09_place.f kj3 a0 8 t165).bind fun t172 => (postriderref09_ParseDate.l0 kj3 a0 t170 t171 t172 0))) = some (r1, r2) := by rw [if_neg (show ¬ (false = true) by decide)] at H; exact H
    clear H
    have H := H1
    clear H1
    replace H := Option.bind_eq_some_iff.mp H
    obtain ⟨t171, A180, H⟩ := H
    replace H : ((postriderref09_place.f kj3 a0 8 t165).bind fun t172 => (postriderref09_ParseDate.l0 kj3 a0 t170 t171 t172 0)) = some (r1, r2) := H
    have A18 := Aside0.mk A180
    clear A180
    replace H := Option.bind_eq_some_iff.mp H
    obtain ⟨t172, A190, H⟩ := H
    replace H : (postriderref09_ParseDate.l0 kj3 a0 t170 t171 t172 0) = some (r1, r2) := H
    have A19 := Aside0.mk A190
    clear A190
    have HC20 := Aside0.mk H
    clear H
    go_upto_block 0 with (first | ((with_reducible refine gate_callee (f := 16) rfl ?_); refine goesL_ (some 49) rfl rfl Tryz.func16 (by kernel_rfl) rfl #[.string a0, .int .i64 5, .int .i64 2] rfl ml ?_; (with_reducible refine (postriderref09_row.calls kj3 a0 5 2 t171 _ A18.out).mono ?_); rintro e w' ⟨rfl, ⟨nd, rfl⟩⟩; refine ⟨_, rfl, ?_⟩; obtain ⟨Ao21, co21, eo21⟩ := Kd.R_slice HO_5.out; subst eo21) | ((with_reducible refine gate_callee (f := 15) rfl ?_); refine goesL_ (some 52) rfl rfl Tryz.func15 (by kernel_rfl) rfl #[.string a0, .int .i64 8, .slice Ao21 t165.length co21] rfl ml ?_; (with_reducible refine (postriderref09_place.calls kj3 a0 8 _ _ t165 t172 _ ?side1 ?side2 A19.out).mono ?_); (case side1 => repeat (first | exact (Kd.R_reads' HO_5.out).2.2 | (with_reducible refine Kd.C_alloc ?_ _) | (with_reducible refine Kd.C_drewN ?_ _) | (with_reducible refine Kd.C_drew ?_))); (case side2 => exact (Kd.R_reads' HO_5.out).2.1); rintro e w' ⟨rfl, ⟨nd, rfl⟩⟩; refine ⟨_, rfl, ?_⟩))
    (try simp only [Act.put, List.setIfInBounds_toArray, List.set_cons_zero, List.set_cons_succ])
    go_cut [9] (fun v9 wc => ∃ (kq : Nat) (x9_19 : Int), v9 = .int .i64 x9_19 ∧ Aside0 (postriderref09_ParseDate.j2 kq a0 t170 t171 t172 x9_19 = some (r1, r2)) ∧ Aside0 (kq ≤ kj3) ∧ Aside0 (Below w.heap.size w wc))
    case first => as_aux_lemma =>
     have H := HC20.out
     clear HC20
     have H' := Aside0.mk H
     clear H
     go_wp2
     go_loopg [9] kj3 (fun kq v9 w' => ∃ (x9_2 : Int), v9 = .int .i64 x9_2 ∧ Aside0 (postriderref09_ParseDate.l0 kq a0 t170 t171 t172 x9_2 = some (r1, r2)) ∧ Aside0 (kq ≤ kj3) ∧ Aside0 (Below w.heap.size w w'))
     case atStart => exact ⟨(0), (by first | rfl | (simp; done) | (simp [*]; done)), H', ⟨Nat.le_refl _⟩, ⟨by repeat (first | (with_reducible first | exact HB.out | apply below_alloc | apply pw_below_drewN | apply below_drew1) | exact HB.out)⟩⟩
     case round => as_aux_lemma =>
      clear H'
      try clear c1
      try clear p1
      try clear q1
      try clear hx1
      try clear qi1
      try clear p2
      try clear c7
      try clear c7b0
      try clear c8
      try clear c8b0
      try clear c8b1
      try clear c9
      try clear c9b0
      try clear c9b1
      try clear c10
      try clear c10b0
      try clear c10b1
      try clear c11
      try clear c11b0
      try clear c11b1
      try clear c12
      try clear c12b0
      try clear c12b1
      try clear p13
      try clear q13
      try clear hx13
      try clear qi13
      try clear c14
      try clear c14b0
      try clear c14b1
      try clear c15
      try clear c15b0
      try clear c15b1
      try clear c16
      try clear p16
      try clear q16
      try clear hx16
      try clear qi16
      try clear c17
      try clear p1
      try clear p13
      try clear p16
      try clear p2
      try clear q1
      try clear q13
      try clear q16
      obtain ⟨x9_2, rfl, HA, HK2, HB⟩ := hrel
      cases gk with
      | zero => exact absurd HA.out (by simp [postriderref09_ParseDate.l0])
      | succ k2 =>
       have H := HA.out
       clear HA
       simp only [postriderref09_ParseDate.l0] at H
       by_cases c22 : (wrap64 (12 + x9_2)) < (a0.size : Int)
       ·rw [if_pos c22] at H
        have c22b0 : decide ((wrap64 (12 + x9_2)) < (a0.size : Int)) = true := decide_eq_true c22
        clear c22
        (first | rw [c22b0] | (simp only [i64_w, i32_w]; rw [c22b0]) | skip)
        obtain ⟨ji23, hji23⟩ : ∃ j_ : Int, (wrap64 (12 + x9_2)) = j_ := ⟨_, rfl⟩
        replace H : (if 0 ≤ (ji23) then (if (bt a0 (ji23)) ≥ 48 then (if (bt a0 (ji23)) ≤ 57 then (postriderref09_ParseDate.l0 k2 a0 t170 t171 t172 (wrap64 (x9_2 + 1))) else (postriderref09_ParseDate.j2 k2 a0 t170 t171 t172 x9_2)) else (postriderref09_ParseDate.j2 k2 a0 t170 t171 t172 x9_2)) else (none)) = some (r1, r2) := by first | (rw [hji23] at H; exact H) | (simp only [hji23] at H ⊢; exact H)
        (try rw [hji23] at c22b0)
        have hji23w : (IntKind.i64.wrap (12 + x9_2)) = ji23 := (i64_w _).trans hji23
        by_cases c24 : 0 ≤ (ji23)
        ·rw [if_pos c24] at H
         have c24b0 : decide (0 ≤ (ji23)) = true := decide_eq_true c24
         clear c24
         by_cases c26 : (bt a0 (ji23)) ≥ 48
         ·rw [if_pos c26] at H
          have c26b0 : decide (48 ≤ (bt a0 (ji23))) = true := decide_eq_true c26
          clear c26
          by_cases c28 : (bt a0 (ji23)) ≤ 57
          ·rw [if_pos c28] at H
           have c28b0 : decide ((bt a0 (ji23)) ≤ 57) = true := decide_eq_true c28
           clear c28
           have H' := Aside0.mk H
           clear H
           have p25 : 0 ≤ ((ji23) : Int) := od
           have q25 : (ji23) < (a0.size : Int) := od
           have hx25 := bt_at a0 (ji23)
           replace p25 := eq_true p25
           replace q25 := eq_true q25
           have p27 : 0 ≤ ((ji23) : Int) := od
           have q27 : (ji23) < (a0.size : Int) := od
           have hx27 := bt_at a0 (ji23)
           replace p27 := eq_true p27
           replace q27 := eq_true q27
           go_wp2
           go_roundg k2
           case measure => have := HJ3.out; have := HK2.out; omega
           case rel => exact ⟨(wrap64 (x9_2 + 1)), (by first | rfl | (simp; done) | (simp [*]; done)), (by first | exact H' | (rw [← hji41] at H'; exact H')), ⟨by have := HJ3.out; have := HK2.out; omega⟩, ⟨by repeat (first | (with_reducible first | exact HB.out | apply below_alloc | apply pw_below_drewN | apply below_drew1) | exact HB.out)⟩⟩
          ·rw [if_neg c28] at H
           have c28b0 : decide ((bt a0 (ji23)) ≤ 57) = false := decide_eq_false c28
           clear c28
           have H' := Aside0.mk H
           clear H
           have p25 : 0 ≤ ((ji23) : Int) := od
           have q25 : (ji23) < (a0.size : Int) := od
           have hx25 := bt_at a0 (ji23)
           replace p25 := eq_true p25
           replace q25 := eq_true q25
           have p27 : 0 ≤ ((ji23) : Int) := od
           have q27 : (ji23) < (a0.size : Int) := od
           have hx27 := bt_at a0 (ji23)
           replace p27 := eq_true p27
           replace q27 := eq_true q27
           go_wp2
           go_meet
           case rel => exact ⟨_, (x9_2), (by first | rfl | (simp; done) | (simp [*]; done)), (by first | exact H' | (rw [← hji41] at H'; exact H')), ⟨by have := HJ3.out; have := HK2.out; first | omega | exact Nat.le_refl _⟩, ⟨by repeat (first | (with_reducible first | exact HB.out | apply below_alloc | apply pw_below_drewN | apply below_drew1) | exact HB.out)⟩⟩
         ·rw [if_neg c26] at H
          have c26b0 : decide (48 ≤ (bt a0 (ji23))) = false := decide_eq_false c26
          clear c26
          have H' := Aside0.mk H
          clear H
          have p25 : 0 ≤ ((ji23) : Int) := od
          have q25 : (ji23) < (a0.size : Int) := od
          have hx25 := bt_at a0 (ji23)
          replace p25 := eq_true p25
          replace q25 := eq_true q25
          go_wp2
          go_meet
          case rel => exact ⟨_, (x9_2), (by first | rfl | (simp; done) | (simp [*]; done)), (by first | exact H' | (rw [← hji41] at H'; exact H')), ⟨by have := HJ3.out; have := HK2.out; first | omega | exact Nat.le_refl _⟩, ⟨by repeat (first | (with_reducible first | exact HB.out | apply below_alloc | apply pw_below_drewN | apply below_drew1) | exact HB.out)⟩⟩
        ·rw [if_neg c24] at H
         exact absurd H (by simp)
       ·rw [if_neg c22] at H
        have c22b0 : decide ((wrap64 (12 + x9_2)) < (a0.size : Int)) = false := decide_eq_false c22
        clear c22
        (first | rw [c22b0] | (simp only [i64_w, i32_w]; rw [c22b0]) | skip)
        have H' := Aside0.mk H
        clear H
        go_wp2
        go_meet
        case rel => exact ⟨_, (x9_2), (by first | rfl | (simp; done) | (simp [*]; done)), (by first | exact H' | (rw [← hji41] at H'; exact H')), ⟨by have := HJ3.out; have := HK2.out; first | omega | exact Nat.le_refl _⟩, ⟨by repeat (first | (with_reducible first | exact HB.out | apply below_alloc | apply pw_below_drewN | apply below_drew1) | exact HB.out)⟩⟩
    case rest => as_aux_lemma =>
     clear HC20
     try clear c1
     try clear p1
     try clear q1
     try clear hx1
     try clear qi1
     try clear c2
     try clear p2
     try clear q2
     try clear hx2
     try clear p6
     try clear c7
     try clear c7b0
     try clear c8
     try clear c8b0
     try clear c8b1
     try clear c9
     try clear c9b0
     try clear c9b1
     try clear c10
     try clear c10b0
     try clear c10b1
     try clear c11
     try clear c11b0
     try clear c11b1
     try clear c12
     try clear c12b0
     try clear c12b1
     try clear p13
     try clear q13
     try clear hx13
     try clear qi13
     try clear c14
     try clear c14b0
     try clear c14b1
     try clear c15
     try clear c15b0
     try clear c15b1
     try clear c16
     try clear p16
     try clear q16
     try clear hx16
     try clear qi16
     try clear c17
     try clear c22
     try clear c22b0
     try clear c24
     try clear c24b0
     try clear p25
     try clear q25
     try clear hx25
     try clear c26
     try clear c26b0
     try clear p27
     try clear q27
     try clear hx27
     try clear c28
     try clear c28b0
     try clear p1
     try clear p13
     try clear p16
     try clear p2
     try clear p25
     try clear p27
     try clear q1
     try clear q13
     try clear q16
     try clear q25
     try clear q27
     obtain ⟨kq, x9_19, rfl, HA, HJ19, HB⟩ := hcut
     cases kq with
     | zero => exact absurd HA.out (by simp [postriderref09_ParseDate.j2])
     | succ kj19 =>
      have H := HA.out
      clear HA
      simp only [postriderref09_ParseDate.j2] at H
      have HC29 := Aside0.mk H
      clear H
      go_upto_region 10 with (fail)
      go_cut [96] (fun v96 wc => ∃ (kq : Nat) (x96_28 : Bool), v96 = .bool x96_28 ∧ Aside0 (postriderref09_ParseDate.j3 kq a0 t170 t171 t172 x9_19 x96_28 = some (r1, r2)) ∧ Aside0 (kq ≤ kj19) ∧ Aside0 (Below w.heap.size w wc))
      case first => as_aux_lemma =>
       have H := HC29.out
       clear HC29
       by_cases c30 : t171 < 0
       ·rw [if_pos c30] at H
        have c30b0 : decide (t171 < 0) = true := decide_eq_true c30
        clear c30
        (first | rw [c30b0] | (simp only [i64_w, i32_w]; rw [c30b0]) | skip)
        have H' := Aside0.mk H
        clear H
        go_wp2
        go_meet
        case rel => exact ⟨_, (true), (by first | rfl | (simp; done) | (simp [*]; done)), (by first | exact H' | (rw [← hji41] at H'; exact H')), ⟨by have := HJ3.out; have := HJ19.out; first | omega | exact Nat.le_refl _⟩, ⟨by repeat (first | (with_reducible first | exact HB.out | apply below_alloc | apply pw_below_drewN | apply below_drew1) | exact HB.out)⟩⟩
       ·rw [if_neg c30] at H
        have c30b0 : decide (t171 < 0) = false := decide_eq_false c30
        clear c30
        (first | rw [c30b0] | (simp only [i64_w, i32_w]; rw [c30b0]) | skip)
        by_cases c31 : t172 < 0
        ·rw [if_pos c31] at H
         have c31b0 : decide (t172 < 0) = true := decide_eq_true c31
         clear c31
         have H' := Aside0.mk H
         clear H
         go_wp2
         go_meet
         case rel => exact ⟨_, (true), (by first | rfl | (simp; done) | (simp [*]; done)), (by first | exact H' | (rw [← hji41] at H'; exact H')), ⟨by have := HJ3.out; have := HJ19.out; first | omega | exact Nat.le_refl _⟩, ⟨by repeat (first | (with_reducible first | exact HB.out | apply below_alloc | apply pw_below_drewN | apply below_drew1) | exact HB.out)⟩⟩
        ·rw [if_neg c31] at H
         have c31b0 : decide (t172 < 0) = false := decide_eq_false c31
         clear c31
         by_cases c32 : x9_19 < 4
         ·rw [if_pos c32] at H
          have c32b0 : decide (x9_19 < 4) = true := decide_eq_true c32
          clear c32
          have H' := Aside0.mk H
          clear H
          go_wp2
          go_meet
          case rel => exact ⟨_, (true), (by first | rfl | (simp; done) | (simp [*]; done)), (by first | exact H' | (rw [← hji41] at H'; exact H')), ⟨by have := HJ3.out; have := HJ19.out; first | omega | exact Nat.le_refl _⟩, ⟨by repeat (first | (with_reducible first | exact HB.out | apply below_alloc | apply pw_below_drewN | apply below_drew1) | exact HB.out)⟩⟩
         ·rw [if_neg c32] at H
          have c32b0 : decide (x9_19 < 4) = false := decide_eq_false c32
          clear c32
          by_cases c33 : x9_19 > 10
          ·rw [if_pos c33] at H
           have c33b0 : decide (10 < x9_19) = true := decide_eq_true c33
           clear c33
           have H' := Aside0.mk H
           clear H
           go_wp2
           go_meet
           case rel => exact ⟨_, (true), (by first | rfl | (simp; done) | (simp [*]; done)), (by first | exact H' | (rw [← hji41] at H'; exact H')), ⟨by have := HJ3.out; have := HJ19.out; first | omega | exact Nat.le_refl _⟩, ⟨by repeat (first | (with_reducible first | exact HB.out | apply below_alloc | apply pw_below_drewN | apply below_drew1) | exact HB.out)⟩⟩
          ·rw [if_neg c33] at H
           have c33b0 : decide (10 < x9_19) = false := decide_eq_false c33
           clear c33
           by_cases c34 : x9_19 > 4
           ·rw [if_pos c34] at H
            have c34b0 : decide (4 < x9_19) = true := decide_eq_true c34
            clear c34
            by_cases c35 : 12 < (a0.size : Int)
            ·rw [if_pos c35] at H
             have c35b0 : decide (12 < (a0.size : Int)) = true := decide_eq_true c35
             have c35b1 : decide (12 < a0.size) = true := decide_eq_true (by omega)
             clear c35
             have H' := Aside0.mk H
             clear H
             have p36 : 0 ≤ (12 : Int) := (by omega)
             have q36 : 12 < a0.size := (by have : (12 : Int) < (a0.size : Int) := od; omega)
             have hx36 : ∀ h : 12 < a0.size, ((a0[12]'h).toNat : Int) = bt a0 12 := bt_at a0 12
             clear p36
             have qi36 : (12 < (a0.size : Int)) = True := eq_true (od)
             replace q36 := eq_true q36
             go_wp2
             go_meet
             case rel => exact ⟨_, (((bt a0 12) == 48)), (by first | rfl | (simp; done) | (simp [*]; done)), (by first | exact H' | (rw [← hji41] at H'; exact H')), ⟨by have := HJ3.out; have := HJ19.out; first | omega | exact Nat.le_refl _⟩, ⟨by repeat (first | (with_reducible first | exact HB.out | apply below_alloc | apply pw_below_drewN | apply below_drew1) | exact HB.out)⟩⟩
            ·rw [if_neg c35] at H
             exact absurd H (by simp)
           ·rw [if_neg c34] at H
            have c34b0 : decide (4 < x9_19) = false := decide_eq_false c34
            clear c34
            have H' := Aside0.mk H
            clear H
            go_wp2
            go_meet
            case rel => exact ⟨_, (false), (by first | rfl | (simp; done) | (simp [*]; done)), (by first | exact H' | (rw [← hji41] at H'; exact H')), ⟨by have := HJ3.out; have := HJ19.out; first | omega | exact Nat.le_refl _⟩, ⟨by repeat (first | (with_reducible first | exact HB.out | apply below_alloc | apply pw_below_drewN | apply below_drew1) | exact HB.out)⟩⟩
      case rest => as_aux_lemma =>
       clear HC29
       try clear c1
       try clear p1
       try clear q1
       try clear hx1
       try clear qi1
       try clear c2
       try clear p2
       try clear q2
       try clear hx2
       try clear c3
       try clear p3
       try clear q3
       try clear hx3
       try clear qi3
       try clear p6
       try clear c7
       try clear c7b0
       try clear c8
       try clear c8b0
       try clear c8b1
       try clear c9
       try clear c9b0
       try clear c9b1
       try clear c10
       try clear c10b0
       try clear c10b1
       try clear c11
       try clear c11b0
       try clear c11b1
       try clear c12
       try clear c12b0
       try clear c12b1
       try clear p13
       try clear q13
       try clear hx13
       try clear qi13
       try clear c14
       try clear c14b0
       try clear c14b1
       try clear c15
       try clear c15b0
       try clear c15b1
       try clear c16
       try clear p16
       try clear q16
       try clear hx16
       try clear qi16
       try clear c17
       try clear c22
       try clear c22b0
       try clear c24
       try clear c24b0
       try clear p25
       try clear q25
       try clear hx25
       try clear c26
       try clear c26b0
       try clear p27
       try clear q27
       try clear hx27
       try clear c28
       try clear c28b0
       try clear c30
       try clear c30b0
       try clear c31
       try clear c31b0
       try clear c32
       try clear c32b0
       try clear c33
       try clear c33b0
       try clear c34
       try clear c34b0
       try clear c35
       try clear c35b0
       try clear c35b1
       try clear p36
       try clear q36
       try clear hx36
       try clear qi36
       try clear p1
       try clear p13
       try clear p16
       try clear p2
       try clear p25
       try clear p27
       try clear p36
       try clear p6
       try clear q1
       try clear q13
       try clear q16
       try clear q2
       try clear q25
       try clear q27
       try clear q36
       obtain ⟨kq, x96_28, rfl, HA, HJ28, HB⟩ := hcut
       cases kq with
       | zero => exact absurd HA.out (by simp [postriderref09_ParseDate.j3])
       | succ kj28 =>
        have H := HA.out
        clear HA
        simp only [postriderref09_ParseDate.j3] at H
        by_cases c37 : x96_28 = true
        ·subst c37
         have H1 : (some (0, 5)) = some (r1, r2) := by rw [if_pos rfl] at H; exact H
         clear H
         have H := H1
         clear H1
         simp only [Option.some.injEq, Prod.mk.injEq] at H
         obtain ⟨rfl, rfl⟩ := H
         go_wp2
         go_ret2
         exact ⟨by first | rfl | (simp [bneNil]; done) | (simp [errW_none, errW_some] <;> rfl) | (simp [*, errW_none, errW_some] <;> rfl), by repeat (first | (with_reducible first | exact HB.out | apply below_alloc | apply pw_below_drewN | apply below_drew1) | exact HB.out)⟩
        ·replace c37 := Bool.eq_false_iff.mpr c37
         subst c37
         have H1 : ((postriderref09_row.f kj28 a0 12 x9_19).bind fun t173 => (if (a0.size : Int) = (wrap64 ((wrap64 (12 + x9_19)) + 15)) then (if 0 ≤ (wrap64 (12 + x9_19)) then (if (wrap64 (12 + x9_19)) < (a0.size : Int) then (if (bt a0 (wrap64 (12 + x9_19))) = 32 then (if 0 ≤ (wrap64 ((wrap64 (12 + x9_19)) + 3)) then (if (wrap64 ((wrap64 (12 + x9_19)) + 3)) < (a0.size : Int) then (if (bt a0 (wrap64 ((wrap64 (12 + x9_19)) + 3))) = 58 then (if 0 ≤ (wrap64 ((wrap64 (12 + x9_19)) + 6)) then (if (wrap64 ((wrap64 (12 + x9_19)) + 6)) < (a0.size : Int) then (if (bt a0 (wrap64 ((wrap64 (12 + x9_19)) + 6))) = 58 then (if 0 ≤ (wrap64 ((wrap64 (12 + x9_19)) + 9)) then (if (wrap64 ((wrap64 (12 + x9_19)) + 9)) ≤ (a0.size : Int) then (postriderref09_ParseDate.j4 kj28 a0 t170 t171 t172 t173 (wrap64 (12 + x9_19)) ((a0.extract ((wrap64 ((wrap64 (12 + x9_19)) + 9)) : Int).toNat a0.size).toList != ([32, 43, 48, 48, 48, 48] : List UInt8))) else (none)) else (none)) else (postriderref09_ParseDate.j4 kj28 a0 t170 t171 t172 t173 (wrap64 (12 + x9_19)) true)) else (none)) else (none)) else (postriderref09_ParseDate.j4 kj28 a0 t170 t171 t172 t173 (wrap64 (12 + x9_19)) true)) else (none)) else (none)) else (postriderref09_ParseDate.j4 kj28 a0 t170 t171 t172 t173 (wrap64 (12 + x9_19)) true)) else (none)) else (none)) else (postriderref09_ParseDate.j4 kj28 a0 t170 t171 t172 t173 (wrap64 (12 + x9_19)) true))) = some (r1, r2) := by rw [if_neg (show ¬ (false = true) by decide)] at H; exact H
         clear H
         have H := H1
         clear H1
         replace H := Option.bind_eq_some_iff.mp H
         obtain ⟨t173, A380, H⟩ := H
         replace H : (if (a0.size : Int) = (wrap64 ((wrap64 (12 + x9_19)) + 15)) then (if 0 ≤ (wrap64 (12 + x9_19)) then (if (wrap64 (12 + x9_19)) < (a0.size : Int) then (if (bt a0 (wrap64 (12 + x9_19))) = 32 then (if 0 ≤ (wrap64 ((wrap64 (12 + x9_19)) + 3)) then (if (wrap64 ((wrap64 (12 + x9_19)) + 3)) < (a0.size : Int) then (if (bt a0 (wrap64 ((wrap64 (12 + x9_19)) + 3))) = 58 then (if 0 ≤ (wrap64 ((wrap64 (12 + x9_19)) + 6)) then (if (wrap64 ((wrap64 (12 + x9_19)) + 6)) < (a0.size : Int) then (if (bt a0 (wrap64 ((wrap64 (12 + x9_19)) + 6))) = 58 then (if 0 ≤ (wrap64 ((wrap64 (12 + x9_19)) + 9)) then (if (wrap64 ((wrap64 (12 + x9_19)) + 9)) ≤ (a0.size : Int) then (postriderref09_ParseDate.j4 kj28 a0 t170 t171 t172 t173 (wrap64 (12 + x9_19)) ((a0.extract ((wrap64 ((wrap64 (12 + x9_19)) + 9)) : Int).toNat a0.size).toList != ([32, 43, 48, 48, 48, 48] : List UInt8))) else (none)) else (none)) else (postriderref09_ParseDate.j4 kj28 a0 t170 t171 t172 t173 (wrap64 (12 + x9_19)) true)) else (none)) else (none)) else (postriderref09_ParseDate.j4 kj28 a0 t170 t171 t172 t173 (wrap64 (12 + x9_19)) true)) else (none)) else (none)) else (postriderref09_ParseDate.j4 kj28 a0 t170 t171 t172 t173 (wrap64 (12 + x9_19)) true)) else (none)) else (none)) else (postriderref09_ParseDate.j4 kj28 a0 t170 t171 t172 t173 (wrap64 (12 + x9_19)) true)) = some (r1, r2) := H
         have A38 := Aside0.mk A380
         clear A380
         have HC39 := Aside0.mk H
         clear H
         go_upto_region 14 with (first | ((with_reducible refine gate_callee (f := 16) rfl ?_); refine goesL_ (some 99) rfl rfl Tryz.func16 (by kernel_rfl) rfl #[.string a0, .int .i64 12, .int .i64 x9_19] rfl ml ?_; (with_reducible refine (postriderref09_row.calls kj28 a0 12 x9_19 t173 _ A38.out).mono ?_); rintro e w' ⟨rfl, ⟨nd, rfl⟩⟩; refine ⟨_, rfl, ?_⟩))
         (try simp only [Act.put, List.setIfInBounds_toArray, List.set_cons_zero, List.set_cons_succ])
         go_cut [133] (fun v133 wc => ∃ (kq : Nat) (x133_38 : Bool), v133 = .bool x133_38 ∧ Aside0 (postriderref09_ParseDate.j4 kq a0 t170 t171 t172 t173 (wrap64 (12 + x9_19)) x133_38 = some (r1, r2)) ∧ Aside0 (kq ≤ kj28) ∧ Aside0 (Below w.heap.size w wc))
         case first => as_aux_lemma =>
          have H := HC39.out
          clear HC39
          by_cases c40 : (a0.size : Int) = (wrap64 ((wrap64 (12 + x9_19)) + 15))
          ·rw [if_pos c40] at H
           have c40b0 : ((a0.size : Int) == (wrap64 ((wrap64 (12 + x9_19)) + 15))) = true := beq_iff_eq.mpr c40
           have c40b1 : ((a0.size : Int) != (wrap64 ((wrap64 (12 + x9_19)) + 15))) = false := bne_eq_false_iff_eq.mpr c40
           clear c40
           (first | rw [c40b0] | (simp only [i64_w, i32_w]; rw [c40b0]) | skip)
           obtain ⟨ji41, hji41⟩ : ∃ j_ : Int, (wrap64 (12 + x9_19)) = j_ := ⟨_, rfl⟩
           replace H : (if 0 ≤ (ji41) then (if (ji41) < (a0.size : Int) then (if (bt a0 (ji41)) = 32 then (if 0 ≤ (wrap64 ((ji41) + 3)) then (if (wrap64 ((ji41) + 3)) < (a0.size : Int) then (if (bt a0 (wrap64 ((ji41) + 3))) = 58 then (if 0 ≤ (wrap64 ((ji41) + 6)) then (if (wrap64 ((ji41) + 6)) < (a0.size : Int) then (if (bt a0 (wrap64 ((ji41) + 6))) = 58 then (if 0 ≤ (wrap64 ((ji41) + 9)) then (if (wrap64 ((ji41) + 9)) ≤ (a0.size : Int) then (postriderref09_ParseDate.j4 kj28 a0 t170 t171 t172 t173 ji41 ((a0.extract ((wrap64 ((ji41) + 9)) : Int).toNat a0.size).toList != ([32, 43, 48, 48, 48, 48] : List UInt8))) else (none)) else (none)) else (postriderref09_ParseDate.j4 kj28 a0 t170 t171 t172 t173 ji41 true)) else (none)) else (none)) else (postriderref09_ParseDate.j4 kj28 a0 t170 t171 t172 t173 ji41 true)) else (none)) else (none)) else (postriderref09_ParseDate.j4 kj28 a0 t170 t171 t172 t173 ji41 true)) else (none)) else (none)) = some (r1, r2) := by first | (rw [hji41] at H; exact H) | (simp only [hji41] at H ⊢; exact H)
           (try rw [hji41] at c40b0)
           (try rw [hji41] at c40b1)
           have hji41w : (IntKind.i64.wrap (12 + x9_19)) = ji41 := (i64_w _).trans hji41
           by_cases c42 : 0 ≤ (ji41)
           ·rw [if_pos c42] at H
            have c42b0 : decide (0 ≤ (ji41)) = true := decide_eq_true c42
            clear c42
            by_cases c43 : (ji41) < (a0.size : Int)
            ·rw [if_pos c43] at H
             have c43b0 : decide ((ji41) < (a0.size : Int)) = true := decide_eq_true c43
             clear c43
             by_cases c45 : (bt a0 (ji41)) = 32
             ·rw [if_pos c45] at H
              have c45b0 : ((bt a0 (ji41)) == 32) = true := beq_iff_eq.mpr c45
              have c45b1 : ((bt a0 (ji41)) != 32) = false := bne_eq_false_iff_eq.mpr c45
              clear c45
              obtain ⟨ji46, hji46⟩ : ∃ j_ : Int, (wrap64 ((ji41) + 3)) = j_ := ⟨_, rfl⟩
              replace H : (if 0 ≤ (ji46) then (if (ji46) < (a0.size : Int) then (if (bt a0 (ji46)) = 58 then (if 0 ≤ (wrap64 ((ji41) + 6)) then (if (wrap64 ((ji41) + 6)) < (a0.size : Int) then (if (bt a0 (wrap64 ((ji41) + 6))) = 58 then (if 0 ≤ (wrap64 ((ji41) + 9)) then (if (wrap64 ((ji41) + 9)) ≤ (a0.size : Int) then (postriderref09_ParseDate.j4 kj28 a0 t170 t171 t172 t173 ji41 ((a0.extract ((wrap64 ((ji41) + 9)) : Int).toNat a0.size).toList != ([32, 43, 48, 48, 48, 48] : List UInt8))) else (none)) else (none)) else (postriderref09_ParseDate.j4 kj28 a0 t170 t171 t172 t173 ji41 true)) else (none)) else (none)) else (postriderref09_ParseDate.j4 kj28 a0 t170 t171 t172 t173 ji41 true)) else (none)) else (none)) = some (r1, r2) := by first | (rw [hji46] at H; exact H) | (simp only [hji46] at H ⊢; exact H)
              have hji46w : (IntKind.i64.wrap ((ji41) + 3)) = ji46 := (i64_w _).trans hji46
              by_cases c47 : 0 ≤ (ji46)
              ·rw [if_pos c47] at H
               have c47b0 : decide (0 ≤ (ji46)) = true := decide_eq_true c47
               clear c47
               by_cases c48 : (ji46) < (a0.size : Int)
               ·rw [if_pos c48] at H
                have c48b0 : decide ((ji46) < (a0.size : Int)) = true := decide_eq_true c48
                clear c48
                by_cases c50 : (bt a0 (ji46)) = 58
                ·rw [if_pos c50] at H
                 have c50b0 : ((bt a0 (ji46)) == 58) = true := beq_iff_eq.mpr c50
                 have c50b1 : ((bt a0 (ji46)) != 58) = false := bne_eq_false_iff_eq.mpr c50
                 clear c50
                 obtain ⟨ji51, hji51⟩ : ∃ j_ : Int, (wrap64 ((ji41) + 6)) = j_ := ⟨_, rfl⟩
                 replace H : (if 0 ≤ (ji51) then (if (ji51) < (a0.size : Int) then (if (bt a0 (ji51)) = 58 then (if 0 ≤ (wrap64 ((ji41) + 9)) then (if (wrap64 ((ji41) + 9)) ≤ (a0.size : Int) then (postriderref09_ParseDate.j4 kj28 a0 t170 t171 t172 t173 ji41 ((a0.extract ((wrap64 ((ji41) + 9)) : Int).toNat a0.size).toList != ([32, 43, 48, 48, 48, 48] : List UInt8))) else (none)) else (none)) else (postriderref09_ParseDate.j4 kj28 a0 t170 t171 t172 t173 ji41 true)) else (none)) else (none)) = some (r1, r2) := by first | (rw [hji51] at H; exact H) | (simp only [hji51] at H ⊢; exact H)
                 have hji51w : (IntKind.i64.wrap ((ji41) + 6)) = ji51 := (i64_w _).trans hji51
                 by_cases c52 : 0 ≤ (ji51)
                 ·rw [if_pos c52] at H
                  have c52b0 : decide (0 ≤ (ji51)) = true := decide_eq_true c52
                  clear c52
                  by_cases c53 : (ji51) < (a0.size : Int)
                  ·rw [if_pos c53] at H
                   have c53b0 : decide ((ji51) < (a0.size : Int)) = true := decide_eq_true c53
                   clear c53
                   by_cases c55 : (bt a0 (ji51)) = 58
                   ·rw [if_pos c55] at H
                    have c55b0 : ((bt a0 (ji51)) == 58) = true := beq_iff_eq.mpr c55
                    have c55b1 : ((bt a0 (ji51)) != 58) = false := bne_eq_false_iff_eq.mpr c55
                    clear c55
                    obtain ⟨ji56, hji56⟩ : ∃ j_ : Int, (wrap64 ((ji41) + 9)) = j_ := ⟨_, rfl⟩
                    replace H : (if 0 ≤ (ji56) then (if (ji56) ≤ (a0.size : Int) then (postriderref09_ParseDate.j4 kj28 a0 t170 t171 t172 t173 ji41 ((a0.extract ((ji56) : Int).toNat a0.size).toList != ([32, 43, 48, 48, 48, 48] : List UInt8))) else (none)) else (none)) = some (r1, r2) := by first | (rw [hji56] at H; exact H) | (simp only [hji56] at H ⊢; exact H)
                    have hji56w : (IntKind.i64.wrap ((ji41) + 9)) = ji56 := (i64_w _).trans hji56
                    by_cases c57 : 0 ≤ (ji56)
                    ·rw [if_pos c57] at H
                     have c57b0 := eq_true c57
                     have c57b1 : decide (0 ≤ (ji56)) = true := decide_eq_true c57
                     clear c57
                     by_cases c58 : (ji56) ≤ (a0.size : Int)
                     ·rw [if_pos c58] at H
                      have c58b0 := eq_true c58
                      have c58b1 : decide ((ji56) ≤ (a0.size : Int)) = true := decide_eq_true c58
                      clear c58
                      have H' := Aside0.mk H
                      clear H
                      have p44 : 0 ≤ ((ji41) : Int) := od
                      have q44 : (ji41) < (a0.size : Int) := od
                      have hx44 := bt_at a0 (ji41)
                      replace p44 := eq_true p44
                      replace q44 := eq_true q44
                      have p49 : 0 ≤ ((ji46) : Int) := od
                      have q49 : (ji46) < (a0.size : Int) := od
                      have hx49 := bt_at a0 (ji46)
                      replace p49 := eq_true p49
                      replace q49 := eq_true q49
                      have p54 : 0 ≤ ((ji51) : Int) := od
                      have q54 : (ji51) < (a0.size : Int) := od
                      have hx54 := bt_at a0 (ji51)
                      replace p54 := eq_true p54
                      replace q54 := eq_true q54
                      go_wp2
                      go_meet
                      case rel => exact ⟨_, (((a0.extract ((ji56) : Int).toNat a0.size).toList != ([32, 43, 48, 48, 48, 48] : List UInt8))), (by first | rfl | (simp; done) | (simp only [← hji56] <;> (first | rfl | simp)) | (simp [*]; done)), (by first | exact H' | (rw [← hji41] at H'; exact H')), ⟨by have := HJ3.out; have := HJ19.out; have := HJ28.out; first | omega | exact Nat.le_refl _⟩, ⟨by repeat (first | (with_reducible first | exact HB.out | apply below_alloc | apply pw_below_drewN | apply below_drew1) | exact HB.out)⟩⟩
                     ·rw [if_neg c58] at H
                      exact absurd H (by simp)
                    ·rw [if_neg c57] at H
                     exact absurd H (by simp)
                   ·rw [if_neg c55] at H
                    have c55b0 : ((bt a0 (ji51)) == 58) = false := beq_eq_false_iff_ne.mpr c55
                    have c55b1 : ((bt a0 (ji51)) != 58) = true := bne_iff_ne.mpr c55
                    have H' := Aside0.mk H
                    clear H
                    have p44 : 0 ≤ ((ji41) : Int) := od
                    have q44 : (ji41) < (a0.size : Int) := od
                    have hx44 := bt_at a0 (ji41)
                    replace p44 := eq_true p44
                    replace q44 := eq_true q44
                    have p49 : 0 ≤ ((ji46) : Int) := od
                    have q49 : (ji46) < (a0.size : Int) := od
                    have hx49 := bt_at a0 (ji46)
                    replace p49 := eq_true p49
                    replace q49 := eq_true q49
                    have p54 : 0 ≤ ((ji51) : Int) := od
                    have q54 : (ji51) < (a0.size : Int) := od
                    have hx54 := bt_at a0 (ji51)
                    replace p54 := eq_true p54
                    replace q54 := eq_true q54
                    go_wp2
                    go_meet
                    case rel => exact ⟨_, (true), (by first | rfl | (simp; done) | (simp [*]; done)), (by first | exact H' | (rw [← hji41] at H'; exact H')), ⟨by have := HJ3.out; have := HJ19.out; have := HJ28.out; first | omega | exact Nat.le_refl _⟩, ⟨by repeat (first | (with_reducible first | exact HB.out | apply below_alloc | apply pw_below_drewN | apply below_drew1) | exact HB.out)⟩⟩
                  ·rw [if_neg c53] at H
                   exact absurd H (by simp)
                 ·rw [if_neg c52] at H
                  exact absurd H (by simp)
                ·rw [if_neg c50] at H
                 have c50b0 : ((bt a0 (ji46)) == 58) = false := beq_eq_false_iff_ne.mpr c50
                 have c50b1 : ((bt a0 (ji46)) != 58) = true := bne_iff_ne.mpr c50
                 have H' := Aside0.mk H
                 clear H
                 have p44 : 0 ≤ ((ji41) : Int) := od
                 have q44 : (ji41) < (a0.size : Int) := od
                 have hx44 := bt_at a0 (ji41)
                 replace p44 := eq_true p44
                 replace q44 := eq_true q44
                 have p49 : 0 ≤ ((ji46) : Int) := od
                 have q49 : (ji46) < (a0.size : Int) := od
                 have hx49 := bt_at a0 (ji46)
                 replace p49 := eq_true p49
                 replace q49 := eq_true q49
                 go_wp2
                 go_meet
                 case rel => exact ⟨_, (true), (by first | rfl | (simp; done) | (simp [*]; done)), (by first | exact H' | (rw [← hji41] at H'; exact H')), ⟨by have := HJ3.out; have := HJ19.out; have := HJ28.out; first | omega | exact Nat.le_refl _⟩, ⟨by repeat (first | (with_reducible first | exact HB.out | apply below_alloc | apply pw_below_drewN | apply below_drew1) | exact HB.out)⟩⟩
               ·rw [if_neg c48] at H
                exact absurd H (by simp)
              ·rw [if_neg c47] at H
               exact absurd H (by simp)
             ·rw [if_neg c45] at H
              have c45b0 : ((bt a0 (ji41)) == 32) = false := beq_eq_false_iff_ne.mpr c45
              have c45b1 : ((bt a0 (ji41)) != 32) = true := bne_iff_ne.mpr c45
              have H' := Aside0.mk H
              clear H
              have p44 : 0 ≤ ((ji41) : Int) := od
              have q44 : (ji41) < (a0.size : Int) := od
              have hx44 := bt_at a0 (ji41)
              replace p44 := eq_true p44
              replace q44 := eq_true q44
              go_wp2
              go_meet
              case rel => exact ⟨_, (true), (by first | rfl | (simp; done) | (simp [*]; done)), (by first | exact H' | (rw [← hji41] at H'; exact H')), ⟨by have := HJ3.out; have := HJ19.out; have := HJ28.out; first | omega | exact Nat.le_refl _⟩, ⟨by repeat (first | (with_reducible first | exact HB.out | apply below_alloc | apply pw_below_drewN | apply below_drew1) | exact HB.out)⟩⟩
            ·rw [if_neg c43] at H
             exact absurd H (by simp)
           ·rw [if_neg c42] at H
            exact absurd H (by simp)
          ·rw [if_neg c40] at H
           have c40b0 : ((a0.size : Int) == (wrap64 ((wrap64 (12 + x9_19)) + 15))) = false := beq_eq_false_iff_ne.mpr c40
           have c40b1 : ((a0.size : Int) != (wrap64 ((wrap64 (12 + x9_19)) + 15))) = true := bne_iff_ne.mpr c40
           (first | rw [c40b0] | (simp only [i64_w, i32_w]; rw [c40b0]) | skip)
           have H' := Aside0.mk H
           clear H
           go_wp2
           go_meet
           case rel => exact ⟨_, (true), (by first | rfl | (simp; done) | (simp [*]; done)), (by first | exact H' | (rw [← hji41] at H'; exact H')), ⟨by have := HJ3.out; have := HJ19.out; have := HJ28.out; first | omega | exact Nat.le_refl _⟩, ⟨by repeat (first | (with_reducible first | exact HB.out | apply below_alloc | apply pw_below_drewN | apply below_drew1) | exact HB.out)⟩⟩
         case rest => as_aux_lemma =>
          clear HC39
          try clear c1
          try clear p1
          try clear q1
          try clear hx1
          try clear qi1
          try clear c2
          try clear p2
          try clear q2
          try clear hx2
          try clear c3
          try clear p3
          try clear q3
          try clear hx3
          try clear qi3
          try clear c4
          try clear p4
          try clear q4
          try clear hx4
          try clear c5
          try clear p5
          try clear q5
          try clear hx5
          try clear p6
          try clear c7
          try clear c7b0
          try clear c8
          try clear c8b0
          try clear c8b1
          try clear c9
          try clear c9b0
          try clear c9b1
          try clear c10
          try clear c10b0
          try clear c10b1
          try clear c11
          try clear c11b0
          try clear c11b1
          try clear c12
          try clear c12b0
          try clear c12b1
          try clear p13
          try clear q13
          try clear hx13
          try clear qi13
          try clear c14
          try clear c14b0
          try clear c14b1
          try clear c15
          try clear c15b0
          try clear c15b1
          try clear c16
          try clear p16
          try clear q16
          try clear hx16
          try clear qi16
          try clear c17
          try clear c22
          try clear c22b0
          try clear c24
          try clear c24b0
          try clear p25
          try clear q25
          try clear hx25
          try clear c26
          try clear c26b0
          try clear p27
          try clear q27
          try clear hx27
          try clear c28
          try clear c28b0
          try clear c30
          try clear c30b0
          try clear c31
          try clear c31b0
          try clear c32
          try clear c32b0
          try clear c33
          try clear c33b0
          try clear c34
          try clear c34b0
          try clear c35
          try clear c35b0
          try clear c35b1
          try clear p36
          try clear q36
          try clear hx36
          try clear qi36
          try clear c37
          try clear c40
          try clear c40b0
          try clear c40b1
          try clear c42
          try clear c42b0
          try clear c43
          try clear c43b0
          try clear p44
          try clear q44
          try clear hx44
          try clear c45
          try clear c45b0
          try clear c45b1
          try clear c47
          try clear c47b0
          try clear c48
          try clear c48b0
          try clear p49
          try clear q49
          try clear hx49
          try clear c50
          try clear c50b0
          try clear c50b1
          try clear c52
          try clear c52b0
          try clear c53
          try clear c53b0
          try clear p54
          try clear q54
          try clear hx54
          try clear c55
          try clear c55b0
          try clear c55b1
          try clear c57
          try clear c57b0
          try clear c57b1
          try clear c58
          try clear c58b0
          try clear c58b1
          try clear p1
          try clear p13
          try clear p16
          try clear p2
          try clear p25
          try clear p27
          try clear p3
          try clear p36
          try clear p44
          try clear p49
          try clear p54
          try clear p6
          try clear q1
          try clear q13
          try clear q16
          try clear q2
          try clear q25
          try clear q27
          try clear q3
          try clear q36
          try clear q44
          try clear q49
          try clear q54
          obtain ⟨kq, x133_38, rfl, HA, HJ38, HB⟩ := hcut
          cases kq with
          | zero => exact absurd HA.out (by simp [postriderref09_ParseDate.j4])
          | succ kj38 =>
           have H := HA.out
           clear HA
           simp only [postriderref09_ParseDate.j4] at H
           by_cases c59 : x133_38 = true
           ·subst c59
            have H1 : (some (0, 5)) = some (r1, r2) := by rw [if_pos rfl] at H; exact H
            clear H
            have H := H1
            clear H1
            simp only [Option.some.injEq, Prod.mk.injEq] at H
            obtain ⟨rfl, rfl⟩ := H
            go_wp2
            go_ret2
            exact ⟨by first | rfl | (simp [bneNil]; done) | (simp [errW_none, errW_some] <;> rfl) | (simp [*, errW_none, errW_some] <;> rfl), by repeat (first | (with_reducible first | exact HB.out | apply below_alloc | apply pw_below_drewN | apply below_drew1) | exact HB.out)⟩
           ·replace c59 := Bool.eq_false_iff.mpr c59
            subst c59
            have H1 : ((postriderref09_row.f kj38 a0 (wrap64 ((wrap64 (12 + x9_19)) + 1)) 2).bind fun t174 => ((postriderref09_row.f kj38 a0 (wrap64 ((wrap64 (12 + x9_19)) + 4)) 2).bind fun t175 => ((postriderref09_row.f kj38 a0 (wrap64 ((wrap64 (12 + x9_19)) + 7)) 2).bind fun t176 => (if t174 < 0 then (postriderref09_ParseDate.j5 kj38 t170 t171 t172 t173 t174 t175 t176 true) else (if t175 < 0 then (postriderref09_ParseDate.j5 kj38 t170 t171 t172 t173 t174 t175 t176 true) else (postriderref09_ParseDate.j5 kj38 t170 t171 t172 t173 t174 t175 t176 (decide (t176 < 0)))))))) = some (r1, r2) := by rw [if_neg (show ¬ (false = true) by decide)] at H; exact H
            clear H
            have H := H1
            clear H1
            replace H := Option.bind_eq_some_iff.mp H
            obtain ⟨t174, A600, H⟩ := H
            replace H : ((postriderref09_row.f kj38 a0 (wrap64 ((wrap64 (12 + x9_19)) + 4)) 2).bind fun t175 => ((postriderref09_row.f kj38 a0 (wrap64 ((wrap64 (12 + x9_19)) + 7)) 2).bind fun t176 => (if t174 < 0 then (postriderref09_ParseDate.j5 kj38 t170 t171 t172 t173 t174 t175 t176 true) else (if t175 < 0 then (postriderref09_ParseDate.j5 kj38 t170 t171 t172 t173 t174 t175 t176 true) else (postriderref09_ParseDate.j5 kj38 t170 t171 t172 t173 t174 t175 t176 (decide (t176 < 0))))))) = some (r1, r2) := H
            have A60 := Aside0.mk A600
            clear A600
            replace H := Option.bind_eq_some_iff.mp H
            obtain ⟨t175, A610, H⟩ := H
            replace H : ((postriderref09_row.f kj38 a0 (wrap64 ((wrap64 (12 + x9_19)) + 7)) 2).bind fun t176 => (if t174 < 0 then (postriderref09_ParseDate.j5 kj38 t170 t171 t172 t173 t174 t175 t176 true) else (if t175 < 0 then (postriderref09_ParseDate.j5 kj38 t170 t171 t172 t173 t174 t175 t176 true) else (postriderref09_ParseDate.j5 kj38 t170 t171 t172 t173 t174 t175 t176 (decide (t176 < 0)))))) = some (r1, r2) := H
            have A61 := Aside0.mk A610
            clear A610
            replace H := Option.bind_eq_some_iff.mp H
            obtain ⟨t176, A620, H⟩ := H
            replace H : (if t174 < 0 then (postriderref09_ParseDate.j5 kj38 t170 t171 t172 t173 t174 t175 t176 true) else (if t175 < 0 then (postriderref09_ParseDate.j5 kj38 t170 t171 t172 t173 t174 t175 t176 true) else (postriderref09_ParseDate.j5 kj38 t170 t171 t172 t173 t174 t175 t176 (decide (t176 < 0))))) = some (r1, r2) := H
            have A62 := Aside0.mk A620
            clear A620
            have HC63 := Aside0.mk H
            clear H
            go_upto_region 19 with (first | ((with_reducible refine gate_callee (f := 16) rfl ?_); refine goesL_ (some 137) rfl rfl Tryz.func16 (by kernel_rfl) rfl #[.string a0, .int .i64 (wrap64 ((wrap64 (12 + x9_19)) + 1)), .int .i64 2] rfl ml ?_; (with_reducible refine (postriderref09_row.calls kj38 a0 (wrap64 ((wrap64 (12 + x9_19)) + 1)) 2 t174 _ A60.out).mono ?_); rintro e w' ⟨rfl, ⟨nd, rfl⟩⟩; refine ⟨_, rfl, ?_⟩) | ((with_reducible refine gate_callee (f := 16) rfl ?_); refine goesL_ (some 141) rfl rfl Tryz.func16 (by kernel_rfl) rfl #[.string a0, .int .i64 (wrap64 ((wrap64 (12 + x9_19)) + 4)), .int .i64 2] rfl ml ?_; (with_reducible refine (postriderref09_row.calls kj38 a0 (wrap64 ((wrap64 (12 + x9_19)) + 4)) 2 t175 _ A61.out).mono ?_); rintro e w' ⟨rfl, ⟨nd, rfl⟩⟩; refine ⟨_, rfl, ?_⟩) | ((with_reducible refine gate_callee (f := 16) rfl ?_); refine goesL_ (some 145) rfl rfl Tryz.func16 (by kernel_rfl) rfl #[.string a0, .int .i64 (wrap64 ((wrap64 (12 + x9_19)) + 7)), .int .i64 2] rfl ml ?_; (with_reducible refine (postriderref09_row.calls kj38 a0 (wrap64 ((wrap64 (12 + x9_19)) + 7)) 2 t176 _ A62.out).mono ?_); rintro e w' ⟨rfl, ⟨nd, rfl⟩⟩; refine ⟨_, rfl, ?_⟩))
            (try simp only [Act.put, List.setIfInBounds_toArray, List.set_cons_zero, List.set_cons_succ])
            go_cut [155] (fun v155 wc => ∃ (kq : Nat) (x155_62 : Bool), v155 = .bool x155_62 ∧ Aside0 (postriderref09_ParseDate.j5 kq t170 t171 t172 t173 t174 t175 t176 x155_62 = some (r1, r2)) ∧ Aside0 (kq ≤ kj38) ∧ Aside0 (Below w.heap.size w wc))
            case first => as_aux_lemma =>
             have H := HC63.out
             clear HC63
             by_cases c64 : t174 < 0
             ·rw [if_pos c64] at H
              have c64b0 : decide (t174 < 0) = true := decide_eq_true c64
              clear c64
              (first | rw [c64b0] | (simp only [i64_w, i32_w]; rw [c64b0]) | skip)
              have H' := Aside0.mk H
              clear H
              go_wp2
              go_meet
              case rel => exact ⟨_, (true), (by first | rfl | (simp; done) | (simp [*]; done)), (by first | exact H' | (rw [← hji41] at H'; exact H')), ⟨by have := HJ3.out; have := HJ19.out; have := HJ28.out; have := HJ38.out; first | omega | exact Nat.le_refl _⟩, ⟨by repeat (first | (with_reducible first | exact HB.out | apply below_alloc | apply pw_below_drewN | apply below_drew1) | exact HB.out)⟩⟩
             ·rw [if_neg c64] at H
              have c64b0 : decide (t174 < 0) = false := decide_eq_false c64
              clear c64
              (first | rw [c64b0] | (simp only [i64_w, i32_w]; rw [c64b0]) | skip)
              by_cases c65 : t175 < 0
              ·rw [if_pos c65] at H
               have c65b0 : decide (t175 < 0) = true := decide_eq_true c65
               clear c65
               have H' := Aside0.mk H
               clear H
               go_wp2
               go_meet
               case rel => exact ⟨_, (true), (by first | rfl | (simp; done) | (simp [*]; done)), (by first | exact H' | (rw [← hji41] at H'; exact H')), ⟨by have := HJ3.out; have := HJ19.out; have := HJ28.out; have := HJ38.out; first | omega | exact Nat.le_refl _⟩, ⟨by repeat (first | (with_reducible first | exact HB.out | apply below_alloc | apply pw_below_drewN | apply below_drew1) | exact HB.out)⟩⟩
              ·rw [if_neg c65] at H
               have c65b0 : decide (t175 < 0) = false := decide_eq_false c65
               clear c65
               have H' := Aside0.mk H
               clear H
               go_wp2
               go_meet
               case rel => exact ⟨_, (decide (t176 < 0)), (by first | rfl | (simp; done) | (simp [*]; done)), (by first | exact H' | (rw [← hji41] at H'; exact H')), ⟨by have := HJ3.out; have := HJ19.out; have := HJ28.out; have := HJ38.out; first | omega | exact Nat.le_refl _⟩, ⟨by repeat (first | (with_reducible first | exact HB.out | apply below_alloc | apply pw_below_drewN | apply below_drew1) | exact HB.out)⟩⟩
            case rest => as_aux_lemma =>
             clear HC63
             try clear c1
             try clear p1
             try clear q1
             try clear hx1
             try clear qi1
             try clear c2
             try clear p2
             try clear q2
             try clear hx2
             try clear c3
             try clear p3
             try clear q3
             try clear hx3
             try clear qi3
             try clear c4
             try clear p4
             try clear q4
             try clear hx4
             try clear c5
             try clear p5
             try clear q5
             try clear hx5
             try clear c6
             try clear p6
             try clear c7
             try clear c7b0
             try clear c8
             try clear c8b0
             try clear c8b1
             try clear c9
             try clear c9b0
             try clear c9b1
             try clear c10
             try clear c10b0
             try clear c10b1
             try clear c11
             try clear c11b0
             try clear c11b1
             try clear c12
             try clear c12b0
             try clear c12b1
             try clear p13
             try clear q13
             try clear hx13
             try clear qi13
             try clear c14
             try clear c14b0
             try clear c14b1
             try clear c15
             try clear c15b0
             try clear c15b1
             try clear c16
             try clear p16
             try clear q16
             try clear hx16
             try clear qi16
             try clear c17
             try clear c22
             try clear c22b0
             try clear c24
             try clear c24b0
             try clear p25
             try clear q25
             try clear hx25
             try clear c26
             try clear c26b0
             try clear p27
             try clear q27
             try clear hx27
             try clear c28
             try clear c28b0
             try clear c30
             try clear c30b0
             try clear c31
             try clear c31b0
             try clear c32
             try clear c32b0
             try clear c33
             try clear c33b0
             try clear c34
             try clear c34b0
             try clear c35
             try clear c35b0
             try clear c35b1
             try clear p36
             try clear q36
             try clear hx36
             try clear qi36
             try clear c37
             try clear c40
             try clear c40b0
             try clear c40b1
             try clear c42
             try clear c42b0
             try clear c43
             try clear c43b0
             try clear p44
             try clear q44
             try clear hx44
             try clear c45
             try clear c45b0
             try clear c45b1
             try clear c47
             try clear c47b0
             try clear c48
             try clear c48b0
             try clear p49
             try clear q49
             try clear hx49
             try clear c50
             try clear c50b0
             try clear c50b1
             try clear c52
             try clear c52b0
             try clear c53
             try clear c53b0
             try clear p54
             try clear q54
             try clear hx54
             try clear c55
             try clear c55b0
             try clear c55b1
             try clear c57
             try clear c57b0
             try clear c57b1
             try clear c58
             try clear c58b0
             try clear c58b1
             try clear c59
             try clear c64
             try clear c64b0
             try clear p64
             try clear c65
             try clear c65b0
             try clear p1
             try clear p13
             try clear p16
             try clear p2
             try clear p25
             try clear p27
             try clear p3
             try clear p36
             try clear p4
             try clear p44
             try clear p49
             try clear p5
             try clear p54
             try clear p6
             try clear q1
             try clear q13
             try clear q16
             try clear q2
             try clear q25
             try clear q27
             try clear q3
             try clear q36
             try clear q4
             try clear q44
             try clear q49
             try clear q5
             try clear q54
             obtain ⟨kq, x155_62, rfl, HA, HJ62, HB⟩ := hcut
             cases kq with
             | zero => exact absurd HA.out (by simp [postriderref09_ParseDate.j5])
             | succ kj62 =>
              have H := HA.out
              clear HA
              simp only [postriderref09_ParseDate.j5] at H
              by_cases c66 : x155_62 = true
              ·subst c66
               have H1 : (some (0, 5)) = some (r1, r2) := by rw [if_pos rfl] at H; exact H
               clear H
               have H := H1
               clear H1
               simp only [Option.some.injEq, Prod.mk.injEq] at H
               obtain ⟨rfl, rfl⟩ := H
               go_wp2
               go_ret2
               exact ⟨by first | rfl | (simp [bneNil]; done) | (simp [errW_none, errW_some] <;> rfl) | (simp [*, errW_none, errW_some] <;> rfl), by repeat (first | (with_reducible first | exact HB.out | apply below_alloc | apply pw_below_drewN | apply below_drew1) | exact HB.out)⟩
              ·replace c66 := Bool.eq_false_iff.mpr c66
               subst c66
               have H1 : (if t173 < 1970 then (postriderref09_ParseDate.j6 kj62 t170 t171 t172 t173 t174 t175 t176 true) else (if t173 > 100000 then (postriderref09_ParseDate.j6 kj62 t170 t171 t172 t173 t174 t175 t176 true) else (if t171 < 1 then (postriderref09_ParseDate.j6 kj62 t170 t171 t172 t173 t174 t175 t176 true) else ((postriderref09_length.f t173 t172).bind fun t177 => (if t171 > t177 then (postriderref09_ParseDate.j6 kj62 t170 t171 t172 t173 t174 t175 t176 true) else (if t174 > 23 then (postriderref09_ParseDate.j6 kj62 t170 t171 t172 t173 t174 t175 t176 true) else (if t175 > 59 then (postriderref09_ParseDate.j6 kj62 t170 t171 t172 t173 t174 t175 t176 true) else (postriderref09_ParseDate.j6 kj62 t170 t171 t172 t173 t174 t175 t176 (decide (t176 > 59)))))))))) = some (r1, r2) := by rw [if_neg (show ¬ (false = true) by decide)] at H; exact H
               clear H
               have H := H1
               clear H1
               have HC67 := Aside0.mk H
               clear H
               go_upto_region 21 with (fail)
               go_cut [184] (fun v184 wc => ∃ (kq : Nat) (x184_66 : Bool), v184 = .bool x184_66 ∧ Aside0 (postriderref09_ParseDate.j6 kq t170 t171 t172 t173 t174 t175 t176 x184_66 = some (r1, r2)) ∧ Aside0 (kq ≤ kj62) ∧ Aside0 (Below w.heap.size w wc))
               case first => as_aux_lemma =>
                have H := HC67.out
                clear HC67
                by_cases c68 : t173 < 1970
                ·rw [if_pos c68] at H
                 have c68b0 : decide (t173 < 1970) = true := decide_eq_true c68
                 clear c68
                 (first | rw [c68b0] | (simp only [i64_w, i32_w]; rw [c68b0]) | skip)
                 have H' := Aside0.mk H
                 clear H
                 go_wp2
                 go_meet
                 case rel => exact ⟨_, (true), (by first | rfl | (simp; done) | (simp [*]; done)), (by first | exact H' | (rw [← hji41] at H'; exact H')), ⟨by have := HJ3.out; have := HJ19.out; have := HJ28.out; have := HJ38.out; have := HJ62.out; first | omega | exact Nat.le_refl _⟩, ⟨by repeat (first | (with_reducible first | exact HB.out | apply below_alloc | apply pw_below_drewN | apply below_drew1) | exact HB.out)⟩⟩
                ·rw [if_neg c68] at H
                 have c68b0 : decide (t173 < 1970) = false := decide_eq_false c68
                 clear c68
                 (first | rw [c68b0] | (simp only [i64_w, i32_w]; rw [c68b0]) | skip)
                 by_cases c69 : t173 > 100000
                 ·rw [if_pos c69] at H
                  have c69b0 : decide (100000 < t173) = true := decide_eq_true c69
                  clear c69
                  have H' := Aside0.mk H
                  clear H
                  go_wp2
                  go_meet
                  case rel => exact ⟨_, (true), (by first | rfl | (simp; done) | (simp [*]; done)), (by first | exact H' | (rw [← hji41] at H'; exact H')), ⟨by have := HJ3.out; have := HJ19.out; have := HJ28.out; have := HJ38.out; have := HJ62.out; first | omega | exact Nat.le_refl _⟩, ⟨by repeat (first | (with_reducible first | exact HB.out | apply below_alloc | apply pw_below_drewN | apply below_drew1) | exact HB.out)⟩⟩
                 ·rw [if_neg c69] at H
                  have c69b0 : decide (100000 < t173) = false := decide_eq_false c69
                  clear c69
                  by_cases c70 : t171 < 1
                  ·rw [if_pos c70] at H
                   have c70b0 : decide (t171 < 1) = true := decide_eq_true c70
                   clear c70
                   have H' := Aside0.mk H
                   clear H
                   go_wp2
                   go_meet
                   case rel => exact ⟨_, (true), (by first | rfl | (simp; done) | (simp [*]; done)), (by first | exact H' | (rw [← hji41] at H'; exact H')), ⟨by have := HJ3.out; have := HJ19.out; have := HJ28.out; have := HJ38.out; have := HJ62.out; first | omega | exact Nat.le_refl _⟩, ⟨by repeat (first | (with_reducible first | exact HB.out | apply below_alloc | apply pw_below_drewN | apply below_drew1) | exact HB.out)⟩⟩
                  ·rw [if_neg c70] at H
                   have c70b0 : decide (t171 < 1) = false := decide_eq_false c70
                   clear c70
                   replace H := Option.bind_eq_some_iff.mp H
                   obtain ⟨t177, A710, H⟩ := H
                   replace H : (if t171 > t177 then (postriderref09_ParseDate.j6 kj62 t170 t171 t172 t173 t174 t175 t176 true) else (if t174 > 23 then (postriderref09_ParseDate.j6 kj62 t170 t171 t172 t173 t174 t175 t176 true) else (if t175 > 59 then (postriderref09_ParseDate.j6 kj62 t170 t171 t172 t173 t174 t175 t176 true) else (postriderref09_ParseDate.j6 kj62 t170 t171 t172 t173 t174 t175 t176 (decide (t176 > 59)))))) = some (r1, r2) := H
                   have A71 := Aside0.mk A710
                   clear A710
                   by_cases c72 : t171 > t177
                   ·rw [if_pos c72] at H
                    have c72b0 : decide (t177 < t171) = true := decide_eq_true c72
                    clear c72
                    have H' := Aside0.mk H
                    clear H
                    go_wp2_with (first | (go_at_call 17; (with_reducible refine (postriderref09_length.calls t173 t172 t177 _ A71.out).mono ?_); rintro e w' ⟨rfl, ⟨nd, rfl⟩⟩))
                    go_meet
                    case rel => exact ⟨_, (true), (by first | rfl | (simp; done) | (simp [*]; done)), (by first | exact H' | (rw [← hji41] at H'; exact H')), ⟨by have := HJ3.out; have := HJ19.out; have := HJ28.out; have := HJ38.out; have := HJ62.out; first | omega | exact Nat.le_refl _⟩, ⟨by repeat (first | (with_reducible first | exact HB.out | apply below_alloc | apply pw_below_drewN | apply below_drew1) | exact HB.out)⟩⟩
                   ·rw [if_neg c72] at H
                    have c72b0 : decide (t177 < t171) = false := decide_eq_false c72
                    clear c72
                    by_cases c73 : t174 > 23
                    ·rw [if_pos c73] at H
                     have c73b0 : decide (23 < t174) = true := decide_eq_true c73
                     clear c73
                     have H' := Aside0.mk H
                     clear H
                     go_wp2_with (first | (go_at_call 17; (with_reducible refine (postriderref09_length.calls t173 t172 t177 _ A71.out).mono ?_); rintro e w' ⟨rfl, ⟨nd, rfl⟩⟩))
                     go_meet
                     case rel => exact ⟨_, (true), (by first | rfl | (simp; done) | (simp [*]; done)), (by first | exact H' | (rw [← hji41] at H'; exact H')), ⟨by have := HJ3.out; have := HJ19.out; have := HJ28.out; have := HJ38.out; have := HJ62.out; first | omega | exact Nat.le_refl _⟩, ⟨by repeat (first | (with_reducible first | exact HB.out | apply below_alloc | apply pw_below_drewN | apply below_drew1) | exact HB.out)⟩⟩
                    ·rw [if_neg c73] at H
                     have c73b0 : decide (23 < t174) = false := decide_eq_false c73
                     clear c73
                     by_cases c74 : t175 > 59
                     ·rw [if_pos c74] at H
                      have c74b0 : decide (59 < t175) = true := decide_eq_true c74
                      clear c74
                      have H' := Aside0.mk H
                      clear H
                      go_wp2_with (first | (go_at_call 17; (with_reducible refine (postriderref09_length.calls t173 t172 t177 _ A71.out).mono ?_); rintro e w' ⟨rfl, ⟨nd, rfl⟩⟩))
                      go_meet
                      case rel => exact ⟨_, (true), (by first | rfl | (simp; done) | (simp [*]; done)), (by first | exact H' | (rw [← hji41] at H'; exact H')), ⟨by have := HJ3.out; have := HJ19.out; have := HJ28.out; have := HJ38.out; have := HJ62.out; first | omega | exact Nat.le_refl _⟩, ⟨by repeat (first | (with_reducible first | exact HB.out | apply below_alloc | apply pw_below_drewN | apply below_drew1) | exact HB.out)⟩⟩
                     ·rw [if_neg c74] at H
                      have c74b0 : decide (59 < t175) = false := decide_eq_false c74
                      clear c74
                      have H' := Aside0.mk H
                      clear H
                      go_wp2_with (first | (go_at_call 17; (with_reducible refine (postriderref09_length.calls t173 t172 t177 _ A71.out).mono ?_); rintro e w' ⟨rfl, ⟨nd, rfl⟩⟩))
                      go_meet
                      case rel => exact ⟨_, (decide (t176 > 59)), (by first | rfl | (simp; done) | (simp [*]; done)), (by first | exact H' | (rw [← hji41] at H'; exact H')), ⟨by have := HJ3.out; have := HJ19.out; have := HJ28.out; have := HJ38.out; have := HJ62.out; first | omega | exact Nat.le_refl _⟩, ⟨by repeat (first | (with_reducible first | exact HB.out | apply below_alloc | apply pw_below_drewN | apply below_drew1) | exact HB.out)⟩⟩
               case rest => as_aux_lemma =>
                clear HC67
                try clear c1
                try clear p1
                try clear q1
                try clear hx1
                try clear qi1
                try clear c2
                try clear p2
                try clear q2
                try clear hx2
                try clear c3
                try clear p3
                try clear q3
                try clear hx3
                try clear qi3
                try clear c4
                try clear p4
                try clear q4
                try clear hx4
                try clear c5
                try clear p5
                try clear q5
                try clear hx5
                try clear c6
                try clear p6
                try clear c7
                try clear c7b0
                try clear c8
                try clear c8b0
                try clear c8b1
                try clear c9
                try clear c9b0
                try clear c9b1
                try clear c10
                try clear c10b0
                try clear c10b1
                try clear c11
                try clear c11b0
                try clear c11b1
                try clear c12
                try clear c12b0
                try clear c12b1
                try clear p13
                try clear q13
                try clear hx13
                try clear qi13
                try clear c14
                try clear c14b0
                try clear c14b1
                try clear c15
                try clear c15b0
                try clear c15b1
                try clear c16
                try clear p16
                try clear q16
                try clear hx16
                try clear qi16
                try clear c17
                try clear c22
                try clear c22b0
                try clear c24
                try clear c24b0
                try clear p25
                try clear q25
                try clear hx25
                try clear c26
                try clear c26b0
                try clear p27
                try clear q27
                try clear hx27
                try clear c28
                try clear c28b0
                try clear c30
                try clear c30b0
                try clear c31
                try clear c31b0
                try clear c32
                try clear c32b0
                try clear c33
                try clear c33b0
                try clear c34
                try clear c34b0
                try clear c35
                try clear c35b0
                try clear c35b1
                try clear p36
                try clear q36
                try clear hx36
                try clear qi36
                try clear c37
                try clear c40
                try clear c40b0
                try clear c40b1
                try clear c42
                try clear c42b0
                try clear c43
                try clear c43b0
                try clear p44
                try clear q44
                try clear hx44
                try clear c45
                try clear c45b0
                try clear c45b1
                try clear c47
                try clear c47b0
                try clear c48
                try clear c48b0
                try clear p49
                try clear q49
                try clear hx49
                try clear c50
                try clear c50b0
                try clear c50b1
                try clear c52
                try clear c52b0
                try clear c53
                try clear c53b0
                try clear p54
                try clear q54
                try clear hx54
                try clear c55
                try clear c55b0
                try clear c55b1
                try clear c57
                try clear c57b0
                try clear c57b1
                try clear c58
                try clear c58b0
                try clear c58b1
                try clear c59
                try clear c64
                try clear c64b0
                try clear p64
                try clear c65
                try clear c65b0
                try clear c66
                try clear c68
                try clear c68b0
                try clear c69
                try clear c69b0
                try clear c70
                try clear c70b0
                try clear c72
                try clear c72b0
                try clear c73
                try clear c73b0
                try clear c74
                try clear c74b0
                try clear p1
                try clear p13
                try clear p16
                try clear p2
                try clear p25
                try clear p27
                try clear p3
                try clear p36
                try clear p4
                try clear p44
                try clear p49
                try clear p5
                try clear p54
                try clear p6
                try clear p64
                try clear q1
                try clear q13
                try clear q16
                try clear q2
                try clear q25
                try clear q27
                try clear q3
                try clear q36
                try clear q4
                try clear q44
                try clear q49
                try clear q5
                try clear q54
                obtain ⟨kq, x184_66, rfl, HA, HJ66, HB⟩ := hcut
                cases kq with
                | zero => exact absurd HA.out (by simp [postriderref09_ParseDate.j6])
                | succ kj66 =>
                 have H := HA.out
                 clear HA
                 simp only [postriderref09_ParseDate.j6] at H
                 by_cases c75 : x184_66 = true
                 ·subst c75
                  have H1 : (some (0, 24)) = some (r1, r2) := by rw [if_pos rfl] at H; exact H
                  clear H
                  have H := H1
                  clear H1
                  simp only [Option.some.injEq, Prod.mk.injEq] at H
                  obtain ⟨rfl, rfl⟩ := H
                  go_wp2
                  go_ret2
                  exact ⟨by first | rfl | (simp [bneNil]; done) | (simp [errW_none, errW_some] <;> rfl) | (simp [*, errW_none, errW_some] <;> rfl), by repeat (first | (with_reducible first | exact HB.out | apply below_alloc | apply pw_below_drewN | apply below_drew1) | exact HB.out)⟩
                 ·replace c75 := Bool.eq_false_iff.mpr c75
                  subst c75
                  have H1 : (postriderref09_ParseDate.l1 kj66 t170 t172 t173 t174 t175 t176 (wrap64 (t171 - 1)) 0) = some (r1, r2) := by rw [if_neg (show ¬ (false = true) by decide)] at H; exact H
                  clear H
                  have H := H1
                  clear H1
                  have H' := Aside0.mk H
                  clear H
                  go_wp2
                  go_loopg [15, 16] kj66 (fun kq v15 v16 w' => ∃ (x15_7 : Int) (x16_7 : Int), v15 = .int .i64 x15_7 ∧ v16 = .int .i64 x16_7 ∧ Aside0 (postriderref09_ParseDate.l1 kq t170 t172 t173 t174 t175 t176 x15_7 x16_7 = some (r1, r2)) ∧ Aside0 (kq ≤ kj66) ∧ Aside0 (Below w.heap.size w w'))
                  case atStart => exact ⟨(wrap64 (t171 - 1)), (0), (by first | rfl | (simp; done) | (simp [*]; done)), (by first | rfl | (simp; done) | (simp [*]; done)), H', ⟨Nat.le_refl _⟩, ⟨by repeat (first | (with_reducible first | exact HB.out | apply below_alloc | apply pw_below_drewN | apply below_drew1) | exact HB.out)⟩⟩
                  case round => as_aux_lemma =>
                   clear H'
                   try clear c1
                   try clear p1
                   try clear q1
                   try clear hx1
                   try clear qi1
                   try clear c2
                   try clear p2
                   try clear q2
                   try clear hx2
                   try clear c3
                   try clear p3
                   try clear q3
                   try clear hx3
                   try clear qi3
                   try clear c4
                   try clear p4
                   try clear q4
                   try clear hx4
                   try clear c5
                   try clear p5
                   try clear q5
                   try clear hx5
                   try clear c6
                   try clear p6
                   try clear c7
                   try clear c7b0
                   try clear c8
                   try clear c8b0
                   try clear c8b1
                   try clear c9
                   try clear c9b0
                   try clear c9b1
                   try clear c10
                   try clear c10b0
                   try clear c10b1
                   try clear c11
                   try clear c11b0
                   try clear c11b1
                   try clear c12
                   try clear c12b0
                   try clear c12b1
                   try clear p13
                   try clear q13
                   try clear hx13
                   try clear qi13
                   try clear c14
                   try clear c14b0
                   try clear c14b1
                   try clear c15
                   try clear c15b0
                   try clear c15b1
                   try clear c16
                   try clear p16
                   try clear q16
                   try clear hx16
                   try clear qi16
                   try clear c17
                   try clear c22
                   try clear c22b0
                   try clear c24
                   try clear c24b0
                   try clear p25
                   try clear q25
                   try clear hx25
                   try clear c26
                   try clear c26b0
                   try clear p27
                   try clear q27
                   try clear hx27
                   try clear c28
                   try clear c28b0
                   try clear c30
                   try clear c30b0
                   try clear c31
                   try clear c31b0
                   try clear c32
                   try clear c32b0
                   try clear c33
                   try clear c33b0
                   try clear c34
                   try clear c34b0
                   try clear c35
                   try clear c35b0
                   try clear c35b1
                   try clear p36
                   try clear q36
                   try clear hx36
                   try clear qi36
                   try clear c37
                   try clear c40
                   try clear c40b0
                   try clear c40b1
                   try clear c42
                   try clear c42b0
                   try clear c43
                   try clear c43b0
                   try clear p44
                   try clear q44
                   try clear hx44
                   try clear c45
                   try clear c45b0
                   try clear c45b1
                   try clear c47
                   try clear c47b0
                   try clear c48
                   try clear c48b0
                   try clear p49
                   try clear q49
                   try clear hx49
                   try clear c50
                   try clear c50b0
                   try clear c50b1
                   try clear c52
                   try clear c52b0
                   try clear c53
                   try clear c53b0
                   try clear p54
                   try clear q54
                   try clear hx54
                   try clear c55
                   try clear c55b0
                   try clear c55b1
                   try clear c57
                   try clear c57b0
                   try clear c57b1
                   try clear c58
                   try clear c58b0
                   try clear c58b1
                   try clear c59
                   try clear c64
                   try clear c64b0
                   try clear p64
                   try clear c65
                   try clear c65b0
                   try clear c66
                   try clear c68
                   try clear c68b0
                   try clear c69
                   try clear c69b0
                   try clear c70
                   try clear c70b0
                   try clear c72
                   try clear c72b0
                   try clear c73
                   try clear c73b0
                   try clear c74
                   try clear c74b0
                   try clear c75
                   try clear p1
                   try clear p13
                   try clear p16
                   try clear p2
                   try clear p25
                   try clear p27
                   try clear p3
                   try clear p36
                   try clear p4
                   try clear p44
                   try clear p49
                   try clear p5
                   try clear p54
                   try clear p6
                   try clear p64
                   try clear q1
                   try clear q13
                   try clear q16
                   try clear q2
                   try clear q25
                   try clear q27
                   try clear q3
                   try clear q36
                   try clear q4
                   try clear q44
                   try clear q49
                   try clear q5
                   try clear q54
                   obtain ⟨x15_7, x16_7, rfl, rfl, HA, HK7, HB⟩ := hrel
                   cases gk with
                   | zero => exact absurd HA.out (by simp [postriderref09_ParseDate.l1])
                   | succ k7 =>
                    have H := HA.out
                    clear HA
                    simp only [postriderref09_ParseDate.l1] at H
                    by_cases c76 : x16_7 < t172
                    ·rw [if_pos c76] at H
                     have c76b0 : decide (x16_7 < t172) = true := decide_eq_true c76
                     clear c76
                     replace H := Option.bind_eq_some_iff.mp H
                     obtain ⟨t178, A770, H⟩ := H
                     replace H : (postriderref09_ParseDate.l1 k7 t170 t172 t173 t174 t175 t176 (wrap64 (x15_7 + t178)) (wrap64 (x16_7 + 1))) = some (r1, r2) := H
                     have A77 := Aside0.mk A770
                     clear A770
                     have H' := Aside0.mk H
                     clear H
                     go_wp2_with (first | ((with_reducible refine gate_callee (f := 17) rfl ?_); refine goesL_ (some 195) rfl rfl Tryz.func17 (by kernel_rfl) rfl #[.int .i64 t173, .int .i64 x16_7] rfl ml ?_; (with_reducible refine (postriderref09_length.calls t173 x16_7 t178 _ A77.out).mono ?_); rintro e w' ⟨rfl, ⟨nd, rfl⟩⟩; refine ⟨_, rfl, ?_⟩))
                     go_roundg k7
                     case measure => have := HJ3.out; have := HJ19.out; have := HJ28.out; have := HJ38.out; have := HJ62.out; have := HJ66.out; have := HK7.out; omega
                     case rel => exact ⟨(wrap64 (x15_7 + t178)), (wrap64 (x16_7 + 1)), (by first | rfl | (simp; done) | (simp [*]; done)), (by first | rfl | (simp; done) | (simp [*]; done)), (by first | exact H' | (rw [← hji41] at H'; exact H')), ⟨by have := HJ3.out; have := HJ19.out; have := HJ28.out; have := HJ38.out; have := HJ62.out; have := HJ66.out; have := HK7.out; omega⟩, ⟨by repeat (first | (with_reducible first | exact HB.out | apply below_alloc | apply pw_below_drewN | apply below_drew1) | exact HB.out)⟩⟩
                    ·rw [if_neg c76] at H
                     have c76b0 : decide (x16_7 < t172) = false := decide_eq_false c76
                     clear c76
                     have H' := Aside0.mk H
                     clear H
                     go_wp2
                     go_loopg [15, 17] k7 (fun kq v15 v17 w' => ∃ (x15_8 : Int) (x17_8 : Int), v15 = .int .i64 x15_8 ∧ v17 = .int .i64 x17_8 ∧ Aside0 (postriderref09_ParseDate.l2 kq t170 t173 t174 t175 t176 x15_8 x17_8 = some (r1, r2)) ∧ Aside0 (kq ≤ k7) ∧ Aside0 (Below w.heap.size w w'))
                     case atStart => exact ⟨(wrap64 (x15_7 + (wrap64 (146097 * (wrap64 (Int.tdiv (wrap64 (t173 - 1970)) 400)))))), (wrap64 (t173 - (Int.tmod (wrap64 (t173 - 1970)) 400))), (by first | rfl | (simp; done) | (simp [*]; done)), (by first | rfl | (simp; done) | (simp [*]; done)), H', ⟨Nat.le_refl _⟩, ⟨by repeat (first | (with_reducible first | exact HB.out | apply below_alloc | apply pw_below_drewN | apply below_drew1) | exact HB.out)⟩⟩
                     case round => as_aux_lemma =>
                      clear H'
                      try clear c1
                      try clear p1
                      try clear q1
                      try clear hx1
                      try clear qi1
                      try clear c2
                      try clear p2
                      try clear q2
                      try clear hx2
                      try clear c3
                      try clear p3
                      try clear q3
                      try clear hx3
                      try clear qi3
                      try clear c4
                      try clear p4
                      try clear q4
                      try clear hx4
                      try clear c5
                      try clear p5
                      try clear q5
                      try clear hx5
                      try clear c6
                      try clear p6
                      try clear c7
                      try clear c7b0
                      try clear c8
                      try clear c8b0
                      try clear c8b1
                      try clear c9
                      try clear c9b0
                      try clear c9b1
                      try clear c10
                      try clear c10b0
                      try clear c10b1
                      try clear c11
                      try clear c11b0
                      try clear c11b1
                      try clear c12
                      try clear c12b0
                      try clear c12b1
                      try clear p13
                      try clear q13
                      try clear hx13
                      try clear qi13
                      try clear c14
                      try clear c14b0
                      try clear c14b1
                      try clear c15
                      try clear c15b0
                      try clear c15b1
                      try clear c16
                      try clear p16
                      try clear q16
                      try clear hx16
                      try clear qi16
                      try clear c17
                      try clear c22
                      try clear c22b0
                      try clear c24
                      try clear c24b0
                      try clear p25
                      try clear q25
                      try clear hx25
                      try clear c26
                      try clear c26b0
                      try clear p27
                      try clear q27
                      try clear hx27
                      try clear c28
                      try clear c28b0
                      try clear c30
                      try clear c30b0
                      try clear c31
                      try clear c31b0
                      try clear c32
                      try clear c32b0
                      try clear c33
                      try clear c33b0
                      try clear c34
                      try clear c34b0
                      try clear c35
                      try clear c35b0
                      try clear c35b1
                      try clear p36
                      try clear q36
                      try clear hx36
                      try clear qi36
                      try clear c37
                      try clear c40
                      try clear c40b0
                      try clear c40b1
                      try clear c42
                      try clear c42b0
                      try clear c43
                      try clear c43b0
                      try clear p44
                      try clear q44
                      try clear hx44
                      try clear c45
                      try clear c45b0
                      try clear c45b1
                      try clear c47
                      try clear c47b0
                      try clear c48
                      try clear c48b0
                      try clear p49
                      try clear q49
                      try clear hx49
                      try clear c50
                      try clear c50b0
                      try clear c50b1
                      try clear c52
                      try clear c52b0
                      try clear c53
                      try clear c53b0
                      try clear p54
                      try clear q54
                      try clear hx54
                      try clear c55
                      try clear c55b0
                      try clear c55b1
                      try clear c57
                      try clear c57b0
                      try clear c57b1
                      try clear c58
                      try clear c58b0
                      try clear c58b1
                      try clear c59
                      try clear c64
                      try clear c64b0
                      try clear p64
                      try clear c65
                      try clear c65b0
                      try clear c66
                      try clear c68
                      try clear c68b0
                      try clear c69
                      try clear c69b0
                      try clear c70
                      try clear c70b0
                      try clear c72
                      try clear c72b0
                      try clear c73
                      try clear c73b0
                      try clear c74
                      try clear c74b0
                      try clear c75
                      try clear c76
                      try clear c76b0
                      try clear p1
                      try clear p13
                      try clear p16
                      try clear p2
                      try clear p25
                      try clear p27
                      try clear p3
                      try clear p36
                      try clear p4
                      try clear p44
                      try clear p49
                      try clear p5
                      try clear p54
                      try clear p6
                      try clear p64
                      try clear q1
                      try clear q13
                      try clear q16
                      try clear q2
                      try clear q25
                      try clear q27
                      try clear q3
                      try clear q36
                      try clear q4
                      try clear q44
                      try clear q49
                      try clear q5
                      try clear q54
                      obtain ⟨x15_8, x17_8, rfl, rfl, HA, HK8, HB⟩ := hrel
                      cases gk with
                      | zero => exact absurd HA.out (by simp [postriderref09_ParseDate.l2])
                      | succ k8 =>
                       have H := HA.out
                       clear HA
                       simp only [postriderref09_ParseDate.l2] at H
                       by_cases c78 : x17_8 < t173
                       ·rw [if_pos c78] at H
                        have c78b0 : decide (x17_8 < t173) = true := decide_eq_true c78
                        clear c78
                        replace H := Option.bind_eq_some_iff.mp H
                        obtain ⟨t179, A790, H⟩ := H
                        replace H : (postriderref09_ParseDate.l2 k8 t170 t173 t174 t175 t176 (wrap64 (x15_8 + t179)) (wrap64 (x17_8 + 1))) = some (r1, r2) := H
                        have A79 := Aside0.mk A790
                        clear A790
                        have H' := Aside0.mk H
                        clear H
                        go_wp2_with (first | ((with_reducible refine gate_callee (f := 18) rfl ?_); refine goesL_ (some 215) rfl rfl Tryz.func18 (by kernel_rfl) rfl #[.int .i64 x17_8] rfl ml ?_; (with_reducible refine (postriderref09_days.calls x17_8 t179 _ A79.out).mono ?_); rintro e w' ⟨rfl, ⟨nd, rfl⟩⟩; refine ⟨_, rfl, ?_⟩))
                        go_roundg k8
                        case measure => have := HJ3.out; have := HJ19.out; have := HJ28.out; have := HJ38.out; have := HJ62.out; have := HJ66.out; have := HK7.out; have := HK8.out; omega
                        case rel => exact ⟨(wrap64 (x15_8 + t179)), (wrap64 (x17_8 + 1)), (by first | rfl | (simp; done) | (simp [*]; done)), (by first | rfl | (simp; done) | (simp [*]; done)), (by first | exact H' | (rw [← hji41] at H'; exact H')), ⟨by have := HJ3.out; have := HJ19.out; have := HJ28.out; have := HJ38.out; have := HJ62.out; have := HJ66.out; have := HK7.out; have := HK8.out; omega⟩, ⟨by repeat (first | (with_reducible first | exact HB.out | apply below_alloc | apply pw_below_drewN | apply below_drew1) | exact HB.out)⟩⟩
                       ·rw [if_neg c78] at H
                        have c78b0 : decide (x17_8 < t173) = false := decide_eq_false c78
                        clear c78
                        by_cases c80 : (wrap64 ((wrap64 ((wrap64 ((wrap64 (86400 * x15_8)) + (wrap64 (3600 * t174)))) + (wrap64 (60 * t175)))) + t176)) > 1099511627776
                        ·rw [if_pos c80] at H
                         have c80b0 : decide (1099511627776 < (wrap64 ((wrap64 ((wrap64 ((wrap64 (86400 * x15_8)) + (wrap64 (3600 * t174)))) + (wrap64 (60 * t175)))) + t176))) = true := decide_eq_true c80
                         clear c80
                         simp only [Option.some.injEq, Prod.mk.injEq] at H
                         obtain ⟨rfl, rfl⟩ := H
                         go_wp2
                         go_ret2
                         exact ⟨by first | rfl | (simp [bneNil]; done) | (simp [errW_none, errW_some] <;> rfl) | (simp [*, errW_none, errW_some] <;> rfl), by repeat (first | (with_reducible first | exact HB.out | apply below_alloc | apply pw_below_drewN | apply below_drew1) | exact HB.out)⟩
                        ·rw [if_neg c80] at H
                         have c80b0 : decide (1099511627776 < (wrap64 ((wrap64 ((wrap64 ((wrap64 (86400 * x15_8)) + (wrap64 (3600 * t174)))) + (wrap64 (60 * t175)))) + t176))) = false := decide_eq_false c80
                         clear c80
                         by_cases c81 : (Int.tmod (wrap64 (x15_8 + 4)) 7) = t170
                         ·rw [if_pos c81] at H
                          have c81b0 : ((Int.tmod (wrap64 (x15_8 + 4)) 7) == t170) = true := beq_iff_eq.mpr c81
                          have c81b1 : ((Int.tmod (wrap64 (x15_8 + 4)) 7) != t170) = false := bne_eq_false_iff_eq.mpr c81
                          clear c81
                          simp only [Option.some.injEq, Prod.mk.injEq] at H
                          obtain ⟨rfl, rfl⟩ := H
                          go_wp2
                          go_ret2
                          exact ⟨by first | rfl | (simp [bneNil]; done) | (simp [errW_none, errW_some] <;> rfl) | (simp [*, errW_none, errW_some] <;> rfl), by repeat (first | (with_reducible first | exact HB.out | apply below_alloc | apply pw_below_drewN | apply below_drew1) | exact HB.out)⟩
                         ·rw [if_neg c81] at H
                          have c81b0 : ((Int.tmod (wrap64 (x15_8 + 4)) 7) == t170) = false := beq_eq_false_iff_ne.mpr c81
                          have c81b1 : ((Int.tmod (wrap64 (x15_8 + 4)) 7) != t170) = true := bne_iff_ne.mpr c81
                          simp only [Option.some.injEq, Prod.mk.injEq] at H
                          obtain ⟨rfl, rfl⟩ := H
                          go_wp2
                          go_ret2
                          exact ⟨by first | rfl | (simp [bneNil]; done) | (simp [errW_none, errW_some] <;> rfl) | (simp [*, errW_none, errW_some] <;> rfl), by repeat (first | (with_reducible first | exact HB.out | apply below_alloc | apply pw_below_drewN | apply below_drew1) | exact HB.out)⟩

end Go.Proofs.YtoigafnaoaafeaaGreatDoor.Q
end
section
namespace Go.Proofs.YtoigafnaoaafeaaGreatDoor.Q
open Go.RowKit Go.Proofs.YtoigafnaoaafeaaGreatDoorW.PrintWords Go.Proofs.YtoigafnaoaafeaaGreatDoorW.PrintLast Go.Proofs.YtoigafnaoaafeaaGreatDoorW.PrintMore
attribute [local go_sem] max2_int min2_int max_two min_two max_three min_three max_four min_four   -- for this text's walks alone
set_option linter.unusedVariables false
set_option linter.unusedSimpArgs false

/-! ### stamp_Text: function 19 -/
def stamp_Text.f (a0 : Int) : Option (ByteArray) := if 0 ≤ (((mx a0 0) % 1024) / 32) then (if (((mx a0 0) % 1024) / 32) ≤ ((((mx a0 0) % 1024) / 32) + 1) then (if ((((mx a0 0) % 1024) / 32) + 1) ≤ 32 then (if 0 ≤ (((mx a0 0) % 1024) % 32) then (if (((mx a0 0) % 1024) % 32) ≤ ((((mx a0 0) % 1024) % 32) + 1) then (if ((((mx a0 0) % 1024) % 32) + 1) ≤ 32 then (if ((⟨#[65, 66, 67, 68, 69, 70, 71, 72, 73, 74, 75, 76, 77, 78, 79, 80, 81, 82, 83, 84, 85, 86, 87, 88, 89, 90, 50, 51, 52, 53, 54, 55]⟩ : ByteArray).extract ((((mx a0 0) % 1024) / 32) : Int).toNat (((((mx a0 0) % 1024) / 32) + 1) : Int).toNat).size + ((⟨#[65, 66, 67, 68, 69, 70, 71, 72, 73, 74, 75, 76, 77, 78, 79, 80, 81, 82, 83, 84, 85, 86, 87, 88, 89, 90, 50, 51, 52, 53, 54, 55]⟩ : ByteArray).extract ((((mx a0 0) % 1024) % 32) : Int).toNat (((((mx a0 0) % 1024) % 32) + 1) : Int).toNat).size ≤ 9223372036854775807 then (some (((⟨#[65, 66, 67, 68, 69, 70, 71, 72, 73, 74, 75, 76, 77, 78, 79, 80, 81, 82, 83, 84, 85, 86, 87, 88, 89, 90, 50, 51, 52, 53, 54, 55]⟩ : ByteArray).extract ((((mx a0 0) % 1024) / 32) : Int).toNat (((((mx a0 0) % 1024) / 32) + 1) : Int).toNat) ++ ((⟨#[65, 66, 67, 68, 69, 70, 71, 72, 73, 74, 75, 76, 77, 78, 79, 80, 81, 82, 83, 84, 85, 86, 87, 88, 89, 90, 50, 51, 52, 53, 54, 55]⟩ : ByteArray).extract ((((mx a0 0) % 1024) % 32) : Int).toNat (((((mx a0 0) % 1024) % 32) + 1) : Int).toNat))) else (none)) else (none)) else (none)) else (none)) else (none)) else (none)) else (none)
set_option maxHeartbeats 8000000 in
set_option maxRecDepth 100000 in
theorem stamp_Text.calls (a0 : Int) (r : ByteArray) (w : World) (h : stamp_Text.f a0 = some r) :
    Calls Tryz.prog 19 #[.int .i64 a0] w fun e w' => e = .returned (.string r) ∧ Below w.heap.size w w' := by
  have HB := Aside0.mk (Below.refl w.heap.size w)
  have H : (if 0 ≤ (((mx a0 0) % 1024) / 32) then (if (((mx a0 0) % 1024) / 32) ≤ ((((mx a0 0) % 1024) / 32) + 1) then (if ((((mx a0 0) % 1024) / 32) + 1) ≤ 32 then (if 0 ≤ (((mx a0 0) % 1024) % 32) then (if (((mx a0 0) % 1024) % 32) ≤ ((((mx a0 0) % 1024) % 32) + 1) then (if ((((mx a0 0) % 1024) % 32) + 1) ≤ 32 then (if ((⟨#[65, 66, 67, 68, 69, 70, 71, 72, 73, 74, 75, 76, 77, 78, 79, 80, 81, 82, 83, 84, 85, 86, 87, 88, 89, 90, 50, 51, 52, 53, 54, 55]⟩ : ByteArray).extract ((((mx a0 0) % 1024) / 32) : Int).toNat (((((mx a0 0) % 1024) / 32) + 1) : Int).toNat).size + ((⟨#[65, 66, 67, 68, 69, 70, 71, 72, 73, 74, 75, 76, 77, 78, 79, 80, 81, 82, 83, 84, 85, 86, 87, 88, 89, 90, 50, 51, 52, 53, 54, 55]⟩ : ByteArray).extract ((((mx a0 0) % 1024) % 32) : Int).toNat (((((mx a0 0) % 1024) % 32) + 1) : Int).toNat).size ≤ 9223372036854775807 then (some (((⟨#[65, 66, 67, 68, 69, 70, 71, 72, 73, 74, 75, 76, 77, 78, 79, 80, 81, 82, 83, 84, 85, 86, 87, 88, 89, 90, 50, 51, 52, 53, 54, 55]⟩ : ByteArray).extract ((((mx a0 0) % 1024) / 32) : Int).toNat (((((mx a0 0) % 1024) / 32) + 1) : Int).toNat) ++ ((⟨#[65, 66, 67, 68, 69, 70, 71, 72, 73, 74, 75, 76, 77, 78, 79, 80, 81, 82, 83, 84, 85, 86, 87, 88, 89, 90, 50, 51, 52, 53, 54, 55]⟩ : ByteArray).extract ((((mx a0 0) % 1024) % 32) : Int).toNat (((((mx a0 0) % 1024) % 32) + 1) : Int).toNat))) else (none)) else (none)) else (none)) else (none)) else (none)) else (none)) else (none)) = some r := h
  clear h
  obtain ⟨ji2, hji2⟩ : ∃ j_ : Int, (mx a0 0) = j_ := ⟨_, rfl⟩
  replace H : (if 0 ≤ (((ji2) % 1024) / 32) then (if (((ji2) % 1024) / 32) ≤ ((((ji2) % 1024) / 32) + 1) then (if ((((ji2) % 1024) / 32) + 1) ≤ 32 then (if 0 ≤ (((ji2) % 1024) % 32) then (if (((ji2) % 1024) % 32) ≤ ((((ji2) % 1024) % 32) + 1) then (if ((((ji2) % 1024) % 32) + 1) ≤ 32 then (if ((⟨#[65, 66, 67, 68, 69, 70, 71, 72, 73, 74, 75, 76, 77, 78, 79, 80, 81, 82, 83, 84, 85, 86, 87, 88, 89, 90, 50, 51, 52, 53, 54, 55]⟩ : ByteArray).extract ((((ji2) % 1024) / 32) : Int).toNat (((((ji2) % 1024) / 32) + 1) : Int).toNat).size + ((⟨#[65, 66, 67, 68, 69, 70, 71, 72, 73, 74, 75, 76, 77, 78, 79, 80, 81, 82, 83, 84, 85, 86, 87, 88, 89, 90, 50, 51, 52, 53, 54, 55]⟩ : ByteArray).extract ((((ji2) % 1024) % 32) : Int).toNat (((((ji2) % 1024) % 32) + 1) : Int).toNat).size ≤ 9223372036854775807 then (some (((⟨#[65, 66, 67, 68, 69, 70, 71, 72, 73, 74, 75, 76, 77, 78, 79, 80, 81, 82, 83, 84, 85, 86, 87, 88, 89, 90, 50, 51, 52, 53, 54, 55]⟩ : ByteArray).extract ((((ji2) % 1024) / 32) : Int).toNat (((((ji2) % 1024) / 32) + 1) : Int).toNat) ++ ((⟨#[65, 66, 67, 68, 69, 70, 71, 72, 73, 74, 75, 76, 77, 78, 79, 80, 81, 82, 83, 84, 85, 86, 87, 88, 89, 90, 50, 51, 52, 53, 54, 55]⟩ : ByteArray).extract ((((ji2) % 1024) % 32) : Int).toNat (((((ji2) % 1024) % 32) + 1) : Int).toNat))) else (none)) else (none)) else (none)) else (none)) else (none)) else (none)) else (none)) = some r := by first | (rw [hji2] at H; exact H) | (simp only [hji2] at H ⊢; exact H)
  (try (have hji2l : 0 ≤ ji2 := by (rw [← hji2]; unfold mx; (repeat' split) <;> omega)))
  (try (have hji2m : 0 ≤ ji2 := by omega))
  have hji2_ : (if a0 < 0 then 0 else a0) = ji2 := hji2
  obtain ⟨ji3, hji3⟩ : ∃ j_ : Int, (((ji2) % 1024) / 32) = j_ := ⟨_, rfl⟩
  replace H : (if 0 ≤ (ji3) then (if (ji3) ≤ ((ji3) + 1) then (if ((ji3) + 1) ≤ 32 then (if 0 ≤ (((ji2) % 1024) % 32) then (if (((ji2) % 1024) % 32) ≤ ((((ji2) % 1024) % 32) + 1) then (if ((((ji2) % 1024) % 32) + 1) ≤ 32 then (if ((⟨#[65, 66, 67, 68, 69, 70, 71, 72, 73, 74, 75, 76, 77, 78, 79, 80, 81, 82, 83, 84, 85, 86, 87, 88, 89, 90, 50, 51, 52, 53, 54, 55]⟩ : ByteArray).extract ((ji3) : Int).toNat (((ji3) + 1) : Int).toNat).size + ((⟨#[65, 66, 67, 68, 69, 70, 71, 72, 73, 74, 75, 76, 77, 78, 79, 80, 81, 82, 83, 84, 85, 86, 87, 88, 89, 90, 50, 51, 52, 53, 54, 55]⟩ : ByteArray).extract ((((ji2) % 1024) % 32) : Int).toNat (((((ji2) % 1024) % 32) + 1) : Int).toNat).size ≤ 9223372036854775807 then (some (((⟨#[65, 66, 67, 68, 69, 70, 71, 72, 73, 74, 75, 76, 77, 78, 79, 80, 81, 82, 83, 84, 85, 86, 87, 88, 89, 90, 50, 51, 52, 53, 54, 55]⟩ : ByteArray).extract ((ji3) : Int).toNat (((ji3) + 1) : Int).toNat) ++ ((⟨#[65, 66, 67, 68, 69, 70, 71, 72, 73, 74, 75, 76, 77, 78, 79, 80, 81, 82, 83, 84, 85, 86, 87, 88, 89, 90, 50, 51, 52, 53, 54, 55]⟩ : ByteArray).extract ((((ji2) % 1024) % 32) : Int).toNat (((((ji2) % 1024) % 32) + 1) : Int).toNat))) else (none)) else (none)) else (none)) else (none)) else (none)) else (none)) else (none)) = some r := by first | (rw [hji3] at H; exact H) | (simp only [hji3] at H ⊢; exact H)
  by_cases c4 : 0 ≤ (ji3)
  · rw [if_pos c4] at H
    have c4b0 := eq_true c4
    have c4b1 : decide (0 ≤ (ji3)) = true := decide_eq_true c4
    clear c4
    by_cases c5 : (ji3) ≤ ((ji3) + 1)
    · rw [if_pos c5] at H
      have c5b0 := eq_true c5
      have c5b1 : decide ((ji3) ≤ ((ji3) + 1)) = true := decide_eq_true c5
      by_cases c6 : ((ji3) + 1) ≤ 32
      · rw [if_pos c6] at H
        have c6b0 := eq_true c6
        have c6b1 : decide (((ji3) + 1) ≤ 32) = true := decide_eq_true c6
        obtain ⟨ji7, hji7⟩ : ∃ j_ : Int, (((ji2) % 1024) % 32) = j_ := ⟨_, rfl⟩
        replace H : (if 0 ≤ (ji7) then (if (ji7) ≤ ((ji7) + 1) then (if ((ji7) + 1) ≤ 32 then (if ((⟨#[65, 66, 67, 68, 69, 70, 71, 72, 73, 74, 75, 76, 77, 78, 79, 80, 81, 82, 83, 84, 85, 86, 87, 88, 89, 90, 50, 51, 52, 53, 54, 55]⟩ : ByteArray).extract ((ji3) : Int).toNat (((ji3) + 1) : Int).toNat).size + ((⟨#[65, 66, 67, 68, 69, 70, 71, 72, 73, 74, 75, 76, 77, 78, 79, 80, 81, 82, 83, 84, 85, 86, 87, 88, 89, 90, 50, 51, 52, 53, 54, 55]⟩ : ByteArray).extract ((ji7) : Int).toNat (((ji7) + 1) : Int).toNat).size ≤ 9223372036854775807 then (some (((⟨#[65, 66, 67, 68, 69, 70, 71, 72, 73, 74, 75, 76, 77, 78, 79, 80, 81, 82, 83, 84, 85, 86, 87, 88, 89, 90, 50, 51, 52, 53, 54, 55]⟩ : ByteArray).extract ((ji3) : Int).toNat (((ji3) + 1) : Int).toNat) ++ ((⟨#[65, 66, 67, 68, 69, 70, 71, 72, 73, 74, 75, 76, 77, 78, 79, 80, 81, 82, 83, 84, 85, 86, 87, 88, 89, 90, 50, 51, 52, 53, 54, 55]⟩ : ByteArray).extract ((ji7) : Int).toNat (((ji7) + 1) : Int).toNat))) else (none)) else (none)) else (none)) else (none)) = some r := by first | (rw [hji7] at H; exact H) | (simp only [hji7] at H ⊢; exact H)
        by_cases c8 : 0 ≤ (ji7)
        · rw [if_pos c8] at H
          have c8b0 := eq_true c8
          have c8b1 : decide (0 ≤ (ji7)) = true := decide_eq_true c8
          clear c8
          by_cases c9 : (ji7) ≤ ((ji7) + 1)
          · rw [if_pos c9] at H
            have c9b0 := eq_true c9
            have c9b1 : decide ((ji7) ≤ ((ji7) + 1)) = true := decide_eq_true c9
            by_cases c10 : ((ji7) + 1) ≤ 32
            · rw [if_pos c10] at H
              have c10b0 := eq_true c10
              have c10b1 : decide (((ji7) + 1) ≤ 32) = true := decide_eq_true c10
              by_cases c11 : ((⟨#[65, 66, 67, 68, 69, 70, 71, 72, 73, 74, 75, 76, 77, 78, 79, 80, 81, 82, 83, 84, 85, 86, 87, 88, 89, 90, 50, 51, 52, 53, 54, 55]⟩ : ByteArray).extract ((ji3) : Int).toNat (((ji3) + 1) : Int).toNat).size + ((⟨#[65, 66, 67, 68, 69, 70, 71, 72, 73, 74, 75, 76, 77, 78, 79, 80, 81, 82, 83, 84, 85, 86, 87, 88, 89, 90, 50, 51, 52, 53, 54, 55]⟩ : ByteArray).extract ((ji7) : Int).toNat (((ji7) + 1) : Int).toNat).size ≤ 9223372036854775807
              · rw [if_pos c11] at H
                have c11b0 := eq_true c11
                have c11b1 : decide (((⟨#[65, 66, 67, 68, 69, 70, 71, 72, 73, 74, 75, 76, 77, 78, 79, 80, 81, 82, 83, 84, 85, 86, 87, 88, 89, 90, 50, 51, 52, 53, 54, 55]⟩ : ByteArray).extract ((ji3) : Int).toNat (((ji3) + 1) : Int).toNat).size + ((⟨#[65, 66, 67, 68, 69, 70, 71, 72, 73, 74, 75, 76, 77, 78, 79, 80, 81, 82, 83, 84, 85, 86, 87, 88, 89, 90, 50, 51, 52, 53, 54, 55]⟩ : ByteArray).extract ((ji7) : Int).toNat (((ji7) + 1) : Int).toNat).size ≤ 9223372036854775807) = true := decide_eq_true c11
                try have c11b2 : (9223372036854775807 < ((⟨#[65, 66, 67, 68, 69, 70, 71, 72, 73, 74, 75, 76, 77, 78, 79, 80, 81, 82, 83, 84, 85, 86, 87, 88, 89, 90, 50, 51, 52, 53, 54, 55]⟩ : ByteArray).extract ((ji3) : Int).toNat (((ji3) + 1) : Int).toNat).size + ((⟨#[65, 66, 67, 68, 69, 70, 71, 72, 73, 74, 75, 76, 77, 78, 79, 80, 81, 82, 83, 84, 85, 86, 87, 88, 89, 90, 50, 51, 52, 53, 54, 55]⟩ : ByteArray).extract ((ji7) : Int).toNat (((ji7) + 1) : Int).toNat).size) = False := eq_false (Nat.not_lt.2 c11)
                obtain rfl := Option.some.inj H
                go_enter Tryz.func19, Tryz.ntmps19
                go_wp2
                repeat (go_quiet (fail); try go_wp2)
                go_ret
                exact ⟨by first | rfl | (simp [bneNil]; done) | (simp [errW_none, errW_some] <;> rfl) | (simp only [← hji2, ← hji3, ← hji7]; first | rfl | (simp [errW_none, errW_some] <;> rfl)) | (simp [*, errW_none, errW_some] <;> rfl), by repeat (first | (with_reducible first | exact HB.out | apply below_alloc | apply pw_below_drewN | apply below_drew1) | exact HB.out)⟩
              · rw [if_neg c11] at H
                exact absurd H (by simp)
            · rw [if_neg c10] at H
              exact absurd H (by simp)
          · rw [if_neg c9] at H
            exact absurd H (by simp)
        · rw [if_neg c8] at H
          exact absurd H (by simp)
      · rw [if_neg c6] at H
        exact absurd H (by simp)
    · rw [if_neg c5] at H
      exact absurd H (by simp)
  · rw [if_neg c4] at H
    exact absurd H (by simp)

/-! ### stamp_Age: function 20 -/
def stamp_Age.f (a0 : Int) (a1 : Int) : Option (Int) := some (((((mx a1 0) % 1024) - ((mx a0 0) % 1024)) + 1024) % 1024)
set_option maxHeartbeats 8000000 in
set_option maxRecDepth 100000 in
theorem stamp_Age.calls (a0 : Int) (a1 : Int) (r : Int) (w : World) (h : stamp_Age.f a0 a1 = some r) :
    Calls Tryz.prog 20 #[.int .i64 a0, .int .i64 a1] w fun e w' => e = .returned (.int .i64 r) ∧ Below w.heap.size w w' := by
  have HB := Aside0.mk (Below.refl w.heap.size w)
  have H : (some (((((mx a1 0) % 1024) - ((mx a0 0) % 1024)) + 1024) % 1024)) = some r := h
  clear h
  obtain ⟨ji3, hji3⟩ : ∃ j_ : Int, (mx a1 0) = j_ := ⟨_, rfl⟩
  replace H : (some (((((ji3) % 1024) - ((mx a0 0) % 1024)) + 1024) % 1024)) = some r := by first | (rw [hji3] at H; exact H) | (simp only [hji3] at H ⊢; exact H)
  (try (have hji3l : 0 ≤ ji3 := by (rw [← hji3]; unfold mx; (repeat' split) <;> omega)))
  (try (have hji3m : 0 ≤ ji3 := by omega))
  have hji3_ : (if a1 < 0 then 0 else a1) = ji3 := hji3
  obtain ⟨ji4, hji4⟩ : ∃ j_ : Int, (mx a0 0) = j_ := ⟨_, rfl⟩
  replace H : (some (((((ji3) % 1024) - ((ji4) % 1024)) + 1024) % 1024)) = some r := by first | (rw [hji4] at H; exact H) | (simp only [hji4] at H ⊢; exact H)
  (try (have hji4l : 0 ≤ ji4 := by (rw [← hji4]; unfold mx; (repeat' split) <;> omega)))
  (try (have hji4m : 0 ≤ ji4 := by omega))
  have hji4_ : (if a0 < 0 then 0 else a0) = ji4 := hji4
  obtain rfl := Option.some.inj H
  go_enter Tryz.func20, Tryz.ntmps20
  go_wp2
  go_ret
  exact ⟨by first | rfl | (simp [bneNil]; done) | (simp [errW_none, errW_some] <;> rfl) | (simp only [← hji3, ← hji4]; first | rfl | (simp [errW_none, errW_some] <;> rfl)) | (simp [*, errW_none, errW_some] <;> rfl), by repeat (first | (with_reducible first | exact HB.out | apply below_alloc | apply pw_below_drewN | apply below_drew1) | exact HB.out)⟩

/-! ### stamp_clean: function 31 -/
def stamp_clean.f (a0 : Int) : Option (Int) := some (mx (mn a0 1099511627776) 0)
set_option maxHeartbeats 8000000 in
set_option maxRecDepth 100000 in
theorem stamp_clean.calls (a0 : Int) (r : Int) (w : World) (h : stamp_clean.f a0 = some r) :
    Calls Tryz.prog 31 #[.int .i64 a0] w fun e w' => e = .returned (.int .i64 r) ∧ Below w.heap.size w w' := by
  have HB := Aside0.mk (Below.refl w.heap.size w)
  have H : (some (mx (mn a0 1099511627776) 0)) = some r := h
  clear h
  obtain ⟨ji2, hji2⟩ : ∃ j_ : Int, (mn a0 1099511627776) = j_ := ⟨_, rfl⟩
  replace H : (some (mx (ji2) 0)) = some r := by first | (rw [hji2] at H; exact H) | (simp only [hji2] at H ⊢; exact H)
  (try (have hji2h : ji2 ≤ 1099511627776 := by (rw [← hji2]; unfold mn; (repeat' split) <;> omega)))
  (try (have hji2g : ji2 ≤ 64 := by omega))
  have hji2_ : (if 1099511627776 < a0 then 1099511627776 else a0) = ji2 := hji2
  obtain ⟨ji3, hji3⟩ : ∃ j_ : Int, (mx (ji2) 0) = j_ := ⟨_, rfl⟩
  replace H : (some ji3) = some r := by first | (rw [hji3] at H; exact H) | (simp only [hji3] at H ⊢; exact H)
  have hji3_ : (if (ji2) < 0 then 0 else (ji2)) = ji3 := hji3
  obtain rfl := Option.some.inj H
  go_enter Tryz.func31, Tryz.ntmps31
  go_wp2
  go_ret
  exact ⟨by first | rfl | (simp [bneNil]; done) | (simp [errW_none, errW_some] <;> rfl) | (simp only [← hji2, ← hji3]; first | rfl | (simp [errW_none, errW_some] <;> rfl)) | (simp [*, errW_none, errW_some] <;> rfl), by repeat (first | (with_reducible first | exact HB.out | apply below_alloc | apply pw_below_drewN | apply below_drew1) | exact HB.out)⟩

/-! ### stamp_two: function 32 (by hand) -/
def twoB (n : Nat) : ByteArray := ⟨#[(48 + n / 10).toUInt8, (48 + n % 10).toUInt8]⟩
theorem two_all : ∀ n : Fin 100, ((⟨(Lib.decDigits n.val).toArray⟩ : ByteArray).size = if n.val < 10 then 1 else 2) ∧ (⟨(Lib.repeatL [48] (if n.val < 10 then 1 else 0)).toArray⟩ : ByteArray) ++ ⟨(Lib.decDigits n.val).toArray⟩ = twoB n.val := by decide +kernel
def stamp_two.f (a0 : Int) : Option ByteArray := if 0 ≤ a0 ∧ a0 < 100 then some (twoB a0.toNat) else none
theorem stamp_two.calls (a0 : Int) (r : ByteArray) (w : World) (h : stamp_two.f a0 = some r) :
    Calls Tryz.prog 32 #[.int .i64 a0] w fun e w' => e = .returned (.string r) ∧ Below w.heap.size w w' := by
  unfold stamp_two.f at h
  split at h
  · rename_i hs
    obtain rfl := Option.some.inj h
    obtain ⟨n, rfl⟩ : ∃ n : Nat, a0 = (n : Int) := ⟨a0.toNat, by omega⟩
    rw [Int.toNat_natCast]
    have hn : n < 100 := by omega
    obtain ⟨h1, h2⟩ := two_all ⟨n, hn⟩
    have cF := fun W => Tryz.strconv_FormatInt_10_small n hn W
    simp only at h1 h2
    obtain ⟨p, hp⟩ : ∃ p : ByteArray, (⟨(Lib.decDigits n).toArray⟩ : ByteArray) = p := ⟨_, rfl⟩
    rw [hp] at h1 h2
    simp only [hp] at cF
    obtain ⟨c, hc⟩ : ∃ c : Nat, (if n < 10 then 1 else 0) = c := ⟨_, rfl⟩
    have hc2 : c ≤ 1 := by rw [← hc]; split <;> omega
    have hc3 : p.size + c = 2 := by rw [h1, ← hc]; split <;> rfl
    rw [hc] at h2
    have cR := fun W => Tryz.strings_Repeat ⟨#[48]⟩ c W (by omega) (by show 1 * c ≤ _; omega)
    obtain ⟨z, hz⟩ : ∃ z : ByteArray, (⟨(Lib.repeatL (⟨#[48]⟩ : ByteArray).data.toList c).toArray⟩ : ByteArray) = z := ⟨_, rfl⟩
    have h2' : z ++ p = twoB n := by rw [← hz]; exact h2
    simp only [hz] at cR
    have hzs : z.size ≤ 2 := by
      have e := congrArg ByteArray.size h2'
      rw [ByteArray.size_append] at e
      have : (twoB n).size = 2 := rfl
      omega
    have hw : wrap64 (2 - (p.size : Int)) = (c : Int) := by unfold wrap64; omega
    have hw2 : (2 : Int) - (p.size : Int) = (c : Int) := by omega
    have hsum : z.size + p.size ≤ 9223372036854775807 := by omega
    clear h1 h2 hp hz hc
    go_enter Tryz.func32, Tryz.ntmps32
    go_wp2_with (first | (go_at_call 34; go_must (refine (cF _).mono ?_; rintro e W1 ⟨rfl, rfl⟩)) | (go_at_call 41; go_must ((first | rw [hw] | rw [hw2] | skip); refine (cR _).mono ?_; rintro e W2 ⟨rfl, b2⟩)))
    go_ret
    exact ⟨rfl, b2⟩
  · cases h


/-! ### strings_Join: function 33 (by hand) -/
def strings_Join.f (l0 : List ByteArray) (a1 : ByteArray) : Option ByteArray := match l0 with
  | [] => none
  | x :: t => if (x :: t).length ≤ 140737488355328 ∧ (Lib.join ((x :: t).map (·.data.toList)) a1.data.toList).length ≤ 140737488355328 then some ⟨(Lib.join ((x :: t).map (·.data.toList)) a1.data.toList).toArray⟩ else none
theorem join_cells {w : World} {A : Option Addr} {l : List ByteArray} (h : Kd.C Kd.string w A l.length l) (hl : 0 < l.length) : ∃ bk o, A = some ⟨bk, o, none⟩ ∧ bk < w.heap.size ∧ ∀ (j : Nat) x, l[j]? = some x → w.cell? ⟨bk, o + j, none⟩ = some (.string x) := by
  obtain ⟨_, _, h3⟩ : ReadsOf Value.string ByteArray.empty w A l.length l := Kd.reads_of_C h
  obtain ⟨⟨bk, o, sp⟩, rfl, hc⟩ := h3 hl
  have hsp : sp = none := by
    have h0 := hc 0 hl
    have := World.block_lt_of_cell? w _ h0
    cases sp with
    | none => rfl
    | some q =>
      exfalso
      unfold Addr.add at h0
      simp [World.cell?] at h0
      revert h0
      split <;> simp
  subst hsp
  refine ⟨bk, o, rfl, World.block_lt_of_cell? w _ (hc 0 hl), ?_⟩
  intro j x hj
  have hj' : j < l.length := (List.getElem?_eq_some_iff.1 hj).1
  have := hc j hj'
  have e : (⟨bk, o, none⟩ : Addr).add j = ⟨bk, o + j, none⟩ := by unfold Addr.add; split <;> simp_all
  rw [e] at this
  rw [this, List.getD_eq_getElem?_getD, hj]; rfl
theorem strings_Join.calls (A0 : Option Addr) (c0 : Nat) (l0 : List ByteArray) (a1 : ByteArray) (r : ByteArray) (w : World) (hr0 : Kd.C Kd.string w A0 l0.length l0) (hc0 : l0.length ≤ c0) (h : strings_Join.f l0 a1 = some r) :
    Calls Tryz.prog 33 #[.slice A0 l0.length c0, .string a1] w fun e w' => e = .returned (.string r) ∧ Below w.heap.size w w' := by
  unfold strings_Join.f at h
  split at h
  · cases h
  · rename_i x t
    split at h
    · rename_i hb
      obtain rfl := Option.some.inj h
      obtain ⟨bk, o, rfl, hbk, hc⟩ := join_cells hr0 (by simp)
      exact Tryz.strings_Join bk o c0 (x :: t) a1 w hc hbk hb.1 hc0 hb.2
    · cases h


/-! ### strconv_FormatInt: function 34 (by hand) -/
def strconv_FormatInt.f (a0 a1 : Int) : Option ByteArray := if a1 = 10 ∧ -9223372036854775808 ≤ a0 ∧ a0 ≤ 9223372036854775807 then some ⟨(Lib.itoa a0).toArray⟩ else none
theorem strconv_FormatInt.calls (a0 a1 : Int) (r : ByteArray) (w : World) (hG : Glob w) (h : strconv_FormatInt.f a0 a1 = some r) :
    Calls Tryz.prog 34 #[.int .i64 a0, .int .i64 a1] w fun e w' => e = .returned (.string r) ∧ Below w.heap.size w w' := by
  unfold strconv_FormatInt.f at h
  split at h
  · rename_i hs
    obtain ⟨rfl, h0, h1⟩ := hs
    obtain rfl := Option.some.inj h
    refine (Tryz.strconv_FormatInt_10 a0 h0 h1 w hG.p10).mono ?_
    rintro e w' ⟨rfl, k, os, rfl⟩
    exact ⟨rfl, Lib.below_grow _ _ (Nat.le_refl _) _ _⟩
  · cases h


/-! ### stamp_Date: function 21 -/
mutual
def stamp_Date.l0 : Nat → Int → Int → ByteArray → Int → Option (ByteArray)
 | 0, _, _, _, _ => none
 | k + 1, x3, x4, x5, x6 => (stamp_ahead.f x6).bind fun t182 => (if t182 > x3 then (stamp_Date.l0 k x3 x4 x5 (wrap64 (x6 - 1))) else (stamp_Date.l1 k x3 x4 x5 x6))
def stamp_Date.l1 : Nat → Int → Int → ByteArray → Int → Option (ByteArray)
 | 0, _, _, _, _ => none
 | k + 1, x3, x4, x5, x6 => (stamp_ahead.f (wrap64 (x6 + 1))).bind fun t183 => (if t183 ≤ x3 then (stamp_Date.l1 k x3 x4 x5 (wrap64 (x6 + 1))) else ((stamp_ahead.f x6).bind fun t184 => (stamp_Date.l2 k x4 x5 x6 (wrap64 (x3 - t184)) 0)))
def stamp_Date.l2 : Nat → Int → ByteArray → Int → Int → Int → Option (ByteArray)
 | 0, _, _, _, _, _ => none
 | k + 1, x4, x5, x6, x7, x8 => (stamp_length.f x6 x8).bind fun t185 => (if x7 ≥ t185 then ((stamp_length.f x6 x8).bind fun t186 => (stamp_Date.l2 k x4 x5 x6 (wrap64 (x7 - t186)) (wrap64 (x8 + 1)))) else ((stamp_two.f (wrap64 (Int.tdiv x4 3600))).bind fun t187 => (if t187.size + 1 ≤ 9223372036854775807 then ((stamp_two.f (Int.tmod (wrap64 (Int.tdiv x4 60)) 60)).bind fun t188 => (if (t187 ++ (⟨#[58]⟩ : ByteArray)).size + t188.size ≤ 9223372036854775807 then (if ((t187 ++ (⟨#[58]⟩ : ByteArray)) ++ t188).size + 1 ≤ 9223372036854775807 then ((stamp_two.f (Int.tmod x4 60)).bind fun t189 => (if (((t187 ++ (⟨#[58]⟩ : ByteArray)) ++ t188) ++ (⟨#[58]⟩ : ByteArray)).size + t189.size ≤ 9223372036854775807 then (if x5.size + 1 ≤ 9223372036854775807 then ((stamp_two.f (wrap64 (x7 + 1))).bind fun t190 => (if 0 ≤ x8 then (if x8 < 12 then ((strconv_FormatInt.f x6 10).bind fun t192 => ((strings_Join.f (([x5 ++ (⟨#[44]⟩ : ByteArray), t190, rdOf ByteArray.empty moT x8, t192, (((t187 ++ (⟨#[58]⟩ : ByteArray)) ++ t188) ++ (⟨#[58]⟩ : ByteArray)) ++ t189, (⟨#[43, 48, 48, 48, 48]⟩ : ByteArray)] : List ByteArray)) (⟨#[32]⟩ : ByteArray)).bind fun t196 => (some t196))) else (none)) else (none))) else (none)) else (none))) else (none)) else (none))) else (none))))
end
def stamp_Date.f (k : Nat) (a0 : Int) : Option (ByteArray) := (stamp_clean.f a0).bind fun t180 => (if 0 ≤ (Int.tmod (wrap64 ((wrap64 (Int.tdiv t180 86400)) + 4)) 7) then (if (Int.tmod (wrap64 ((wrap64 (Int.tdiv t180 86400)) + 4)) 7) < 7 then (stamp_Date.l0 k (wrap64 (Int.tdiv t180 86400)) (Int.tmod t180 86400) (rdOf ByteArray.empty wdT (Int.tmod (wrap64 ((wrap64 (Int.tdiv t180 86400)) + 4)) 7)) (wrap64 (1970 + (wrap64 (Int.tdiv (wrap64 ((wrap64 (Int.tdiv t180 86400)) * 400)) 146097))))) else (none)) else (none))
theorem stamp_Date.mono_l : ∀ k, (∀ y0 y1 y2 y3, LeO (stamp_Date.l0 k y0 y1 y2 y3) (stamp_Date.l0 (k + 1) y0 y1 y2 y3)) ∧ (∀ y0 y1 y2 y3, LeO (stamp_Date.l1 k y0 y1 y2 y3) (stamp_Date.l1 (k + 1) y0 y1 y2 y3)) ∧ (∀ y0 y1 y2 y3 y4, LeO (stamp_Date.l2 k y0 y1 y2 y3 y4) (stamp_Date.l2 (k + 1) y0 y1 y2 y3 y4))
 | 0 => ⟨fun _ _ _ _ r h => by simp [stamp_Date.l0] at h, fun _ _ _ _ r h => by simp [stamp_Date.l1] at h, fun _ _ _ _ _ r h => by simp [stamp_Date.l2] at h⟩
 | k + 1 => by
  obtain ⟨ih0, ih1, ih2⟩ := stamp_Date.mono_l k
  refine ⟨?_, ?_, ?_⟩
  ·intro y0 y1 y2 y3
   unfold stamp_Date.l0
   repeat' first
   | (with_reducible exact ih0 _ _ _ _)
   | (with_reducible exact ih1 _ _ _ _)
   | (with_reducible exact ih2 _ _ _ _ _)
   | (with_reducible exact LeO.refl _)
   | (with_reducible exact LeO.none _)
   | (with_reducible refine LeO.ite ?_ ?_)
   | (with_reducible refine LeO.bind ?_ (fun _ => ?_))
   | exact ih0 _ _ _ _
   | exact ih1 _ _ _ _
   | exact ih2 _ _ _ _ _
   | exact LeO.none _
   | refine LeO.ite ?_ ?_
   | refine LeO.bind ?_ (fun _ => ?_)
  ·intro y0 y1 y2 y3
   unfold stamp_Date.l1
   repeat' first
   | (with_reducible exact ih0 _ _ _ _)
   | (with_reducible exact ih1 _ _ _ _)
   | (with_reducible exact ih2 _ _ _ _ _)
   | (with_reducible exact LeO.refl _)
   | (with_reducible exact LeO.none _)
   | (with_reducible refine LeO.ite ?_ ?_)
   | (with_reducible refine LeO.bind ?_ (fun _ => ?_))
   | exact ih0 _ _ _ _
   | exact ih1 _ _ _ _
   | exact ih2 _ _ _ _ _
   | exact LeO.none _
   | refine LeO.ite ?_ ?_
   | refine LeO.bind ?_ (fun _ => ?_)
  ·intro y0 y1 y2 y3 y4
   unfold stamp_Date.l2
   repeat' first
   | (with_reducible exact ih0 _ _ _ _)
   | (with_reducible exact ih1 _ _ _ _)
   | (with_reducible exact ih2 _ _ _ _ _)
   | (with_reducible exact LeO.refl _)
   | (with_reducible exact LeO.none _)
   | (with_reducible refine LeO.ite ?_ ?_)
   | (with_reducible refine LeO.bind ?_ (fun _ => ?_))
   | exact ih0 _ _ _ _
   | exact ih1 _ _ _ _
   | exact ih2 _ _ _ _ _
   | exact LeO.none _
   | refine LeO.ite ?_ ?_
   | refine LeO.bind ?_ (fun _ => ?_)
theorem stamp_Date.mono : ∀ a0 k, LeO (stamp_Date.f k a0) (stamp_Date.f (k + 1) a0) := by
 intro a0 k
 obtain ⟨ih0, ih1, ih2⟩ := stamp_Date.mono_l k
 unfold stamp_Date.f
 repeat' first
   | (with_reducible exact ih0 _ _ _ _)
   | (with_reducible exact ih1 _ _ _ _)
   | (with_reducible exact ih2 _ _ _ _ _)
   | (with_reducible exact LeO.refl _)
   | (with_reducible exact LeO.none _)
   | (with_reducible refine LeO.ite ?_ ?_)
   | (with_reducible refine LeO.bind ?_ (fun _ => ?_))
   | exact ih0 _ _ _ _
   | exact ih1 _ _ _ _
   | exact ih2 _ _ _ _ _
   | exact LeO.none _
   | refine LeO.ite ?_ ?_
   | refine LeO.bind ?_ (fun _ => ?_)
def stamp_Date.T14 : Bool × List (List Nat × List Nat) := (true, [([], []), ([0], [0]), ([], []), ([2], [2]), ([3], [3]), ([], []), ([5], [5]), ([6], [6]), ([], []), ([8, 4], [8]), ([], []), ([1, 4, 7, 9, 10], [1, 4, 7, 9, 10]), ([11, 9], [11]), ([12, 12, 0, 1, 2, 3, 4, 5, 6, 7, 8, 9, 10, 11, 12], [12])])
def stamp_Date.B14 : List Nat := [0, 1, 0, 4, 12, 0, 32, 96, 0, 284, 0, 2047, 4095, 8191]
theorem stamp_Date.tab14 : rtab .any (opsOf Tryz.f21 14) = stamp_Date.T14 := by kernel_rfl
theorem stamp_Date.bits14 : waitsOk stamp_Date.T14.2 stamp_Date.B14 = true := by kernel_rfl
set_option maxHeartbeats 8000000 in
set_option maxRecDepth 100000 in
theorem stamp_Date.calls (k : Nat) (a0 : Int) (r : ByteArray) (w : World) (hG : Glob w) (h : stamp_Date.f k a0 = some r) :
  Calls Tryz.prog 21 #[.int .i64 a0] w fun e w' => e = .returned (.string r) ∧ Below w.heap.size w w' := by
 have HB := Aside0.mk (Below.refl w.heap.size w)
 have HG := Aside0.mk hG
 have HRG0 := Aside0.mk hG.c0
 have HRG1 := Aside0.mk hG.c1
 clear hG
 have H : ((stamp_clean.f a0).bind fun t180 => (if 0 ≤ (Int.tmod (wrap64 ((wrap64 (Int.tdiv t180 86400)) + 4)) 7) then (if (Int.tmod (wrap64 ((wrap64 (Int.tdiv t180 86400)) + 4)) 7) < 7 then (stamp_Date.l0 k (wrap64 (Int.tdiv t180 86400)) (Int.tmod t180 86400) (rdOf ByteArray.empty wdT (Int.tmod (wrap64 ((wrap64 (Int.tdiv t180 86400)) + 4)) 7)) (wrap64 (1970 + (wrap64 (Int.tdiv (wrap64 ((wrap64 (Int.tdiv t180 86400)) * 400)) 146097))))) else (none)) else (none))) = some r := h
 clear h
 replace H := Option.bind_eq_some_iff.mp H
 obtain ⟨t180, A20, H⟩ := H
 replace H : (if 0 ≤ (Int.tmod (wrap64 ((wrap64 (Int.tdiv t180 86400)) + 4)) 7) then (if (Int.tmod (wrap64 ((wrap64 (Int.tdiv t180 86400)) + 4)) 7) < 7 then (stamp_Date.l0 k (wrap64 (Int.tdiv t180 86400)) (Int.tmod t180 86400) (rdOf ByteArray.empty wdT (Int.tmod (wrap64 ((wrap64 (Int.tdiv t180 86400)) + 4)) 7)) (wrap64 (1970 + (wrap64 (Int.tdiv (wrap64 ((wrap64 (Int.tdiv t180 86400)) * 400)) 146097))))) else (none)) else (none)) = some r := H
 have A2 := Aside0.mk A20
 clear A20
 obtain ⟨ji3, hji3⟩ : ∃ j_ : Int, (Int.tmod (wrap64 ((wrap64 (Int.tdiv t180 86400)) + 4)) 7) = j_ := ⟨_, rfl⟩
 replace H : (if 0 ≤ (ji3) then (if (ji3) < 7 then (stamp_Date.l0 k (wrap64 (Int.tdiv t180 86400)) (Int.tmod t180 86400) (rdOf ByteArray.empty wdT (ji3)) (wrap64 (1970 + (wrap64 (Int.tdiv (wrap64 ((wrap64 (Int.tdiv t180 86400)) * 400)) 146097))))) else (none)) else (none)) = some r := by first | (rw [hji3] at H; exact H) | (simp only [hji3] at H ⊢; exact H)
 (try rw [hji3] at A2)
 by_cases c4 : 0 ≤ (ji3)
 ·rw [if_pos c4] at H
  have c4b0 : decide (0 ≤ (ji3)) = true := decide_eq_true c4
  clear c4
  by_cases c5 : (ji3) < 7
  ·rw [if_pos c5] at H
   have c5b0 : decide ((ji3) < 7) = true := decide_eq_true c5
   clear c5
   have H' := Aside0.mk H
   clear H
   obtain ⟨rs_, hrs_⟩ : ∃ j_ : Int, (Int.tmod t180 86400) = j_ := ⟨_, rfl⟩
   rw [hrs_] at H'
   go_enter Tryz.func21, Tryz.ntmps21
   go_wp2_with (first | ((with_reducible refine gate_callee (f := 31) rfl ?_); refine goesL_ (some 11) rfl rfl Tryz.func31 (by kernel_rfl) rfl #[.int .i64 a0] rfl ml ?_; (with_reducible refine (stamp_clean.calls a0 t180 _ A2.out).mono ?_); rintro e w6 ⟨rfl, hb⟩; refine ⟨_, rfl, ?_⟩; have n0_ := Aside0.mk (below_step bl hb); clear HB; have HB := n0_; clear n0_; (try clear hb); (try clear hb2); (try clear hk); (try clear hi); have p181 : 0 ≤ ((ji3) : Int) := od; have q181 : (ji3) < (wdT.length : Int) := od; have ql181 : (((ji3) : Int) < (7 : Int)) = True := eq_true (od); obtain ⟨ad181, e181, hx181_0⟩ := Kd.at_string HRG0.out (ji3) p181 q181; obtain rfl : (⟨0, 0, none⟩ : Addr) = ad181 := (by injection e181); (first | simp only [add_plain] at hx181_0 | simp only [add_at] at hx181_0 | simp only [Addr.add, Nat.zero_add] at hx181_0 | skip); replace hx181_0 := (HB.out.cell (World.block_lt_of_cell? w _ hx181_0)).trans hx181_0; replace p181 := eq_true p181; replace q181 := eq_true q181))
   go_loopg [6] k (fun kq v6 w' => ∃ (x6_1 : Int), v6 = .int .i64 x6_1 ∧ Aside0 (stamp_Date.l0 kq (wrap64 (Int.tdiv t180 86400)) rs_ (rdOf ByteArray.empty wdT (ji3)) x6_1 = some r) ∧ Aside0 (kq ≤ k) ∧ Aside0 (Below w.heap.size w w'))
   case atStart => exact ⟨(wrap64 (1970 + (wrap64 (Int.tdiv (wrap64 ((wrap64 (Int.tdiv t180 86400)) * 400)) 146097)))), (by first | rfl | (simp; done) | (simp [*]; done)), H', ⟨Nat.le_refl _⟩, ⟨by repeat (first | (with_reducible first | exact HB.out | apply below_alloc | apply pw_below_drewN | apply below_drew1) | exact HB.out)⟩⟩
   case round =>
    clear H'
    try clear c1
    try clear p1
    try clear q1
    try clear hx1
    try clear c2
    try clear p2
    try clear c3
    try clear c4
    try clear c4b0
    try clear c5
    try clear c5b0
    try clear p6
    try clear hx181_0
    try clear p181
    try clear q181
    obtain ⟨x6_1, rfl, HA, HK1, HB⟩ := hrel
    cases gk with
    | zero => exact absurd HA.out (by simp [stamp_Date.l0])
    | succ k1 =>
     have H := HA.out
     clear HA
     simp only [stamp_Date.l0] at H
     replace H := Option.bind_eq_some_iff.mp H
     obtain ⟨t182, A70, H⟩ := H
     replace H : (if t182 > (wrap64 (Int.tdiv t180 86400)) then (stamp_Date.l0 k1 (wrap64 (Int.tdiv t180 86400)) rs_ (rdOf ByteArray.empty wdT (ji3)) (wrap64 (x6_1 - 1))) else (stamp_Date.l1 k1 (wrap64 (Int.tdiv t180 86400)) rs_ (rdOf ByteArray.empty wdT (ji3)) x6_1)) = some r := H
     have A7 := Aside0.mk A70
     clear A70
     by_cases c8 : t182 > (wrap64 (Int.tdiv t180 86400))
     ·rw [if_pos c8] at H
      have c8b0 : decide ((wrap64 (Int.tdiv t180 86400)) < t182) = true := decide_eq_true c8
      clear c8
      have H' := Aside0.mk H
      clear H
      go_wp2_with (first | ((with_reducible refine gate_callee (f := 13) rfl ?_); refine goesL_ (some 26) rfl rfl Tryz.func13 (by kernel_rfl) rfl #[.int .i64 x6_1] rfl ml ?_; (with_reducible refine (stamp_ahead.calls x6_1 t182 _ A7.out).mono ?_); rintro e w' ⟨rfl, ⟨nd, rfl⟩⟩; refine ⟨_, rfl, ?_⟩))
      go_roundg k1
      case measure => have := HK1.out; omega
      case rel => exact ⟨(wrap64 (x6_1 - 1)), (by first | rfl | (simp; done) | (simp [*]; done)), H', ⟨by have := HK1.out; omega⟩, ⟨by repeat (first | (with_reducible first | exact HB.out | apply below_alloc | apply pw_below_drewN | apply below_drew1) | exact HB.out)⟩⟩
     ·rw [if_neg c8] at H
      have c8b0 : decide ((wrap64 (Int.tdiv t180 86400)) < t182) = false := decide_eq_false c8
      clear c8
      have H' := Aside0.mk H
      clear H
      go_wp2_with (first | ((with_reducible refine gate_callee (f := 13) rfl ?_); refine goesL_ (some 26) rfl rfl Tryz.func13 (by kernel_rfl) rfl #[.int .i64 x6_1] rfl ml ?_; (with_reducible refine (stamp_ahead.calls x6_1 t182 _ A7.out).mono ?_); rintro e w' ⟨rfl, ⟨nd, rfl⟩⟩; refine ⟨_, rfl, ?_⟩))
      go_loopg [6] k1 (fun kq v6 w' => ∃ (x6_2 : Int), v6 = .int .i64 x6_2 ∧ Aside0 (stamp_Date.l1 kq (wrap64 (Int.tdiv t180 86400)) rs_ (rdOf ByteArray.empty wdT (ji3)) x6_2 = some r) ∧ Aside0 (kq ≤ k1) ∧ Aside0 (Below w.heap.size w w'))
      case atStart => exact ⟨(x6_1), (by first | rfl | (simp; done) | (simp [*]; done)), H', ⟨Nat.le_refl _⟩, ⟨by repeat (first | (with_reducible first | exact HB.out | apply below_alloc | apply pw_below_drewN | apply below_drew1) | exact HB.out)⟩⟩
      case round =>
       clear H'
       try clear c1
       try clear p1
       try clear q1
       try clear hx1
       try clear c2
       try clear p2
       try clear c3
       try clear c4
       try clear c4b0
       try clear c5
       try clear c5b0
       try clear p6
       try clear c8
       try clear c8b0
       try clear hx181_0
       try clear p1
       try clear p181
       try clear p2
       try clear p6
       try clear q1
       try clear q181
       obtain ⟨x6_2, rfl, HA, HK2, HB⟩ := hrel
       cases gk with
       | zero => exact absurd HA.out (by simp [stamp_Date.l1])
       | succ k2 =>
        have H := HA.out
        clear HA
        simp only [stamp_Date.l1] at H
        replace H := Option.bind_eq_some_iff.mp H
        obtain ⟨t183, A90, H⟩ := H
        replace H : (if t183 ≤ (wrap64 (Int.tdiv t180 86400)) then (stamp_Date.l1 k2 (wrap64 (Int.tdiv t180 86400)) rs_ (rdOf ByteArray.empty wdT (ji3)) (wrap64 (x6_2 + 1))) else ((stamp_ahead.f x6_2).bind fun t184 => (stamp_Date.l2 k2 rs_ (rdOf ByteArray.empty wdT (ji3)) x6_2 (wrap64 ((wrap64 (Int.tdiv t180 86400)) - t184)) 0))) = some r := H
        have A9 := Aside0.mk A90
        clear A90
        by_cases c10 : t183 ≤ (wrap64 (Int.tdiv t180 86400))
        ·rw [if_pos c10] at H
         have c10b0 : decide (t183 ≤ (wrap64 (Int.tdiv t180 86400))) = true := decide_eq_true c10
         clear c10
         have H' := Aside0.mk H
         clear H
         go_wp2_with (first | ((with_reducible refine gate_callee (f := 13) rfl ?_); refine goesL_ (some 33) rfl rfl Tryz.func13 (by kernel_rfl) rfl #[.int .i64 (wrap64 (x6_2 + 1))] rfl ml ?_; (with_reducible refine (stamp_ahead.calls (wrap64 (x6_2 + 1)) t183 _ A9.out).mono ?_); rintro e w' ⟨rfl, ⟨nd, rfl⟩⟩; refine ⟨_, rfl, ?_⟩))
         go_roundg k2
         case measure => have := HK1.out; have := HK2.out; omega
         case rel => exact ⟨(wrap64 (x6_2 + 1)), (by first | rfl | (simp; done) | (simp [*]; done)), H', ⟨by have := HK1.out; have := HK2.out; omega⟩, ⟨by repeat (first | (with_reducible first | exact HB.out | apply below_alloc | apply pw_below_drewN | apply below_drew1) | exact HB.out)⟩⟩
        ·rw [if_neg c10] at H
         have c10b0 : decide (t183 ≤ (wrap64 (Int.tdiv t180 86400))) = false := decide_eq_false c10
         clear c10
         replace H := Option.bind_eq_some_iff.mp H
         obtain ⟨t184, A110, H⟩ := H
         replace H : (stamp_Date.l2 k2 rs_ (rdOf ByteArray.empty wdT (ji3)) x6_2 (wrap64 ((wrap64 (Int.tdiv t180 86400)) - t184)) 0) = some r := H
         have A11 := Aside0.mk A110
         clear A110
         have H' := Aside0.mk H
         clear H
         go_wp2_with (first | ((with_reducible refine gate_callee (f := 13) rfl ?_); refine goesL_ (some 33) rfl rfl Tryz.func13 (by kernel_rfl) rfl #[.int .i64 (wrap64 (x6_2 + 1))] rfl ml ?_; (with_reducible refine (stamp_ahead.calls (wrap64 (x6_2 + 1)) t183 _ A9.out).mono ?_); rintro e w' ⟨rfl, ⟨nd, rfl⟩⟩; refine ⟨_, rfl, ?_⟩) | ((with_reducible refine gate_callee (f := 13) rfl ?_); refine goesL_ (some 40) rfl rfl Tryz.func13 (by kernel_rfl) rfl #[.int .i64 x6_2] rfl ml ?_; (with_reducible refine (stamp_ahead.calls x6_2 t184 _ A11.out).mono ?_); rintro e w' ⟨rfl, ⟨nd, rfl⟩⟩; refine ⟨_, rfl, ?_⟩))
         go_loopg [7, 8] k2 (fun kq v7 v8 w' => ∃ (x7_3 : Int) (x8_3 : Int), v7 = .int .i64 x7_3 ∧ v8 = .int .i64 x8_3 ∧ Aside0 (stamp_Date.l2 kq rs_ (rdOf ByteArray.empty wdT (ji3)) x6_2 x7_3 x8_3 = some r) ∧ Aside0 (kq ≤ k2) ∧ Aside0 (Below w.heap.size w w'))
         case atStart => exact ⟨(wrap64 ((wrap64 (Int.tdiv t180 86400)) - t184)), (0), (by first | rfl | (simp; done) | (simp [*]; done)), (by first | rfl | (simp; done) | (simp [*]; done)), H', ⟨Nat.le_refl _⟩, ⟨by repeat (first | (with_reducible first | exact HB.out | apply below_alloc | apply pw_below_drewN | apply below_drew1) | exact HB.out)⟩⟩
         case round =>
          clear H'
          try clear c1
          try clear p1
          try clear q1
          try clear hx1
          try clear c2
          try clear p2
          try clear c3
          try clear c4
          try clear c4b0
          try clear c5
          try clear c5b0
          try clear p6
          try clear c8
          try clear c8b0
          try clear c10
          try clear c10b0
          try clear hx181_0
          try clear p1
          try clear p181
          try clear p2
          try clear p6
          try clear q1
          try clear q181
          obtain ⟨x7_3, x8_3, rfl, rfl, HA, HK3, HB⟩ := hrel
          cases gk with
          | zero => exact absurd HA.out (by simp [stamp_Date.l2])
          | succ k3 =>
           have H := HA.out
           clear HA
           simp only [stamp_Date.l2] at H
           replace H := Option.bind_eq_some_iff.mp H
           obtain ⟨t185, A120, H⟩ := H
           replace H : (if x7_3 ≥ t185 then ((stamp_length.f x6_2 x8_3).bind fun t186 => (stamp_Date.l2 k3 rs_ (rdOf ByteArray.empty wdT (ji3)) x6_2 (wrap64 (x7_3 - t186)) (wrap64 (x8_3 + 1)))) else ((stamp_two.f (wrap64 (Int.tdiv rs_ 3600))).bind fun t187 => (if t187.size + 1 ≤ 9223372036854775807 then ((stamp_two.f (Int.tmod (wrap64 (Int.tdiv rs_ 60)) 60)).bind fun t188 => (if (t187 ++ (⟨#[58]⟩ : ByteArray)).size + t188.size ≤ 9223372036854775807 then (if ((t187 ++ (⟨#[58]⟩ : ByteArray)) ++ t188).size + 1 ≤ 9223372036854775807 then ((stamp_two.f (Int.tmod rs_ 60)).bind fun t189 => (if (((t187 ++ (⟨#[58]⟩ : ByteArray)) ++ t188) ++ (⟨#[58]⟩ : ByteArray)).size + t189.size ≤ 9223372036854775807 then (if (rdOf ByteArray.empty wdT (ji3)).size + 1 ≤ 9223372036854775807 then ((stamp_two.f (wrap64 (x7_3 + 1))).bind fun t190 => (if 0 ≤ x8_3 then (if x8_3 < 12 then ((strconv_FormatInt.f x6_2 10).bind fun t192 => ((strings_Join.f (([(rdOf ByteArray.empty wdT (ji3)) ++ (⟨#[44]⟩ : ByteArray), t190, rdOf ByteArray.empty moT x8_3, t192, (((t187 ++ (⟨#[58]⟩ : ByteArray)) ++ t188) ++ (⟨#[58]⟩ : ByteArray)) ++ t189, (⟨#[43, 48, 48, 48, 48]⟩ : ByteArray)] : List ByteArray)) (⟨#[32]⟩ : ByteArray)).bind fun t196 => (some t196))) else (none)) else (none))) else (none)) else (none))) else (none)) else (none))) else (none)))) = some r := H
           have A12 := Aside0.mk A120
           clear A120
           by_cases c13 : x7_3 ≥ t185
           ·rw [if_pos c13] at H
            have c13b0 : decide (t185 ≤ x7_3) = true := decide_eq_true c13
            clear c13
            replace H := Option.bind_eq_some_iff.mp H
            obtain ⟨t186, A140, H⟩ := H
            replace H : (stamp_Date.l2 k3 rs_ (rdOf ByteArray.empty wdT (ji3)) x6_2 (wrap64 (x7_3 - t186)) (wrap64 (x8_3 + 1))) = some r := H
            have A14 := Aside0.mk A140
            clear A140
            have E_ : t185 = t186 := Option.some.inj (A12.out.symm.trans A14.out)
            subst E_
            have H' := Aside0.mk H
            clear H
            go_wp2_with (first | ((with_reducible refine gate_callee (f := 12) rfl ?_); refine goesL_ (some 45) rfl rfl Tryz.func12 (by kernel_rfl) rfl #[.int .i64 x6_2, .int .i64 x8_3] rfl ml ?_; (with_reducible refine (stamp_length.calls x6_2 x8_3 t185 _ ?side1 A12.out).mono ?_); (case side1 => exact Glob.below HG.out bl); rintro e w' ⟨rfl, ⟨nd, rfl⟩⟩; refine ⟨_, rfl, ?_⟩) | ((with_reducible refine gate_callee (f := 12) rfl ?_); refine goesL_ (some 50) rfl rfl Tryz.func12 (by kernel_rfl) rfl #[.int .i64 x6_2, .int .i64 x8_3] rfl ml ?_; (with_reducible refine (stamp_length.calls x6_2 x8_3 t185 _ ?side1 A14.out).mono ?_); (case side1 => exact Glob.below HG.out bl); rintro e w' ⟨rfl, ⟨nd, rfl⟩⟩; refine ⟨_, rfl, ?_⟩))
            go_roundg k3
            case measure => have := HK1.out; have := HK2.out; have := HK3.out; omega
            case rel => exact ⟨(wrap64 (x7_3 - t185)), (wrap64 (x8_3 + 1)), (by first | rfl | (simp; done) | (simp [*]; done)), (by first | rfl | (simp; done) | (simp [*]; done)), H', ⟨by have := HK1.out; have := HK2.out; have := HK3.out; omega⟩, ⟨by repeat (first | (with_reducible first | exact HB.out | apply below_alloc | apply pw_below_drewN | apply below_drew1) | exact HB.out)⟩⟩
           ·rw [if_neg c13] at H
            have c13b0 : decide (t185 ≤ x7_3) = false := decide_eq_false c13
            clear c13
            replace H := Option.bind_eq_some_iff.mp H
            obtain ⟨t187, A150, H⟩ := H
            replace H : (if t187.size + 1 ≤ 9223372036854775807 then ((stamp_two.f (Int.tmod (wrap64 (Int.tdiv rs_ 60)) 60)).bind fun t188 => (if (t187 ++ (⟨#[58]⟩ : ByteArray)).size + t188.size ≤ 9223372036854775807 then (if ((t187 ++ (⟨#[58]⟩ : ByteArray)) ++ t188).size + 1 ≤ 9223372036854775807 then ((stamp_two.f (Int.tmod rs_ 60)).bind fun t189 => (if (((t187 ++ (⟨#[58]⟩ : ByteArray)) ++ t188) ++ (⟨#[58]⟩ : ByteArray)).size + t189.size ≤ 9223372036854775807 then (if (rdOf ByteArray.empty wdT (ji3)).size + 1 ≤ 9223372036854775807 then ((stamp_two.f (wrap64 (x7_3 + 1))).bind fun t190 => (if 0 ≤ x8_3 then (if x8_3 < 12 then ((strconv_FormatInt.f x6_2 10).bind fun t192 => ((strings_Join.f (([(rdOf ByteArray.empty wdT (ji3)) ++ (⟨#[44]⟩ : ByteArray), t190, rdOf ByteArray.empty moT x8_3, t192, (((t187 ++ (⟨#[58]⟩ : ByteArray)) ++ t188) ++ (⟨#[58]⟩ : ByteArray)) ++ t189, (⟨#[43, 48, 48, 48, 48]⟩ : ByteArray)] : List ByteArray)) (⟨#[32]⟩ : ByteArray)).bind fun t196 => (some t196))) else (none)) else (none))) else (none)) else (none))) else (none)) else (none))) else (none)) = some r := H
            have A15 := Aside0.mk A150
            clear A150
            by_cases c16 : t187.size + 1 ≤ 9223372036854775807
            ·rw [if_pos c16] at H
             have c16b0 := eq_true c16
             have c16b1 : decide (t187.size + 1 ≤ 9223372036854775807) = true := decide_eq_true c16
             try have c16b2 : (9223372036854775807 < t187.size + 1) = False := eq_false (Nat.not_lt.2 c16)
             replace H := Option.bind_eq_some_iff.mp H
             obtain ⟨t188, A170, H⟩ := H
             replace H : (if (t187 ++ (⟨#[58]⟩ : ByteArray)).size + t188.size ≤ 9223372036854775807 then (if ((t187 ++ (⟨#[58]⟩ : ByteArray)) ++ t188).size + 1 ≤ 9223372036854775807 then ((stamp_two.f (Int.tmod rs_ 60)).bind fun t189 => (if (((t187 ++ (⟨#[58]⟩ : ByteArray)) ++ t188) ++ (⟨#[58]⟩ : ByteArray)).size + t189.size ≤ 9223372036854775807 then (if (rdOf ByteArray.empty wdT (ji3)).size + 1 ≤ 9223372036854775807 then ((stamp_two.f (wrap64 (x7_3 + 1))).bind fun t190 => (if 0 ≤ x8_3 then (if x8_3 < 12 then ((strconv_FormatInt.f x6_2 10).bind fun t192 => ((strings_Join.f (([(rdOf ByteArray.empty wdT (ji3)) ++ (⟨#[44]⟩ : ByteArray), t190, rdOf ByteArray.empty moT x8_3, t192, (((t187 ++ (⟨#[58]⟩ : ByteArray)) ++ t188) ++ (⟨#[58]⟩ : ByteArray)) ++ t189, (⟨#[43, 48, 48, 48, 48]⟩ : ByteArray)] : List ByteArray)) (⟨#[32]⟩ : ByteArray)).bind fun t196 => (some t196))) else (none)) else (none))) else (none)) else (none))) else (none)) else (none)) = some r := H
             have A17 := Aside0.mk A170
             clear A170
             by_cases c18 : (t187 ++ (⟨#[58]⟩ : ByteArray)).size + t188.size ≤ 9223372036854775807
             ·rw [if_pos c18] at H
              have c18b0 := eq_true c18
              have c18b1 : decide ((t187 ++ (⟨#[58]⟩ : ByteArray)).size + t188.size ≤ 9223372036854775807) = true := decide_eq_true c18
              try have c18b2 : (9223372036854775807 < (t187 ++ (⟨#[58]⟩ : ByteArray)).size + t188.size) = False := eq_false (Nat.not_lt.2 c18)
              try (have c18b2y := c18b2; rw [ByteArray.size_append] at c18b2y)
              try have c18b2z : (9223372036854775807 < t187.size + 1 + t188.size) = False := eq_false (fun h_ => by have g_ := c18; simp only [ByteArray.size_append, show (⟨#[58]⟩ : ByteArray).size = 1 from rfl] at g_; omega)
              by_cases c19 : ((t187 ++ (⟨#[58]⟩ : ByteArray)) ++ t188).size + 1 ≤ 9223372036854775807
              ·rw [if_pos c19] at H
               have c19b0 := eq_true c19
               have c19b1 : decide (((t187 ++ (⟨#[58]⟩ : ByteArray)) ++ t188).size + 1 ≤ 9223372036854775807) = true := decide_eq_true c19
               try have c19b2 : (9223372036854775807 < ((t187 ++ (⟨#[58]⟩ : ByteArray)) ++ t188).size + 1) = False := eq_false (Nat.not_lt.2 c19)
               try (have c19b2y := c19b2; rw [ByteArray.size_append] at c19b2y)
               try have c19b2z : (9223372036854775807 < t187.size + 1 + t188.size + 1) = False := eq_false (fun h_ => by have g_ := c19; simp only [ByteArray.size_append, show (⟨#[58]⟩ : ByteArray).size = 1 from rfl] at g_; omega)
               replace H := Option.bind_eq_some_iff.mp H
               obtain ⟨t189, A200, H⟩ := H
               replace H : (if (((t187 ++ (⟨#[58]⟩ : ByteArray)) ++ t188) ++ (⟨#[58]⟩ : ByteArray)).size + t189.size ≤ 9223372036854775807 then (if (rdOf ByteArray.empty wdT (ji3)).size + 1 ≤ 9223372036854775807 then ((stamp_two.f (wrap64 (x7_3 + 1))).bind fun t190 => (if 0 ≤ x8_3 then (if x8_3 < 12 then ((strconv_FormatInt.f x6_2 10).bind fun t192 => ((strings_Join.f (([(rdOf ByteArray.empty wdT (ji3)) ++ (⟨#[44]⟩ : ByteArray), t190, rdOf ByteArray.empty moT x8_3, t192, (((t187 ++ (⟨#[58]⟩ : ByteArray)) ++ t188) ++ (⟨#[58]⟩ : ByteArray)) ++ t189, (⟨#[43, 48, 48, 48, 48]⟩ : ByteArray)] : List ByteArray)) (⟨#[32]⟩ : ByteArray)).bind fun t196 => (some t196))) else (none)) else (none))) else (none)) else (none)) = some r := H
               have A20 := Aside0.mk A200
               clear A200
               by_cases c21 : (((t187 ++ (⟨#[58]⟩ : ByteArray)) ++ t188) ++ (⟨#[58]⟩ : ByteArray)).size + t189.size ≤ 9223372036854775807
               ·rw [if_pos c21] at H
                have c21b0 := eq_true c21
                have c21b1 : decide ((((t187 ++ (⟨#[58]⟩ : ByteArray)) ++ t188) ++ (⟨#[58]⟩ : ByteArray)).size + t189.size ≤ 9223372036854775807) = true := decide_eq_true c21
                try have c21b2 : (9223372036854775807 < (((t187 ++ (⟨#[58]⟩ : ByteArray)) ++ t188) ++ (⟨#[58]⟩ : ByteArray)).size + t189.size) = False := eq_false (Nat.not_lt.2 c21)
                try (have c21b2y := c21b2; rw [ByteArray.size_append] at c21b2y)
                try have c21b2z : (9223372036854775807 < t187.size + 1 + t188.size + 1 + t189.size) = False := eq_false (fun h_ => by have g_ := c21; simp only [ByteArray.size_append, show (⟨#[58]⟩ : ByteArray).size = 1 from rfl] at g_; omega)
                by_cases c22 : (rdOf ByteArray.empty wdT (ji3)).size + 1 ≤ 9223372036854775807
                ·rw [if_pos c22] at H
                 have c22b0 := eq_true c22
                 have c22b1 : decide ((rdOf ByteArray.empty wdT (ji3)).size + 1 ≤ 9223372036854775807) = true := decide_eq_true c22
                 try have c22b2 : (9223372036854775807 < (rdOf ByteArray.empty wdT (ji3)).size + 1) = False := eq_false (Nat.not_lt.2 c22)
                 replace H := Option.bind_eq_some_iff.mp H
                 obtain ⟨t190, A230, H⟩ := H
                 replace H : (if 0 ≤ x8_3 then (if x8_3 < 12 then ((strconv_FormatInt.f x6_2 10).bind fun t192 => ((strings_Join.f (([(rdOf ByteArray.empty wdT (ji3)) ++ (⟨#[44]⟩ : ByteArray), t190, rdOf ByteArray.empty moT x8_3, t192, (((t187 ++ (⟨#[58]⟩ : ByteArray)) ++ t188) ++ (⟨#[58]⟩ : ByteArray)) ++ t189, (⟨#[43, 48, 48, 48, 48]⟩ : ByteArray)] : List ByteArray)) (⟨#[32]⟩ : ByteArray)).bind fun t196 => (some t196))) else (none)) else (none)) = some r := H
                 have A23 := Aside0.mk A230
                 clear A230
                 by_cases c24 : 0 ≤ x8_3
                 ·rw [if_pos c24] at H
                  have c24b0 : decide (0 ≤ x8_3) = true := decide_eq_true c24
                  clear c24
                  by_cases c25 : x8_3 < 12
                  ·rw [if_pos c25] at H
                   have c25b0 : decide (x8_3 < 12) = true := decide_eq_true c25
                   clear c25
                   replace H := Option.bind_eq_some_iff.mp H
                   obtain ⟨t192, A260, H⟩ := H
                   replace H : ((strings_Join.f (([(rdOf ByteArray.empty wdT (ji3)) ++ (⟨#[44]⟩ : ByteArray), t190, rdOf ByteArray.empty moT x8_3, t192, (((t187 ++ (⟨#[58]⟩ : ByteArray)) ++ t188) ++ (⟨#[58]⟩ : ByteArray)) ++ t189, (⟨#[43, 48, 48, 48, 48]⟩ : ByteArray)] : List ByteArray)) (⟨#[32]⟩ : ByteArray)).bind fun t196 => (some t196)) = some r := H
                   have A26 := Aside0.mk A260
                   clear A260
                   obtain ⟨y193, hy193⟩ : ∃ y_ : List ByteArray, y_ = (([(rdOf ByteArray.empty wdT (ji3)) ++ (⟨#[44]⟩ : ByteArray), t190, rdOf ByteArray.empty moT x8_3, t192, (((t187 ++ (⟨#[58]⟩ : ByteArray)) ++ t188) ++ (⟨#[58]⟩ : ByteArray)) ++ t189, (⟨#[43, 48, 48, 48, 48]⟩ : ByteArray)] : List ByteArray)) := ⟨_, rfl⟩
                   replace H : ((strings_Join.f y193 (⟨#[32]⟩ : ByteArray)).bind fun t196 => (some t196)) = some r := by first | (rw [hy193]; with_reducible exact H) | (have H2_ := (Option.bind_some _ _).symm.trans H; rw [hy193]; with_reducible exact H2_) | (have H2_ := (Option.bind_some _ _).symm.trans H; with_reducible exact H2_) | with_reducible exact H | (rw [hy193]; exact H) | exact H
                   have Ny193 := Aside0.mk hy193
                   clear hy193
                   replace H := Option.bind_eq_some_iff.mp H
                   obtain ⟨t196, A270, H⟩ := H
                   replace H : (some t196) = some r := H
                   have A27 := Aside0.mk A270
                   clear A270
                   obtain rfl := Option.some.inj H
                   try go_wp2_with (first | ((with_reducible refine gate_callee (f := 12) rfl ?_); refine goesL_ (some 45) rfl rfl Tryz.func12 (by kernel_rfl) rfl #[.int .i64 x6_2, .int .i64 x8_3] rfl ml ?_; (with_reducible refine (stamp_length.calls x6_2 x8_3 t185 _ ?side1 A12.out).mono ?_); (case side1 => exact Glob.below HG.out bl); rintro e w' ⟨rfl, ⟨nd, rfl⟩⟩; refine ⟨_, rfl, ?_⟩) | ((with_reducible refine gate_callee (f := 32) rfl ?_); refine goesL_ (some 56) rfl rfl Tryz.func32 (by kernel_rfl) rfl #[.int .i64 (wrap64 (Int.tdiv rs_ 3600))] rfl ml ?_; (with_reducible refine (stamp_two.calls (wrap64 (Int.tdiv rs_ 3600)) t187 _ A15.out).mono ?_); rintro e w28 ⟨rfl, hb⟩; refine ⟨_, rfl, ?_⟩; have n0_ := Aside0.mk (below_step bl hb); clear HB; have HB := n0_; clear n0_; (try clear hb); (try clear hb2); (try clear hk); (try clear hi)) | ((with_reducible refine gate_callee (f := 32) rfl ?_); refine goesL_ (some 61) rfl rfl Tryz.func32 (by kernel_rfl) rfl #[.int .i64 (Int.tmod (wrap64 (Int.tdiv rs_ 60)) 60)] rfl ml ?_; (with_reducible refine (stamp_two.calls (Int.tmod (wrap64 (Int.tdiv rs_ 60)) 60) t188 _ A17.out).mono ?_); rintro e w29 ⟨rfl, hb⟩; refine ⟨_, rfl, ?_⟩; have n0_ := Aside0.mk (below_step bl hb); clear HB; have HB := n0_; clear n0_; (try clear hb); (try clear hb2); (try clear hk); (try clear hi)) | ((with_reducible refine gate_callee (f := 32) rfl ?_); refine goesL_ (some 66) rfl rfl Tryz.func32 (by kernel_rfl) rfl #[.int .i64 (Int.tmod rs_ 60)] rfl ml ?_; (with_reducible refine (stamp_two.calls (Int.tmod rs_ 60) t189 _ A20.out).mono ?_); rintro e w30 ⟨rfl, hb⟩; refine ⟨_, rfl, ?_⟩; have n0_ := Aside0.mk (below_step bl hb); clear HB; have HB := n0_; clear n0_; (try clear hb); (try clear hb2); (try clear hk); (try clear hi)))
                   have n0_ := Aside0.mk (below_drew1 HB.out)
                   clear HB
                   have HB := n0_
                   clear n0_
                   have p191 : 0 ≤ (x8_3 : Int) := od
                   have q191 : x8_3 < (moT.length : Int) := od
                   have ql191 : ((x8_3 : Int) < (12 : Int)) = True := eq_true (od)
                   obtain ⟨ad191, e191, hx191_0⟩ := Kd.at_string HRG1.out x8_3 p191 q191
                   obtain rfl : (⟨1, 0, none⟩ : Addr) = ad191 := (by injection e191)
                   have hw191_0 := hx191_0
                   (first | simp only [add_plain] at hw191_0 | simp only [add_at] at hw191_0 | simp only [Addr.add, Nat.zero_add] at hw191_0 | skip)
                   (first | simp only [add_plain] at hx191_0 | simp only [add_at] at hx191_0 | simp only [Addr.add, Nat.zero_add] at hx191_0 | skip)
                   replace hx191_0 := (HB.out.cell (World.block_lt_of_cell? w _ hx191_0)).trans hx191_0
                   replace p191 := eq_true p191
                   replace q191 := eq_true q191
                   refine start_ (n := 14) (S := fun w' => w'.cell? ⟨1, (x8_3).toNat, none⟩ = some (.string (rdOf ByteArray.empty moT x8_3))) (ds := []) #[false, false, false, false, false, false, false, false, false, false, false, false, false, false] (by kernel_rfl) rfl rfl (((HB.out.cell (World.block_lt_of_cell? w _ hw191_0)).trans hw191_0)) (fun hHeld => ?_); refine with_tabW stamp_Date.tab14 stamp_Date.bits14 (fun HT_ HW_ => ?_)
                   generalize w30.drew = w31 at HB hx191_0 hHeld ⊢
                   refine pure_ (i := 0) (N := some 68) (v := ?_) (a' := ?_) #[true, false, false, false, false, false, false, false, false, false, false, false, false, false] rfl rfl (any_of HT_.out (by kernel_rfl)) (fun _ _ _ h => h) (Or.inl ⟨by rfl, ?_⟩) ?_ ?_
                   rotate_left
                   ·intro w'
                    go_simp
                    with_reducible rfl
                   rotate_left
                   ·simp only [Act.put, List.setIfInBounds_toArray, List.set_cons_zero, List.set_cons_succ, i64_w, i32_w]
                    rfl
                   refine pure_ (i := 1) (N := some 69) (v := ?_) (a' := ?_) #[true, true, false, false, false, false, false, false, false, false, false, false, false, false] rfl rfl (any_of HT_.out (by kernel_rfl)) (fun _ _ _ h => h) (Or.inl ⟨by rfl, ?_⟩) ?_ ?_
                   rotate_left
                   ·intro w'
                    go_simp
                    with_reducible rfl
                   rotate_left
                   ·simp only [Act.put, List.setIfInBounds_toArray, List.set_cons_zero, List.set_cons_succ, i64_w, i32_w]
                    rfl
                   refine pure_ (i := 2) (N := some 70) (v := ?_) (a' := ?_) #[true, true, true, false, false, false, false, false, false, false, false, false, false, false] rfl rfl (any_of HT_.out (by kernel_rfl)) (fun _ _ _ h => h) (Or.inl ⟨by rfl, ?_⟩) ?_ ?_
                   rotate_left
                   ·intro w'
                    go_simp
                    with_reducible rfl
                   rotate_left
                   ·simp only [Act.put, List.setIfInBounds_toArray, List.set_cons_zero, List.set_cons_succ, i64_w, i32_w]
                    rfl
                   refine pure_ (i := 3) (N := some 71) (v := ?_) (a' := ?_) #[true, true, true, true, false, false, false, false, false, false, false, false, false, false] rfl rfl (any_of HT_.out (by kernel_rfl)) (fun _ _ _ h => h) (Or.inl ⟨by rfl, ?_⟩) ?_ ?_
                   rotate_left
                   ·intro w'
                    go_simp
                    with_reducible rfl
                   rotate_left
                   ·simp only [Act.put, List.setIfInBounds_toArray, List.set_cons_zero, List.set_cons_succ, i64_w, i32_w]
                    rfl
                   refine pure_ (i := 5) (N := some 73) (v := ?_) (a' := ?_) #[true, true, true, true, false, true, false, false, false, false, false, false, false, false] rfl rfl (any_of HT_.out (by kernel_rfl)) (fun _ _ _ h => h) (Or.inl ⟨by rfl, ?_⟩) ?_ ?_
                   rotate_left
                   ·intro w'
                    go_simp
                    with_reducible rfl
                   rotate_left
                   ·simp only [Act.put, List.setIfInBounds_toArray, List.set_cons_zero, List.set_cons_succ, i64_w, i32_w]
                    rfl
                   refine pure_ (i := 6) (N := some 74) (v := ?_) (a' := ?_) #[true, true, true, true, false, true, true, false, false, false, false, false, false, false] rfl rfl (any_of HT_.out (by kernel_rfl)) (fun _ _ _ h => h) (Or.inl ⟨by rfl, ?_⟩) ?_ ?_
                   rotate_left
                   ·intro w'
                    go_simp
                    with_reducible rfl
                   rotate_left
                   ·simp only [Act.put, List.setIfInBounds_toArray, List.set_cons_zero, List.set_cons_succ, i64_w, i32_w]
                    rfl
                   refine pure_ (i := 8) (N := some 76) (v := ?_) (a' := ?_) #[true, true, true, true, false, true, true, false, true, false, false, false, false, false] rfl rfl (any_of HT_.out (by kernel_rfl)) (fun _ _ _ h => h) (Or.inl ⟨by rfl, ?_⟩) ?_ ?_
                   rotate_left
                   ·intro w'
                    go_simp
                    with_reducible rfl
                   rotate_left
                   ·simp only [Act.put, List.setIfInBounds_toArray, List.set_cons_zero, List.set_cons_succ, i64_w, i32_w]
                    rfl
                   refine pure_ (i := 10) (N := some 78) (v := ?_) (a' := ?_) #[true, true, true, true, false, true, true, false, true, false, true, false, false, false] rfl rfl (any_of HT_.out (by kernel_rfl)) (fun _ _ _ h => h) (Or.inl ⟨by rfl, ?_⟩) ?_ ?_
                   rotate_left
                   ·intro w'
                    go_simp
                    with_reducible rfl
                   rotate_left
                   ·simp only [Act.put, List.setIfInBounds_toArray, List.set_cons_zero, List.set_cons_succ, i64_w, i32_w]
                    rfl
                   refine take_ (i := 7) (N := some 75) (v := ?_) (a' := ?_) #[true, true, true, true, false, true, true, true, true, false, true, false, false, false] rfl rfl (take_ofW HT_.out HW_.out (by kernel_rfl)) (fun _ _ _ h => h) (Or.inl ⟨by rfl, ?_⟩) hHeld ?_ ?_
                   rotate_left
                   ·intro w' s0
                    go_simp
                    with_reducible rfl
                   rotate_left
                   ·simp only [Act.put, List.setIfInBounds_toArray, List.set_cons_zero, List.set_cons_succ, i64_w, i32_w]
                    rfl
                   refine one_ (i := 4) (N := some 72) #[true, true, true, true, true, true, true, true, true, false, true, false, false, false] rfl rfl (one_of HT_.out (by kernel_rfl)) (by decide) (fun K hK => ?_)
                   refine goes_ Tryz.func32 (by kernel_rfl) rfl #[.int .i64 (wrap64 (x7_3 + 1))] (by rfl) rfl rfl ml ?_
                   with_reducible refine (stamp_two.calls (wrap64 (x7_3 + 1)) t190 _ A23.out).mono ?_
                   rintro e w32 ⟨rfl, hb⟩
                   refine ⟨_, rfl, ?_⟩
                   have n0_ := Aside0.mk (below_step bl hb)
                   clear HB
                   have HB := n0_
                   clear n0_
                   (try clear hb)
                   (try clear hb2)
                   (try clear hk)
                   (try clear hi)
                   refine hK.out _ _ (((HB.out.cell (World.block_lt_of_cell? w _ hw191_0)).trans hw191_0)) (fun hHeld => ?_)
                   clear hK K
                   refine norm_ (a' := ?_) ?_ ?_
                   rotate_left
                   ·show Act.put _ (some 72) _ = _
                    simp only [Act.put, List.setIfInBounds_toArray, List.set_cons_zero, List.set_cons_succ, i64_w, i32_w]
                    rfl
                   refine one_ (i := 9) (N := some 77) #[true, true, true, true, true, true, true, true, true, true, true, false, false, false] rfl rfl (one_of HT_.out (by kernel_rfl)) (by decide) (fun K hK => ?_)
                   refine goes_ Tryz.func34 (by kernel_rfl) rfl #[.int .i64 x6_2, .int .i64 10] (by rfl) rfl rfl ml ?_
                   with_reducible refine (strconv_FormatInt.calls x6_2 10 t192 _ ?side1 A26.out).mono ?_
                   (case side1 => exact Glob.below HG.out bl)
                   rintro e w33 ⟨rfl, hb⟩
                   refine ⟨_, rfl, ?_⟩
                   have n0_ := Aside0.mk (below_step bl hb)
                   clear HB
                   have HB := n0_
                   clear n0_
                   (try clear hb)
                   (try clear hb2)
                   (try clear hk)
                   (try clear hi)
                   refine hK.out _ _ (((HB.out.cell (World.block_lt_of_cell? w _ hw191_0)).trans hw191_0)) (fun hHeld => ?_)
                   clear hK K
                   refine norm_ (a' := ?_) ?_ ?_
                   rotate_left
                   ·show Act.put _ (some 77) _ = _
                    simp only [Act.put, List.setIfInBounds_toArray, List.set_cons_zero, List.set_cons_succ, i64_w, i32_w]
                    rfl
                   refine one_ (i := 11) (N := some 79) #[true, true, true, true, true, true, true, true, true, true, true, true, false, false] rfl rfl (one_of HT_.out (by kernel_rfl)) (by decide) (fun K hK => ?_)
                   refine Kd.R_lit_step Kd.string _ 9 ?hg (N := 79) ?hd (xs := ([(rdOf ByteArray.empty wdT (ji3)) ++ (⟨#[44]⟩ : ByteArray), t190, rdOf ByteArray.empty moT x8_3, t192, (((t187 ++ (⟨#[58]⟩ : ByteArray)) ++ t188) ++ (⟨#[58]⟩ : ByteArray)) ++ t189, (⟨#[43, 48, 48, 48, 48]⟩ : ByteArray)] : List ByteArray)) (inner := [.string ((rdOf ByteArray.empty wdT (ji3)) ++ (⟨#[44]⟩ : ByteArray)), .string t190, .string (rdOf ByteArray.empty moT x8_3), .string t192, .string ((((t187 ++ (⟨#[58]⟩ : ByteArray)) ++ t188) ++ (⟨#[58]⟩ : ByteArray)) ++ t189), .string (⟨#[43, 48, 48, 48, 48]⟩ : ByteArray)]) (ok := fun _ => True) (okp := fun _ => True) ?hr ?hp (fun _ hk => hk) trivial (Below.refl _ _) (Nat.le_refl _) (by simp) ?_; (case hd => rfl); (case hg => rfl); (case hr => first | (go_simp; done) | (go_simp; rfl)); (case hp => exact (Reps.one (show Kd.M Kd.string _ _ _ ((rdOf ByteArray.empty wdT (ji3)) ++ (⟨#[44]⟩ : ByteArray)) [.string ((rdOf ByteArray.empty wdT (ji3)) ++ (⟨#[44]⟩ : ByteArray))] from rfl) (Reps.one (show Kd.M Kd.string _ _ _ t190 [.string t190] from rfl) (Reps.one (show Kd.M Kd.string _ _ _ (rdOf ByteArray.empty moT x8_3) [.string (rdOf ByteArray.empty moT x8_3)] from rfl) (Reps.one (show Kd.M Kd.string _ _ _ t192 [.string t192] from rfl) (Reps.one (show Kd.M Kd.string _ _ _ ((((t187 ++ (⟨#[58]⟩ : ByteArray)) ++ t188) ++ (⟨#[58]⟩ : ByteArray)) ++ t189) [.string ((((t187 ++ (⟨#[58]⟩ : ByteArray)) ++ t188) ++ (⟨#[58]⟩ : ByteArray)) ++ t189)] from rfl) (Reps.one (show Kd.M Kd.string _ _ _ (⟨#[43, 48, 48, 48, 48]⟩ : ByteArray) [.string (⟨#[43, 48, 48, 48, 48]⟩ : ByteArray)] from rfl) (Reps.none _ _))))))))
                   intro v194 w34 ho35 hb hg_ hnew_
                   clear hg_ hnew_
                   (first | rw [← Ny193.out] at ho35 | (simp only [Int.reduceToNat] at ho35; rw [← Ny193.out] at ho35))
                   have n0_ := Aside0.mk (Kd.R_lower ho35 (below_size bl))
                   have n1_ := Aside0.mk (below_step bl hb)
                   clear HB
                   have HO195 := n0_
                   have HB := n1_
                   clear n0_ n1_
                   clear hb ho35
                   obtain ⟨Ao36, co36, eo36⟩ := Kd.R_slice HO195.out
                   (first | subst eo36 | (injection eo36 with f1_ f2_ f3_; have f4_ := f1_.symm; have f5_ := f3_.symm; clear f1_ f2_ f3_; subst f4_; subst f5_))
                   refine hK.out _ _ (((HB.out.cell (World.block_lt_of_cell? w _ hw191_0)).trans hw191_0)) (fun hHeld => ?_)
                   clear hK K
                   refine norm_ (a' := ?_) ?_ ?_
                   rotate_left
                   ·show Act.put _ (some 79) _ = _
                    simp only [Act.put, List.setIfInBounds_toArray, List.set_cons_zero, List.set_cons_succ, i64_w, i32_w]
                    rfl
                   refine one_ (i := 12) (N := some 80) #[true, true, true, true, true, true, true, true, true, true, true, true, true, false] rfl rfl (one_of HT_.out (by kernel_rfl)) (by decide) (fun K hK => ?_)
                   refine goes_ Tryz.func33 (by kernel_rfl) rfl #[.slice Ao36 y193.length co36, .string (⟨#[32]⟩ : ByteArray)] (by rfl) rfl rfl ml ?_
                   with_reducible refine (strings_Join.calls _ _ y193 (⟨#[32]⟩ : ByteArray) t196 _ ?side1 ?side2 A27.out).mono ?_
                   (case side1 => repeat (first | exact (Kd.R_reads' HO195.out).2.2 | (with_reducible refine Kd.C_alloc ?_ _) | (with_reducible refine Kd.C_drewN ?_ _) | (with_reducible refine Kd.C_drew ?_)))
                   (case side2 => exact (Kd.R_reads' HO195.out).2.1)
                   rintro e w37 ⟨rfl, hb⟩
                   refine ⟨_, rfl, ?_⟩
                   have n0_ := Aside0.mk (Kd.R_below (kr HO195.out) hb)
                   have n1_ := Aside0.mk (below_step bl hb)
                   clear HO195
                   clear HB
                   have HO195 := n0_
                   have HB := n1_
                   clear n0_ n1_
                   (try clear hb)
                   (try clear hb2)
                   (try clear hk)
                   (try clear hi)
                   refine hK.out _ _ (((HB.out.cell (World.block_lt_of_cell? w _ hw191_0)).trans hw191_0)) (fun hHeld => ?_)
                   clear hK K
                   refine norm_ (a' := ?_) ?_ ?_
                   rotate_left
                   ·show Act.put _ (some 80) _ = _
                    simp only [Act.put, List.setIfInBounds_toArray, List.set_cons_zero, List.set_cons_succ, i64_w, i32_w]
                    rfl
                   refine pure_ (i := 13) (N := some 2) (v := ?_) (a' := ?_) #[true, true, true, true, true, true, true, true, true, true, true, true, true, true] rfl rfl (any_of HT_.out (by kernel_rfl)) (fun _ _ _ h => h) (Or.inl ⟨by rfl, ?_⟩) ?_ ?_
                   rotate_left
                   ·intro w'
                    go_simp
                    with_reducible rfl
                   rotate_left
                   ·simp only [Act.put, List.setIfInBounds_toArray, List.set_cons_zero, List.set_cons_succ, i64_w, i32_w]
                    rfl
                   refine done_ (done_of HT_.out (by kernel_rfl)) ?_
                   try go_wp2
                   go_ret
                   exact ⟨by first | rfl | (simp [bneNil]; done) | (simp [errW_none, errW_some] <;> rfl) | (simp only [← hji3]; first | rfl | (simp [errW_none, errW_some] <;> rfl)) | (simp [*, errW_none, errW_some] <;> rfl), by repeat (first | (with_reducible first | exact HB.out | apply below_alloc | apply pw_below_drewN | apply below_drew1) | exact HB.out)⟩
                  ·rw [if_neg c25] at H
                   exact absurd H (by simp)
                 ·rw [if_neg c24] at H
                  exact absurd H (by simp)
                ·rw [if_neg c22] at H
                 exact absurd H (by simp)
               ·rw [if_neg c21] at H
                exact absurd H (by simp)
              ·rw [if_neg c19] at H
               exact absurd H (by simp)
             ·rw [if_neg c18] at H
              exact absurd H (by simp)
            ·rw [if_neg c16] at H
             exact absurd H (by simp)
  ·rw [if_neg c5] at H
   exact absurd H (by simp)
 ·rw [if_neg c4] at H
  exact absurd H (by simp)

/-! ### postriderlaw09_wakes: function 8 -/
def postriderlaw09_wakes.f (k : Nat)  : Option (Bool) := (stamp_Parse.f k (⟨#[65, 66]⟩ : ByteArray)).bind fun bt197 => ((stamp_Text.f 0).bind fun t199 => (if t199.toList = ([65, 65] : List UInt8) then ((stamp_Text.f 33).bind fun t200 => (if t200.toList = ([66, 66] : List UInt8) then ((stamp_Text.f 1023).bind fun t201 => (if t201.toList = ([55, 55] : List UInt8) then (if bt197.2 = 0 then ((stamp_Age.f bt197.1 5).bind fun t202 => (if t202 = 4 then ((stamp_Date.f k 951782400).bind fun t203 => (some (t203.toList == ([84, 117, 101, 44, 32, 50, 57, 32, 70, 101, 98, 32, 50, 48, 48, 48, 32, 48, 48, 58, 48, 48, 58, 48, 48, 32, 43, 48, 48, 48, 48] : List UInt8)))) else (some false))) else (some false)) else (some false))) else (some false))) else (some false)))
theorem postriderlaw09_wakes.mono : ∀ k, LeO (postriderlaw09_wakes.f k ) (postriderlaw09_wakes.f (k + 1) ) := by
 intro  k
 unfold postriderlaw09_wakes.f
 repeat' first
   | (with_reducible exact stamp_Date.mono _ _)
   | (with_reducible exact stamp_Parse.mono _ _)
   | (with_reducible exact LeO.refl _)
   | (with_reducible exact LeO.none _)
   | (with_reducible refine LeO.ite ?_ ?_)
   | (with_reducible refine LeO.bind ?_ (fun _ => ?_))
   | exact stamp_Date.mono _ _
   | exact stamp_Parse.mono _ _
   | exact LeO.none _
   | refine LeO.ite ?_ ?_
   | refine LeO.bind ?_ (fun _ => ?_)
set_option maxHeartbeats 8000000 in
set_option maxRecDepth 100000 in
theorem postriderlaw09_wakes.calls (k : Nat)  (r : Bool) (w : World) (hG : Glob w) (h : postriderlaw09_wakes.f k  = some r) :
  Calls Tryz.prog 8 #[] w fun e w' => e = .returned (.bool r) ∧ Below w.heap.size w w' := by
 have HB := Aside0.mk (Below.refl w.heap.size w)
 have HG := Aside0.mk hG
 clear hG
 have H : ((stamp_Parse.f k (⟨#[65, 66]⟩ : ByteArray)).bind fun bt197 => ((stamp_Text.f 0).bind fun t199 => (if t199.toList = ([65, 65] : List UInt8) then ((stamp_Text.f 33).bind fun t200 => (if t200.toList = ([66, 66] : List UInt8) then ((stamp_Text.f 1023).bind fun t201 => (if t201.toList = ([55, 55] : List UInt8) then (if bt197.2 = 0 then ((stamp_Age.f bt197.1 5).bind fun t202 => (if t202 = 4 then ((stamp_Date.f k 951782400).bind fun t203 => (some (t203.toList == ([84, 117, 101, 44, 32, 50, 57, 32, 70, 101, 98, 32, 50, 48, 48, 48, 32, 48, 48, 58, 48, 48, 58, 48, 48, 32, 43, 48, 48, 48, 48] : List UInt8)))) else (some false))) else (some false)) else (some false))) else (some false))) else (some false)))) = some r := h
 clear h
 replace H := Option.bind_eq_some_iff.mp H
 obtain ⟨⟨t197, t198⟩, A10, H⟩ := H
 replace H : ((stamp_Text.f 0).bind fun t199 => (if t199.toList = ([65, 65] : List UInt8) then ((stamp_Text.f 33).bind fun t200 => (if t200.toList = ([66, 66] : List UInt8) then ((stamp_Text.f 1023).bind fun t201 => (if t201.toList = ([55, 55] : List UInt8) then (if t198 = 0 then ((stamp_Age.f t197 5).bind fun t202 => (if t202 = 4 then ((stamp_Date.f k 951782400).bind fun t203 => (some (t203.toList == ([84, 117, 101, 44, 32, 50, 57, 32, 70, 101, 98, 32, 50, 48, 48, 48, 32, 48, 48, 58, 48, 48, 58, 48, 48, 32, 43, 48, 48, 48, 48] : List UInt8)))) else (some false))) else (some false)) else (some false))) else (some false))) else (some false))) = some r := H
 have A1 := Aside0.mk A10
 clear A10
 replace H := Option.bind_eq_some_iff.mp H
 obtain ⟨t199, A20, H⟩ := H
 replace H : (if t199.toList = ([65, 65] : List UInt8) then ((stamp_Text.f 33).bind fun t200 => (if t200.toList = ([66, 66] : List UInt8) then ((stamp_Text.f 1023).bind fun t201 => (if t201.toList = ([55, 55] : List UInt8) then (if t198 = 0 then ((stamp_Age.f t197 5).bind fun t202 => (if t202 = 4 then ((stamp_Date.f k 951782400).bind fun t203 => (some (t203.toList == ([84, 117, 101, 44, 32, 50, 57, 32, 70, 101, 98, 32, 50, 48, 48, 48, 32, 48, 48, 58, 48, 48, 58, 48, 48, 32, 43, 48, 48, 48, 48] : List UInt8)))) else (some false))) else (some false)) else (some false))) else (some false))) else (some false)) = some r := H
 have A2 := Aside0.mk A20
 clear A20
 by_cases c3 : t199.toList = ([65, 65] : List UInt8)
 ·rw [if_pos c3] at H
  have c3b0 : (t199.toList == ([65, 65] : List UInt8)) = true := beq_iff_eq.mpr c3
  have c3b1 : (t199.toList != ([65, 65] : List UInt8)) = false := bne_eq_false_iff_eq.mpr c3
  clear c3
  replace H := Option.bind_eq_some_iff.mp H
  obtain ⟨t200, A40, H⟩ := H
  replace H : (if t200.toList = ([66, 66] : List UInt8) then ((stamp_Text.f 1023).bind fun t201 => (if t201.toList = ([55, 55] : List UInt8) then (if t198 = 0 then ((stamp_Age.f t197 5).bind fun t202 => (if t202 = 4 then ((stamp_Date.f k 951782400).bind fun t203 => (some (t203.toList == ([84, 117, 101, 44, 32, 50, 57, 32, 70, 101, 98, 32, 50, 48, 48, 48, 32, 48, 48, 58, 48, 48, 58, 48, 48, 32, 43, 48, 48, 48, 48] : List UInt8)))) else (some false))) else (some false)) else (some false))) else (some false)) = some r := H
  have A4 := Aside0.mk A40
  clear A40
  by_cases c5 : t200.toList = ([66, 66] : List UInt8)
  ·rw [if_pos c5] at H
   have c5b0 : (t200.toList == ([66, 66] : List UInt8)) = true := beq_iff_eq.mpr c5
   have c5b1 : (t200.toList != ([66, 66] : List UInt8)) = false := bne_eq_false_iff_eq.mpr c5
   clear c5
   replace H := Option.bind_eq_some_iff.mp H
   obtain ⟨t201, A60, H⟩ := H
   replace H : (if t201.toList = ([55, 55] : List UInt8) then (if t198 = 0 then ((stamp_Age.f t197 5).bind fun t202 => (if t202 = 4 then ((stamp_Date.f k 951782400).bind fun t203 => (some (t203.toList == ([84, 117, 101, 44, 32, 50, 57, 32, 70, 101, 98, 32, 50, 48, 48, 48, 32, 48, 48, 58, 48, 48, 58, 48, 48, 32, 43, 48, 48, 48, 48] : List UInt8)))) else (some false))) else (some false)) else (some false)) = some r := H
   have A6 := Aside0.mk A60
   clear A60
   by_cases c7 : t201.toList = ([55, 55] : List UInt8)
   ·rw [if_pos c7] at H
    have c7b0 : (t201.toList == ([55, 55] : List UInt8)) = true := beq_iff_eq.mpr c7
    have c7b1 : (t201.toList != ([55, 55] : List UInt8)) = false := bne_eq_false_iff_eq.mpr c7
    clear c7
    by_cases c8 : t198 = 0
    ·rw [if_pos c8] at H
     have c8b0 : (t198 == 0) = true := beq_iff_eq.mpr c8
     have c8b1 : (t198 != 0) = false := bne_eq_false_iff_eq.mpr c8
     clear c8
     replace H := Option.bind_eq_some_iff.mp H
     obtain ⟨t202, A90, H⟩ := H
     replace H : (if t202 = 4 then ((stamp_Date.f k 951782400).bind fun t203 => (some (t203.toList == ([84, 117, 101, 44, 32, 50, 57, 32, 70, 101, 98, 32, 50, 48, 48, 48, 32, 48, 48, 58, 48, 48, 58, 48, 48, 32, 43, 48, 48, 48, 48] : List UInt8)))) else (some false)) = some r := H
     have A9 := Aside0.mk A90
     clear A90
     by_cases c10 : t202 = 4
     ·rw [if_pos c10] at H
      have c10b0 : (t202 == 4) = true := beq_iff_eq.mpr c10
      have c10b1 : (t202 != 4) = false := bne_eq_false_iff_eq.mpr c10
      clear c10
      replace H := Option.bind_eq_some_iff.mp H
      obtain ⟨t203, A110, H⟩ := H
      replace H : (some (t203.toList == ([84, 117, 101, 44, 32, 50, 57, 32, 70, 101, 98, 32, 50, 48, 48, 48, 32, 48, 48, 58, 48, 48, 58, 48, 48, 32, 43, 48, 48, 48, 48] : List UInt8))) = some r := H
      have A11 := Aside0.mk A110
      clear A110
      obtain rfl := Option.some.inj H
      go_enter Tryz.func8, Tryz.ntmps8
      go_wp2_with (first | ((with_reducible refine gate_callee (f := 4) rfl ?_); refine goesL_ (some 4) rfl rfl Tryz.func4 (by kernel_rfl) rfl #[.string (⟨#[65, 66]⟩ : ByteArray)] rfl ml ?_; (with_reducible refine (stamp_Parse.calls k (⟨#[65, 66]⟩ : ByteArray) t197 t198 _ A1.out).mono ?_); rintro e w' ⟨rfl, ⟨nd, rfl⟩⟩; refine ⟨_, rfl, ?_⟩) | ((with_reducible refine gate_callee (f := 19) rfl ?_); refine goesL_ (some 7) rfl rfl Tryz.func19 (by kernel_rfl) rfl #[.int .i64 0] rfl ml ?_; (with_reducible refine (stamp_Text.calls 0 t199 _ A2.out).mono ?_); rintro e w12 ⟨rfl, hb⟩; refine ⟨_, rfl, ?_⟩; have n0_ := Aside0.mk (below_step bl hb); clear HB; have HB := n0_; clear n0_; (try clear hb); (try clear hb2); (try clear hk); (try clear hi)) | (go_at_call 19; (with_reducible refine (stamp_Text.calls 33 t200 _ A4.out).mono ?_); rintro e w13 ⟨rfl, hb⟩; have n0_ := Aside0.mk (below_step bl hb); clear HB; have HB := n0_; clear n0_; (try clear hb); (try clear hb2); (try clear hk); (try clear hi)) | (go_at_call 19; (with_reducible refine (stamp_Text.calls 1023 t201 _ A6.out).mono ?_); rintro e w14 ⟨rfl, hb⟩; have n0_ := Aside0.mk (below_step bl hb); clear HB; have HB := n0_; clear n0_; (try clear hb); (try clear hb2); (try clear hk); (try clear hi)) | (go_at_call 20; (with_reducible refine (stamp_Age.calls t197 5 t202 _ A9.out).mono ?_); rintro e w15 ⟨rfl, hb⟩; have n0_ := Aside0.mk (below_step bl hb); clear HB; have HB := n0_; clear n0_; (try clear hb); (try clear hb2); (try clear hk); (try clear hi)) | (go_at_call 21; (with_reducible refine (stamp_Date.calls k 951782400 t203 _ ?side1 A11.out).mono ?_); (case side1 => exact Glob.below HG.out bl); rintro e w16 ⟨rfl, hb⟩; have n0_ := Aside0.mk (below_step bl hb); clear HB; have HB := n0_; clear n0_; (try clear hb); (try clear hb2); (try clear hk); (try clear hi)))
      go_ret
      exact ⟨by first | rfl | (simp [bneNil]; done) | (simp [errW_none, errW_some] <;> rfl) | (simp [*, errW_none, errW_some] <;> rfl), by repeat (first | (with_reducible first | exact HB.out | apply below_alloc | apply pw_below_drewN | apply below_drew1) | exact HB.out)⟩
     ·rw [if_neg c10] at H
      have c10b0 : (t202 == 4) = false := beq_eq_false_iff_ne.mpr c10
      have c10b1 : (t202 != 4) = true := bne_iff_ne.mpr c10
      obtain rfl := Option.some.inj H
      go_enter Tryz.func8, Tryz.ntmps8
      go_wp2_with (first | ((with_reducible refine gate_callee (f := 4) rfl ?_); refine goesL_ (some 4) rfl rfl Tryz.func4 (by kernel_rfl) rfl #[.string (⟨#[65, 66]⟩ : ByteArray)] rfl ml ?_; (with_reducible refine (stamp_Parse.calls k (⟨#[65, 66]⟩ : ByteArray) t197 t198 _ A1.out).mono ?_); rintro e w' ⟨rfl, ⟨nd, rfl⟩⟩; refine ⟨_, rfl, ?_⟩) | ((with_reducible refine gate_callee (f := 19) rfl ?_); refine goesL_ (some 7) rfl rfl Tryz.func19 (by kernel_rfl) rfl #[.int .i64 0] rfl ml ?_; (with_reducible refine (stamp_Text.calls 0 t199 _ A2.out).mono ?_); rintro e w17 ⟨rfl, hb⟩; refine ⟨_, rfl, ?_⟩; have n0_ := Aside0.mk (below_step bl hb); clear HB; have HB := n0_; clear n0_; (try clear hb); (try clear hb2); (try clear hk); (try clear hi)) | (go_at_call 19; (with_reducible refine (stamp_Text.calls 33 t200 _ A4.out).mono ?_); rintro e w18 ⟨rfl, hb⟩; have n0_ := Aside0.mk (below_step bl hb); clear HB; have HB := n0_; clear n0_; (try clear hb); (try clear hb2); (try clear hk); (try clear hi)) | (go_at_call 19; (with_reducible refine (stamp_Text.calls 1023 t201 _ A6.out).mono ?_); rintro e w19 ⟨rfl, hb⟩; have n0_ := Aside0.mk (below_step bl hb); clear HB; have HB := n0_; clear n0_; (try clear hb); (try clear hb2); (try clear hk); (try clear hi)) | (go_at_call 20; (with_reducible refine (stamp_Age.calls t197 5 t202 _ A9.out).mono ?_); rintro e w20 ⟨rfl, hb⟩; have n0_ := Aside0.mk (below_step bl hb); clear HB; have HB := n0_; clear n0_; (try clear hb); (try clear hb2); (try clear hk); (try clear hi)))
      go_ret
      exact ⟨by first | rfl | (simp [bneNil]; done) | (simp [errW_none, errW_some] <;> rfl) | (simp [*, errW_none, errW_some] <;> rfl), by repeat (first | (with_reducible first | exact HB.out | apply below_alloc | apply pw_below_drewN | apply below_drew1) | exact HB.out)⟩
    ·rw [if_neg c8] at H
     have c8b0 : (t198 == 0) = false := beq_eq_false_iff_ne.mpr c8
     have c8b1 : (t198 != 0) = true := bne_iff_ne.mpr c8
     obtain rfl := Option.some.inj H
     go_enter Tryz.func8, Tryz.ntmps8
     go_wp2_with (first | ((with_reducible refine gate_callee (f := 4) rfl ?_); refine goesL_ (some 4) rfl rfl Tryz.func4 (by kernel_rfl) rfl #[.string (⟨#[65, 66]⟩ : ByteArray)] rfl ml ?_; (with_reducible refine (stamp_Parse.calls k (⟨#[65, 66]⟩ : ByteArray) t197 t198 _ A1.out).mono ?_); rintro e w' ⟨rfl, ⟨nd, rfl⟩⟩; refine ⟨_, rfl, ?_⟩) | ((with_reducible refine gate_callee (f := 19) rfl ?_); refine goesL_ (some 7) rfl rfl Tryz.func19 (by kernel_rfl) rfl #[.int .i64 0] rfl ml ?_; (with_reducible refine (stamp_Text.calls 0 t199 _ A2.out).mono ?_); rintro e w21 ⟨rfl, hb⟩; refine ⟨_, rfl, ?_⟩; have n0_ := Aside0.mk (below_step bl hb); clear HB; have HB := n0_; clear n0_; (try clear hb); (try clear hb2); (try clear hk); (try clear hi)) | (go_at_call 19; (with_reducible refine (stamp_Text.calls 33 t200 _ A4.out).mono ?_); rintro e w22 ⟨rfl, hb⟩; have n0_ := Aside0.mk (below_step bl hb); clear HB; have HB := n0_; clear n0_; (try clear hb); (try clear hb2); (try clear hk); (try clear hi)) | (go_at_call 19; (with_reducible refine (stamp_Text.calls 1023 t201 _ A6.out).mono ?_); rintro e w23 ⟨rfl, hb⟩; have n0_ := Aside0.mk (below_step bl hb); clear HB; have HB := n0_; clear n0_; (try clear hb); (try clear hb2); (try clear hk); (try clear hi)))
     go_ret
     exact ⟨by first | rfl | (simp [bneNil]; done) | (simp [errW_none, errW_some] <;> rfl) | (simp [*, errW_none, errW_some] <;> rfl), by repeat (first | (with_reducible first | exact HB.out | apply below_alloc | apply pw_below_drewN | apply below_drew1) | exact HB.out)⟩
   ·rw [if_neg c7] at H
    have c7b0 : (t201.toList == ([55, 55] : List UInt8)) = false := beq_eq_false_iff_ne.mpr c7
    have c7b1 : (t201.toList != ([55, 55] : List UInt8)) = true := bne_iff_ne.mpr c7
    obtain rfl := Option.some.inj H
    go_enter Tryz.func8, Tryz.ntmps8
    go_wp2_with (first | ((with_reducible refine gate_callee (f := 4) rfl ?_); refine goesL_ (some 4) rfl rfl Tryz.func4 (by kernel_rfl) rfl #[.string (⟨#[65, 66]⟩ : ByteArray)] rfl ml ?_; (with_reducible refine (stamp_Parse.calls k (⟨#[65, 66]⟩ : ByteArray) t197 t198 _ A1.out).mono ?_); rintro e w' ⟨rfl, ⟨nd, rfl⟩⟩; refine ⟨_, rfl, ?_⟩) | ((with_reducible refine gate_callee (f := 19) rfl ?_); refine goesL_ (some 7) rfl rfl Tryz.func19 (by kernel_rfl) rfl #[.int .i64 0] rfl ml ?_; (with_reducible refine (stamp_Text.calls 0 t199 _ A2.out).mono ?_); rintro e w24 ⟨rfl, hb⟩; refine ⟨_, rfl, ?_⟩; have n0_ := Aside0.mk (below_step bl hb); clear HB; have HB := n0_; clear n0_; (try clear hb); (try clear hb2); (try clear hk); (try clear hi)) | (go_at_call 19; (with_reducible refine (stamp_Text.calls 33 t200 _ A4.out).mono ?_); rintro e w25 ⟨rfl, hb⟩; have n0_ := Aside0.mk (below_step bl hb); clear HB; have HB := n0_; clear n0_; (try clear hb); (try clear hb2); (try clear hk); (try clear hi)) | (go_at_call 19; (with_reducible refine (stamp_Text.calls 1023 t201 _ A6.out).mono ?_); rintro e w26 ⟨rfl, hb⟩; have n0_ := Aside0.mk (below_step bl hb); clear HB; have HB := n0_; clear n0_; (try clear hb); (try clear hb2); (try clear hk); (try clear hi)))
    go_ret
    exact ⟨by first | rfl | (simp [bneNil]; done) | (simp [errW_none, errW_some] <;> rfl) | (simp [*, errW_none, errW_some] <;> rfl), by repeat (first | (with_reducible first | exact HB.out | apply below_alloc | apply pw_below_drewN | apply below_drew1) | exact HB.out)⟩
  ·rw [if_neg c5] at H
   have c5b0 : (t200.toList == ([66, 66] : List UInt8)) = false := beq_eq_false_iff_ne.mpr c5
   have c5b1 : (t200.toList != ([66, 66] : List UInt8)) = true := bne_iff_ne.mpr c5
   obtain rfl := Option.some.inj H
   go_enter Tryz.func8, Tryz.ntmps8
   go_wp2_with (first | ((with_reducible refine gate_callee (f := 4) rfl ?_); refine goesL_ (some 4) rfl rfl Tryz.func4 (by kernel_rfl) rfl #[.string (⟨#[65, 66]⟩ : ByteArray)] rfl ml ?_; (with_reducible refine (stamp_Parse.calls k (⟨#[65, 66]⟩ : ByteArray) t197 t198 _ A1.out).mono ?_); rintro e w' ⟨rfl, ⟨nd, rfl⟩⟩; refine ⟨_, rfl, ?_⟩) | ((with_reducible refine gate_callee (f := 19) rfl ?_); refine goesL_ (some 7) rfl rfl Tryz.func19 (by kernel_rfl) rfl #[.int .i64 0] rfl ml ?_; (with_reducible refine (stamp_Text.calls 0 t199 _ A2.out).mono ?_); rintro e w27 ⟨rfl, hb⟩; refine ⟨_, rfl, ?_⟩; have n0_ := Aside0.mk (below_step bl hb); clear HB; have HB := n0_; clear n0_; (try clear hb); (try clear hb2); (try clear hk); (try clear hi)) | (go_at_call 19; (with_reducible refine (stamp_Text.calls 33 t200 _ A4.out).mono ?_); rintro e w28 ⟨rfl, hb⟩; have n0_ := Aside0.mk (below_step bl hb); clear HB; have HB := n0_; clear n0_; (try clear hb); (try clear hb2); (try clear hk); (try clear hi)))
   go_ret
   exact ⟨by first | rfl | (simp [bneNil]; done) | (simp [errW_none, errW_some] <;> rfl) | (simp [*, errW_none, errW_some] <;> rfl), by repeat (first | (with_reducible first | exact HB.out | apply below_alloc | apply pw_below_drewN | apply below_drew1) | exact HB.out)⟩
 ·rw [if_neg c3] at H
  have c3b0 : (t199.toList == ([65, 65] : List UInt8)) = false := beq_eq_false_iff_ne.mpr c3
  have c3b1 : (t199.toList != ([65, 65] : List UInt8)) = true := bne_iff_ne.mpr c3
  obtain rfl := Option.some.inj H
  go_enter Tryz.func8, Tryz.ntmps8
  go_wp2_with (first | ((with_reducible refine gate_callee (f := 4) rfl ?_); refine goesL_ (some 4) rfl rfl Tryz.func4 (by kernel_rfl) rfl #[.string (⟨#[65, 66]⟩ : ByteArray)] rfl ml ?_; (with_reducible refine (stamp_Parse.calls k (⟨#[65, 66]⟩ : ByteArray) t197 t198 _ A1.out).mono ?_); rintro e w' ⟨rfl, ⟨nd, rfl⟩⟩; refine ⟨_, rfl, ?_⟩) | ((with_reducible refine gate_callee (f := 19) rfl ?_); refine goesL_ (some 7) rfl rfl Tryz.func19 (by kernel_rfl) rfl #[.int .i64 0] rfl ml ?_; (with_reducible refine (stamp_Text.calls 0 t199 _ A2.out).mono ?_); rintro e w29 ⟨rfl, hb⟩; refine ⟨_, rfl, ?_⟩; have n0_ := Aside0.mk (below_step bl hb); clear HB; have HB := n0_; clear n0_; (try clear hb); (try clear hb2); (try clear hk); (try clear hi)))
  go_ret
  exact ⟨by first | rfl | (simp [bneNil]; done) | (simp [errW_none, errW_some] <;> rfl) | (simp [*, errW_none, errW_some] <;> rfl), by repeat (first | (with_reducible first | exact HB.out | apply below_alloc | apply pw_below_drewN | apply below_drew1) | exact HB.out)⟩

end Go.Proofs.YtoigafnaoaafeaaGreatDoor.Q
end
section
namespace Go.Proofs.YtoigafnaoaafeaaGreatDoor.Q
open Go.RowKit Go.Proofs.YtoigafnaoaafeaaGreatDoorW.PrintWords Go.Proofs.YtoigafnaoaafeaaGreatDoorW.PrintLast Go.Proofs.YtoigafnaoaafeaaGreatDoorW.PrintMore
attribute [local go_sem] max2_int min2_int max_two min_two max_three min_three max_four min_four   -- for this text's walks alone
set_option linter.unusedVariables false
set_option linter.unusedSimpArgs false

/-! ### postriderlaw09_StampReads: function 3 -/
def postriderlaw09_StampReads.f (k : Nat) (a0 : ByteArray) : Option (Bool) := if 0 ≤ (mn (a0.size : Int) 60) then (if (mn (a0.size : Int) 60) ≤ (a0.size : Int) then ((stamp_Parse.f k (a0.extract 0 ((mn (a0.size : Int) 60) : Int).toNat)).bind fun bt204 => ((postriderref09_Parse.f k (a0.extract 0 ((mn (a0.size : Int) 60) : Int).toNat)).bind fun bt206 => ((stamp_ParseDate.f k (a0.extract 0 ((mn (a0.size : Int) 60) : Int).toNat)).bind fun bt208 => ((postriderref09_ParseDate.f k (a0.extract 0 ((mn (a0.size : Int) 60) : Int).toNat)).bind fun bt210 => (if bt204.1 = bt206.1 then (if bt204.2 = bt206.2 then (if bt208.1 = bt210.1 then (if bt208.2 = bt210.2 then ((postriderlaw09_wakes.f k).bind fun t212 => (some t212)) else (some false)) else (some false)) else (some false)) else (some false)))))) else (none)) else (none)
theorem postriderlaw09_StampReads.mono : ∀ a0 k, LeO (postriderlaw09_StampReads.f k a0) (postriderlaw09_StampReads.f (k + 1) a0) := by
  intro a0 k
  unfold postriderlaw09_StampReads.f
  repeat' first
      | (with_reducible exact postriderlaw09_wakes.mono _)
      | (with_reducible exact postriderref09_Parse.mono _ _)
      | (with_reducible exact postriderref09_ParseDate.mono _ _)
      | (with_reducible exact stamp_Parse.mono _ _)
      | (with_reducible exact stamp_ParseDate.mono _ _)
      | (with_reducible exact LeO.refl _)
      | (with_reducible exact LeO.none _)
      | (with_reducible refine LeO.ite ?_ ?_)
      | (with_reducible refine LeO.bind ?_ (fun _ => ?_))
      | exact postriderlaw09_wakes.mono _
      | exact postriderref09_Parse.mono _ _
      | exact postriderref09_ParseDate.mono _ _
      | exact stamp_Parse.mono _ _
      | exact stamp_ParseDate.mono _ _
      | exact LeO.none _
      | refine LeO.ite ?_ ?_
      | refine LeO.bind ?_ (fun _ => ?_)
set_option maxHeartbeats 8000000 in
set_option maxRecDepth 100000 in
theorem postriderlaw09_StampReads.calls (k : Nat) (a0 : ByteArray) (r : Bool) (w : World) (hG : Glob w) (hT : r = true) (h : postriderlaw09_StampReads.f k a0 = some r) :
    Calls Tryz.prog 3 #[.string a0] w fun e w' => e = .returned (.bool r) ∧ Below w.heap.size w w' := by
  have HB := Aside0.mk (Below.refl w.heap.size w)
  have HG := Aside0.mk hG
  clear hG
  have HT_r := Aside0.mk hT
  clear hT
  have H : (if 0 ≤ (mn (a0.size : Int) 60) then (if (mn (a0.size : Int) 60) ≤ (a0.size : Int) then ((stamp_Parse.f k (a0.extract 0 ((mn (a0.size : Int) 60) : Int).toNat)).bind fun bt204 => ((postriderref09_Parse.f k (a0.extract 0 ((mn (a0.size : Int) 60) : Int).toNat)).bind fun bt206 => ((stamp_ParseDate.f k (a0.extract 0 ((mn (a0.size : Int) 60) : Int).toNat)).bind fun bt208 => ((postriderref09_ParseDate.f k (a0.extract 0 ((mn (a0.size : Int) 60) : Int).toNat)).bind fun bt210 => (if bt204.1 = bt206.1 then (if bt204.2 = bt206.2 then (if bt208.1 = bt210.1 then (if bt208.2 = bt210.2 then ((postriderlaw09_wakes.f k).bind fun t212 => (some t212)) else (some false)) else (some false)) else (some false)) else (some false)))))) else (none)) else (none)) = some r := h
  clear h
  obtain ⟨ji2, hji2⟩ : ∃ j_ : Int, (mn (a0.size : Int) 60) = j_ := ⟨_, rfl⟩
  replace H : (if 0 ≤ (ji2) then (if (ji2) ≤ (a0.size : Int) then ((stamp_Parse.f k (a0.extract 0 ((ji2) : Int).toNat)).bind fun bt204 => ((postriderref09_Parse.f k (a0.extract 0 ((ji2) : Int).toNat)).bind fun bt206 => ((stamp_ParseDate.f k (a0.extract 0 ((ji2) : Int).toNat)).bind fun bt208 => ((postriderref09_ParseDate.f k (a0.extract 0 ((ji2) : Int).toNat)).bind fun bt210 => (if bt204.1 = bt206.1 then (if bt204.2 = bt206.2 then (if bt208.1 = bt210.1 then (if bt208.2 = bt210.2 then ((postriderlaw09_wakes.f k).bind fun t212 => (some t212)) else (some false)) else (some false)) else (some false)) else (some false)))))) else (none)) else (none)) = some r := by first | (rw [hji2] at H; exact H) | (simp only [hji2] at H ⊢; exact H)
  (try (have hji2h : ji2 ≤ 60 := by (rw [← hji2]; unfold mn; (repeat' split) <;> omega)))
  (try (have hji2g : ji2 ≤ 64 := by omega))
  (try (have hji2l : 0 ≤ ji2 := by (rw [← hji2]; unfold mn; (repeat' split) <;> omega)))
  (try (have hji2m : 0 ≤ ji2 := by omega))
  have hji2_ : (if 60 < (a0.size : Int) then 60 else (a0.size : Int)) = ji2 := hji2
  by_cases c3 : 0 ≤ (ji2)
  · rw [if_pos c3] at H
    have c3b0 := eq_true c3
    have c3b1 : decide (0 ≤ (ji2)) = true := decide_eq_true c3
    clear c3
    by_cases c4 : (ji2) ≤ (a0.size : Int)
    · rw [if_pos c4] at H
      have c4b0 := eq_true c4
      have c4b1 : decide ((ji2) ≤ (a0.size : Int)) = true := decide_eq_true c4
      clear c4
      obtain ⟨js5, hjs5⟩ : ∃ j_ : ByteArray, (a0.extract 0 ((ji2) : Int).toNat) = j_ := ⟨_, rfl⟩
      replace H : ((stamp_Parse.f k js5).bind fun bt204 => ((postriderref09_Parse.f k js5).bind fun bt206 => ((stamp_ParseDate.f k js5).bind fun bt208 => ((postriderref09_ParseDate.f k js5).bind fun bt210 => (if bt204.1 = bt206.1 then (if bt204.2 = bt206.2 then (if bt208.1 = bt210.1 then (if bt208.2 = bt210.2 then ((postriderlaw09_wakes.f k).bind fun t212 => (some t212)) else (some false)) else (some false)) else (some false)) else (some false)))))) = some r := by first | (rw [hjs5] at H; exact H) | (simp only [hjs5] at H ⊢; exact H)
      replace H := Option.bind_eq_some_iff.mp H
      obtain ⟨⟨t204, t205⟩, A60, H⟩ := H
      replace H : ((postriderref09_Parse.f k js5).bind fun bt206 => ((stamp_ParseDate.f k js5).bind fun bt208 => ((postriderref09_ParseDate.f k js5).bind fun bt210 => (if t204 = bt206.1 then (if t205 = bt206.2 then (if bt208.1 = bt210.1 then (if bt208.2 = bt210.2 then ((postriderlaw09_wakes.f k).bind fun t212 => (some t212)) else (some false)) else (some false)) else (some false)) else (some false))))) = some r := H
      have A6 := Aside0.mk A60
      clear A60
      replace H := Option.bind_eq_some_iff.mp H
      obtain ⟨⟨t206, t207⟩, A70, H⟩ := H
      replace H : ((stamp_ParseDate.f k js5).bind fun bt208 => ((postriderref09_ParseDate.f k js5).bind fun bt210 => (if t204 = t206 then (if t205 = t207 then (if bt208.1 = bt210.1 then (if bt208.2 = bt210.2 then ((postriderlaw09_wakes.f k).bind fun t212 => (some t212)) else (some false)) else (some false)) else (some false)) else (some false)))) = some r := H
      have A7 := Aside0.mk A70
      clear A70
      replace H := Option.bind_eq_some_iff.mp H
      obtain ⟨⟨t208, t209⟩, A80, H⟩ := H
      replace H : ((postriderref09_ParseDate.f k js5).bind fun bt210 => (if t204 = t206 then (if t205 = t207 then (if t208 = bt210.1 then (if t209 = bt210.2 then ((postriderlaw09_wakes.f k).bind fun t212 => (some t212)) else (some false)) else (some false)) else (some false)) else (some false))) = some r := H
      have A8 := Aside0.mk A80
      clear A80
      replace H := Option.bind_eq_some_iff.mp H
      obtain ⟨⟨t210, t211⟩, A90, H⟩ := H
      replace H : (if t204 = t206 then (if t205 = t207 then (if t208 = t210 then (if t209 = t211 then ((postriderlaw09_wakes.f k).bind fun t212 => (some t212)) else (some false)) else (some false)) else (some false)) else (some false)) = some r := H
      have A9 := Aside0.mk A90
      clear A90
      by_cases c10 : t204 = t206
      · rw [if_pos c10] at H
        have c10b0 : (t204 == t206) = true := beq_iff_eq.mpr c10
        have c10b1 : (t204 != t206) = false := bne_eq_false_iff_eq.mpr c10
        clear c10
        by_cases c11 : t205 = t207
        · rw [if_pos c11] at H
          have c11b0 : (t205 == t207) = true := beq_iff_eq.mpr c11
          have c11b1 : (t205 != t207) = false := bne_eq_false_iff_eq.mpr c11
          clear c11
          by_cases c12 : t208 = t210
          · rw [if_pos c12] at H
            have c12b0 : (t208 == t210) = true := beq_iff_eq.mpr c12
            have c12b1 : (t208 != t210) = false := bne_eq_false_iff_eq.mpr c12
            clear c12
            by_cases c13 : t209 = t211
            · rw [if_pos c13] at H
              have c13b0 : (t209 == t211) = true := beq_iff_eq.mpr c13
              have c13b1 : (t209 != t211) = false := bne_eq_false_iff_eq.mpr c13
              clear c13
              replace H := Option.bind_eq_some_iff.mp H
              obtain ⟨t212, A140, H⟩ := H
              replace H : (some t212) = some r := H
              have A14 := Aside0.mk A140
              clear A140
              obtain rfl := Option.some.inj H
              go_enter Tryz.func3, Tryz.ntmps3
              go_wp2_with (first | ((with_reducible refine gate_callee (f := 4) rfl ?_); refine goesL_ (some 18) rfl rfl Tryz.func4 (by kernel_rfl) rfl #[.string js5] rfl (by (try simp only [List.map_toArray, List.map_cons, List.map_nil]); first | done | rfl | (simp only [List.length_drop, List.length_take]; rfl)) ?_; (with_reducible refine (stamp_Parse.calls k js5 t204 t205 _ A6.out).mono ?_); rintro e w' ⟨rfl, ⟨nd, rfl⟩⟩; refine ⟨_, rfl, ?_⟩) | ((with_reducible refine gate_callee (f := 5) rfl ?_); refine goesL_ (some 23) rfl rfl Tryz.func5 (by kernel_rfl) rfl #[.string js5] rfl (by (try simp only [List.map_toArray, List.map_cons, List.map_nil]); first | done | rfl | (simp only [List.length_drop, List.length_take]; rfl)) ?_; (with_reducible refine (postriderref09_Parse.calls k js5 t206 t207 _ A7.out).mono ?_); rintro e w' ⟨rfl, ⟨nd, rfl⟩⟩; refine ⟨_, rfl, ?_⟩) | ((with_reducible refine gate_callee (f := 6) rfl ?_); refine goesL_ (some 28) rfl rfl Tryz.func6 (by kernel_rfl) rfl #[.string js5] rfl (by (try simp only [List.map_toArray, List.map_cons, List.map_nil]); first | done | rfl | (simp only [List.length_drop, List.length_take]; rfl)) ?_; (with_reducible refine (stamp_ParseDate.calls k js5 t208 t209 _ ?side1 A8.out).mono ?_); (case side1 => exact Glob.below HG.out (by repeat (first | (with_reducible first | exact HB.out | apply below_alloc | apply pw_below_drewN | apply below_drew1) | exact HB.out))); rintro e w15 ⟨rfl, hb⟩; refine ⟨_, rfl, ?_⟩; have n0_ := Aside0.mk (below_step (by repeat (first | (with_reducible first | exact HB.out | apply below_alloc | apply pw_below_drewN | apply below_drew1) | exact HB.out)) hb); clear HB; have HB := n0_; clear n0_; (try clear hb); (try clear hb2); (try clear hk); (try clear hi)) | ((with_reducible refine gate_callee (f := 7) rfl ?_); refine goesL_ (some 33) rfl rfl Tryz.func7 (by kernel_rfl) rfl #[.string js5] rfl (by (try simp only [List.map_toArray, List.map_cons, List.map_nil]); first | done | rfl | (simp only [List.length_drop, List.length_take]; rfl)) ?_; (with_reducible refine (postriderref09_ParseDate.calls k js5 t210 t211 _ A9.out).mono ?_); rintro e w16 ⟨rfl, hb⟩; refine ⟨_, rfl, ?_⟩; have n0_ := Aside0.mk (below_step (by repeat (first | (with_reducible first | exact HB.out | apply below_alloc | apply pw_below_drewN | apply below_drew1) | exact HB.out)) hb); clear HB; have HB := n0_; clear n0_; (try clear hb); (try clear hb2); (try clear hk); (try clear hi)) | (go_at_call 8; (with_reducible refine (postriderlaw09_wakes.calls k  t212 _ ?side1 A14.out).mono ?_); (case side1 => exact Glob.below HG.out (by repeat (first | (with_reducible first | exact HB.out | apply below_alloc | apply pw_below_drewN | apply below_drew1) | exact HB.out))); rintro e w17 ⟨rfl, hb⟩; have n0_ := Aside0.mk (below_step (by repeat (first | (with_reducible first | exact HB.out | apply below_alloc | apply pw_below_drewN | apply below_drew1) | exact HB.out)) hb); clear HB; have HB := n0_; clear n0_; (try clear hb); (try clear hb2); (try clear hk); (try clear hi)))
              go_ret
              exact ⟨by first | rfl | (simp [bneNil]; done) | (simp [errW_none, errW_some] <;> rfl) | (simp only [← hji2]; first | rfl | (simp [errW_none, errW_some] <;> rfl)) | (simp [*, errW_none, errW_some] <;> rfl), by repeat (first | (with_reducible first | exact HB.out | apply below_alloc | apply pw_below_drewN | apply below_drew1) | exact HB.out)⟩
            · rw [if_neg c13] at H
              have c13b0 : (t209 == t211) = false := beq_eq_false_iff_ne.mpr c13
              have c13b1 : (t209 != t211) = true := bne_iff_ne.mpr c13
              exact absurd ((Option.some.inj H).trans HT_r.out) (by decide)
          · rw [if_neg c12] at H
            have c12b0 : (t208 == t210) = false := beq_eq_false_iff_ne.mpr c12
            have c12b1 : (t208 != t210) = true := bne_iff_ne.mpr c12
            exact absurd ((Option.some.inj H).trans HT_r.out) (by decide)
        · rw [if_neg c11] at H
          have c11b0 : (t205 == t207) = false := beq_eq_false_iff_ne.mpr c11
          have c11b1 : (t205 != t207) = true := bne_iff_ne.mpr c11
          exact absurd ((Option.some.inj H).trans HT_r.out) (by decide)
      · rw [if_neg c10] at H
        have c10b0 : (t204 == t206) = false := beq_eq_false_iff_ne.mpr c10
        have c10b1 : (t204 != t206) = true := bne_iff_ne.mpr c10
        exact absurd ((Option.some.inj H).trans HT_r.out) (by decide)
    · rw [if_neg c4] at H
      exact absurd H (by simp)
  · rw [if_neg c3] at H
    exact absurd H (by simp)

/-- THE ONE PURE STATEMENT of postriderlaw09_StampReads: yours. -/
def postriderlaw09_StampReads.Pure : Prop := ∀ (a0 : ByteArray), a0.size ≤ 140737488351232 → ∃ k, postriderlaw09_StampReads.f k a0 = some true
theorem postriderlaw09_StampReads.walk (P : postriderlaw09_StampReads.Pure) (a0 : ByteArray) (w : World) (w0 : a0.size ≤ 140737488351232) (hG : Glob w) :
    Calls Tryz.prog 3 #[.string a0] w fun e w' => e = .returned (.bool true) ∧ Below w.heap.size w w' := by
  obtain ⟨k, h⟩ := P a0 w0
  refine (postriderlaw09_StampReads.calls k a0 true w hG rfl h).mono ?_
  rintro e w' ⟨rfl, hd⟩
  exact ⟨rfl, hd⟩

end Go.Proofs.YtoigafnaoaafeaaGreatDoor.Q
end
