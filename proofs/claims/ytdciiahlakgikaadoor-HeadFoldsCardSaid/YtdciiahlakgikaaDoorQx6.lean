-- Written by this session's own program (wip/tools: a patched run of the printer) out of the translation.
import Derived.Test.YtdciiahlakgikaaDoorQx0
import Derived.Test.YtdciiahlakgikaaDoorQx2
import Derived.Test.YtdciiahlakgikaaDoorQx5
namespace Go.Proofs.YtdciiahlakgikaaDoor.Q
open Go.RowKit Go.Proofs.YtdciiahlakgikaaDoorW.PrintWords Go.Proofs.YtdciiahlakgikaaDoorW.PrintLast Go.Proofs.YtdciiahlakgikaaDoorW.PrintMore
attribute [local go_sem] max2_int min2_int max_two min_two max_three min_three max_four min_four   -- for this text's walks alone
set_option linter.unusedVariables false
set_option linter.unusedSimpArgs false

/-! ### postriderlaw07_HeadFolds: function 4 -/
mutual
def postriderlaw07_HeadFolds.j2 : Nat → ByteArray → Option (Bool)
  | 0, _ => none
  | k + 1, x5 => (head_Lay.f k (⟨#[84, 111]⟩ : ByteArray) x5).bind fun bt213 => (if bt213.2.2.2 = 0 then (if bt213.1.toList = ([84, 111] : List UInt8) then ((strings_Trim.f x5 (⟨#[32]⟩ : ByteArray)).bind fun t218 => (if bt213.2.1.toList = t218.toList then ((strings_HasSuffix.f bt213.2.2.1 (⟨#[13, 10]⟩ : ByteArray)).bind fun t219 => (postriderlaw07_HeadFolds.j3 k x5 (!t219) bt213.1 bt213.2.1 bt213.2.2.1)) else (postriderlaw07_HeadFolds.j3 k x5 true bt213.1 bt213.2.1 bt213.2.2.1))) else (postriderlaw07_HeadFolds.j3 k x5 true bt213.1 bt213.2.1 bt213.2.2.1)) else (postriderlaw07_HeadFolds.j3 k x5 true bt213.1 bt213.2.1 bt213.2.2.1))
def postriderlaw07_HeadFolds.j3 : Nat → ByteArray → Bool → ByteArray → ByteArray → ByteArray → Option (Bool)
  | 0, _, _, _, _, _ => none
  | k + 1, x5, x83, x218000, x218001, x218002 => if x83 = true then (some false) else ((strings_TrimSuffix.f x218002 (⟨#[13, 10]⟩ : ByteArray)).bind fun t220 => ((strings_Split.f t220 (⟨#[13, 10]⟩ : ByteArray)).bind fun t221 => ((strings_Join.f t221 (⟨#[]⟩ : ByteArray)).bind fun t224 => (if 4 + x5.size ≤ 9223372036854775807 then (if t224.toList = ((⟨#[84, 111, 58, 32]⟩ : ByteArray) ++ x5).toList then (postriderlaw07_HeadFolds.l2 k t221 t221 (t221.length : Int) 0) else (some false)) else (none)))))
def postriderlaw07_HeadFolds.l2 : Nat → List ByteArray → List ByteArray → Int → Int → Option (Bool)
  | 0, _, _, _, _ => none
  | k + 1, x12, x93, x94, x95 => if x95 < x94 then (if 0 ≤ x95 then (if x95 < (x93.length : Int) then (if x95 > 0 then (if 0 ≤ (mn ((rdOf ByteArray.empty x93 x95).size : Int) 1) then (if (mn ((rdOf ByteArray.empty x93 x95).size : Int) 1) ≤ ((rdOf ByteArray.empty x93 x95).size : Int) then (if ((rdOf ByteArray.empty x93 x95).extract 0 ((mn ((rdOf ByteArray.empty x93 x95).size : Int) 1) : Int).toNat).toList = ([32] : List UInt8) then (if (wrap64 (x95 + 1)) < (x12.length : Int) then ((strings_HasSuffix.f (rdOf ByteArray.empty x93 x95) (⟨#[44]⟩ : ByteArray)).bind fun t227 => (postriderlaw07_HeadFolds.j5 k x12 x95 (rdOf ByteArray.empty x93 x95) x93 x94 x95 (!t227))) else (postriderlaw07_HeadFolds.j5 k x12 x95 (rdOf ByteArray.empty x93 x95) x93 x94 x95 false)) else (postriderlaw07_HeadFolds.j5 k x12 x95 (rdOf ByteArray.empty x93 x95) x93 x94 x95 true)) else (none)) else (none)) else (if (wrap64 (x95 + 1)) < (x12.length : Int) then ((strings_HasSuffix.f (rdOf ByteArray.empty x93 x95) (⟨#[44]⟩ : ByteArray)).bind fun t228 => (postriderlaw07_HeadFolds.j5 k x12 x95 (rdOf ByteArray.empty x93 x95) x93 x94 x95 (!t228))) else (postriderlaw07_HeadFolds.j5 k x12 x95 (rdOf ByteArray.empty x93 x95) x93 x94 x95 false))) else (none)) else (none)) else ((postriderlaw07_wakes.f k).bind fun t225 => (some t225))
def postriderlaw07_HeadFolds.j5 : Nat → List ByteArray → Int → ByteArray → List ByteArray → Int → Int → Bool → Option (Bool)
  | 0, _, _, _, _, _, _, _ => none
  | k + 1, x12, x13, x14, x93, x94, x95, x121 => if x121 = true then (some false) else (if (x14.size : Int) > 78 then (if (x14.size : Int) > (wrap64 (2 + (wrap64 (3 * (mn (wrap64 (1 - (mn x13 1))) 1))))) then (if 0 ≤ (wrap64 ((wrap64 (2 + (wrap64 (3 * (mn (wrap64 (1 - (mn x13 1))) 1))))) - 1)) then (if (wrap64 ((wrap64 (2 + (wrap64 (3 * (mn (wrap64 (1 - (mn x13 1))) 1))))) - 1)) ≤ (x14.size : Int) then ((strings_Contains.f (x14.extract ((wrap64 ((wrap64 (2 + (wrap64 (3 * (mn (wrap64 (1 - (mn x13 1))) 1))))) - 1)) : Int).toNat x14.size) (⟨#[44, 32]⟩ : ByteArray)).bind fun t229 => (if t229 = true then (some false) else (postriderlaw07_HeadFolds.l2 k x12 x93 x94 (wrap64 (x95 + 1))))) else (none)) else (none)) else (postriderlaw07_HeadFolds.l2 k x12 x93 x94 (wrap64 (x95 + 1)))) else (postriderlaw07_HeadFolds.l2 k x12 x93 x94 (wrap64 (x95 + 1))))
def postriderlaw07_HeadFolds.l0 : Nat → Int → ByteArray → List ByteArray → Int → Int → Option (Bool)
  | 0, _, _, _, _, _ => none
  | k + 1, x1, x5, x16, x17, x18 => if x18 < x17 then (if 0 ≤ x18 then (if x18 < (x16.length : Int) then (if x18 = 60 then (postriderlaw07_HeadFolds.j2 k x5) else (if 0 ≤ (mn ((rdOf ByteArray.empty x16 x18).size : Int) 40) then (if (mn ((rdOf ByteArray.empty x16 x18).size : Int) 40) ≤ ((rdOf ByteArray.empty x16 x18).size : Int) then (if ((rdOf ByteArray.empty x16 x18).extract 0 ((mn ((rdOf ByteArray.empty x16 x18).size : Int) 40) : Int).toNat).size ≤ 9223372036854775807 then ((some (Kd.numsOf ((rdOf ByteArray.empty x16 x18).extract 0 ((mn ((rdOf ByteArray.empty x16 x18).size : Int) 40) : Int).toNat) : List Int)).bind fun y208 => (postriderlaw07_HeadFolds.l1 k x1 x5 x18 y208 x16 x17 x18 (y208.length : Int) 0)) else (none)) else (none)) else (none))) else (none)) else (none)) else (postriderlaw07_HeadFolds.j2 k x5)
def postriderlaw07_HeadFolds.l1 : Nat → Int → ByteArray → Int → List Int → List ByteArray → Int → Int → Int → Int → Option (Bool)
  | 0, _, _, _, _, _, _, _, _, _ => none
  | k + 1, x1, x5, x6, x8, x16, x17, x18, x32, x33 => if x33 < x32 then (if 0 ≤ x33 then (if x33 < (x8.length : Int) then (postriderlaw07_HeadFolds.l1 k x1 x5 x6 (x8.set (x33 : Int).toNat ((97 + (Int.tmod (rd x8 x33) 26)) % 256)) x16 x17 x18 x32 (wrap64 (x33 + 1))) else (none)) else (none)) else (if (strOfNums x8).size + 1 ≤ 9223372036854775807 then (if x5.size + ((strOfNums x8) ++ (⟨#[44]⟩ : ByteArray)).size ≤ 9223372036854775807 then (if 0 ≤ x6 then (if (Go.bits .and .u64 (shr .u64 x1 x6) 1) = 0 then (if (x5 ++ ((strOfNums x8) ++ (⟨#[44]⟩ : ByteArray))).size + 1 ≤ 9223372036854775807 then (postriderlaw07_HeadFolds.l0 k x1 ((x5 ++ ((strOfNums x8) ++ (⟨#[44]⟩ : ByteArray))) ++ (⟨#[32]⟩ : ByteArray)) x16 x17 (wrap64 (x18 + 1))) else (none)) else (postriderlaw07_HeadFolds.l0 k x1 (x5 ++ ((strOfNums x8) ++ (⟨#[44]⟩ : ByteArray))) x16 x17 (wrap64 (x18 + 1)))) else (none)) else (none)) else (none))
end
def postriderlaw07_HeadFolds.f (k : Nat) (l0 : List ByteArray) (a1 : Int) : Option (Bool) := postriderlaw07_HeadFolds.l0 k a1 (⟨#[]⟩ : ByteArray) l0 (l0.length : Int) 0
theorem postriderlaw07_HeadFolds.mono_l : ∀ k, (∀ y0, LeO (postriderlaw07_HeadFolds.j2 k y0) (postriderlaw07_HeadFolds.j2 (k + 1) y0)) ∧ (∀ y0 y1 y2 y3 y4, LeO (postriderlaw07_HeadFolds.j3 k y0 y1 y2 y3 y4) (postriderlaw07_HeadFolds.j3 (k + 1) y0 y1 y2 y3 y4)) ∧ (∀ y0 y1 y2 y3, LeO (postriderlaw07_HeadFolds.l2 k y0 y1 y2 y3) (postriderlaw07_HeadFolds.l2 (k + 1) y0 y1 y2 y3)) ∧ (∀ y0 y1 y2 y3 y4 y5 y6, LeO (postriderlaw07_HeadFolds.j5 k y0 y1 y2 y3 y4 y5 y6) (postriderlaw07_HeadFolds.j5 (k + 1) y0 y1 y2 y3 y4 y5 y6)) ∧ (∀ y0 y1 y2 y3 y4, LeO (postriderlaw07_HeadFolds.l0 k y0 y1 y2 y3 y4) (postriderlaw07_HeadFolds.l0 (k + 1) y0 y1 y2 y3 y4)) ∧ (∀ y0 y1 y2 y3 y4 y5 y6 y7 y8, LeO (postriderlaw07_HeadFolds.l1 k y0 y1 y2 y3 y4 y5 y6 y7 y8) (postriderlaw07_HeadFolds.l1 (k + 1) y0 y1 y2 y3 y4 y5 y6 y7 y8))
  | 0 => ⟨fun _ r h => by simp [postriderlaw07_HeadFolds.j2] at h, fun _ _ _ _ _ r h => by simp [postriderlaw07_HeadFolds.j3] at h, fun _ _ _ _ r h => by simp [postriderlaw07_HeadFolds.l2] at h, fun _ _ _ _ _ _ _ r h => by simp [postriderlaw07_HeadFolds.j5] at h, fun _ _ _ _ _ r h => by simp [postriderlaw07_HeadFolds.l0] at h, fun _ _ _ _ _ _ _ _ _ r h => by simp [postriderlaw07_HeadFolds.l1] at h⟩
  | k + 1 => by
    obtain ⟨ih0, ih1, ih2, ih3, ih4, ih5⟩ := postriderlaw07_HeadFolds.mono_l k
    refine ⟨?_, ?_, ?_, ?_, ?_, ?_⟩
    · intro y0
      unfold postriderlaw07_HeadFolds.j2
      repeat' first
      | (with_reducible exact ih0 _)
      | (with_reducible exact ih1 _ _ _ _ _)
      | (with_reducible exact ih2 _ _ _ _)
      | (with_reducible exact ih3 _ _ _ _ _ _ _)
      | (with_reducible exact ih4 _ _ _ _ _)
      | (with_reducible exact ih5 _ _ _ _ _ _ _ _ _)
      | (with_reducible exact head_Lay.mono _ _ _)
      | (with_reducible exact postriderlaw07_wakes.mono _)
      | (with_reducible exact LeO.refl _)
      | (with_reducible exact LeO.none _)
      | (with_reducible refine LeO.ite ?_ ?_)
      | (with_reducible refine LeO.bind ?_ (fun _ => ?_))
      | exact ih0 _
      | exact ih1 _ _ _ _ _
      | exact ih2 _ _ _ _
      | exact ih3 _ _ _ _ _ _ _
      | exact ih4 _ _ _ _ _
      | exact ih5 _ _ _ _ _ _ _ _ _
      | exact head_Lay.mono _ _ _
      | exact postriderlaw07_wakes.mono _
      | exact LeO.none _
      | refine LeO.ite ?_ ?_
      | refine LeO.bind ?_ (fun _ => ?_)
    · intro y0 y1 y2 y3 y4
      unfold postriderlaw07_HeadFolds.j3
      repeat' first
      | (with_reducible exact ih0 _)
      | (with_reducible exact ih1 _ _ _ _ _)
      | (with_reducible exact ih2 _ _ _ _)
      | (with_reducible exact ih3 _ _ _ _ _ _ _)
      | (with_reducible exact ih4 _ _ _ _ _)
      | (with_reducible exact ih5 _ _ _ _ _ _ _ _ _)
      | (with_reducible exact head_Lay.mono _ _ _)
      | (with_reducible exact postriderlaw07_wakes.mono _)
      | (with_reducible exact LeO.refl _)
      | (with_reducible exact LeO.none _)
      | (with_reducible refine LeO.ite ?_ ?_)
      | (with_reducible refine LeO.bind ?_ (fun _ => ?_))
      | exact ih0 _
      | exact ih1 _ _ _ _ _
      | exact ih2 _ _ _ _
      | exact ih3 _ _ _ _ _ _ _
      | exact ih4 _ _ _ _ _
      | exact ih5 _ _ _ _ _ _ _ _ _
      | exact head_Lay.mono _ _ _
      | exact postriderlaw07_wakes.mono _
      | exact LeO.none _
      | refine LeO.ite ?_ ?_
      | refine LeO.bind ?_ (fun _ => ?_)
    · intro y0 y1 y2 y3
      unfold postriderlaw07_HeadFolds.l2
      repeat' first
      | (with_reducible exact ih0 _)
      | (with_reducible exact ih1 _ _ _ _ _)
      | (with_reducible exact ih2 _ _ _ _)
      | (with_reducible exact ih3 _ _ _ _ _ _ _)
      | (with_reducible exact ih4 _ _ _ _ _)
      | (with_reducible exact ih5 _ _ _ _ _ _ _ _ _)
      | (with_reducible exact head_Lay.mono _ _ _)
      | (with_reducible exact postriderlaw07_wakes.mono _)
      | (with_reducible exact LeO.refl _)
      | (with_reducible exact LeO.none _)
      | (with_reducible refine LeO.ite ?_ ?_)
      | (with_reducible refine LeO.bind ?_ (fun _ => ?_))
      | exact ih0 _
      | exact ih1 _ _ _ _ _
      | exact ih2 _ _ _ _
      | exact ih3 _ _ _ _ _ _ _
      | exact ih4 _ _ _ _ _
      | exact ih5 _ _ _ _ _ _ _ _ _
      | exact head_Lay.mono _ _ _
      | exact postriderlaw07_wakes.mono _
      | exact LeO.none _
      | refine LeO.ite ?_ ?_
      | refine LeO.bind ?_ (fun _ => ?_)
    · intro y0 y1 y2 y3 y4 y5 y6
      unfold postriderlaw07_HeadFolds.j5
      repeat' first
      | (with_reducible exact ih0 _)
      | (with_reducible exact ih1 _ _ _ _ _)
      | (with_reducible exact ih2 _ _ _ _)
      | (with_reducible exact ih3 _ _ _ _ _ _ _)
      | (with_reducible exact ih4 _ _ _ _ _)
      | (with_reducible exact ih5 _ _ _ _ _ _ _ _ _)
      | (with_reducible exact head_Lay.mono _ _ _)
      | (with_reducible exact postriderlaw07_wakes.mono _)
      | (with_reducible exact LeO.refl _)
      | (with_reducible exact LeO.none _)
      | (with_reducible refine LeO.ite ?_ ?_)
      | (with_reducible refine LeO.bind ?_ (fun _ => ?_))
      | exact ih0 _
      | exact ih1 _ _ _ _ _
      | exact ih2 _ _ _ _
      | exact ih3 _ _ _ _ _ _ _
      | exact ih4 _ _ _ _ _
      | exact ih5 _ _ _ _ _ _ _ _ _
      | exact head_Lay.mono _ _ _
      | exact postriderlaw07_wakes.mono _
      | exact LeO.none _
      | refine LeO.ite ?_ ?_
      | refine LeO.bind ?_ (fun _ => ?_)
    · intro y0 y1 y2 y3 y4
      unfold postriderlaw07_HeadFolds.l0
      repeat' first
      | (with_reducible exact ih0 _)
      | (with_reducible exact ih1 _ _ _ _ _)
      | (with_reducible exact ih2 _ _ _ _)
      | (with_reducible exact ih3 _ _ _ _ _ _ _)
      | (with_reducible exact ih4 _ _ _ _ _)
      | (with_reducible exact ih5 _ _ _ _ _ _ _ _ _)
      | (with_reducible exact head_Lay.mono _ _ _)
      | (with_reducible exact postriderlaw07_wakes.mono _)
      | (with_reducible exact LeO.refl _)
      | (with_reducible exact LeO.none _)
      | (with_reducible refine LeO.ite ?_ ?_)
      | (with_reducible refine LeO.bind ?_ (fun _ => ?_))
      | exact ih0 _
      | exact ih1 _ _ _ _ _
      | exact ih2 _ _ _ _
      | exact ih3 _ _ _ _ _ _ _
      | exact ih4 _ _ _ _ _
      | exact ih5 _ _ _ _ _ _ _ _ _
      | exact head_Lay.mono _ _ _
      | exact postriderlaw07_wakes.mono _
      | exact LeO.none _
      | refine LeO.ite ?_ ?_
      | refine LeO.bind ?_ (fun _ => ?_)
    · intro y0 y1 y2 y3 y4 y5 y6 y7 y8
      unfold postriderlaw07_HeadFolds.l1
      repeat' first
      | (with_reducible exact ih0 _)
      | (with_reducible exact ih1 _ _ _ _ _)
      | (with_reducible exact ih2 _ _ _ _)
      | (with_reducible exact ih3 _ _ _ _ _ _ _)
      | (with_reducible exact ih4 _ _ _ _ _)
      | (with_reducible exact ih5 _ _ _ _ _ _ _ _ _)
      | (with_reducible exact head_Lay.mono _ _ _)
      | (with_reducible exact postriderlaw07_wakes.mono _)
      | (with_reducible exact LeO.refl _)
      | (with_reducible exact LeO.none _)
      | (with_reducible refine LeO.ite ?_ ?_)
      | (with_reducible refine LeO.bind ?_ (fun _ => ?_))
      | exact ih0 _
      | exact ih1 _ _ _ _ _
      | exact ih2 _ _ _ _
      | exact ih3 _ _ _ _ _ _ _
      | exact ih4 _ _ _ _ _
      | exact ih5 _ _ _ _ _ _ _ _ _
      | exact head_Lay.mono _ _ _
      | exact postriderlaw07_wakes.mono _
      | exact LeO.none _
      | refine LeO.ite ?_ ?_
      | refine LeO.bind ?_ (fun _ => ?_)
theorem postriderlaw07_HeadFolds.mono : ∀ a0 a1 k, LeO (postriderlaw07_HeadFolds.f k a0 a1) (postriderlaw07_HeadFolds.f (k + 1) a0 a1) := by
  intro a0 a1 k
  obtain ⟨ih0, ih1, ih2, ih3, ih4, ih5⟩ := postriderlaw07_HeadFolds.mono_l k
  unfold postriderlaw07_HeadFolds.f
  repeat' first
      | (with_reducible exact ih0 _)
      | (with_reducible exact ih1 _ _ _ _ _)
      | (with_reducible exact ih2 _ _ _ _)
      | (with_reducible exact ih3 _ _ _ _ _ _ _)
      | (with_reducible exact ih4 _ _ _ _ _)
      | (with_reducible exact ih5 _ _ _ _ _ _ _ _ _)
      | (with_reducible exact head_Lay.mono _ _ _)
      | (with_reducible exact postriderlaw07_wakes.mono _)
      | (with_reducible exact LeO.refl _)
      | (with_reducible exact LeO.none _)
      | (with_reducible refine LeO.ite ?_ ?_)
      | (with_reducible refine LeO.bind ?_ (fun _ => ?_))
      | exact ih0 _
      | exact ih1 _ _ _ _ _
      | exact ih2 _ _ _ _
      | exact ih3 _ _ _ _ _ _ _
      | exact ih4 _ _ _ _ _
      | exact ih5 _ _ _ _ _ _ _ _ _
      | exact head_Lay.mono _ _ _
      | exact postriderlaw07_wakes.mono _
      | exact LeO.none _
      | refine LeO.ite ?_ ?_
      | refine LeO.bind ?_ (fun _ => ?_)
def postriderlaw07_HeadFolds.T17 : Bool × List (List Nat × List Nat) := (true, [([], []), ([0], [0]), ([1], [1]), ([2], [2]), ([3, 2], [2, 3]), ([4, 2], [2, 4]), ([2, 5], [2, 5]), ([6, 2], [6]), ([7], [7]), ([8, 7], [7, 8]), ([7], [7]), ([10, 7, 7], [7, 10]), ([9, 11, 7], [7, 9, 11]), ([7, 12], [7, 12]), ([13, 11], [13]), ([14], [14]), ([15, 14], [14, 15]), ([16, 14, 14], [14, 16]), ([17, 14], [14, 17]), ([14, 18], [14, 18])])
def postriderlaw07_HeadFolds.B17 : List Nat := [0, 1, 3, 7, 15, 31, 63, 127, 255, 511, 255, 1279, 4095, 8191, 16383, 32767, 65535, 131071, 262143, 524287]
theorem postriderlaw07_HeadFolds.tab17 : rtab .any (opsOf Tryd.f4 17) = postriderlaw07_HeadFolds.T17 := by kernel_rfl
theorem postriderlaw07_HeadFolds.bits17 : waitsOk postriderlaw07_HeadFolds.T17.2 postriderlaw07_HeadFolds.B17 = true := by kernel_rfl
set_option maxHeartbeats 8000000 in
set_option maxRecDepth 100000 in
theorem postriderlaw07_HeadFolds.calls (k : Nat) (A0 : Option Addr) (c0 : Nat) (l0 : List ByteArray) (a1 : Int) (r : Bool) (w : World) (hr0 : Kd.C Kd.string w A0 l0.length l0) (hc0 : l0.length ≤ c0) (hG : Glob w) (h : postriderlaw07_HeadFolds.f k l0 a1 = some r) :
    Calls Tryd.prog 4 #[.slice A0 l0.length c0, .int .u64 a1] w fun e w' => e = .returned (.bool r) ∧ Below w.heap.size w w' := by
  have hu41 := Tryd.underlying41
  have HR0 := Aside0.mk hr0
  have HC0 := Aside0.mk hc0
  clear hr0 hc0
  have HB := Aside0.mk (Below.refl w.heap.size w)
  have HG := Aside0.mk hG
  clear hG
  have H : (postriderlaw07_HeadFolds.l0 k a1 (⟨#[]⟩ : ByteArray) l0 (l0.length : Int) 0) = some r := h
  clear h
  have HC3 := Aside0.mk H
  clear H
  go_enter Tryd.func4, Tryd.ntmps4
  go_upto_block 0 with (fail)
  go_cut [5] (fun v5 wc => ∃ (kq : Nat) (x5_2 : ByteArray), v5 = .string x5_2 ∧ Aside0 (postriderlaw07_HeadFolds.j2 kq x5_2 = some r) ∧ Aside0 (kq ≤ k) ∧ Aside0 (Below w.heap.size w wc))
  case first =>
    have H := HC3.out
    clear HC3
    have H' := Aside0.mk H
    clear H
    go_wp2
    go_loopg [5, 18] k (fun kq v5 v18 w' => ∃ (x5_1 : ByteArray) (x18_1 : Int), v5 = .string x5_1 ∧ v18 = .int .i64 x18_1 ∧ Aside0 (postriderlaw07_HeadFolds.l0 kq a1 x5_1 l0 (l0.length : Int) x18_1 = some r) ∧ Aside0 (kq ≤ k) ∧ Aside0 (Below w.heap.size w w'))
    case atStart => exact ⟨((⟨#[]⟩ : ByteArray)), (0), (by first | rfl | (simp; done) | (simp [*]; done)), (by first | rfl | (simp; done) | (simp [*]; done)), H', ⟨Nat.le_refl _⟩, ⟨by repeat (first | (with_reducible first | exact HB.out | apply below_alloc | apply pw_below_drewN | apply below_drew1) | exact HB.out)⟩⟩
    case round =>
      clear H'
      try clear p2
      obtain ⟨x5_1, x18_1, rfl, rfl, HA, HK1, HB⟩ := hrel
      cases gk with
      | zero => exact absurd HA.out (by simp [postriderlaw07_HeadFolds.l0])
      | succ k1 =>
        have H := HA.out
        clear HA
        simp only [postriderlaw07_HeadFolds.l0] at H
        by_cases c4 : x18_1 < (l0.length : Int)
        · rw [if_pos c4] at H
          have c4b0 : decide (x18_1 < (l0.length : Int)) = true := decide_eq_true c4
          clear c4
          (first | rw [c4b0] | (simp only [i64_w, i32_w]; rw [c4b0]) | skip)
          by_cases c5 : 0 ≤ x18_1
          · rw [if_pos c5] at H
            have c5b0 : decide (0 ≤ x18_1) = true := decide_eq_true c5
            clear c5
            by_cases c6 : x18_1 < (l0.length : Int)
            · rw [if_pos c6] at H
              have c6b0 : decide (x18_1 < (l0.length : Int)) = true := decide_eq_true c6
              clear c6
              by_cases c7 : x18_1 = 60
              · rw [if_pos c7] at H
                have c7b0 : (x18_1 == 60) = true := beq_iff_eq.mpr c7
                have c7b1 : (x18_1 != 60) = false := bne_eq_false_iff_eq.mpr c7
                clear c7
                have H' := Aside0.mk H
                clear H
                have p207 : 0 ≤ (x18_1 : Int) := of_decide_eq_true (by first | (with_reducible assumption) | assumption)
                have q207 : x18_1 < (l0.length : Int) := of_decide_eq_true (by first | (with_reducible assumption) | assumption)
                obtain ⟨ad207, e207, hx207_0⟩ := Kd.at_string HR0.out x18_1 p207 q207
                cases e207
                replace hx207_0 := (HB.out.cell (World.block_lt_of_cell? w _ hx207_0)).trans hx207_0
                replace p207 := eq_true p207
                replace q207 := eq_true q207
                go_wp2
                go_meet
                case rel => exact ⟨_, (x5_1), (by first | rfl | (simp; done) | (simp [*]; done)), H', ⟨by have := HK1.out; first | omega | exact Nat.le_refl _⟩, ⟨by repeat (first | (with_reducible first | exact HB.out | apply below_alloc | apply pw_below_drewN | apply below_drew1) | exact HB.out)⟩⟩
              · rw [if_neg c7] at H
                have c7b0 : (x18_1 == 60) = false := beq_eq_false_iff_ne.mpr c7
                have c7b1 : (x18_1 != 60) = true := bne_iff_ne.mpr c7
                obtain ⟨ji8, hji8⟩ : ∃ j_ : Int, (mn ((rdOf ByteArray.empty l0 x18_1).size : Int) 40) = j_ := ⟨_, rfl⟩
                replace H : (if 0 ≤ (ji8) then (if (ji8) ≤ ((rdOf ByteArray.empty l0 x18_1).size : Int) then (if ((rdOf ByteArray.empty l0 x18_1).extract 0 ((ji8) : Int).toNat).size ≤ 9223372036854775807 then ((some (Kd.numsOf ((rdOf ByteArray.empty l0 x18_1).extract 0 ((ji8) : Int).toNat) : List Int)).bind fun y208 => (postriderlaw07_HeadFolds.l1 k1 a1 x5_1 x18_1 y208 l0 (l0.length : Int) x18_1 (y208.length : Int) 0)) else (none)) else (none)) else (none)) = some r := by first | (rw [hji8] at H; exact H) | (simp only [hji8] at H ⊢; exact H)
                have hji8_ : (if 40 < ((rdOf ByteArray.empty l0 x18_1).size : Int) then 40 else ((rdOf ByteArray.empty l0 x18_1).size : Int)) = ji8 := hji8
                by_cases c9 : 0 ≤ (ji8)
                · rw [if_pos c9] at H
                  have c9b0 := eq_true c9
                  have c9b1 : decide (0 ≤ (ji8)) = true := decide_eq_true c9
                  clear c9
                  by_cases c10 : (ji8) ≤ ((rdOf ByteArray.empty l0 x18_1).size : Int)
                  · rw [if_pos c10] at H
                    have c10b0 := eq_true c10
                    have c10b1 : decide ((ji8) ≤ ((rdOf ByteArray.empty l0 x18_1).size : Int)) = true := decide_eq_true c10
                    clear c10
                    obtain ⟨js11, hjs11⟩ : ∃ j_ : ByteArray, ((rdOf ByteArray.empty l0 x18_1).extract 0 ((ji8) : Int).toNat) = j_ := ⟨_, rfl⟩
                    replace H : (if js11.size ≤ 9223372036854775807 then ((some (Kd.numsOf js11 : List Int)).bind fun y208 => (postriderlaw07_HeadFolds.l1 k1 a1 x5_1 x18_1 y208 l0 (l0.length : Int) x18_1 (y208.length : Int) 0)) else (none)) = some r := by first | (rw [hjs11] at H; exact H) | (simp only [hjs11] at H ⊢; exact H)
                    by_cases c12 : js11.size ≤ 9223372036854775807
                    · rw [if_pos c12] at H
                      have c12b0 := eq_true c12
                      have c12b1 : decide (js11.size ≤ 9223372036854775807) = true := decide_eq_true c12
                      try have c12b2 : (9223372036854775807 < js11.size) = False := eq_false (Nat.not_lt.2 c12)
                      clear c12
                      obtain ⟨y208, hy208⟩ : ∃ y_ : List Int, y_ = (Kd.numsOf js11) := ⟨_, rfl⟩
                      replace H : (postriderlaw07_HeadFolds.l1 k1 a1 x5_1 x18_1 y208 l0 (l0.length : Int) x18_1 (y208.length : Int) 0) = some r := by first | (rw [hy208]; with_reducible exact H) | (have H2_ := (Option.bind_some _ _).symm.trans H; rw [hy208]; with_reducible exact H2_) | (have H2_ := (Option.bind_some _ _).symm.trans H; with_reducible exact H2_) | with_reducible exact H | (rw [hy208]; exact H) | exact H
                      have Ny208 := Aside0.mk hy208
                      clear hy208
                      have H' := Aside0.mk H
                      clear H
                      have p207 : 0 ≤ (x18_1 : Int) := of_decide_eq_true (by first | (with_reducible assumption) | assumption)
                      have q207 : x18_1 < (l0.length : Int) := of_decide_eq_true (by first | (with_reducible assumption) | assumption)
                      obtain ⟨ad207, e207, hx207_0⟩ := Kd.at_string HR0.out x18_1 p207 q207
                      cases e207
                      replace hx207_0 := (HB.out.cell (World.block_lt_of_cell? w _ hx207_0)).trans hx207_0
                      replace p207 := eq_true p207
                      replace q207 := eq_true q207
                      go_wp2_with (first | ((with_reducible refine gate_dst (N := 30) rfl ?_); (try (refine gate_guard (by rfl) ?_; dsimp only)); refine Kd.B_bytes _ 5 rfl (N := 30) rfl 9 39 _ js11 rfl rfl Tryd.underlying9 Tryd.underlying39 Tryd.underlying5 (ok := fun _ => True) trivial (of_decide_eq_true (by first | (with_reducible assumption) | assumption)) (Below.refl _ _) (Nat.le_refl _) ?_; intro v209 w13 ho14 hb hg_ hnew_; clear hg_ hnew_; (first | rw [← Ny208.out] at ho14 | (simp only [Int.reduceToNat] at ho14; rw [← Ny208.out] at ho14)); have n0_ := Aside0.mk (Kd.B_lower ho14 (below_size (by repeat (first | (with_reducible first | exact HB.out | apply below_alloc | apply pw_below_drewN | apply below_drew1) | exact HB.out)))); have n1_ := Aside0.mk (below_step (by repeat (first | (with_reducible first | exact HB.out | apply below_alloc | apply pw_below_drewN | apply below_drew1) | exact HB.out)) hb); clear HB; have HO210 := n0_; have HB := n1_; clear n0_ n1_; clear hb ho14; obtain ⟨Ao15, co15, eo15⟩ := Kd.B_slice HO210.out; subst eo15))
                      go_loopg [33] k1 (fun kq v33 w' => ∃ (x8_2 : List Int) (x33_2 : Int), v33 = .int .i64 x33_2 ∧ Aside0 (postriderlaw07_HeadFolds.l1 kq a1 x5_1 x18_1 x8_2 l0 (l0.length : Int) x18_1 (y208.length : Int) x33_2 = some r) ∧ Aside0 (kq ≤ k1) ∧ Aside0 (Kd.B (Kd.int .u8) 5 w' w.heap.size (fun _ => True) (.slice Ao15 y208.length co15) x8_2) ∧ Aside0 (Below w.heap.size w w'))
                      case atStart => exact ⟨(y208), (0), (by first | rfl | (simp; done) | (simp [*]; done)), H', ⟨Nat.le_refl _⟩, ⟨by (with_reducible repeat (first | apply Kd.B_alloc | apply Kd.B_drewN | apply Kd.B_drew)); exact HO210.out⟩, ⟨by repeat (first | (with_reducible first | exact HB.out | apply below_alloc | apply pw_below_drewN | apply below_drew1) | exact HB.out)⟩⟩
                      case round =>
                        clear H'
                        try clear c1
                        try clear p2
                        try clear q2
                        try clear hx2
                        try clear c4
                        try clear c4b0
                        try clear c5
                        try clear c5b0
                        try clear c6
                        try clear c6b0
                        try clear c7
                        try clear c7b0
                        try clear c7b1
                        try clear c9
                        try clear c9b0
                        try clear c9b1
                        try clear c10
                        try clear c10b0
                        try clear c10b1
                        try clear c12
                        try clear c12b0
                        try clear c12b1
                        try clear c12b2
                        try clear hx207_0
                        try clear p2
                        try clear p207
                        try clear q207
                        obtain ⟨x8_2, x33_2, rfl, HA, HK2, HO_8, HB⟩ := hrel
                        have hl8_2 := (Kd.B_reads' HO_8.out).1
                        rw [hl8_2] at HO_8
                        (try simp only [hl8_2])
                        cases gk with
                        | zero => exact absurd HA.out (by simp [postriderlaw07_HeadFolds.l1])
                        | succ k2 =>
                          have H := HA.out
                          clear HA
                          simp only [postriderlaw07_HeadFolds.l1] at H
                          by_cases c16 : x33_2 < (y208.length : Int)
                          · rw [if_pos c16] at H
                            have c16b0 : decide (x33_2 < (y208.length : Int)) = true := decide_eq_true c16
                            (try simp only [hl8_2] at c16b0)
                            clear c16
                            by_cases c17 : 0 ≤ x33_2
                            · rw [if_pos c17] at H
                              have c17b0 : decide (0 ≤ x33_2) = true := decide_eq_true c17
                              (try simp only [hl8_2] at c17b0)
                              clear c17
                              by_cases c18 : x33_2 < (x8_2.length : Int)
                              · rw [if_pos c18] at H
                                have c18b0 : decide (x33_2 < (x8_2.length : Int)) = true := decide_eq_true c18
                                (try simp only [hl8_2] at c18b0)
                                clear c18
                                obtain ⟨y212, hy212⟩ : ∃ y_ : List Int, y_ = (x8_2.set (x33_2 : Int).toNat ((97 + (Int.tmod (rd x8_2 x33_2) 26)) % 256)) := ⟨_, rfl⟩
                                replace H : (postriderlaw07_HeadFolds.l1 k2 a1 x5_1 x18_1 y212 l0 (l0.length : Int) x18_1 (y208.length : Int) (wrap64 (x33_2 + 1))) = some r := by first | (rw [hy212]; with_reducible exact H) | (have H2_ := (Option.bind_some _ _).symm.trans H; rw [hy212]; with_reducible exact H2_) | (have H2_ := (Option.bind_some _ _).symm.trans H; with_reducible exact H2_) | with_reducible exact H | (rw [hy212]; exact H) | exact H
                                have Ny212 := Aside0.mk hy212
                                clear hy212
                                have H' := Aside0.mk H
                                clear H
                                have p211 : 0 ≤ (x33_2 : Int) := of_decide_eq_true (by first | (with_reducible assumption) | assumption)
                                have q211 : x33_2 < (x8_2.length : Int) := of_decide_eq_true (by first | (with_reducible assumption) | assumption)
                                obtain ⟨ad211, e211, hx211_0⟩ := Kd.at_int (Kd.B_reads' HO_8.out).2.2 x33_2 p211 q211
                                cases e211
                                replace p211 := eq_true p211
                                replace q211 := eq_true q211
                                have p19 : 0 ≤ (x33_2 : Int) := of_decide_eq_true (by first | (with_reducible assumption) | assumption)
                                have q19 : (x33_2 : Int) < ((x8_2.length : Int) : Int) := of_decide_eq_true (by first | (with_reducible assumption) | assumption)
                                obtain ⟨go19, co19, eo19, gb19, gl19, cl19, HG19⟩ := Kd.B_form HO_8.out (by omega)
                                (first | cases eo19 | (injection eo19 with ea_ en_ ec_; (first | subst ea_ | (injection ea_ with ea_; subst ea_)); subst ec_; clear en_))
                                have GB19 := Aside0.mk gb19
                                have GG19 := Aside0.mk HG19
                                clear gb19 gl19 HG19
                                (first | simp only [add_plain] at hx211_0 | skip)
                                obtain ⟨hx19_0, hf19_0⟩ := Kd.B_celln 0 HO_8.out (x33_2 : Int) p19 q19
                                replace p19 := eq_true p19
                                replace q19 := eq_true q19
                                have HP20 := Kd.B_putg HO_8.out (x33_2 : Int) ((97 + (Int.tmod (rd x8_2 x33_2) 26)) % 256)
                                go_wp2_with (first | ((with_reducible refine gate_store (t := 5) (p := 44) rfl ?_); refine store_event (t := 5) (p := 44) (v := ?vo_w21) (w1 := (wr.setCell ⟨go19, (x33_2 : Int).toNat, none⟩ (.int .u8 ((97 + (Int.tmod (rd x8_2 x33_2) 26)) % 256)))) ?hg ?ho ?hn ?hr ?_; (case ho => rfl); (case hg => rfl); (case hn => rfl); (case hr => first | (go_simp; done) | (go_simp; rfl)); intro w21 hw; have hg : wr.grownBy w21 (some go19) := (by rw [hw]; exact HP20.2); have hp_ : Kd.B (Kd.int .u8) 5 w21 w.heap.size (fun _ => True) (.slice (some ⟨go19, 0, none⟩) x8_2.length co15) y212 := (by rw [hw, Ny212.out]; exact HP20.1); clear HP20; have n0_ := Aside0.mk (hp_); have n1_ := Aside0.mk ((by rw [hw]; exact below_set (HB.out) GB19.out : Below w.heap.size w w21)); clear HO_8; clear HB; have HO_8 := n0_; have HB := n1_; clear n0_ n1_; clear hg hw hp_))
                                (try simp only [← hl8_2])
                                go_roundg k2
                                case measure => have := HK1.out; have := HK2.out; omega
                                case rel => exact ⟨(y212), (wrap64 (x33_2 + 1)), (by first | rfl | (simp; done) | (simp [*]; done)), H', ⟨by have := HK1.out; have := HK2.out; omega⟩, ⟨by (try simp only [hl8_2]); (with_reducible repeat (first | apply Kd.B_alloc | apply Kd.B_drewN | apply Kd.B_drew)); exact HO_8.out⟩, ⟨by repeat (first | (with_reducible first | exact HB.out | apply below_alloc | apply pw_below_drewN | apply below_drew1) | exact HB.out)⟩⟩
                              · rw [if_neg c18] at H
                                exact absurd H (by simp)
                            · rw [if_neg c17] at H
                              exact absurd H (by simp)
                          · rw [if_neg c16] at H
                            have c16b0 : decide (x33_2 < (y208.length : Int)) = false := decide_eq_false c16
                            (try simp only [hl8_2] at c16b0)
                            clear c16
                            by_cases c22 : (strOfNums x8_2).size + 1 ≤ 9223372036854775807
                            · rw [if_pos c22] at H
                              have c22b0 := eq_true c22
                              have c22b1 : decide ((strOfNums x8_2).size + 1 ≤ 9223372036854775807) = true := decide_eq_true c22
                              try have c22b2 : (9223372036854775807 < (strOfNums x8_2).size + 1) = False := eq_false (Nat.not_lt.2 c22)
                              by_cases c23 : x5_1.size + ((strOfNums x8_2) ++ (⟨#[44]⟩ : ByteArray)).size ≤ 9223372036854775807
                              · rw [if_pos c23] at H
                                have c23b0 := eq_true c23
                                have c23b1 : decide (x5_1.size + ((strOfNums x8_2) ++ (⟨#[44]⟩ : ByteArray)).size ≤ 9223372036854775807) = true := decide_eq_true c23
                                try have c23b2 : (9223372036854775807 < x5_1.size + ((strOfNums x8_2) ++ (⟨#[44]⟩ : ByteArray)).size) = False := eq_false (Nat.not_lt.2 c23)
                                try (have c23b2y := c23b2; rw [ByteArray.size_append] at c23b2y)
                                try have c23b2z : (9223372036854775807 < x5_1.size + ((strOfNums x8_2).size + 1)) = False := eq_false (fun h_ => by have g_ := c23; simp only [ByteArray.size_append, show (⟨#[44]⟩ : ByteArray).size = 1 from rfl] at g_; omega)
                                by_cases c24 : 0 ≤ x18_1
                                · rw [if_pos c24] at H
                                  have c24b0 := eq_true c24
                                  have c24b1 : decide (0 ≤ x18_1) = true := decide_eq_true c24
                                  clear c24
                                  obtain ⟨ji25, hji25⟩ : ∃ j_ : Int, (shr .u64 a1 x18_1) = j_ := ⟨_, rfl⟩
                                  replace H : (if (Go.bits .and .u64 (ji25) 1) = 0 then (if (x5_1 ++ ((strOfNums x8_2) ++ (⟨#[44]⟩ : ByteArray))).size + 1 ≤ 9223372036854775807 then (postriderlaw07_HeadFolds.l0 k2 a1 ((x5_1 ++ ((strOfNums x8_2) ++ (⟨#[44]⟩ : ByteArray))) ++ (⟨#[32]⟩ : ByteArray)) l0 (l0.length : Int) (wrap64 (x18_1 + 1))) else (none)) else (postriderlaw07_HeadFolds.l0 k2 a1 (x5_1 ++ ((strOfNums x8_2) ++ (⟨#[44]⟩ : ByteArray))) l0 (l0.length : Int) (wrap64 (x18_1 + 1)))) = some r := by first | (rw [hji25] at H; exact H) | (simp only [hji25] at H ⊢; exact H)
                                  have hji25_ : (a1 / 2 ^ min x18_1.toNat 64) = ji25 := hji25
                                  have hji25z : x18_1 ≤ 64 → (a1 / 2 ^ x18_1.toNat) = ji25 := shr_small hji25
                                  by_cases c26 : (Go.bits .and .u64 (ji25) 1) = 0
                                  · rw [if_pos c26] at H
                                    have c26b0 : ((Go.bits .and .u64 (ji25) 1) == 0) = true := beq_iff_eq.mpr c26
                                    have c26b1 : ((Go.bits .and .u64 (ji25) 1) != 0) = false := bne_eq_false_iff_eq.mpr c26
                                    clear c26
                                    by_cases c27 : (x5_1 ++ ((strOfNums x8_2) ++ (⟨#[44]⟩ : ByteArray))).size + 1 ≤ 9223372036854775807
                                    · rw [if_pos c27] at H
                                      have c27b0 := eq_true c27
                                      have c27b1 : decide ((x5_1 ++ ((strOfNums x8_2) ++ (⟨#[44]⟩ : ByteArray))).size + 1 ≤ 9223372036854775807) = true := decide_eq_true c27
                                      try have c27b2 : (9223372036854775807 < (x5_1 ++ ((strOfNums x8_2) ++ (⟨#[44]⟩ : ByteArray))).size + 1) = False := eq_false (Nat.not_lt.2 c27)
                                      try (have c27b2y := c27b2; rw [ByteArray.size_append] at c27b2y)
                                      try have c27b2z : (9223372036854775807 < x5_1.size + ((strOfNums x8_2).size + 1) + 1) = False := eq_false (fun h_ => by have g_ := c27; simp only [ByteArray.size_append, show (⟨#[44]⟩ : ByteArray).size = 1 from rfl] at g_; omega)
                                      have H' := Aside0.mk H
                                      clear H
                                      have hcv28 := Kd.B_string (P := Tryd.prog) Tryd.underlying39 Tryd.underlying5 Tryd.underlying9 HO_8.out
                                      go_wp2
                                      (try simp only [← hl8_2])
                                      go_roundg k2
                                      case measure => have := HK1.out; have := HK2.out; omega
                                      case rel => exact ⟨((x5_1 ++ ((strOfNums x8_2) ++ (⟨#[44]⟩ : ByteArray))) ++ (⟨#[32]⟩ : ByteArray)), (wrap64 (x18_1 + 1)), (by first | rfl | (simp; done) | (simp [*]; done)), (by first | rfl | (simp; done) | (simp [*]; done)), H', ⟨by have := HK1.out; have := HK2.out; omega⟩, ⟨by repeat (first | (with_reducible first | exact HB.out | apply below_alloc | apply pw_below_drewN | apply below_drew1) | exact HB.out)⟩⟩
                                    · rw [if_neg c27] at H
                                      exact absurd H (by simp)
                                  · rw [if_neg c26] at H
                                    have c26b0 : ((Go.bits .and .u64 (ji25) 1) == 0) = false := beq_eq_false_iff_ne.mpr c26
                                    have c26b1 : ((Go.bits .and .u64 (ji25) 1) != 0) = true := bne_iff_ne.mpr c26
                                    have H' := Aside0.mk H
                                    clear H
                                    have hcv29 := Kd.B_string (P := Tryd.prog) Tryd.underlying39 Tryd.underlying5 Tryd.underlying9 HO_8.out
                                    go_wp2
                                    (try simp only [← hl8_2])
                                    go_roundg k2
                                    case measure => have := HK1.out; have := HK2.out; omega
                                    case rel => exact ⟨(x5_1 ++ ((strOfNums x8_2) ++ (⟨#[44]⟩ : ByteArray))), (wrap64 (x18_1 + 1)), (by first | rfl | (simp; done) | (simp [*]; done)), (by first | rfl | (simp; done) | (simp [*]; done)), H', ⟨by have := HK1.out; have := HK2.out; omega⟩, ⟨by repeat (first | (with_reducible first | exact HB.out | apply below_alloc | apply pw_below_drewN | apply below_drew1) | exact HB.out)⟩⟩
                                · rw [if_neg c24] at H
                                  exact absurd H (by simp)
                              · rw [if_neg c23] at H
                                exact absurd H (by simp)
                            · rw [if_neg c22] at H
                              exact absurd H (by simp)
                    · rw [if_neg c12] at H
                      exact absurd H (by simp)
                  · rw [if_neg c10] at H
                    exact absurd H (by simp)
                · rw [if_neg c9] at H
                  exact absurd H (by simp)
            · rw [if_neg c6] at H
              exact absurd H (by simp)
          · rw [if_neg c5] at H
            exact absurd H (by simp)
        · rw [if_neg c4] at H
          have c4b0 : decide (x18_1 < (l0.length : Int)) = false := decide_eq_false c4
          clear c4
          (first | rw [c4b0] | (simp only [i64_w, i32_w]; rw [c4b0]) | skip)
          have H' := Aside0.mk H
          clear H
          go_wp2
          go_meet
          case rel => exact ⟨_, (x5_1), (by first | rfl | (simp; done) | (simp [*]; done)), H', ⟨by have := HK1.out; first | omega | exact Nat.le_refl _⟩, ⟨by repeat (first | (with_reducible first | exact HB.out | apply below_alloc | apply pw_below_drewN | apply below_drew1) | exact HB.out)⟩⟩
  case rest =>
    clear HC3
    try clear c1
    try clear p1
    try clear q1
    try clear hx1
    try clear c2
    try clear p2
    try clear q2
    try clear hx2
    try clear hcv2
    try clear c4
    try clear c4b0
    try clear c5
    try clear c5b0
    try clear c6
    try clear c6b0
    try clear p6
    try clear c7
    try clear c7b0
    try clear c7b1
    try clear c9
    try clear c9b0
    try clear c9b1
    try clear c10
    try clear c10b0
    try clear c10b1
    try clear c12
    try clear c12b0
    try clear c12b1
    try clear c12b2
    try clear c16
    try clear c16b0
    try clear c17
    try clear c17b0
    try clear c18
    try clear c18b0
    try clear p19
    try clear q19
    try clear hx19
    try clear hf19
    try clear p20
    try clear q20
    try clear hx20
    try clear p21
    try clear q21
    try clear hx21
    try clear c22
    try clear c22b0
    try clear c22b1
    try clear c22b2
    try clear c23
    try clear c23b0
    try clear c23b1
    try clear c23b2
    try clear c24
    try clear c24b0
    try clear c24b1
    try clear c26
    try clear c26b0
    try clear c26b1
    try clear c27
    try clear c27b0
    try clear c27b1
    try clear c27b2
    try clear hcv28
    try clear hcv29
    try clear hx19_0
    try clear hx207_0
    try clear hx211_0
    try clear p19
    try clear p2
    try clear p207
    try clear p211
    try clear q19
    try clear q2
    try clear q207
    try clear q211
    obtain ⟨kq, x5_2, rfl, HA, HJ2, HB⟩ := hcut
    cases kq with
    | zero => exact absurd HA.out (by simp [postriderlaw07_HeadFolds.j2])
    | succ kj2 =>
      have H := HA.out
      clear HA
      simp only [postriderlaw07_HeadFolds.j2] at H
      replace H := Option.bind_eq_some_iff.mp H
      obtain ⟨⟨t213, t214, t215, t216⟩, A300, H⟩ := H
      replace H : (if t216 = 0 then (if t213.toList = ([84, 111] : List UInt8) then ((strings_Trim.f x5_2 (⟨#[32]⟩ : ByteArray)).bind fun t218 => (if t214.toList = t218.toList then ((strings_HasSuffix.f t215 (⟨#[13, 10]⟩ : ByteArray)).bind fun t219 => (postriderlaw07_HeadFolds.j3 kj2 x5_2 (!t219) t213 t214 t215)) else (postriderlaw07_HeadFolds.j3 kj2 x5_2 true t213 t214 t215))) else (postriderlaw07_HeadFolds.j3 kj2 x5_2 true t213 t214 t215)) else (postriderlaw07_HeadFolds.j3 kj2 x5_2 true t213 t214 t215)) = some r := H
      have A30 := Aside0.mk A300
      clear A300
      have HC31 := Aside0.mk H
      clear H
      go_upto_region 17 with (first | ((with_reducible refine gate_callee (f := 14) rfl ?_); refine goesL_ (some 61) rfl rfl Tryd.func14 (by kernel_rfl) rfl #[.string (⟨#[84, 111]⟩ : ByteArray), .string x5_2] rfl (by (try simp only [List.map_toArray, List.map_cons, List.map_nil]); first | done | rfl | (simp only [List.length_drop, List.length_take]; rfl)) ?_; (with_reducible refine (head_Lay.calls kj2 (⟨#[84, 111]⟩ : ByteArray) x5_2 t213 t214 t215 t216 _ ?side1 A30.out).mono ?_); (case side1 => exact Glob.below HG.out (by repeat (first | (with_reducible first | exact HB.out | apply below_alloc | apply pw_below_drewN | apply below_drew1) | exact HB.out))); rintro e w32 ⟨rfl, hb⟩; refine ⟨_, rfl, ?_⟩; have n0_ := Aside0.mk (below_step (by repeat (first | (with_reducible first | exact HB.out | apply below_alloc | apply pw_below_drewN | apply below_drew1) | exact HB.out)) hb); clear HB; have HB := n0_; clear n0_; (try clear hb); (try clear hb2); (try clear hk); (try clear hi)) | ((with_reducible refine gate_dst (N := 10) rfl ?_); (try (refine gate_guard (by rfl) ?_; dsimp only)); refine box_event ?hg (N := 10) ?hd (cs := #[.string (⟨#[]⟩ : ByteArray), .string (⟨#[]⟩ : ByteArray), .string (⟨#[]⟩ : ByteArray)]) (t := 41) ?hr ?_; (case hd => rfl); (case hg => rfl); (case hr => first | (go_simp; done) | (go_simp; rfl)); intro gb217 hg w33 hbox hb; have n0_ := Aside0.mk (below_step (by repeat (first | (with_reducible first | exact HB.out | apply below_alloc | apply pw_below_drewN | apply below_drew1) | exact HB.out)) hb); have n1_ := Aside0.mk (hbox); have n2_ := Aside0.mk ((by rw [hg]; exact (below_size (by repeat (first | (with_reducible first | exact HB.out | apply below_alloc | apply pw_below_drewN | apply below_drew1) | exact HB.out))) : w.heap.size ≤ gb217)); have n3_ := Aside0.mk ((by rw [hg]; exact (below_size (by repeat (first | (with_reducible first | exact HB.out | apply below_alloc | apply pw_below_drewN | apply below_drew1) | exact HB.out))) : w.heap.size ≤ gb217)); clear HB; have HB := n0_; have BK217 := n1_; have GW217 := n2_; have GE217 := n3_; clear n0_ n1_ n2_ n3_; clear hb hbox hg; have hcz34_0 : w33.cell? ⟨gb217, 0, none⟩ = some (.string (⟨#[]⟩ : ByteArray)) := (blk_cell BK217.out 0).trans rfl; have hcz34_1 : w33.cell? ⟨gb217, 1, none⟩ = some (.string (⟨#[]⟩ : ByteArray)) := (blk_cell BK217.out 1).trans rfl; have hcz34_2 : w33.cell? ⟨gb217, 2, none⟩ = some (.string (⟨#[]⟩ : ByteArray)) := (blk_cell BK217.out 2).trans rfl; have hfz34_0 := blk_frozen BK217.out 0; have hfz34_1 := blk_frozen BK217.out 1; have hfz34_2 := blk_frozen BK217.out 2))
      (try simp only [Act.put, List.setIfInBounds_toArray, List.set_cons_zero, List.set_cons_succ])
      go_cut [83] (fun v83 wc => ∃ (kq : Nat) (x83_30 : Bool), v83 = .bool x83_30 ∧ Aside0 (postriderlaw07_HeadFolds.j3 kq x5_2 x83_30 t213 t214 t215 = some r) ∧ Aside0 (kq ≤ kj2) ∧ Aside0 (wc.heap[gb217]? = some (.cells #[.string t213, .string t214, .string t215] 41 (0, 0))) ∧ Aside0 (Below w.heap.size w wc))
      case first =>
        have H := HC31.out
        clear HC31
        by_cases c35 : t216 = 0
        · rw [if_pos c35] at H
          have c35b0 : (t216 == 0) = true := beq_iff_eq.mpr c35
          have c35b1 : (t216 != 0) = false := bne_eq_false_iff_eq.mpr c35
          clear c35
          (first | rw [c35b0] | (simp only [i64_w, i32_w]; rw [c35b0]) | skip)
          by_cases c36 : t213.toList = ([84, 111] : List UInt8)
          · rw [if_pos c36] at H
            have c36b0 : (t213.toList == ([84, 111] : List UInt8)) = true := beq_iff_eq.mpr c36
            have c36b1 : (t213.toList != ([84, 111] : List UInt8)) = false := bne_eq_false_iff_eq.mpr c36
            clear c36
            replace H := Option.bind_eq_some_iff.mp H
            obtain ⟨t218, A370, H⟩ := H
            replace H : (if t214.toList = t218.toList then ((strings_HasSuffix.f t215 (⟨#[13, 10]⟩ : ByteArray)).bind fun t219 => (postriderlaw07_HeadFolds.j3 kj2 x5_2 (!t219) t213 t214 t215)) else (postriderlaw07_HeadFolds.j3 kj2 x5_2 true t213 t214 t215)) = some r := H
            have A37 := Aside0.mk A370
            clear A370
            by_cases c38 : t214.toList = t218.toList
            · rw [if_pos c38] at H
              have c38b0 : (t214.toList == t218.toList) = true := beq_iff_eq.mpr c38
              have c38b1 : (t214.toList != t218.toList) = false := bne_eq_false_iff_eq.mpr c38
              clear c38
              replace H := Option.bind_eq_some_iff.mp H
              obtain ⟨t219, A390, H⟩ := H
              replace H : (postriderlaw07_HeadFolds.j3 kj2 x5_2 (!t219) t213 t214 t215) = some r := H
              have A39 := Aside0.mk A390
              clear A390
              have H' := Aside0.mk H
              clear H
              try go_wp2
              have n0_ : Aside0 ((((w33.setCell ⟨gb217, 0, none⟩ (.string t213)).setCell ⟨gb217, 1, none⟩ (.string t214)).setCell ⟨gb217, 2, none⟩ (.string t215)).heap[gb217]? = some (.cells #[.string t213, .string t214, .string t215] 41 (0, 0))) := ⟨by (with_reducible repeat (first | refine blk_drewN ?_ _ | refine blk_drew ?_ | refine blk_alloc ?_ _)); refine blk_put (cs := #[.string t213, .string t214, .string (⟨#[]⟩ : ByteArray)]) ?_ 2 _ rfl; (with_reducible repeat (first | refine blk_drewN ?_ _ | refine blk_drew ?_ | refine blk_alloc ?_ _)); refine blk_put (cs := #[.string t213, .string (⟨#[]⟩ : ByteArray), .string (⟨#[]⟩ : ByteArray)]) ?_ 1 _ rfl; (with_reducible repeat (first | refine blk_drewN ?_ _ | refine blk_drew ?_ | refine blk_alloc ?_ _)); refine blk_put (cs := #[.string (⟨#[]⟩ : ByteArray), .string (⟨#[]⟩ : ByteArray), .string (⟨#[]⟩ : ByteArray)]) ?_ 0 _ rfl; (with_reducible repeat (first | refine blk_drewN ?_ _ | refine blk_drew ?_ | refine blk_alloc ?_ _)); exact BK217.out⟩
              have n1_ : Aside0 (Below w.heap.size w (((w33.setCell ⟨gb217, 0, none⟩ (.string t213)).setCell ⟨gb217, 1, none⟩ (.string t214)).setCell ⟨gb217, 2, none⟩ (.string t215))) := ⟨by repeat (first | (with_reducible first | exact HB.out | apply below_alloc | apply pw_below_drewN | apply below_drew1 | refine below_set ?_ GE217.out) | exact HB.out)⟩
              (try clear BK217)
              (try clear HB)
              generalize (((w33.setCell ⟨gb217, 0, none⟩ (.string t213)).setCell ⟨gb217, 1, none⟩ (.string t214)).setCell ⟨gb217, 2, none⟩ (.string t215)) = w40 at n0_ n1_ ⊢
              have BK217 := n0_
              have HB := n1_
              clear n0_ n1_
              have n0_ := Aside0.mk (blk_drew BK217.out)
              have n1_ := Aside0.mk (below_drew1 HB.out)
              clear BK217
              clear HB
              have BK217 := n0_
              have HB := n1_
              clear n0_ n1_
              refine start_ (n := 20) (S := fun w' => w'.cell? ⟨gb217, 0, none⟩ = some (.string t213) ∧ w'.cell? ⟨gb217, 1, none⟩ = some (.string t214) ∧ w'.cell? ⟨gb217, 2, none⟩ = some (.string t215)) (ds := []) #[false, false, false, false, false, false, false, false, false, false, false, false, false, false, false, false, false, false, false, false] (by kernel_rfl) rfl rfl ⟨(blk_cell BK217.out 0).trans rfl, (blk_cell BK217.out 1).trans rfl, (blk_cell BK217.out 2).trans rfl⟩ (fun hHeld => ?_); refine with_tabW postriderlaw07_HeadFolds.tab17 postriderlaw07_HeadFolds.bits17 (fun HT_ HW_ => ?_)
              generalize w40.drew = w41 at BK217 HB hHeld ⊢
              refine pure_ (i := 0) (N := some 64) (v := ?_) (a' := ?_) #[true, false, false, false, false, false, false, false, false, false, false, false, false, false, false, false, false, false, false, false] rfl rfl (any_of HT_.out (by kernel_rfl)) (fun _ _ _ h => h) (Or.inl ⟨by rfl, ?_⟩) ?_ ?_
              rotate_left
              · intro w'
                go_simp
                with_reducible rfl
              rotate_left
              · simp only [Act.put, List.setIfInBounds_toArray, List.set_cons_zero, List.set_cons_succ, i64_w, i32_w]
                rfl
              refine pure_ (i := 1) (N := some 65) (v := ?_) (a' := ?_) #[true, true, false, false, false, false, false, false, false, false, false, false, false, false, false, false, false, false, false, false] rfl rfl (any_of HT_.out (by kernel_rfl)) (fun _ _ _ h => h) (Or.inl ⟨by rfl, ?_⟩) ?_ ?_
              rotate_left
              · intro w'
                go_simp
                with_reducible rfl
              rotate_left
              · simp only [Act.put, List.setIfInBounds_toArray, List.set_cons_zero, List.set_cons_succ, i64_w, i32_w]
                rfl
              refine pure_ (i := 2) (N := some 66) (v := ?_) (a' := ?_) #[true, true, true, false, false, false, false, false, false, false, false, false, false, false, false, false, false, false, false, false] rfl rfl (any_of HT_.out (by kernel_rfl)) (fun _ _ _ h => h) (Or.inl ⟨by rfl, ?_⟩) ?_ ?_
              rotate_left
              · intro w'
                go_simp
                with_reducible rfl
              rotate_left
              · simp only [Act.put, List.setIfInBounds_toArray, List.set_cons_zero, List.set_cons_succ, i64_w, i32_w]
                rfl
              refine pure_ (i := 3) (N := some 67) (v := ?_) (a' := ?_) #[true, true, true, true, false, false, false, false, false, false, false, false, false, false, false, false, false, false, false, false] rfl rfl (any_of HT_.out (by kernel_rfl)) (fun _ _ _ h => h) (Or.inl ⟨by rfl, ?_⟩) ?_ ?_
              rotate_left
              · intro w'
                go_simp
                with_reducible rfl
              rotate_left
              · simp only [Act.put, List.setIfInBounds_toArray, List.set_cons_zero, List.set_cons_succ, i64_w, i32_w]
                rfl
              refine take_ (i := 4) (N := some 68) (v := ?_) (a' := ?_) #[true, true, true, true, true, false, false, false, false, false, false, false, false, false, false, false, false, false, false, false] rfl rfl (take_ofW HT_.out HW_.out (by kernel_rfl)) (fun _ _ _ h => h) (Or.inl ⟨by rfl, ?_⟩) hHeld ?_ ?_
              rotate_left
              · rintro w' ⟨s0, s1, s2⟩
                go_simp
                with_reducible rfl
              rotate_left
              · simp only [Act.put, List.setIfInBounds_toArray, List.set_cons_zero, List.set_cons_succ, i64_w, i32_w]
                rfl
              refine pure_ (i := 5) (N := some 69) (v := ?_) (a' := ?_) #[true, true, true, true, true, true, false, false, false, false, false, false, false, false, false, false, false, false, false, false] rfl rfl (any_of HT_.out (by kernel_rfl)) (fun _ _ _ h => h) (Or.inl ⟨by rfl, ?_⟩) ?_ ?_
              rotate_left
              · intro w'
                go_simp
                with_reducible rfl
              rotate_left
              · simp only [Act.put, List.setIfInBounds_toArray, List.set_cons_zero, List.set_cons_succ, i64_w, i32_w]
                rfl
              refine pure_ (i := 6) (N := some 70) (v := ?_) (a' := ?_) #[true, true, true, true, true, true, true, false, false, false, false, false, false, false, false, false, false, false, false, false] rfl rfl (any_of HT_.out (by kernel_rfl)) (fun _ _ _ h => h) (Or.inl ⟨by rfl, ?_⟩) ?_ ?_
              rotate_left
              · intro w'
                go_simp
                with_reducible rfl
              rotate_left
              · simp only [Act.put, List.setIfInBounds_toArray, List.set_cons_zero, List.set_cons_succ, i64_w, i32_w]
                rfl
              refine pure_ (i := 7) (N := some 71) (v := ?_) (a' := ?_) #[true, true, true, true, true, true, true, true, false, false, false, false, false, false, false, false, false, false, false, false] rfl rfl (any_of HT_.out (by kernel_rfl)) (fun _ _ _ h => h) (Or.inl ⟨by rfl, ?_⟩) ?_ ?_
              rotate_left
              · intro w'
                go_simp
                with_reducible rfl
              rotate_left
              · simp only [Act.put, List.setIfInBounds_toArray, List.set_cons_zero, List.set_cons_succ, i64_w, i32_w]
                rfl
              refine pure_ (i := 8) (N := some 72) (v := ?_) (a' := ?_) #[true, true, true, true, true, true, true, true, true, false, false, false, false, false, false, false, false, false, false, false] rfl rfl (any_of HT_.out (by kernel_rfl)) (fun _ _ _ h => h) (Or.inl ⟨by rfl, ?_⟩) ?_ ?_
              rotate_left
              · intro w'
                go_simp
                with_reducible rfl
              rotate_left
              · simp only [Act.put, List.setIfInBounds_toArray, List.set_cons_zero, List.set_cons_succ, i64_w, i32_w]
                rfl
              refine pure_ (i := 10) (N := some 74) (v := ?_) (a' := ?_) #[true, true, true, true, true, true, true, true, true, false, true, false, false, false, false, false, false, false, false, false] rfl rfl (any_of HT_.out (by kernel_rfl)) (fun _ _ _ h => h) (Or.inl ⟨by rfl, ?_⟩) ?_ ?_
              rotate_left
              · intro w'
                go_simp
                with_reducible rfl
              rotate_left
              · simp only [Act.put, List.setIfInBounds_toArray, List.set_cons_zero, List.set_cons_succ, i64_w, i32_w]
                rfl
              refine take_ (i := 9) (N := some 73) (v := ?_) (a' := ?_) #[true, true, true, true, true, true, true, true, true, true, true, false, false, false, false, false, false, false, false, false] rfl rfl (take_ofW HT_.out HW_.out (by kernel_rfl)) (fun _ _ _ h => h) (Or.inl ⟨by rfl, ?_⟩) hHeld ?_ ?_
              rotate_left
              · rintro w' ⟨s0, s1, s2⟩
                go_simp
                with_reducible rfl
              rotate_left
              · simp only [Act.put, List.setIfInBounds_toArray, List.set_cons_zero, List.set_cons_succ, i64_w, i32_w]
                rfl
              refine one_ (i := 11) (N := some 75) #[true, true, true, true, true, true, true, true, true, true, true, true, false, false, false, false, false, false, false, false] rfl rfl (one_of HT_.out (by kernel_rfl)) (by decide) (fun K hK => ?_)
              refine goes_ Tryd.func15 (by kernel_rfl) rfl #[.string x5_2, .string (⟨#[32]⟩ : ByteArray)] (by rfl) rfl rfl (by (try simp only [List.map_toArray, List.map_cons, List.map_nil]); first | done | rfl | (simp only [List.length_drop, List.length_take]; rfl)) ?_
              with_reducible refine (strings_Trim.calls x5_2 (⟨#[32]⟩ : ByteArray) t218 _ A37.out).mono ?_
              rintro e w42 ⟨rfl, hb⟩
              refine ⟨_, rfl, ?_⟩
              have n0_ := Aside0.mk (blk_below (g := gb217) (o := .cells #[.string t213, .string t214, .string t215] 41 (0, 0)) (by (with_reducible repeat (first | refine blk_drewN ?_ _ | refine blk_drew ?_ | refine blk_alloc ?_ _)); exact BK217.out) hb)
              have n1_ := Aside0.mk (below_step (by repeat (first | (with_reducible first | exact HB.out | apply below_alloc | apply pw_below_drewN | apply below_drew1 | refine below_set ?_ GE217.out) | exact HB.out)) hb)
              clear BK217
              clear HB
              have BK217 := n0_
              have HB := n1_
              clear n0_ n1_
              (try clear hb)
              (try clear hb2)
              (try clear hk)
              (try clear hi)
              refine hK.out _ _ ⟨(blk_cell BK217.out 0).trans rfl, (blk_cell BK217.out 1).trans rfl, (blk_cell BK217.out 2).trans rfl⟩ (fun hHeld => ?_)
              clear hK K
              refine norm_ (a' := ?_) ?_ ?_
              rotate_left
              · show Act.put _ (some 75) _ = _
                simp only [Act.put, List.setIfInBounds_toArray, List.set_cons_zero, List.set_cons_succ, i64_w, i32_w]
                rfl
              refine pure_ (i := 12) (N := some 76) (v := ?_) (a' := ?_) #[true, true, true, true, true, true, true, true, true, true, true, true, true, false, false, false, false, false, false, false] rfl rfl (any_of HT_.out (by kernel_rfl)) (fun _ _ _ h => h) (Or.inl ⟨by rfl, ?_⟩) ?_ ?_
              rotate_left
              · intro w'
                go_simp
                with_reducible rfl
              rotate_left
              · simp only [Act.put, List.setIfInBounds_toArray, List.set_cons_zero, List.set_cons_succ, i64_w, i32_w]
                rfl
              refine pure_ (i := 13) (N := some 77) (v := ?_) (a' := ?_) #[true, true, true, true, true, true, true, true, true, true, true, true, true, true, false, false, false, false, false, false] rfl rfl (any_of HT_.out (by kernel_rfl)) (fun _ _ _ h => h) (Or.inl ⟨by rfl, ?_⟩) ?_ ?_
              rotate_left
              · intro w'
                go_simp
                with_reducible rfl
              rotate_left
              · simp only [Act.put, List.setIfInBounds_toArray, List.set_cons_zero, List.set_cons_succ, i64_w, i32_w]
                rfl
              refine pure_ (i := 14) (N := some 78) (v := ?_) (a' := ?_) #[true, true, true, true, true, true, true, true, true, true, true, true, true, true, true, false, false, false, false, false] rfl rfl (any_of HT_.out (by kernel_rfl)) (fun _ _ _ h => h) (Or.inl ⟨by rfl, ?_⟩) ?_ ?_
              rotate_left
              · intro w'
                go_simp
                with_reducible rfl
              rotate_left
              · simp only [Act.put, List.setIfInBounds_toArray, List.set_cons_zero, List.set_cons_succ, i64_w, i32_w]
                rfl
              refine pure_ (i := 15) (N := some 79) (v := ?_) (a' := ?_) #[true, true, true, true, true, true, true, true, true, true, true, true, true, true, true, true, false, false, false, false] rfl rfl (any_of HT_.out (by kernel_rfl)) (fun _ _ _ h => h) (Or.inl ⟨by rfl, ?_⟩) ?_ ?_
              rotate_left
              · intro w'
                go_simp
                with_reducible rfl
              rotate_left
              · simp only [Act.put, List.setIfInBounds_toArray, List.set_cons_zero, List.set_cons_succ, i64_w, i32_w]
                rfl
              refine take_ (i := 16) (N := some 80) (v := ?_) (a' := ?_) #[true, true, true, true, true, true, true, true, true, true, true, true, true, true, true, true, true, false, false, false] rfl rfl (take_ofW HT_.out HW_.out (by kernel_rfl)) (fun _ _ _ h => h) (Or.inl ⟨by rfl, ?_⟩) hHeld ?_ ?_
              rotate_left
              · rintro w' ⟨s0, s1, s2⟩
                go_simp
                with_reducible rfl
              rotate_left
              · simp only [Act.put, List.setIfInBounds_toArray, List.set_cons_zero, List.set_cons_succ, i64_w, i32_w]
                rfl
              refine one_ (i := 17) (N := some 81) #[true, true, true, true, true, true, true, true, true, true, true, true, true, true, true, true, true, true, false, false] rfl rfl (one_of HT_.out (by kernel_rfl)) (by decide) (fun K hK => ?_)
              refine goes_ Tryd.func16 (by kernel_rfl) rfl #[.string t215, .string (⟨#[13, 10]⟩ : ByteArray)] (by rfl) rfl rfl (by (try simp only [List.map_toArray, List.map_cons, List.map_nil]); first | done | rfl | (simp only [List.length_drop, List.length_take]; rfl)) ?_
              with_reducible refine (strings_HasSuffix.calls t215 (⟨#[13, 10]⟩ : ByteArray) t219 _ A39.out).mono ?_
              rintro e w' ⟨rfl, ⟨nd, rfl⟩⟩
              refine ⟨_, rfl, ?_⟩
              refine hK.out _ _ ⟨(blk_cell BK217.out 0).trans rfl, (blk_cell BK217.out 1).trans rfl, (blk_cell BK217.out 2).trans rfl⟩ (fun hHeld => ?_)
              clear hK K
              refine norm_ (a' := ?_) ?_ ?_
              rotate_left
              · show Act.put _ (some 81) _ = _
                simp only [Act.put, List.setIfInBounds_toArray, List.set_cons_zero, List.set_cons_succ, i64_w, i32_w]
                rfl
              refine pure_ (i := 18) (N := some 82) (v := ?_) (a' := ?_) #[true, true, true, true, true, true, true, true, true, true, true, true, true, true, true, true, true, true, true, false] rfl rfl (any_of HT_.out (by kernel_rfl)) (fun _ _ _ h => h) (Or.inl ⟨by rfl, ?_⟩) ?_ ?_
              rotate_left
              · intro w'
                go_simp
                with_reducible rfl
              rotate_left
              · simp only [Act.put, List.setIfInBounds_toArray, List.set_cons_zero, List.set_cons_succ, i64_w, i32_w]
                rfl
              refine pure_ (i := 19) (N := some 83) (v := ?_) (a' := ?_) #[true, true, true, true, true, true, true, true, true, true, true, true, true, true, true, true, true, true, true, true] rfl rfl (any_of HT_.out (by kernel_rfl)) (fun _ _ _ h => h) (Or.inl ⟨by rfl, ?_⟩) ?_ ?_
              rotate_left
              · intro w'
                go_simp
                with_reducible rfl
              rotate_left
              · simp only [Act.put, List.setIfInBounds_toArray, List.set_cons_zero, List.set_cons_succ, i64_w, i32_w]
                rfl
              refine done_ (done_of HT_.out (by kernel_rfl)) ?_
              try go_wp2
              go_meet
              case rel => exact ⟨_, (!t219), (by first | rfl | (simp; done) | (simp [*]; done)), H', ⟨by have := HJ2.out; first | omega | exact Nat.le_refl _⟩, ⟨by (with_reducible repeat (first | refine blk_drewN ?_ _ | refine blk_drew ?_ | refine blk_alloc ?_ _)); exact BK217.out⟩, ⟨by repeat (first | (with_reducible first | exact HB.out | apply below_alloc | apply pw_below_drewN | apply below_drew1 | refine below_set ?_ GE217.out) | exact HB.out)⟩⟩
            · rw [if_neg c38] at H
              have c38b0 : (t214.toList == t218.toList) = false := beq_eq_false_iff_ne.mpr c38
              have c38b1 : (t214.toList != t218.toList) = true := bne_iff_ne.mpr c38
              have H' := Aside0.mk H
              clear H
              try go_wp2
              have n0_ : Aside0 ((((w33.setCell ⟨gb217, 0, none⟩ (.string t213)).setCell ⟨gb217, 1, none⟩ (.string t214)).setCell ⟨gb217, 2, none⟩ (.string t215)).heap[gb217]? = some (.cells #[.string t213, .string t214, .string t215] 41 (0, 0))) := ⟨by (with_reducible repeat (first | refine blk_drewN ?_ _ | refine blk_drew ?_ | refine blk_alloc ?_ _)); refine blk_put (cs := #[.string t213, .string t214, .string (⟨#[]⟩ : ByteArray)]) ?_ 2 _ rfl; (with_reducible repeat (first | refine blk_drewN ?_ _ | refine blk_drew ?_ | refine blk_alloc ?_ _)); refine blk_put (cs := #[.string t213, .string (⟨#[]⟩ : ByteArray), .string (⟨#[]⟩ : ByteArray)]) ?_ 1 _ rfl; (with_reducible repeat (first | refine blk_drewN ?_ _ | refine blk_drew ?_ | refine blk_alloc ?_ _)); refine blk_put (cs := #[.string (⟨#[]⟩ : ByteArray), .string (⟨#[]⟩ : ByteArray), .string (⟨#[]⟩ : ByteArray)]) ?_ 0 _ rfl; (with_reducible repeat (first | refine blk_drewN ?_ _ | refine blk_drew ?_ | refine blk_alloc ?_ _)); exact BK217.out⟩
              have n1_ : Aside0 (Below w.heap.size w (((w33.setCell ⟨gb217, 0, none⟩ (.string t213)).setCell ⟨gb217, 1, none⟩ (.string t214)).setCell ⟨gb217, 2, none⟩ (.string t215))) := ⟨by repeat (first | (with_reducible first | exact HB.out | apply below_alloc | apply pw_below_drewN | apply below_drew1 | refine below_set ?_ GE217.out) | exact HB.out)⟩
              (try clear BK217)
              (try clear HB)
              generalize (((w33.setCell ⟨gb217, 0, none⟩ (.string t213)).setCell ⟨gb217, 1, none⟩ (.string t214)).setCell ⟨gb217, 2, none⟩ (.string t215)) = w43 at n0_ n1_ ⊢
              have BK217 := n0_
              have HB := n1_
              clear n0_ n1_
              have n0_ := Aside0.mk (blk_drew BK217.out)
              have n1_ := Aside0.mk (below_drew1 HB.out)
              clear BK217
              clear HB
              have BK217 := n0_
              have HB := n1_
              clear n0_ n1_
              refine start_ (n := 20) (S := fun w' => w'.cell? ⟨gb217, 0, none⟩ = some (.string t213) ∧ w'.cell? ⟨gb217, 1, none⟩ = some (.string t214) ∧ w'.cell? ⟨gb217, 2, none⟩ = some (.string t215)) (ds := []) #[false, false, false, false, false, false, false, false, false, false, false, false, false, false, false, false, false, false, false, false] (by kernel_rfl) rfl rfl ⟨(blk_cell BK217.out 0).trans rfl, (blk_cell BK217.out 1).trans rfl, (blk_cell BK217.out 2).trans rfl⟩ (fun hHeld => ?_); refine with_tabW postriderlaw07_HeadFolds.tab17 postriderlaw07_HeadFolds.bits17 (fun HT_ HW_ => ?_)
              generalize w43.drew = w44 at BK217 HB hHeld ⊢
              refine pure_ (i := 0) (N := some 64) (v := ?_) (a' := ?_) #[true, false, false, false, false, false, false, false, false, false, false, false, false, false, false, false, false, false, false, false] rfl rfl (any_of HT_.out (by kernel_rfl)) (fun _ _ _ h => h) (Or.inl ⟨by rfl, ?_⟩) ?_ ?_
              rotate_left
              · intro w'
                go_simp
                with_reducible rfl
              rotate_left
              · simp only [Act.put, List.setIfInBounds_toArray, List.set_cons_zero, List.set_cons_succ, i64_w, i32_w]
                rfl
              refine pure_ (i := 1) (N := some 65) (v := ?_) (a' := ?_) #[true, true, false, false, false, false, false, false, false, false, false, false, false, false, false, false, false, false, false, false] rfl rfl (any_of HT_.out (by kernel_rfl)) (fun _ _ _ h => h) (Or.inl ⟨by rfl, ?_⟩) ?_ ?_
              rotate_left
              · intro w'
                go_simp
                with_reducible rfl
              rotate_left
              · simp only [Act.put, List.setIfInBounds_toArray, List.set_cons_zero, List.set_cons_succ, i64_w, i32_w]
                rfl
              refine pure_ (i := 2) (N := some 66) (v := ?_) (a' := ?_) #[true, true, true, false, false, false, false, false, false, false, false, false, false, false, false, false, false, false, false, false] rfl rfl (any_of HT_.out (by kernel_rfl)) (fun _ _ _ h => h) (Or.inl ⟨by rfl, ?_⟩) ?_ ?_
              rotate_left
              · intro w'
                go_simp
                with_reducible rfl
              rotate_left
              · simp only [Act.put, List.setIfInBounds_toArray, List.set_cons_zero, List.set_cons_succ, i64_w, i32_w]
                rfl
              refine pure_ (i := 3) (N := some 67) (v := ?_) (a' := ?_) #[true, true, true, true, false, false, false, false, false, false, false, false, false, false, false, false, false, false, false, false] rfl rfl (any_of HT_.out (by kernel_rfl)) (fun _ _ _ h => h) (Or.inl ⟨by rfl, ?_⟩) ?_ ?_
              rotate_left
              · intro w'
                go_simp
                with_reducible rfl
              rotate_left
              · simp only [Act.put, List.setIfInBounds_toArray, List.set_cons_zero, List.set_cons_succ, i64_w, i32_w]
                rfl
              refine take_ (i := 4) (N := some 68) (v := ?_) (a' := ?_) #[true, true, true, true, true, false, false, false, false, false, false, false, false, false, false, false, false, false, false, false] rfl rfl (take_ofW HT_.out HW_.out (by kernel_rfl)) (fun _ _ _ h => h) (Or.inl ⟨by rfl, ?_⟩) hHeld ?_ ?_
              rotate_left
              · rintro w' ⟨s0, s1, s2⟩
                go_simp
                with_reducible rfl
              rotate_left
              · simp only [Act.put, List.setIfInBounds_toArray, List.set_cons_zero, List.set_cons_succ, i64_w, i32_w]
                rfl
              refine pure_ (i := 5) (N := some 69) (v := ?_) (a' := ?_) #[true, true, true, true, true, true, false, false, false, false, false, false, false, false, false, false, false, false, false, false] rfl rfl (any_of HT_.out (by kernel_rfl)) (fun _ _ _ h => h) (Or.inl ⟨by rfl, ?_⟩) ?_ ?_
              rotate_left
              · intro w'
                go_simp
                with_reducible rfl
              rotate_left
              · simp only [Act.put, List.setIfInBounds_toArray, List.set_cons_zero, List.set_cons_succ, i64_w, i32_w]
                rfl
              refine pure_ (i := 6) (N := some 70) (v := ?_) (a' := ?_) #[true, true, true, true, true, true, true, false, false, false, false, false, false, false, false, false, false, false, false, false] rfl rfl (any_of HT_.out (by kernel_rfl)) (fun _ _ _ h => h) (Or.inl ⟨by rfl, ?_⟩) ?_ ?_
              rotate_left
              · intro w'
                go_simp
                with_reducible rfl
              rotate_left
              · simp only [Act.put, List.setIfInBounds_toArray, List.set_cons_zero, List.set_cons_succ, i64_w, i32_w]
                rfl
              refine pure_ (i := 7) (N := some 71) (v := ?_) (a' := ?_) #[true, true, true, true, true, true, true, true, false, false, false, false, false, false, false, false, false, false, false, false] rfl rfl (any_of HT_.out (by kernel_rfl)) (fun _ _ _ h => h) (Or.inl ⟨by rfl, ?_⟩) ?_ ?_
              rotate_left
              · intro w'
                go_simp
                with_reducible rfl
              rotate_left
              · simp only [Act.put, List.setIfInBounds_toArray, List.set_cons_zero, List.set_cons_succ, i64_w, i32_w]
                rfl
              refine pure_ (i := 8) (N := some 72) (v := ?_) (a' := ?_) #[true, true, true, true, true, true, true, true, true, false, false, false, false, false, false, false, false, false, false, false] rfl rfl (any_of HT_.out (by kernel_rfl)) (fun _ _ _ h => h) (Or.inl ⟨by rfl, ?_⟩) ?_ ?_
              rotate_left
              · intro w'
                go_simp
                with_reducible rfl
              rotate_left
              · simp only [Act.put, List.setIfInBounds_toArray, List.set_cons_zero, List.set_cons_succ, i64_w, i32_w]
                rfl
              refine pure_ (i := 10) (N := some 74) (v := ?_) (a' := ?_) #[true, true, true, true, true, true, true, true, true, false, true, false, false, false, false, false, false, false, false, false] rfl rfl (any_of HT_.out (by kernel_rfl)) (fun _ _ _ h => h) (Or.inl ⟨by rfl, ?_⟩) ?_ ?_
              rotate_left
              · intro w'
                go_simp
                with_reducible rfl
              rotate_left
              · simp only [Act.put, List.setIfInBounds_toArray, List.set_cons_zero, List.set_cons_succ, i64_w, i32_w]
                rfl
              refine take_ (i := 9) (N := some 73) (v := ?_) (a' := ?_) #[true, true, true, true, true, true, true, true, true, true, true, false, false, false, false, false, false, false, false, false] rfl rfl (take_ofW HT_.out HW_.out (by kernel_rfl)) (fun _ _ _ h => h) (Or.inl ⟨by rfl, ?_⟩) hHeld ?_ ?_
              rotate_left
              · rintro w' ⟨s0, s1, s2⟩
                go_simp
                with_reducible rfl
              rotate_left
              · simp only [Act.put, List.setIfInBounds_toArray, List.set_cons_zero, List.set_cons_succ, i64_w, i32_w]
                rfl
              refine one_ (i := 11) (N := some 75) #[true, true, true, true, true, true, true, true, true, true, true, true, false, false, false, false, false, false, false, false] rfl rfl (one_of HT_.out (by kernel_rfl)) (by decide) (fun K hK => ?_)
              refine goes_ Tryd.func15 (by kernel_rfl) rfl #[.string x5_2, .string (⟨#[32]⟩ : ByteArray)] (by rfl) rfl rfl (by (try simp only [List.map_toArray, List.map_cons, List.map_nil]); first | done | rfl | (simp only [List.length_drop, List.length_take]; rfl)) ?_
              with_reducible refine (strings_Trim.calls x5_2 (⟨#[32]⟩ : ByteArray) t218 _ A37.out).mono ?_
              rintro e w45 ⟨rfl, hb⟩
              refine ⟨_, rfl, ?_⟩
              have n0_ := Aside0.mk (blk_below (g := gb217) (o := .cells #[.string t213, .string t214, .string t215] 41 (0, 0)) (by (with_reducible repeat (first | refine blk_drewN ?_ _ | refine blk_drew ?_ | refine blk_alloc ?_ _)); exact BK217.out) hb)
              have n1_ := Aside0.mk (below_step (by repeat (first | (with_reducible first | exact HB.out | apply below_alloc | apply pw_below_drewN | apply below_drew1 | refine below_set ?_ GE217.out) | exact HB.out)) hb)
              clear BK217
              clear HB
              have BK217 := n0_
              have HB := n1_
              clear n0_ n1_
              (try clear hb)
              (try clear hb2)
              (try clear hk)
              (try clear hi)
              refine hK.out _ _ ⟨(blk_cell BK217.out 0).trans rfl, (blk_cell BK217.out 1).trans rfl, (blk_cell BK217.out 2).trans rfl⟩ (fun hHeld => ?_)
              clear hK K
              refine norm_ (a' := ?_) ?_ ?_
              rotate_left
              · show Act.put _ (some 75) _ = _
                simp only [Act.put, List.setIfInBounds_toArray, List.set_cons_zero, List.set_cons_succ, i64_w, i32_w]
                rfl
              refine pure_ (i := 12) (N := some 76) (v := ?_) (a' := ?_) #[true, true, true, true, true, true, true, true, true, true, true, true, true, false, false, false, false, false, false, false] rfl rfl (any_of HT_.out (by kernel_rfl)) (fun _ _ _ h => h) (Or.inl ⟨by rfl, ?_⟩) ?_ ?_
              rotate_left
              · intro w'
                go_simp
                with_reducible rfl
              rotate_left
              · simp only [Act.put, List.setIfInBounds_toArray, List.set_cons_zero, List.set_cons_succ, i64_w, i32_w]
                rfl
              refine pure_ (i := 13) (N := some 77) (v := ?_) (a' := ?_) #[true, true, true, true, true, true, true, true, true, true, true, true, true, true, false, false, false, false, false, false] rfl rfl (any_of HT_.out (by kernel_rfl)) (fun _ _ _ h => h) (Or.inl ⟨by rfl, ?_⟩) ?_ ?_
              rotate_left
              · intro w'
                go_simp
                with_reducible rfl
              rotate_left
              · simp only [Act.put, List.setIfInBounds_toArray, List.set_cons_zero, List.set_cons_succ, i64_w, i32_w]
                rfl
              refine pure_ (i := 14) (N := some 78) (v := ?_) (a' := ?_) #[true, true, true, true, true, true, true, true, true, true, true, true, true, true, true, false, false, false, false, false] rfl rfl (any_of HT_.out (by kernel_rfl)) (fun _ _ _ h => h) (Or.inl ⟨by rfl, ?_⟩) ?_ ?_
              rotate_left
              · intro w'
                go_simp
                with_reducible rfl
              rotate_left
              · simp only [Act.put, List.setIfInBounds_toArray, List.set_cons_zero, List.set_cons_succ, i64_w, i32_w]
                rfl
              refine pure_ (i := 15) (N := some 79) (v := undef) (a' := ?_) #[true, true, true, true, true, true, true, true, true, true, true, true, true, true, true, true, false, false, false, false] rfl rfl (any_of HT_.out (by kernel_rfl)) (fun _ _ _ h => h) (Or.inr ⟨by rfl, rfl⟩) ?_ ?_
              rotate_left
              · simp only [Act.put, List.setIfInBounds_toArray, List.set_cons_zero, List.set_cons_succ, i64_w, i32_w]
                rfl
              refine pure_ (i := 16) (N := some 80) (v := undef) (a' := ?_) #[true, true, true, true, true, true, true, true, true, true, true, true, true, true, true, true, true, false, false, false] rfl rfl (any_of HT_.out (by kernel_rfl)) (fun _ _ _ h => h) (Or.inr ⟨by rfl, rfl⟩) ?_ ?_
              rotate_left
              · simp only [Act.put, List.setIfInBounds_toArray, List.set_cons_zero, List.set_cons_succ, i64_w, i32_w]
                rfl
              refine pure_ (i := 17) (N := some 81) (v := undef) (a' := ?_) #[true, true, true, true, true, true, true, true, true, true, true, true, true, true, true, true, true, true, false, false] rfl rfl (any_of HT_.out (by kernel_rfl)) (fun _ _ _ h => h) (Or.inr ⟨by rfl, rfl⟩) ?_ ?_
              rotate_left
              · simp only [Act.put, List.setIfInBounds_toArray, List.set_cons_zero, List.set_cons_succ, i64_w, i32_w]
                rfl
              refine pure_ (i := 18) (N := some 82) (v := undef) (a' := ?_) #[true, true, true, true, true, true, true, true, true, true, true, true, true, true, true, true, true, true, true, false] rfl rfl (any_of HT_.out (by kernel_rfl)) (fun _ _ _ h => h) (Or.inr ⟨by rfl, rfl⟩) ?_ ?_
              rotate_left
              · simp only [Act.put, List.setIfInBounds_toArray, List.set_cons_zero, List.set_cons_succ, i64_w, i32_w]
                rfl
              refine pure_ (i := 19) (N := some 83) (v := ?_) (a' := ?_) #[true, true, true, true, true, true, true, true, true, true, true, true, true, true, true, true, true, true, true, true] rfl rfl (any_of HT_.out (by kernel_rfl)) (fun _ _ _ h => h) (Or.inl ⟨by rfl, ?_⟩) ?_ ?_
              rotate_left
              · intro w'
                go_simp
                with_reducible rfl
              rotate_left
              · simp only [Act.put, List.setIfInBounds_toArray, List.set_cons_zero, List.set_cons_succ, i64_w, i32_w]
                rfl
              refine done_ (done_of HT_.out (by kernel_rfl)) ?_
              try go_wp2
              go_meet
              case rel => exact ⟨_, (true), (by first | rfl | (simp; done) | (simp [*]; done)), H', ⟨by have := HJ2.out; first | omega | exact Nat.le_refl _⟩, ⟨by (with_reducible repeat (first | refine blk_drewN ?_ _ | refine blk_drew ?_ | refine blk_alloc ?_ _)); exact BK217.out⟩, ⟨by repeat (first | (with_reducible first | exact HB.out | apply below_alloc | apply pw_below_drewN | apply below_drew1 | refine below_set ?_ GE217.out) | exact HB.out)⟩⟩
          · rw [if_neg c36] at H
            have c36b0 : (t213.toList == ([84, 111] : List UInt8)) = false := beq_eq_false_iff_ne.mpr c36
            have c36b1 : (t213.toList != ([84, 111] : List UInt8)) = true := bne_iff_ne.mpr c36
            have H' := Aside0.mk H
            clear H
            try go_wp2
            have n0_ : Aside0 ((((w33.setCell ⟨gb217, 0, none⟩ (.string t213)).setCell ⟨gb217, 1, none⟩ (.string t214)).setCell ⟨gb217, 2, none⟩ (.string t215)).heap[gb217]? = some (.cells #[.string t213, .string t214, .string t215] 41 (0, 0))) := ⟨by (with_reducible repeat (first | refine blk_drewN ?_ _ | refine blk_drew ?_ | refine blk_alloc ?_ _)); refine blk_put (cs := #[.string t213, .string t214, .string (⟨#[]⟩ : ByteArray)]) ?_ 2 _ rfl; (with_reducible repeat (first | refine blk_drewN ?_ _ | refine blk_drew ?_ | refine blk_alloc ?_ _)); refine blk_put (cs := #[.string t213, .string (⟨#[]⟩ : ByteArray), .string (⟨#[]⟩ : ByteArray)]) ?_ 1 _ rfl; (with_reducible repeat (first | refine blk_drewN ?_ _ | refine blk_drew ?_ | refine blk_alloc ?_ _)); refine blk_put (cs := #[.string (⟨#[]⟩ : ByteArray), .string (⟨#[]⟩ : ByteArray), .string (⟨#[]⟩ : ByteArray)]) ?_ 0 _ rfl; (with_reducible repeat (first | refine blk_drewN ?_ _ | refine blk_drew ?_ | refine blk_alloc ?_ _)); exact BK217.out⟩
            have n1_ : Aside0 (Below w.heap.size w (((w33.setCell ⟨gb217, 0, none⟩ (.string t213)).setCell ⟨gb217, 1, none⟩ (.string t214)).setCell ⟨gb217, 2, none⟩ (.string t215))) := ⟨by repeat (first | (with_reducible first | exact HB.out | apply below_alloc | apply pw_below_drewN | apply below_drew1 | refine below_set ?_ GE217.out) | exact HB.out)⟩
            (try clear BK217)
            (try clear HB)
            generalize (((w33.setCell ⟨gb217, 0, none⟩ (.string t213)).setCell ⟨gb217, 1, none⟩ (.string t214)).setCell ⟨gb217, 2, none⟩ (.string t215)) = w46 at n0_ n1_ ⊢
            have BK217 := n0_
            have HB := n1_
            clear n0_ n1_
            have n0_ := Aside0.mk (blk_drew BK217.out)
            have n1_ := Aside0.mk (below_drew1 HB.out)
            clear BK217
            clear HB
            have BK217 := n0_
            have HB := n1_
            clear n0_ n1_
            refine start_ (n := 20) (S := fun w' => w'.cell? ⟨gb217, 0, none⟩ = some (.string t213) ∧ w'.cell? ⟨gb217, 1, none⟩ = some (.string t214) ∧ w'.cell? ⟨gb217, 2, none⟩ = some (.string t215)) (ds := []) #[false, false, false, false, false, false, false, false, false, false, false, false, false, false, false, false, false, false, false, false] (by kernel_rfl) rfl rfl ⟨(blk_cell BK217.out 0).trans rfl, (blk_cell BK217.out 1).trans rfl, (blk_cell BK217.out 2).trans rfl⟩ (fun hHeld => ?_); refine with_tabW postriderlaw07_HeadFolds.tab17 postriderlaw07_HeadFolds.bits17 (fun HT_ HW_ => ?_)
            generalize w46.drew = w47 at BK217 HB hHeld ⊢
            refine pure_ (i := 0) (N := some 64) (v := ?_) (a' := ?_) #[true, false, false, false, false, false, false, false, false, false, false, false, false, false, false, false, false, false, false, false] rfl rfl (any_of HT_.out (by kernel_rfl)) (fun _ _ _ h => h) (Or.inl ⟨by rfl, ?_⟩) ?_ ?_
            rotate_left
            · intro w'
              go_simp
              with_reducible rfl
            rotate_left
            · simp only [Act.put, List.setIfInBounds_toArray, List.set_cons_zero, List.set_cons_succ, i64_w, i32_w]
              rfl
            refine pure_ (i := 1) (N := some 65) (v := ?_) (a' := ?_) #[true, true, false, false, false, false, false, false, false, false, false, false, false, false, false, false, false, false, false, false] rfl rfl (any_of HT_.out (by kernel_rfl)) (fun _ _ _ h => h) (Or.inl ⟨by rfl, ?_⟩) ?_ ?_
            rotate_left
            · intro w'
              go_simp
              with_reducible rfl
            rotate_left
            · simp only [Act.put, List.setIfInBounds_toArray, List.set_cons_zero, List.set_cons_succ, i64_w, i32_w]
              rfl
            refine pure_ (i := 2) (N := some 66) (v := ?_) (a' := ?_) #[true, true, true, false, false, false, false, false, false, false, false, false, false, false, false, false, false, false, false, false] rfl rfl (any_of HT_.out (by kernel_rfl)) (fun _ _ _ h => h) (Or.inl ⟨by rfl, ?_⟩) ?_ ?_
            rotate_left
            · intro w'
              go_simp
              with_reducible rfl
            rotate_left
            · simp only [Act.put, List.setIfInBounds_toArray, List.set_cons_zero, List.set_cons_succ, i64_w, i32_w]
              rfl
            refine pure_ (i := 3) (N := some 67) (v := ?_) (a' := ?_) #[true, true, true, true, false, false, false, false, false, false, false, false, false, false, false, false, false, false, false, false] rfl rfl (any_of HT_.out (by kernel_rfl)) (fun _ _ _ h => h) (Or.inl ⟨by rfl, ?_⟩) ?_ ?_
            rotate_left
            · intro w'
              go_simp
              with_reducible rfl
            rotate_left
            · simp only [Act.put, List.setIfInBounds_toArray, List.set_cons_zero, List.set_cons_succ, i64_w, i32_w]
              rfl
            refine take_ (i := 4) (N := some 68) (v := ?_) (a' := ?_) #[true, true, true, true, true, false, false, false, false, false, false, false, false, false, false, false, false, false, false, false] rfl rfl (take_ofW HT_.out HW_.out (by kernel_rfl)) (fun _ _ _ h => h) (Or.inl ⟨by rfl, ?_⟩) hHeld ?_ ?_
            rotate_left
            · rintro w' ⟨s0, s1, s2⟩
              go_simp
              with_reducible rfl
            rotate_left
            · simp only [Act.put, List.setIfInBounds_toArray, List.set_cons_zero, List.set_cons_succ, i64_w, i32_w]
              rfl
            refine pure_ (i := 5) (N := some 69) (v := ?_) (a' := ?_) #[true, true, true, true, true, true, false, false, false, false, false, false, false, false, false, false, false, false, false, false] rfl rfl (any_of HT_.out (by kernel_rfl)) (fun _ _ _ h => h) (Or.inl ⟨by rfl, ?_⟩) ?_ ?_
            rotate_left
            · intro w'
              go_simp
              with_reducible rfl
            rotate_left
            · simp only [Act.put, List.setIfInBounds_toArray, List.set_cons_zero, List.set_cons_succ, i64_w, i32_w]
              rfl
            refine pure_ (i := 6) (N := some 70) (v := ?_) (a' := ?_) #[true, true, true, true, true, true, true, false, false, false, false, false, false, false, false, false, false, false, false, false] rfl rfl (any_of HT_.out (by kernel_rfl)) (fun _ _ _ h => h) (Or.inl ⟨by rfl, ?_⟩) ?_ ?_
            rotate_left
            · intro w'
              go_simp
              with_reducible rfl
            rotate_left
            · simp only [Act.put, List.setIfInBounds_toArray, List.set_cons_zero, List.set_cons_succ, i64_w, i32_w]
              rfl
            refine pure_ (i := 7) (N := some 71) (v := ?_) (a' := ?_) #[true, true, true, true, true, true, true, true, false, false, false, false, false, false, false, false, false, false, false, false] rfl rfl (any_of HT_.out (by kernel_rfl)) (fun _ _ _ h => h) (Or.inl ⟨by rfl, ?_⟩) ?_ ?_
            rotate_left
            · intro w'
              go_simp
              with_reducible rfl
            rotate_left
            · simp only [Act.put, List.setIfInBounds_toArray, List.set_cons_zero, List.set_cons_succ, i64_w, i32_w]
              rfl
            refine pure_ (i := 8) (N := some 72) (v := undef) (a' := ?_) #[true, true, true, true, true, true, true, true, true, false, false, false, false, false, false, false, false, false, false, false] rfl rfl (any_of HT_.out (by kernel_rfl)) (fun _ _ _ h => h) (Or.inr ⟨by rfl, rfl⟩) ?_ ?_
            rotate_left
            · simp only [Act.put, List.setIfInBounds_toArray, List.set_cons_zero, List.set_cons_succ, i64_w, i32_w]
              rfl
            refine pure_ (i := 9) (N := some 73) (v := undef) (a' := ?_) #[true, true, true, true, true, true, true, true, true, true, false, false, false, false, false, false, false, false, false, false] rfl rfl (any_of HT_.out (by kernel_rfl)) (fun _ _ _ h => h) (Or.inr ⟨by rfl, rfl⟩) ?_ ?_
            rotate_left
            · simp only [Act.put, List.setIfInBounds_toArray, List.set_cons_zero, List.set_cons_succ, i64_w, i32_w]
              rfl
            refine pure_ (i := 10) (N := some 74) (v := undef) (a' := ?_) #[true, true, true, true, true, true, true, true, true, true, true, false, false, false, false, false, false, false, false, false] rfl rfl (any_of HT_.out (by kernel_rfl)) (fun _ _ _ h => h) (Or.inr ⟨by rfl, rfl⟩) ?_ ?_
            rotate_left
            · simp only [Act.put, List.setIfInBounds_toArray, List.set_cons_zero, List.set_cons_succ, i64_w, i32_w]
              rfl
            refine pure_ (i := 11) (N := some 75) (v := undef) (a' := ?_) #[true, true, true, true, true, true, true, true, true, true, true, true, false, false, false, false, false, false, false, false] rfl rfl (any_of HT_.out (by kernel_rfl)) (fun _ _ _ h => h) (Or.inr ⟨by rfl, rfl⟩) ?_ ?_
            rotate_left
            · simp only [Act.put, List.setIfInBounds_toArray, List.set_cons_zero, List.set_cons_succ, i64_w, i32_w]
              rfl
            refine pure_ (i := 12) (N := some 76) (v := undef) (a' := ?_) #[true, true, true, true, true, true, true, true, true, true, true, true, true, false, false, false, false, false, false, false] rfl rfl (any_of HT_.out (by kernel_rfl)) (fun _ _ _ h => h) (Or.inr ⟨by rfl, rfl⟩) ?_ ?_
            rotate_left
            · simp only [Act.put, List.setIfInBounds_toArray, List.set_cons_zero, List.set_cons_succ, i64_w, i32_w]
              rfl
            refine pure_ (i := 13) (N := some 77) (v := ?_) (a' := ?_) #[true, true, true, true, true, true, true, true, true, true, true, true, true, true, false, false, false, false, false, false] rfl rfl (any_of HT_.out (by kernel_rfl)) (fun _ _ _ h => h) (Or.inl ⟨by rfl, ?_⟩) ?_ ?_
            rotate_left
            · intro w'
              go_simp
              with_reducible rfl
            rotate_left
            · simp only [Act.put, List.setIfInBounds_toArray, List.set_cons_zero, List.set_cons_succ, i64_w, i32_w]
              rfl
            refine pure_ (i := 14) (N := some 78) (v := ?_) (a' := ?_) #[true, true, true, true, true, true, true, true, true, true, true, true, true, true, true, false, false, false, false, false] rfl rfl (any_of HT_.out (by kernel_rfl)) (fun _ _ _ h => h) (Or.inl ⟨by rfl, ?_⟩) ?_ ?_
            rotate_left
            · intro w'
              go_simp
              with_reducible rfl
            rotate_left
            · simp only [Act.put, List.setIfInBounds_toArray, List.set_cons_zero, List.set_cons_succ, i64_w, i32_w]
              rfl
            refine pure_ (i := 15) (N := some 79) (v := undef) (a' := ?_) #[true, true, true, true, true, true, true, true, true, true, true, true, true, true, true, true, false, false, false, false] rfl rfl (any_of HT_.out (by kernel_rfl)) (fun _ _ _ h => h) (Or.inr ⟨by rfl, rfl⟩) ?_ ?_
            rotate_left
            · simp only [Act.put, List.setIfInBounds_toArray, List.set_cons_zero, List.set_cons_succ, i64_w, i32_w]
              rfl
            refine pure_ (i := 16) (N := some 80) (v := undef) (a' := ?_) #[true, true, true, true, true, true, true, true, true, true, true, true, true, true, true, true, true, false, false, false] rfl rfl (any_of HT_.out (by kernel_rfl)) (fun _ _ _ h => h) (Or.inr ⟨by rfl, rfl⟩) ?_ ?_
            rotate_left
            · simp only [Act.put, List.setIfInBounds_toArray, List.set_cons_zero, List.set_cons_succ, i64_w, i32_w]
              rfl
            refine pure_ (i := 17) (N := some 81) (v := undef) (a' := ?_) #[true, true, true, true, true, true, true, true, true, true, true, true, true, true, true, true, true, true, false, false] rfl rfl (any_of HT_.out (by kernel_rfl)) (fun _ _ _ h => h) (Or.inr ⟨by rfl, rfl⟩) ?_ ?_
            rotate_left
            · simp only [Act.put, List.setIfInBounds_toArray, List.set_cons_zero, List.set_cons_succ, i64_w, i32_w]
              rfl
            refine pure_ (i := 18) (N := some 82) (v := undef) (a' := ?_) #[true, true, true, true, true, true, true, true, true, true, true, true, true, true, true, true, true, true, true, false] rfl rfl (any_of HT_.out (by kernel_rfl)) (fun _ _ _ h => h) (Or.inr ⟨by rfl, rfl⟩) ?_ ?_
            rotate_left
            · simp only [Act.put, List.setIfInBounds_toArray, List.set_cons_zero, List.set_cons_succ, i64_w, i32_w]
              rfl
            refine pure_ (i := 19) (N := some 83) (v := ?_) (a' := ?_) #[true, true, true, true, true, true, true, true, true, true, true, true, true, true, true, true, true, true, true, true] rfl rfl (any_of HT_.out (by kernel_rfl)) (fun _ _ _ h => h) (Or.inl ⟨by rfl, ?_⟩) ?_ ?_
            rotate_left
            · intro w'
              go_simp
              with_reducible rfl
            rotate_left
            · simp only [Act.put, List.setIfInBounds_toArray, List.set_cons_zero, List.set_cons_succ, i64_w, i32_w]
              rfl
            refine done_ (done_of HT_.out (by kernel_rfl)) ?_
            try go_wp2
            go_meet
            case rel => exact ⟨_, (true), (by first | rfl | (simp; done) | (simp [*]; done)), H', ⟨by have := HJ2.out; first | omega | exact Nat.le_refl _⟩, ⟨by (with_reducible repeat (first | refine blk_drewN ?_ _ | refine blk_drew ?_ | refine blk_alloc ?_ _)); exact BK217.out⟩, ⟨by repeat (first | (with_reducible first | exact HB.out | apply below_alloc | apply pw_below_drewN | apply below_drew1 | refine below_set ?_ GE217.out) | exact HB.out)⟩⟩
        · rw [if_neg c35] at H
          have c35b0 : (t216 == 0) = false := beq_eq_false_iff_ne.mpr c35
          have c35b1 : (t216 != 0) = true := bne_iff_ne.mpr c35
          (first | rw [c35b0] | (simp only [i64_w, i32_w]; rw [c35b0]) | skip)
          have H' := Aside0.mk H
          clear H
          try go_wp2
          have n0_ : Aside0 ((((w33.setCell ⟨gb217, 0, none⟩ (.string t213)).setCell ⟨gb217, 1, none⟩ (.string t214)).setCell ⟨gb217, 2, none⟩ (.string t215)).heap[gb217]? = some (.cells #[.string t213, .string t214, .string t215] 41 (0, 0))) := ⟨by (with_reducible repeat (first | refine blk_drewN ?_ _ | refine blk_drew ?_ | refine blk_alloc ?_ _)); refine blk_put (cs := #[.string t213, .string t214, .string (⟨#[]⟩ : ByteArray)]) ?_ 2 _ rfl; (with_reducible repeat (first | refine blk_drewN ?_ _ | refine blk_drew ?_ | refine blk_alloc ?_ _)); refine blk_put (cs := #[.string t213, .string (⟨#[]⟩ : ByteArray), .string (⟨#[]⟩ : ByteArray)]) ?_ 1 _ rfl; (with_reducible repeat (first | refine blk_drewN ?_ _ | refine blk_drew ?_ | refine blk_alloc ?_ _)); refine blk_put (cs := #[.string (⟨#[]⟩ : ByteArray), .string (⟨#[]⟩ : ByteArray), .string (⟨#[]⟩ : ByteArray)]) ?_ 0 _ rfl; (with_reducible repeat (first | refine blk_drewN ?_ _ | refine blk_drew ?_ | refine blk_alloc ?_ _)); exact BK217.out⟩
          have n1_ : Aside0 (Below w.heap.size w (((w33.setCell ⟨gb217, 0, none⟩ (.string t213)).setCell ⟨gb217, 1, none⟩ (.string t214)).setCell ⟨gb217, 2, none⟩ (.string t215))) := ⟨by repeat (first | (with_reducible first | exact HB.out | apply below_alloc | apply pw_below_drewN | apply below_drew1 | refine below_set ?_ GE217.out) | exact HB.out)⟩
          (try clear BK217)
          (try clear HB)
          generalize (((w33.setCell ⟨gb217, 0, none⟩ (.string t213)).setCell ⟨gb217, 1, none⟩ (.string t214)).setCell ⟨gb217, 2, none⟩ (.string t215)) = w48 at n0_ n1_ ⊢
          have BK217 := n0_
          have HB := n1_
          clear n0_ n1_
          have n0_ := Aside0.mk (blk_drew BK217.out)
          have n1_ := Aside0.mk (below_drew1 HB.out)
          clear BK217
          clear HB
          have BK217 := n0_
          have HB := n1_
          clear n0_ n1_
          refine start_ (n := 20) (S := fun w' => True) (ds := []) #[false, false, false, false, false, false, false, false, false, false, false, false, false, false, false, false, false, false, false, false] (by kernel_rfl) rfl rfl trivial (fun hHeld => ?_); refine with_tabW postriderlaw07_HeadFolds.tab17 postriderlaw07_HeadFolds.bits17 (fun HT_ HW_ => ?_)
          generalize w48.drew = w49 at BK217 HB hHeld ⊢
          refine pure_ (i := 0) (N := some 64) (v := ?_) (a' := ?_) #[true, false, false, false, false, false, false, false, false, false, false, false, false, false, false, false, false, false, false, false] rfl rfl (any_of HT_.out (by kernel_rfl)) (fun _ _ _ h => h) (Or.inl ⟨by rfl, ?_⟩) ?_ ?_
          rotate_left
          · intro w'
            go_simp
            with_reducible rfl
          rotate_left
          · simp only [Act.put, List.setIfInBounds_toArray, List.set_cons_zero, List.set_cons_succ, i64_w, i32_w]
            rfl
          refine pure_ (i := 1) (N := some 65) (v := ?_) (a' := ?_) #[true, true, false, false, false, false, false, false, false, false, false, false, false, false, false, false, false, false, false, false] rfl rfl (any_of HT_.out (by kernel_rfl)) (fun _ _ _ h => h) (Or.inl ⟨by rfl, ?_⟩) ?_ ?_
          rotate_left
          · intro w'
            go_simp
            with_reducible rfl
          rotate_left
          · simp only [Act.put, List.setIfInBounds_toArray, List.set_cons_zero, List.set_cons_succ, i64_w, i32_w]
            rfl
          refine pure_ (i := 2) (N := some 66) (v := ?_) (a' := ?_) #[true, true, true, false, false, false, false, false, false, false, false, false, false, false, false, false, false, false, false, false] rfl rfl (any_of HT_.out (by kernel_rfl)) (fun _ _ _ h => h) (Or.inl ⟨by rfl, ?_⟩) ?_ ?_
          rotate_left
          · intro w'
            go_simp
            with_reducible rfl
          rotate_left
          · simp only [Act.put, List.setIfInBounds_toArray, List.set_cons_zero, List.set_cons_succ, i64_w, i32_w]
            rfl
          refine pure_ (i := 3) (N := some 67) (v := undef) (a' := ?_) #[true, true, true, true, false, false, false, false, false, false, false, false, false, false, false, false, false, false, false, false] rfl rfl (any_of HT_.out (by kernel_rfl)) (fun _ _ _ h => h) (Or.inr ⟨by rfl, rfl⟩) ?_ ?_
          rotate_left
          · simp only [Act.put, List.setIfInBounds_toArray, List.set_cons_zero, List.set_cons_succ, i64_w, i32_w]
            rfl
          refine pure_ (i := 4) (N := some 68) (v := undef) (a' := ?_) #[true, true, true, true, true, false, false, false, false, false, false, false, false, false, false, false, false, false, false, false] rfl rfl (any_of HT_.out (by kernel_rfl)) (fun _ _ _ h => h) (Or.inr ⟨by rfl, rfl⟩) ?_ ?_
          rotate_left
          · simp only [Act.put, List.setIfInBounds_toArray, List.set_cons_zero, List.set_cons_succ, i64_w, i32_w]
            rfl
          refine pure_ (i := 5) (N := some 69) (v := undef) (a' := ?_) #[true, true, true, true, true, true, false, false, false, false, false, false, false, false, false, false, false, false, false, false] rfl rfl (any_of HT_.out (by kernel_rfl)) (fun _ _ _ h => h) (Or.inr ⟨by rfl, rfl⟩) ?_ ?_
          rotate_left
          · simp only [Act.put, List.setIfInBounds_toArray, List.set_cons_zero, List.set_cons_succ, i64_w, i32_w]
            rfl
          refine pure_ (i := 6) (N := some 70) (v := ?_) (a' := ?_) #[true, true, true, true, true, true, true, false, false, false, false, false, false, false, false, false, false, false, false, false] rfl rfl (any_of HT_.out (by kernel_rfl)) (fun _ _ _ h => h) (Or.inl ⟨by rfl, ?_⟩) ?_ ?_
          rotate_left
          · intro w'
            go_simp
            with_reducible rfl
          rotate_left
          · simp only [Act.put, List.setIfInBounds_toArray, List.set_cons_zero, List.set_cons_succ, i64_w, i32_w]
            rfl
          refine pure_ (i := 7) (N := some 71) (v := ?_) (a' := ?_) #[true, true, true, true, true, true, true, true, false, false, false, false, false, false, false, false, false, false, false, false] rfl rfl (any_of HT_.out (by kernel_rfl)) (fun _ _ _ h => h) (Or.inl ⟨by rfl, ?_⟩) ?_ ?_
          rotate_left
          · intro w'
            go_simp
            with_reducible rfl
          rotate_left
          · simp only [Act.put, List.setIfInBounds_toArray, List.set_cons_zero, List.set_cons_succ, i64_w, i32_w]
            rfl
          refine pure_ (i := 8) (N := some 72) (v := undef) (a' := ?_) #[true, true, true, true, true, true, true, true, true, false, false, false, false, false, false, false, false, false, false, false] rfl rfl (any_of HT_.out (by kernel_rfl)) (fun _ _ _ h => h) (Or.inr ⟨by rfl, rfl⟩) ?_ ?_
          rotate_left
          · simp only [Act.put, List.setIfInBounds_toArray, List.set_cons_zero, List.set_cons_succ, i64_w, i32_w]
            rfl
          refine pure_ (i := 9) (N := some 73) (v := undef) (a' := ?_) #[true, true, true, true, true, true, true, true, true, true, false, false, false, false, false, false, false, false, false, false] rfl rfl (any_of HT_.out (by kernel_rfl)) (fun _ _ _ h => h) (Or.inr ⟨by rfl, rfl⟩) ?_ ?_
          rotate_left
          · simp only [Act.put, List.setIfInBounds_toArray, List.set_cons_zero, List.set_cons_succ, i64_w, i32_w]
            rfl
          refine pure_ (i := 10) (N := some 74) (v := undef) (a' := ?_) #[true, true, true, true, true, true, true, true, true, true, true, false, false, false, false, false, false, false, false, false] rfl rfl (any_of HT_.out (by kernel_rfl)) (fun _ _ _ h => h) (Or.inr ⟨by rfl, rfl⟩) ?_ ?_
          rotate_left
          · simp only [Act.put, List.setIfInBounds_toArray, List.set_cons_zero, List.set_cons_succ, i64_w, i32_w]
            rfl
          refine pure_ (i := 11) (N := some 75) (v := undef) (a' := ?_) #[true, true, true, true, true, true, true, true, true, true, true, true, false, false, false, false, false, false, false, false] rfl rfl (any_of HT_.out (by kernel_rfl)) (fun _ _ _ h => h) (Or.inr ⟨by rfl, rfl⟩) ?_ ?_
          rotate_left
          · simp only [Act.put, List.setIfInBounds_toArray, List.set_cons_zero, List.set_cons_succ, i64_w, i32_w]
            rfl
          refine pure_ (i := 12) (N := some 76) (v := undef) (a' := ?_) #[true, true, true, true, true, true, true, true, true, true, true, true, true, false, false, false, false, false, false, false] rfl rfl (any_of HT_.out (by kernel_rfl)) (fun _ _ _ h => h) (Or.inr ⟨by rfl, rfl⟩) ?_ ?_
          rotate_left
          · simp only [Act.put, List.setIfInBounds_toArray, List.set_cons_zero, List.set_cons_succ, i64_w, i32_w]
            rfl
          refine pure_ (i := 13) (N := some 77) (v := ?_) (a' := ?_) #[true, true, true, true, true, true, true, true, true, true, true, true, true, true, false, false, false, false, false, false] rfl rfl (any_of HT_.out (by kernel_rfl)) (fun _ _ _ h => h) (Or.inl ⟨by rfl, ?_⟩) ?_ ?_
          rotate_left
          · intro w'
            go_simp
            with_reducible rfl
          rotate_left
          · simp only [Act.put, List.setIfInBounds_toArray, List.set_cons_zero, List.set_cons_succ, i64_w, i32_w]
            rfl
          refine pure_ (i := 14) (N := some 78) (v := ?_) (a' := ?_) #[true, true, true, true, true, true, true, true, true, true, true, true, true, true, true, false, false, false, false, false] rfl rfl (any_of HT_.out (by kernel_rfl)) (fun _ _ _ h => h) (Or.inl ⟨by rfl, ?_⟩) ?_ ?_
          rotate_left
          · intro w'
            go_simp
            with_reducible rfl
          rotate_left
          · simp only [Act.put, List.setIfInBounds_toArray, List.set_cons_zero, List.set_cons_succ, i64_w, i32_w]
            rfl
          refine pure_ (i := 15) (N := some 79) (v := undef) (a' := ?_) #[true, true, true, true, true, true, true, true, true, true, true, true, true, true, true, true, false, false, false, false] rfl rfl (any_of HT_.out (by kernel_rfl)) (fun _ _ _ h => h) (Or.inr ⟨by rfl, rfl⟩) ?_ ?_
          rotate_left
          · simp only [Act.put, List.setIfInBounds_toArray, List.set_cons_zero, List.set_cons_succ, i64_w, i32_w]
            rfl
          refine pure_ (i := 16) (N := some 80) (v := undef) (a' := ?_) #[true, true, true, true, true, true, true, true, true, true, true, true, true, true, true, true, true, false, false, false] rfl rfl (any_of HT_.out (by kernel_rfl)) (fun _ _ _ h => h) (Or.inr ⟨by rfl, rfl⟩) ?_ ?_
          rotate_left
          · simp only [Act.put, List.setIfInBounds_toArray, List.set_cons_zero, List.set_cons_succ, i64_w, i32_w]
            rfl
          refine pure_ (i := 17) (N := some 81) (v := undef) (a' := ?_) #[true, true, true, true, true, true, true, true, true, true, true, true, true, true, true, true, true, true, false, false] rfl rfl (any_of HT_.out (by kernel_rfl)) (fun _ _ _ h => h) (Or.inr ⟨by rfl, rfl⟩) ?_ ?_
          rotate_left
          · simp only [Act.put, List.setIfInBounds_toArray, List.set_cons_zero, List.set_cons_succ, i64_w, i32_w]
            rfl
          refine pure_ (i := 18) (N := some 82) (v := undef) (a' := ?_) #[true, true, true, true, true, true, true, true, true, true, true, true, true, true, true, true, true, true, true, false] rfl rfl (any_of HT_.out (by kernel_rfl)) (fun _ _ _ h => h) (Or.inr ⟨by rfl, rfl⟩) ?_ ?_
          rotate_left
          · simp only [Act.put, List.setIfInBounds_toArray, List.set_cons_zero, List.set_cons_succ, i64_w, i32_w]
            rfl
          refine pure_ (i := 19) (N := some 83) (v := ?_) (a' := ?_) #[true, true, true, true, true, true, true, true, true, true, true, true, true, true, true, true, true, true, true, true] rfl rfl (any_of HT_.out (by kernel_rfl)) (fun _ _ _ h => h) (Or.inl ⟨by rfl, ?_⟩) ?_ ?_
          rotate_left
          · intro w'
            go_simp
            with_reducible rfl
          rotate_left
          · simp only [Act.put, List.setIfInBounds_toArray, List.set_cons_zero, List.set_cons_succ, i64_w, i32_w]
            rfl
          refine done_ (done_of HT_.out (by kernel_rfl)) ?_
          try go_wp2
          go_meet
          case rel => exact ⟨_, (true), (by first | rfl | (simp; done) | (simp [*]; done)), H', ⟨by have := HJ2.out; first | omega | exact Nat.le_refl _⟩, ⟨by (with_reducible repeat (first | refine blk_drewN ?_ _ | refine blk_drew ?_ | refine blk_alloc ?_ _)); exact BK217.out⟩, ⟨by repeat (first | (with_reducible first | exact HB.out | apply below_alloc | apply pw_below_drewN | apply below_drew1 | refine below_set ?_ GE217.out) | exact HB.out)⟩⟩
      case rest =>
        clear HC31
        try clear c1
        try clear p2
        try clear c3
        try clear c15
        try clear c16
        try clear c35
        try clear c35b0
        try clear c35b1
        try clear c36
        try clear c36b0
        try clear c36b1
        try clear c38
        try clear c38b0
        try clear c38b1
        obtain ⟨kq, x83_30, rfl, HA, HJ30, BK217, HB⟩ := hcut
        cases kq with
        | zero => exact absurd HA.out (by simp [postriderlaw07_HeadFolds.j3])
        | succ kj30 =>
          have H := HA.out
          clear HA
          simp only [postriderlaw07_HeadFolds.j3] at H
          by_cases c50 : x83_30 = true
          · subst c50
            have H1 : (some false) = some r := by rw [if_pos rfl] at H; exact H
            clear H
            have H := H1
            clear H1
            obtain rfl := Option.some.inj H
            go_wp2
            go_ret
            exact ⟨by first | rfl | (simp [bneNil]; done) | (simp [errW_none, errW_some] <;> rfl) | (simp [*, errW_none, errW_some] <;> rfl), by repeat (first | (with_reducible first | exact HB.out | apply below_alloc | apply pw_below_drewN | apply below_drew1 | refine below_set ?_ GE217.out) | exact HB.out)⟩
          · replace c50 := Bool.eq_false_iff.mpr c50
            subst c50
            have H1 : ((strings_TrimSuffix.f t215 (⟨#[13, 10]⟩ : ByteArray)).bind fun t220 => ((strings_Split.f t220 (⟨#[13, 10]⟩ : ByteArray)).bind fun t221 => ((strings_Join.f t221 (⟨#[]⟩ : ByteArray)).bind fun t224 => (if 4 + x5_2.size ≤ 9223372036854775807 then (if t224.toList = ((⟨#[84, 111, 58, 32]⟩ : ByteArray) ++ x5_2).toList then (postriderlaw07_HeadFolds.l2 kj30 t221 t221 (t221.length : Int) 0) else (some false)) else (none))))) = some r := by rw [if_neg (show ¬ (false = true) by decide)] at H; exact H
            clear H
            have H := H1
            clear H1
            replace H := Option.bind_eq_some_iff.mp H
            obtain ⟨t220, A510, H⟩ := H
            replace H : ((strings_Split.f t220 (⟨#[13, 10]⟩ : ByteArray)).bind fun t221 => ((strings_Join.f t221 (⟨#[]⟩ : ByteArray)).bind fun t224 => (if 4 + x5_2.size ≤ 9223372036854775807 then (if t224.toList = ((⟨#[84, 111, 58, 32]⟩ : ByteArray) ++ x5_2).toList then (postriderlaw07_HeadFolds.l2 kj30 t221 t221 (t221.length : Int) 0) else (some false)) else (none)))) = some r := H
            have A51 := Aside0.mk A510
            clear A510
            replace H := Option.bind_eq_some_iff.mp H
            obtain ⟨t221, A520, H⟩ := H
            replace H : ((strings_Join.f t221 (⟨#[]⟩ : ByteArray)).bind fun t224 => (if 4 + x5_2.size ≤ 9223372036854775807 then (if t224.toList = ((⟨#[84, 111, 58, 32]⟩ : ByteArray) ++ x5_2).toList then (postriderlaw07_HeadFolds.l2 kj30 t221 t221 (t221.length : Int) 0) else (some false)) else (none))) = some r := H
            have A52 := Aside0.mk A520
            clear A520
            replace H := Option.bind_eq_some_iff.mp H
            obtain ⟨t224, A530, H⟩ := H
            replace H : (if 4 + x5_2.size ≤ 9223372036854775807 then (if t224.toList = ((⟨#[84, 111, 58, 32]⟩ : ByteArray) ++ x5_2).toList then (postriderlaw07_HeadFolds.l2 kj30 t221 t221 (t221.length : Int) 0) else (some false)) else (none)) = some r := H
            have A53 := Aside0.mk A530
            clear A530
            by_cases c54 : 4 + x5_2.size ≤ 9223372036854775807
            · rw [if_pos c54] at H
              have c54b0 := eq_true c54
              have c54b1 : decide (4 + x5_2.size ≤ 9223372036854775807) = true := decide_eq_true c54
              try have c54b2 : (9223372036854775807 < 4 + x5_2.size) = False := eq_false (Nat.not_lt.2 c54)
              by_cases c55 : t224.toList = ((⟨#[84, 111, 58, 32]⟩ : ByteArray) ++ x5_2).toList
              · rw [if_pos c55] at H
                have c55b0 : (t224.toList == ((⟨#[84, 111, 58, 32]⟩ : ByteArray) ++ x5_2).toList) = true := beq_iff_eq.mpr c55
                have c55b1 : (t224.toList != ((⟨#[84, 111, 58, 32]⟩ : ByteArray) ++ x5_2).toList) = false := bne_eq_false_iff_eq.mpr c55
                clear c55
                have H' := Aside0.mk H
                clear H
                have hcz56_0 : wc.cell? ⟨gb217, 0, none⟩ = some (.string t213) := (blk_cell BK217.out 0).trans rfl
                have hcz56_1 : wc.cell? ⟨gb217, 1, none⟩ = some (.string t214) := (blk_cell BK217.out 1).trans rfl
                have hcz56_2 : wc.cell? ⟨gb217, 2, none⟩ = some (.string t215) := (blk_cell BK217.out 2).trans rfl
                have hfz56_0 := blk_frozen BK217.out 0
                have hfz56_1 := blk_frozen BK217.out 1
                have hfz56_2 := blk_frozen BK217.out 2
                go_wp2_with (first | ((with_reducible refine gate_callee (f := 18) rfl ?_); refine goesL_ (some 86) rfl rfl Tryd.func18 (by kernel_rfl) rfl #[.string t215, .string (⟨#[13, 10]⟩ : ByteArray)] rfl (by (try simp only [List.map_toArray, List.map_cons, List.map_nil]); first | done | rfl | (simp only [List.length_drop, List.length_take]; rfl)) ?_; (with_reducible refine (strings_TrimSuffix.calls t215 (⟨#[13, 10]⟩ : ByteArray) t220 _ A51.out).mono ?_); rintro e w' ⟨rfl, ⟨nd, rfl⟩⟩; refine ⟨_, rfl, ?_⟩) | ((with_reducible refine gate_callee (f := 17) rfl ?_); refine goesL_ (some 87) rfl rfl Tryd.func17 (by kernel_rfl) rfl #[.string t220, .string (⟨#[13, 10]⟩ : ByteArray)] rfl (by (try simp only [List.map_toArray, List.map_cons, List.map_nil]); first | done | rfl | (simp only [List.length_drop, List.length_take]; rfl)) ?_; (with_reducible refine (strings_Split.calls t220 (⟨#[13, 10]⟩ : ByteArray) t221 _ ?side1 A52.out).mono ?_); (case side1 => exact Glob.below HG.out (by repeat (first | (with_reducible first | exact HB.out | apply below_alloc | apply pw_below_drewN | apply below_drew1 | refine below_set ?_ GE217.out) | exact HB.out))); rintro e w57 ⟨v222, rfl, ho0, hb⟩; refine ⟨_, rfl, ?_⟩; have n0_ := Aside0.mk (Kd.R_lower ho0 (below_size (by repeat (first | (with_reducible first | exact HB.out | apply below_alloc | apply pw_below_drewN | apply below_drew1 | refine below_set ?_ GE217.out) | exact HB.out)))); have n1_ := Aside0.mk (blk_below (g := gb217) (o := .cells #[.string t213, .string t214, .string t215] 41 (0, 0)) (by (with_reducible repeat (first | refine blk_drewN ?_ _ | refine blk_drew ?_ | refine blk_alloc ?_ _)); exact BK217.out) hb); have n2_ := Aside0.mk (below_step (by repeat (first | (with_reducible first | exact HB.out | apply below_alloc | apply pw_below_drewN | apply below_drew1 | refine below_set ?_ GE217.out) | exact HB.out)) hb); clear BK217; clear HB; have HO223 := n0_; have BK217 := n1_; have HB := n2_; clear n0_ n1_ n2_; (try clear hb); (try clear hb2); (try clear hk); (try clear hi); (try clear ho0); obtain ⟨Ao58, co58, eo58⟩ := Kd.R_slice HO223.out; subst eo58) | ((with_reducible refine gate_callee (f := 19) rfl ?_); refine goesL_ (some 89) rfl rfl Tryd.func19 (by kernel_rfl) rfl #[.slice Ao58 t221.length co58, .string (⟨#[]⟩ : ByteArray)] rfl (by (try simp only [List.map_toArray, List.map_cons, List.map_nil]); first | done | rfl | (simp only [List.length_drop, List.length_take]; rfl)) ?_; (with_reducible refine (strings_Join.calls _ _ t221 (⟨#[]⟩ : ByteArray) t224 _ ?side1 ?side2 A53.out).mono ?_); (case side1 => repeat (first | exact (Kd.R_reads' HO223.out).2.2 | (with_reducible refine Kd.C_alloc ?_ _) | (with_reducible refine Kd.C_drewN ?_ _) | (with_reducible refine Kd.C_drew ?_))); (case side2 => exact (Kd.R_reads' HO223.out).2.1); rintro e w59 ⟨rfl, hb⟩; refine ⟨_, rfl, ?_⟩; have n0_ := Aside0.mk (Kd.R_below (by (with_reducible repeat (first | apply Kd.R_alloc | apply Kd.R_drewN | apply Kd.R_drew)); exact HO223.out) hb); have n1_ := Aside0.mk (blk_below (g := gb217) (o := .cells #[.string t213, .string t214, .string t215] 41 (0, 0)) (by (with_reducible repeat (first | refine blk_drewN ?_ _ | refine blk_drew ?_ | refine blk_alloc ?_ _)); exact BK217.out) hb); have n2_ := Aside0.mk (below_step (by repeat (first | (with_reducible first | exact HB.out | apply below_alloc | apply pw_below_drewN | apply below_drew1 | refine below_set ?_ GE217.out) | exact HB.out)) hb); clear HO223; clear BK217; clear HB; have HO223 := n0_; have BK217 := n1_; have HB := n2_; clear n0_ n1_ n2_; (try clear hb); (try clear hb2); (try clear hk); (try clear hi)))
                go_loopg [95] kj30 (fun kq v95 w' => ∃ (x95_3 : Int), v95 = .int .i64 x95_3 ∧ Aside0 (postriderlaw07_HeadFolds.l2 kq t221 t221 (t221.length : Int) x95_3 = some r) ∧ Aside0 (kq ≤ kj30) ∧ Aside0 (Kd.R Kd.string 9 w' w.heap.size (fun _ => True) (.slice Ao58 t221.length co58) t221) ∧ Aside0 (Kd.R Kd.string 9 w' w.heap.size (fun _ => True) (.slice Ao58 t221.length co58) t221) ∧ Aside0 (w'.heap[gb217]? = some (.cells #[.string t213, .string t214, .string t215] 41 (0, 0))) ∧ Aside0 (Below w.heap.size w w'))
                case atStart => exact ⟨(0), (by first | rfl | (simp; done) | (simp [*]; done)), H', ⟨Nat.le_refl _⟩, ⟨by (with_reducible repeat (first | apply Kd.R_alloc | apply Kd.R_drewN | apply Kd.R_drew)); exact HO223.out⟩, ⟨by (with_reducible repeat (first | apply Kd.R_alloc | apply Kd.R_drewN | apply Kd.R_drew)); exact HO223.out⟩, ⟨by (with_reducible repeat (first | refine blk_drewN ?_ _ | refine blk_drew ?_ | refine blk_alloc ?_ _)); exact BK217.out⟩, ⟨by repeat (first | (with_reducible first | exact HB.out | apply below_alloc | apply pw_below_drewN | apply below_drew1 | refine below_set ?_ GE217.out) | exact HB.out)⟩⟩
                case round =>
                  clear H'
                  try clear c1
                  try clear p2
                  try clear c3
                  try clear c5
                  try clear c15
                  try clear c16
                  try clear c17
                  try clear c18
                  try clear c19
                  try clear c35
                  try clear c35b0
                  try clear c35b1
                  try clear c36
                  try clear c36b0
                  try clear c36b1
                  try clear c38
                  try clear c38b0
                  try clear c38b1
                  try clear c50
                  try clear c54
                  try clear c54b0
                  try clear c54b1
                  try clear c54b2
                  try clear c55
                  try clear c55b0
                  try clear c55b1
                  try clear hcz56_0
                  try clear hcz56_1
                  try clear hcz56_2
                  try clear hfz56_0
                  try clear hfz56_1
                  try clear hfz56_2
                  try clear p2
                  obtain ⟨x95_3, rfl, HA, HK3, HO_12, HO_93, BK217, HB⟩ := hrel
                  cases gk with
                  | zero => exact absurd HA.out (by simp [postriderlaw07_HeadFolds.l2])
                  | succ k3 =>
                    have H := HA.out
                    clear HA
                    simp only [postriderlaw07_HeadFolds.l2] at H
                    by_cases c60 : x95_3 < (t221.length : Int)
                    · rw [if_pos c60] at H
                      have c60b0 : decide (x95_3 < (t221.length : Int)) = true := decide_eq_true c60
                      clear c60
                      by_cases c61 : 0 ≤ x95_3
                      · rw [if_pos c61] at H
                        have c61b0 : decide (0 ≤ x95_3) = true := decide_eq_true c61
                        clear c61
                        by_cases c62 : x95_3 < (t221.length : Int)
                        · rw [if_pos c62] at H
                          have c62b0 : decide (x95_3 < (t221.length : Int)) = true := decide_eq_true c62
                          clear c62
                          have HC63 := Aside0.mk H
                          clear H
                          have p226 : 0 ≤ (x95_3 : Int) := of_decide_eq_true (by first | (with_reducible assumption) | assumption)
                          have q226 : x95_3 < (t221.length : Int) := of_decide_eq_true (by first | (with_reducible assumption) | assumption)
                          obtain ⟨ad226, e226, hx226_0⟩ := Kd.at_string (Kd.R_reads' HO_93.out).2.2 x95_3 p226 q226
                          cases e226
                          replace p226 := eq_true p226
                          replace q226 := eq_true q226
                          go_upto_region 25 with (fail)
                          go_cut [121] (fun v121 wc => ∃ (kq : Nat) (x121_62 : Bool), v121 = .bool x121_62 ∧ Aside0 (postriderlaw07_HeadFolds.j5 kq t221 x95_3 (rdOf ByteArray.empty t221 x95_3) t221 (t221.length : Int) x95_3 x121_62 = some r) ∧ Aside0 (kq ≤ k3) ∧ Aside0 (Kd.R Kd.string 9 wc w.heap.size (fun _ => True) (.slice (some ad226) t221.length co58) t221) ∧ Aside0 (Kd.R Kd.string 9 wc w.heap.size (fun _ => True) (.slice (some ad226) t221.length co58) t221) ∧ Aside0 (wc.heap[gb217]? = some (.cells #[.string t213, .string t214, .string t215] 41 (0, 0))) ∧ Aside0 (Below w.heap.size w wc))
                          case first =>
                            have H := HC63.out
                            clear HC63
                            by_cases c64 : x95_3 > 0
                            · rw [if_pos c64] at H
                              have c64b0 : decide (0 < x95_3) = true := decide_eq_true c64
                              clear c64
                              (first | rw [c64b0] | (simp only [i64_w, i32_w]; rw [c64b0]) | skip)
                              obtain ⟨ji65, hji65⟩ : ∃ j_ : Int, (mn ((rdOf ByteArray.empty t221 x95_3).size : Int) 1) = j_ := ⟨_, rfl⟩
                              replace H : (if 0 ≤ (ji65) then (if (ji65) ≤ ((rdOf ByteArray.empty t221 x95_3).size : Int) then (if ((rdOf ByteArray.empty t221 x95_3).extract 0 ((ji65) : Int).toNat).toList = ([32] : List UInt8) then (if (wrap64 (x95_3 + 1)) < (t221.length : Int) then ((strings_HasSuffix.f (rdOf ByteArray.empty t221 x95_3) (⟨#[44]⟩ : ByteArray)).bind fun t227 => (postriderlaw07_HeadFolds.j5 k3 t221 x95_3 (rdOf ByteArray.empty t221 x95_3) t221 (t221.length : Int) x95_3 (!t227))) else (postriderlaw07_HeadFolds.j5 k3 t221 x95_3 (rdOf ByteArray.empty t221 x95_3) t221 (t221.length : Int) x95_3 false)) else (postriderlaw07_HeadFolds.j5 k3 t221 x95_3 (rdOf ByteArray.empty t221 x95_3) t221 (t221.length : Int) x95_3 true)) else (none)) else (none)) = some r := by first | (rw [hji65] at H; exact H) | (simp only [hji65] at H ⊢; exact H)
                              have hji65_ : (if 1 < ((rdOf ByteArray.empty t221 x95_3).size : Int) then 1 else ((rdOf ByteArray.empty t221 x95_3).size : Int)) = ji65 := hji65
                              by_cases c66 : 0 ≤ (ji65)
                              · rw [if_pos c66] at H
                                have c66b0 := eq_true c66
                                have c66b1 : decide (0 ≤ (ji65)) = true := decide_eq_true c66
                                clear c66
                                by_cases c67 : (ji65) ≤ ((rdOf ByteArray.empty t221 x95_3).size : Int)
                                · rw [if_pos c67] at H
                                  have c67b0 := eq_true c67
                                  have c67b1 : decide ((ji65) ≤ ((rdOf ByteArray.empty t221 x95_3).size : Int)) = true := decide_eq_true c67
                                  clear c67
                                  obtain ⟨js68, hjs68⟩ : ∃ j_ : ByteArray, ((rdOf ByteArray.empty t221 x95_3).extract 0 ((ji65) : Int).toNat) = j_ := ⟨_, rfl⟩
                                  replace H : (if js68.toList = ([32] : List UInt8) then (if (wrap64 (x95_3 + 1)) < (t221.length : Int) then ((strings_HasSuffix.f (rdOf ByteArray.empty t221 x95_3) (⟨#[44]⟩ : ByteArray)).bind fun t227 => (postriderlaw07_HeadFolds.j5 k3 t221 x95_3 (rdOf ByteArray.empty t221 x95_3) t221 (t221.length : Int) x95_3 (!t227))) else (postriderlaw07_HeadFolds.j5 k3 t221 x95_3 (rdOf ByteArray.empty t221 x95_3) t221 (t221.length : Int) x95_3 false)) else (postriderlaw07_HeadFolds.j5 k3 t221 x95_3 (rdOf ByteArray.empty t221 x95_3) t221 (t221.length : Int) x95_3 true)) = some r := by first | (rw [hjs68] at H; exact H) | (simp only [hjs68] at H ⊢; exact H)
                                  by_cases c69 : js68.toList = ([32] : List UInt8)
                                  · rw [if_pos c69] at H
                                    have c69b0 : (js68.toList == ([32] : List UInt8)) = true := beq_iff_eq.mpr c69
                                    have c69b1 : (js68.toList != ([32] : List UInt8)) = false := bne_eq_false_iff_eq.mpr c69
                                    clear c69
                                    by_cases c70 : (wrap64 (x95_3 + 1)) < (t221.length : Int)
                                    · rw [if_pos c70] at H
                                      have c70b0 : decide ((wrap64 (x95_3 + 1)) < (t221.length : Int)) = true := decide_eq_true c70
                                      clear c70
                                      replace H := Option.bind_eq_some_iff.mp H
                                      obtain ⟨t227, A710, H⟩ := H
                                      replace H : (postriderlaw07_HeadFolds.j5 k3 t221 x95_3 (rdOf ByteArray.empty t221 x95_3) t221 (t221.length : Int) x95_3 (!t227)) = some r := H
                                      have A71 := Aside0.mk A710
                                      clear A710
                                      have H' := Aside0.mk H
                                      clear H
                                      go_wp2_with (first | (go_at_call 16; (with_reducible refine (strings_HasSuffix.calls (rdOf ByteArray.empty t221 x95_3) (⟨#[44]⟩ : ByteArray) t227 _ A71.out).mono ?_); rintro e w' ⟨rfl, ⟨nd, rfl⟩⟩))
                                      go_meet
                                      case rel => exact ⟨_, (!t227), (by first | rfl | (simp; done) | (simp [*]; done)), H', ⟨by have := HJ2.out; have := HJ30.out; have := HK3.out; first | omega | exact Nat.le_refl _⟩, ⟨by (with_reducible repeat (first | apply Kd.R_alloc | apply Kd.R_drewN | apply Kd.R_drew)); exact HO_12.out⟩, ⟨by (with_reducible repeat (first | apply Kd.R_alloc | apply Kd.R_drewN | apply Kd.R_drew)); exact HO_93.out⟩, ⟨by (with_reducible repeat (first | refine blk_drewN ?_ _ | refine blk_drew ?_ | refine blk_alloc ?_ _)); exact BK217.out⟩, ⟨by repeat (first | (with_reducible first | exact HB.out | apply below_alloc | apply pw_below_drewN | apply below_drew1 | refine below_set ?_ GE217.out) | exact HB.out)⟩⟩
                                    · rw [if_neg c70] at H
                                      have c70b0 : decide ((wrap64 (x95_3 + 1)) < (t221.length : Int)) = false := decide_eq_false c70
                                      clear c70
                                      have H' := Aside0.mk H
                                      clear H
                                      go_wp2
                                      go_meet
                                      case rel => exact ⟨_, (false), (by first | rfl | (simp; done) | (simp [*]; done)), H', ⟨by have := HJ2.out; have := HJ30.out; have := HK3.out; first | omega | exact Nat.le_refl _⟩, ⟨by (with_reducible repeat (first | apply Kd.R_alloc | apply Kd.R_drewN | apply Kd.R_drew)); exact HO_12.out⟩, ⟨by (with_reducible repeat (first | apply Kd.R_alloc | apply Kd.R_drewN | apply Kd.R_drew)); exact HO_93.out⟩, ⟨by (with_reducible repeat (first | refine blk_drewN ?_ _ | refine blk_drew ?_ | refine blk_alloc ?_ _)); exact BK217.out⟩, ⟨by repeat (first | (with_reducible first | exact HB.out | apply below_alloc | apply pw_below_drewN | apply below_drew1 | refine below_set ?_ GE217.out) | exact HB.out)⟩⟩
                                  · rw [if_neg c69] at H
                                    have c69b0 : (js68.toList == ([32] : List UInt8)) = false := beq_eq_false_iff_ne.mpr c69
                                    have c69b1 : (js68.toList != ([32] : List UInt8)) = true := bne_iff_ne.mpr c69
                                    have H' := Aside0.mk H
                                    clear H
                                    go_wp2
                                    go_meet
                                    case rel => exact ⟨_, (true), (by first | rfl | (simp; done) | (simp [*]; done)), H', ⟨by have := HJ2.out; have := HJ30.out; have := HK3.out; first | omega | exact Nat.le_refl _⟩, ⟨by (with_reducible repeat (first | apply Kd.R_alloc | apply Kd.R_drewN | apply Kd.R_drew)); exact HO_12.out⟩, ⟨by (with_reducible repeat (first | apply Kd.R_alloc | apply Kd.R_drewN | apply Kd.R_drew)); exact HO_93.out⟩, ⟨by (with_reducible repeat (first | refine blk_drewN ?_ _ | refine blk_drew ?_ | refine blk_alloc ?_ _)); exact BK217.out⟩, ⟨by repeat (first | (with_reducible first | exact HB.out | apply below_alloc | apply pw_below_drewN | apply below_drew1 | refine below_set ?_ GE217.out) | exact HB.out)⟩⟩
                                · rw [if_neg c67] at H
                                  exact absurd H (by simp)
                              · rw [if_neg c66] at H
                                exact absurd H (by simp)
                            · rw [if_neg c64] at H
                              have c64b0 : decide (0 < x95_3) = false := decide_eq_false c64
                              clear c64
                              (first | rw [c64b0] | (simp only [i64_w, i32_w]; rw [c64b0]) | skip)
                              by_cases c72 : (wrap64 (x95_3 + 1)) < (t221.length : Int)
                              · rw [if_pos c72] at H
                                have c72b0 : decide ((wrap64 (x95_3 + 1)) < (t221.length : Int)) = true := decide_eq_true c72
                                clear c72
                                replace H := Option.bind_eq_some_iff.mp H
                                obtain ⟨t228, A730, H⟩ := H
                                replace H : (postriderlaw07_HeadFolds.j5 k3 t221 x95_3 (rdOf ByteArray.empty t221 x95_3) t221 (t221.length : Int) x95_3 (!t228)) = some r := H
                                have A73 := Aside0.mk A730
                                clear A730
                                have H' := Aside0.mk H
                                clear H
                                go_wp2_with (first | (go_at_call 16; (with_reducible refine (strings_HasSuffix.calls (rdOf ByteArray.empty t221 x95_3) (⟨#[44]⟩ : ByteArray) t228 _ A73.out).mono ?_); rintro e w' ⟨rfl, ⟨nd, rfl⟩⟩))
                                go_meet
                                case rel => exact ⟨_, (!t228), (by first | rfl | (simp; done) | (simp [*]; done)), H', ⟨by have := HJ2.out; have := HJ30.out; have := HK3.out; first | omega | exact Nat.le_refl _⟩, ⟨by (with_reducible repeat (first | apply Kd.R_alloc | apply Kd.R_drewN | apply Kd.R_drew)); exact HO_12.out⟩, ⟨by (with_reducible repeat (first | apply Kd.R_alloc | apply Kd.R_drewN | apply Kd.R_drew)); exact HO_93.out⟩, ⟨by (with_reducible repeat (first | refine blk_drewN ?_ _ | refine blk_drew ?_ | refine blk_alloc ?_ _)); exact BK217.out⟩, ⟨by repeat (first | (with_reducible first | exact HB.out | apply below_alloc | apply pw_below_drewN | apply below_drew1 | refine below_set ?_ GE217.out) | exact HB.out)⟩⟩
                              · rw [if_neg c72] at H
                                have c72b0 : decide ((wrap64 (x95_3 + 1)) < (t221.length : Int)) = false := decide_eq_false c72
                                clear c72
                                have H' := Aside0.mk H
                                clear H
                                go_wp2
                                go_meet
                                case rel => exact ⟨_, (false), (by first | rfl | (simp; done) | (simp [*]; done)), H', ⟨by have := HJ2.out; have := HJ30.out; have := HK3.out; first | omega | exact Nat.le_refl _⟩, ⟨by (with_reducible repeat (first | apply Kd.R_alloc | apply Kd.R_drewN | apply Kd.R_drew)); exact HO_12.out⟩, ⟨by (with_reducible repeat (first | apply Kd.R_alloc | apply Kd.R_drewN | apply Kd.R_drew)); exact HO_93.out⟩, ⟨by (with_reducible repeat (first | refine blk_drewN ?_ _ | refine blk_drew ?_ | refine blk_alloc ?_ _)); exact BK217.out⟩, ⟨by repeat (first | (with_reducible first | exact HB.out | apply below_alloc | apply pw_below_drewN | apply below_drew1 | refine below_set ?_ GE217.out) | exact HB.out)⟩⟩
                          case rest =>
                            clear HC63
                            try clear c1
                            try clear p2
                            try clear q2
                            try clear hx2
                            try clear c3
                            try clear c5
                            try clear c6
                            try clear p6
                            try clear c7
                            try clear c15
                            try clear c16
                            try clear c17
                            try clear c18
                            try clear c19
                            try clear p22
                            try clear q22
                            try clear hx22
                            try clear c35
                            try clear c35b0
                            try clear c35b1
                            try clear c36
                            try clear c36b0
                            try clear c36b1
                            try clear c38
                            try clear c38b0
                            try clear c38b1
                            try clear c50
                            try clear c54
                            try clear c54b0
                            try clear c54b1
                            try clear c54b2
                            try clear c55
                            try clear c55b0
                            try clear c55b1
                            try clear c60
                            try clear c60b0
                            try clear c61
                            try clear c61b0
                            try clear c62
                            try clear c62b0
                            try clear c64
                            try clear c64b0
                            try clear p64
                            try clear c66
                            try clear c66b0
                            try clear c66b1
                            try clear c67
                            try clear c67b0
                            try clear c67b1
                            try clear c69
                            try clear c69b0
                            try clear c69b1
                            try clear c70
                            try clear c70b0
                            try clear c72
                            try clear c72b0
                            try clear hcz56_0
                            try clear hcz56_1
                            try clear hcz56_2
                            try clear hfz56_0
                            try clear hfz56_1
                            try clear hfz56_2
                            try clear hx226_0
                            try clear p2
                            try clear p226
                            try clear q226
                            obtain ⟨kq, x121_62, rfl, HA, HJ62, HO_12, HO_93, BK217, HB⟩ := hcut
                            cases kq with
                            | zero => exact absurd HA.out (by simp [postriderlaw07_HeadFolds.j5])
                            | succ kj62 =>
                              have H := HA.out
                              clear HA
                              simp only [postriderlaw07_HeadFolds.j5] at H
                              by_cases c74 : x121_62 = true
                              · subst c74
                                have H1 : (some false) = some r := by rw [if_pos rfl] at H; exact H
                                clear H
                                have H := H1
                                clear H1
                                obtain rfl := Option.some.inj H
                                go_wp2
                                go_ret
                                exact ⟨by first | rfl | (simp [bneNil]; done) | (simp [errW_none, errW_some] <;> rfl) | (simp [*, errW_none, errW_some] <;> rfl), by repeat (first | (with_reducible first | exact HB.out | apply below_alloc | apply pw_below_drewN | apply below_drew1 | refine below_set ?_ GE217.out) | exact HB.out)⟩
                              · replace c74 := Bool.eq_false_iff.mpr c74
                                subst c74
                                have H1 : (if ((rdOf ByteArray.empty t221 x95_3).size : Int) > 78 then (if ((rdOf ByteArray.empty t221 x95_3).size : Int) > (wrap64 (2 + (wrap64 (3 * (mn (wrap64 (1 - (mn x95_3 1))) 1))))) then (if 0 ≤ (wrap64 ((wrap64 (2 + (wrap64 (3 * (mn (wrap64 (1 - (mn x95_3 1))) 1))))) - 1)) then (if (wrap64 ((wrap64 (2 + (wrap64 (3 * (mn (wrap64 (1 - (mn x95_3 1))) 1))))) - 1)) ≤ ((rdOf ByteArray.empty t221 x95_3).size : Int) then ((strings_Contains.f ((rdOf ByteArray.empty t221 x95_3).extract ((wrap64 ((wrap64 (2 + (wrap64 (3 * (mn (wrap64 (1 - (mn x95_3 1))) 1))))) - 1)) : Int).toNat (rdOf ByteArray.empty t221 x95_3).size) (⟨#[44, 32]⟩ : ByteArray)).bind fun t229 => (if t229 = true then (some false) else (postriderlaw07_HeadFolds.l2 kj62 t221 t221 (t221.length : Int) (wrap64 (x95_3 + 1))))) else (none)) else (none)) else (postriderlaw07_HeadFolds.l2 kj62 t221 t221 (t221.length : Int) (wrap64 (x95_3 + 1)))) else (postriderlaw07_HeadFolds.l2 kj62 t221 t221 (t221.length : Int) (wrap64 (x95_3 + 1)))) = some r := by rw [if_neg (show ¬ (false = true) by decide)] at H; exact H
                                clear H
                                have H := H1
                                clear H1
                                obtain ⟨ji75, hji75⟩ : ∃ j_ : Int, (mn x95_3 1) = j_ := ⟨_, rfl⟩
                                replace H : (if ((rdOf ByteArray.empty t221 x95_3).size : Int) > 78 then (if ((rdOf ByteArray.empty t221 x95_3).size : Int) > (wrap64 (2 + (wrap64 (3 * (mn (wrap64 (1 - (ji75))) 1))))) then (if 0 ≤ (wrap64 ((wrap64 (2 + (wrap64 (3 * (mn (wrap64 (1 - (ji75))) 1))))) - 1)) then (if (wrap64 ((wrap64 (2 + (wrap64 (3 * (mn (wrap64 (1 - (ji75))) 1))))) - 1)) ≤ ((rdOf ByteArray.empty t221 x95_3).size : Int) then ((strings_Contains.f ((rdOf ByteArray.empty t221 x95_3).extract ((wrap64 ((wrap64 (2 + (wrap64 (3 * (mn (wrap64 (1 - (ji75))) 1))))) - 1)) : Int).toNat (rdOf ByteArray.empty t221 x95_3).size) (⟨#[44, 32]⟩ : ByteArray)).bind fun t229 => (if t229 = true then (some false) else (postriderlaw07_HeadFolds.l2 kj62 t221 t221 (t221.length : Int) (wrap64 (x95_3 + 1))))) else (none)) else (none)) else (postriderlaw07_HeadFolds.l2 kj62 t221 t221 (t221.length : Int) (wrap64 (x95_3 + 1)))) else (postriderlaw07_HeadFolds.l2 kj62 t221 t221 (t221.length : Int) (wrap64 (x95_3 + 1)))) = some r := by first | (rw [hji75] at H; exact H) | (simp only [hji75] at H ⊢; exact H)
                                have hji75_ : (if 1 < x95_3 then 1 else x95_3) = ji75 := hji75
                                obtain ⟨ji76, hji76⟩ : ∃ j_ : Int, (mn (wrap64 (1 - (ji75))) 1) = j_ := ⟨_, rfl⟩
                                replace H : (if ((rdOf ByteArray.empty t221 x95_3).size : Int) > 78 then (if ((rdOf ByteArray.empty t221 x95_3).size : Int) > (wrap64 (2 + (wrap64 (3 * (ji76))))) then (if 0 ≤ (wrap64 ((wrap64 (2 + (wrap64 (3 * (ji76))))) - 1)) then (if (wrap64 ((wrap64 (2 + (wrap64 (3 * (ji76))))) - 1)) ≤ ((rdOf ByteArray.empty t221 x95_3).size : Int) then ((strings_Contains.f ((rdOf ByteArray.empty t221 x95_3).extract ((wrap64 ((wrap64 (2 + (wrap64 (3 * (ji76))))) - 1)) : Int).toNat (rdOf ByteArray.empty t221 x95_3).size) (⟨#[44, 32]⟩ : ByteArray)).bind fun t229 => (if t229 = true then (some false) else (postriderlaw07_HeadFolds.l2 kj62 t221 t221 (t221.length : Int) (wrap64 (x95_3 + 1))))) else (none)) else (none)) else (postriderlaw07_HeadFolds.l2 kj62 t221 t221 (t221.length : Int) (wrap64 (x95_3 + 1)))) else (postriderlaw07_HeadFolds.l2 kj62 t221 t221 (t221.length : Int) (wrap64 (x95_3 + 1)))) = some r := by first | (rw [hji76] at H; exact H) | (simp only [hji76] at H ⊢; exact H)
                                have hji76_ : (if 1 < (wrap64 (1 - (ji75))) then 1 else (wrap64 (1 - (ji75)))) = ji76 := hji76
                                by_cases c77 : ((rdOf ByteArray.empty t221 x95_3).size : Int) > 78
                                · rw [if_pos c77] at H
                                  have c77b0 : decide (78 < ((rdOf ByteArray.empty t221 x95_3).size : Int)) = true := decide_eq_true c77
                                  have c77b1 : decide (78 < (rdOf ByteArray.empty t221 x95_3).size) = true := decide_eq_true (by omega)
                                  clear c77
                                  by_cases c78 : ((rdOf ByteArray.empty t221 x95_3).size : Int) > (wrap64 (2 + (wrap64 (3 * (ji76)))))
                                  · rw [if_pos c78] at H
                                    have c78b0 : decide ((wrap64 (2 + (wrap64 (3 * (ji76))))) < ((rdOf ByteArray.empty t221 x95_3).size : Int)) = true := decide_eq_true c78
                                    clear c78
                                    obtain ⟨ji79, hji79⟩ : ∃ j_ : Int, (wrap64 ((wrap64 (2 + (wrap64 (3 * (ji76))))) - 1)) = j_ := ⟨_, rfl⟩
                                    replace H : (if 0 ≤ (ji79) then (if (ji79) ≤ ((rdOf ByteArray.empty t221 x95_3).size : Int) then ((strings_Contains.f ((rdOf ByteArray.empty t221 x95_3).extract ((ji79) : Int).toNat (rdOf ByteArray.empty t221 x95_3).size) (⟨#[44, 32]⟩ : ByteArray)).bind fun t229 => (if t229 = true then (some false) else (postriderlaw07_HeadFolds.l2 kj62 t221 t221 (t221.length : Int) (wrap64 (x95_3 + 1))))) else (none)) else (none)) = some r := by first | (rw [hji79] at H; exact H) | (simp only [hji79] at H ⊢; exact H)
                                    have hji79w : (IntKind.i64.wrap ((wrap64 (2 + (wrap64 (3 * (ji76))))) - 1)) = ji79 := (i64_w _).trans hji79
                                    by_cases c80 : 0 ≤ (ji79)
                                    · rw [if_pos c80] at H
                                      have c80b0 := eq_true c80
                                      have c80b1 : decide (0 ≤ (ji79)) = true := decide_eq_true c80
                                      clear c80
                                      by_cases c81 : (ji79) ≤ ((rdOf ByteArray.empty t221 x95_3).size : Int)
                                      · rw [if_pos c81] at H
                                        have c81b0 := eq_true c81
                                        have c81b1 : decide ((ji79) ≤ ((rdOf ByteArray.empty t221 x95_3).size : Int)) = true := decide_eq_true c81
                                        clear c81
                                        obtain ⟨js82, hjs82⟩ : ∃ j_ : ByteArray, ((rdOf ByteArray.empty t221 x95_3).extract ((ji79) : Int).toNat (rdOf ByteArray.empty t221 x95_3).size) = j_ := ⟨_, rfl⟩
                                        replace H : ((strings_Contains.f js82 (⟨#[44, 32]⟩ : ByteArray)).bind fun t229 => (if t229 = true then (some false) else (postriderlaw07_HeadFolds.l2 kj62 t221 t221 (t221.length : Int) (wrap64 (x95_3 + 1))))) = some r := by first | (rw [hjs82] at H; exact H) | (simp only [hjs82] at H ⊢; exact H)
                                        replace H := Option.bind_eq_some_iff.mp H
                                        obtain ⟨t229, A830, H⟩ := H
                                        replace H : (if t229 = true then (some false) else (postriderlaw07_HeadFolds.l2 kj62 t221 t221 (t221.length : Int) (wrap64 (x95_3 + 1)))) = some r := H
                                        have A83 := Aside0.mk A830
                                        clear A830
                                        by_cases c84 : t229 = true
                                        · subst c84
                                          have H1 : (some false) = some r := by rw [if_pos rfl] at H; exact H
                                          clear H
                                          have H := H1
                                          clear H1
                                          obtain rfl := Option.some.inj H
                                          go_wp2_with (first | (go_at_call 20; (with_reducible refine (strings_Contains.calls js82 (⟨#[44, 32]⟩ : ByteArray) true _ ?side1 A83.out).mono ?_); (case side1 => exact Glob.below HG.out (by repeat (first | (with_reducible first | exact HB.out | apply below_alloc | apply pw_below_drewN | apply below_drew1 | refine below_set ?_ GE217.out) | exact HB.out))); rintro e w' ⟨rfl, ⟨nd, rfl⟩⟩))
                                          go_ret
                                          exact ⟨by first | rfl | (simp [bneNil]; done) | (simp [errW_none, errW_some] <;> rfl) | (simp only [← hji75, ← hji76, ← hji79]; first | rfl | (simp [errW_none, errW_some] <;> rfl)) | (simp [*, errW_none, errW_some] <;> rfl), by repeat (first | (with_reducible first | exact HB.out | apply below_alloc | apply pw_below_drewN | apply below_drew1 | refine below_set ?_ GE217.out) | exact HB.out)⟩
                                        · replace c84 := Bool.eq_false_iff.mpr c84
                                          subst c84
                                          have H1 : (postriderlaw07_HeadFolds.l2 kj62 t221 t221 (t221.length : Int) (wrap64 (x95_3 + 1))) = some r := by rw [if_neg (show ¬ (false = true) by decide)] at H; exact H
                                          clear H
                                          have H := H1
                                          clear H1
                                          have H' := Aside0.mk H
                                          clear H
                                          go_wp2_with (first | (go_at_call 20; (with_reducible refine (strings_Contains.calls js82 (⟨#[44, 32]⟩ : ByteArray) false _ ?side1 A83.out).mono ?_); (case side1 => exact Glob.below HG.out (by repeat (first | (with_reducible first | exact HB.out | apply below_alloc | apply pw_below_drewN | apply below_drew1 | refine below_set ?_ GE217.out) | exact HB.out))); rintro e w' ⟨rfl, ⟨nd, rfl⟩⟩))
                                          go_roundg kj62
                                          case measure => have := HJ2.out; have := HJ30.out; have := HK3.out; have := HJ62.out; omega
                                          case rel => exact ⟨(wrap64 (x95_3 + 1)), (by first | rfl | (simp; done) | (simp [*]; done)), H', ⟨by have := HJ2.out; have := HJ30.out; have := HK3.out; have := HJ62.out; omega⟩, ⟨by (with_reducible repeat (first | apply Kd.R_alloc | apply Kd.R_drewN | apply Kd.R_drew)); exact HO_12.out⟩, ⟨by (with_reducible repeat (first | apply Kd.R_alloc | apply Kd.R_drewN | apply Kd.R_drew)); exact HO_93.out⟩, ⟨by (with_reducible repeat (first | refine blk_drewN ?_ _ | refine blk_drew ?_ | refine blk_alloc ?_ _)); exact BK217.out⟩, ⟨by repeat (first | (with_reducible first | exact HB.out | apply below_alloc | apply pw_below_drewN | apply below_drew1 | refine below_set ?_ GE217.out) | exact HB.out)⟩⟩
                                      · rw [if_neg c81] at H
                                        exact absurd H (by simp)
                                    · rw [if_neg c80] at H
                                      exact absurd H (by simp)
                                  · rw [if_neg c78] at H
                                    have c78b0 : decide ((wrap64 (2 + (wrap64 (3 * (ji76))))) < ((rdOf ByteArray.empty t221 x95_3).size : Int)) = false := decide_eq_false c78
                                    clear c78
                                    have H' := Aside0.mk H
                                    clear H
                                    go_wp2
                                    go_roundg kj62
                                    case measure => have := HJ2.out; have := HJ30.out; have := HK3.out; have := HJ62.out; omega
                                    case rel => exact ⟨(wrap64 (x95_3 + 1)), (by first | rfl | (simp; done) | (simp [*]; done)), H', ⟨by have := HJ2.out; have := HJ30.out; have := HK3.out; have := HJ62.out; omega⟩, ⟨by (with_reducible repeat (first | apply Kd.R_alloc | apply Kd.R_drewN | apply Kd.R_drew)); exact HO_12.out⟩, ⟨by (with_reducible repeat (first | apply Kd.R_alloc | apply Kd.R_drewN | apply Kd.R_drew)); exact HO_93.out⟩, ⟨by (with_reducible repeat (first | refine blk_drewN ?_ _ | refine blk_drew ?_ | refine blk_alloc ?_ _)); exact BK217.out⟩, ⟨by repeat (first | (with_reducible first | exact HB.out | apply below_alloc | apply pw_below_drewN | apply below_drew1 | refine below_set ?_ GE217.out) | exact HB.out)⟩⟩
                                · rw [if_neg c77] at H
                                  have c77b0 : decide (78 < ((rdOf ByteArray.empty t221 x95_3).size : Int)) = false := decide_eq_false c77
                                  have c77b1 : decide (78 < (rdOf ByteArray.empty t221 x95_3).size) = false := decide_eq_false (by omega)
                                  clear c77
                                  have H' := Aside0.mk H
                                  clear H
                                  go_wp2
                                  go_roundg kj62
                                  case measure => have := HJ2.out; have := HJ30.out; have := HK3.out; have := HJ62.out; omega
                                  case rel => exact ⟨(wrap64 (x95_3 + 1)), (by first | rfl | (simp; done) | (simp [*]; done)), H', ⟨by have := HJ2.out; have := HJ30.out; have := HK3.out; have := HJ62.out; omega⟩, ⟨by (with_reducible repeat (first | apply Kd.R_alloc | apply Kd.R_drewN | apply Kd.R_drew)); exact HO_12.out⟩, ⟨by (with_reducible repeat (first | apply Kd.R_alloc | apply Kd.R_drewN | apply Kd.R_drew)); exact HO_93.out⟩, ⟨by (with_reducible repeat (first | refine blk_drewN ?_ _ | refine blk_drew ?_ | refine blk_alloc ?_ _)); exact BK217.out⟩, ⟨by repeat (first | (with_reducible first | exact HB.out | apply below_alloc | apply pw_below_drewN | apply below_drew1 | refine below_set ?_ GE217.out) | exact HB.out)⟩⟩
                        · rw [if_neg c62] at H
                          exact absurd H (by simp)
                      · rw [if_neg c61] at H
                        exact absurd H (by simp)
                    · rw [if_neg c60] at H
                      have c60b0 : decide (x95_3 < (t221.length : Int)) = false := decide_eq_false c60
                      clear c60
                      replace H := Option.bind_eq_some_iff.mp H
                      obtain ⟨t225, A850, H⟩ := H
                      replace H : (some t225) = some r := H
                      have A85 := Aside0.mk A850
                      clear A850
                      obtain rfl := Option.some.inj H
                      go_wp2_with (first | ((with_reducible refine gate_callee (f := 13) rfl ?_); refine goesL_ (some 145) rfl rfl Tryd.func13 (by kernel_rfl) rfl #[] rfl (by (try simp only [List.map_toArray, List.map_cons, List.map_nil]); first | done | rfl | (simp only [List.length_drop, List.length_take]; rfl)) ?_; (with_reducible refine (postriderlaw07_wakes.calls k3  t225 _ ?side1 A85.out).mono ?_); (case side1 => exact Glob.below HG.out (by repeat (first | (with_reducible first | exact HB.out | apply below_alloc | apply pw_below_drewN | apply below_drew1 | refine below_set ?_ GE217.out) | exact HB.out))); rintro e w86 ⟨rfl, hb⟩; refine ⟨_, rfl, ?_⟩; have n0_ := Aside0.mk (Kd.R_below (by (with_reducible repeat (first | apply Kd.R_alloc | apply Kd.R_drewN | apply Kd.R_drew)); exact HO_12.out) hb); have n1_ := Aside0.mk (Kd.R_below (by (with_reducible repeat (first | apply Kd.R_alloc | apply Kd.R_drewN | apply Kd.R_drew)); exact HO_93.out) hb); have n2_ := Aside0.mk (blk_below (g := gb217) (o := .cells #[.string t213, .string t214, .string t215] 41 (0, 0)) (by (with_reducible repeat (first | refine blk_drewN ?_ _ | refine blk_drew ?_ | refine blk_alloc ?_ _)); exact BK217.out) hb); have n3_ := Aside0.mk (below_step (by repeat (first | (with_reducible first | exact HB.out | apply below_alloc | apply pw_below_drewN | apply below_drew1 | refine below_set ?_ GE217.out) | exact HB.out)) hb); clear HO_12; clear HO_93; clear BK217; clear HB; have HO_12 := n0_; have HO_93 := n1_; have BK217 := n2_; have HB := n3_; clear n0_ n1_ n2_ n3_; (try clear hb); (try clear hb2); (try clear hk); (try clear hi)))
                      go_ret
                      exact ⟨by first | rfl | (simp [bneNil]; done) | (simp [errW_none, errW_some] <;> rfl) | (simp [*, errW_none, errW_some] <;> rfl), by repeat (first | (with_reducible first | exact HB.out | apply below_alloc | apply pw_below_drewN | apply below_drew1 | refine below_set ?_ GE217.out) | exact HB.out)⟩
              · rw [if_neg c55] at H
                have c55b0 : (t224.toList == ((⟨#[84, 111, 58, 32]⟩ : ByteArray) ++ x5_2).toList) = false := beq_eq_false_iff_ne.mpr c55
                have c55b1 : (t224.toList != ((⟨#[84, 111, 58, 32]⟩ : ByteArray) ++ x5_2).toList) = true := bne_iff_ne.mpr c55
                obtain rfl := Option.some.inj H
                have hcz87_0 : wc.cell? ⟨gb217, 0, none⟩ = some (.string t213) := (blk_cell BK217.out 0).trans rfl
                have hcz87_1 : wc.cell? ⟨gb217, 1, none⟩ = some (.string t214) := (blk_cell BK217.out 1).trans rfl
                have hcz87_2 : wc.cell? ⟨gb217, 2, none⟩ = some (.string t215) := (blk_cell BK217.out 2).trans rfl
                have hfz87_0 := blk_frozen BK217.out 0
                have hfz87_1 := blk_frozen BK217.out 1
                have hfz87_2 := blk_frozen BK217.out 2
                go_wp2_with (first | ((with_reducible refine gate_callee (f := 18) rfl ?_); refine goesL_ (some 86) rfl rfl Tryd.func18 (by kernel_rfl) rfl #[.string t215, .string (⟨#[13, 10]⟩ : ByteArray)] rfl (by (try simp only [List.map_toArray, List.map_cons, List.map_nil]); first | done | rfl | (simp only [List.length_drop, List.length_take]; rfl)) ?_; (with_reducible refine (strings_TrimSuffix.calls t215 (⟨#[13, 10]⟩ : ByteArray) t220 _ A51.out).mono ?_); rintro e w' ⟨rfl, ⟨nd, rfl⟩⟩; refine ⟨_, rfl, ?_⟩) | ((with_reducible refine gate_callee (f := 17) rfl ?_); refine goesL_ (some 87) rfl rfl Tryd.func17 (by kernel_rfl) rfl #[.string t220, .string (⟨#[13, 10]⟩ : ByteArray)] rfl (by (try simp only [List.map_toArray, List.map_cons, List.map_nil]); first | done | rfl | (simp only [List.length_drop, List.length_take]; rfl)) ?_; (with_reducible refine (strings_Split.calls t220 (⟨#[13, 10]⟩ : ByteArray) t221 _ ?side1 A52.out).mono ?_); (case side1 => exact Glob.below HG.out (by repeat (first | (with_reducible first | exact HB.out | apply below_alloc | apply pw_below_drewN | apply below_drew1 | refine below_set ?_ GE217.out) | exact HB.out))); rintro e w88 ⟨v222, rfl, ho0, hb⟩; refine ⟨_, rfl, ?_⟩; have n0_ := Aside0.mk (Kd.R_lower ho0 (below_size (by repeat (first | (with_reducible first | exact HB.out | apply below_alloc | apply pw_below_drewN | apply below_drew1 | refine below_set ?_ GE217.out) | exact HB.out)))); have n1_ := Aside0.mk (blk_below (g := gb217) (o := .cells #[.string t213, .string t214, .string t215] 41 (0, 0)) (by (with_reducible repeat (first | refine blk_drewN ?_ _ | refine blk_drew ?_ | refine blk_alloc ?_ _)); exact BK217.out) hb); have n2_ := Aside0.mk (below_step (by repeat (first | (with_reducible first | exact HB.out | apply below_alloc | apply pw_below_drewN | apply below_drew1 | refine below_set ?_ GE217.out) | exact HB.out)) hb); clear BK217; clear HB; have HO223 := n0_; have BK217 := n1_; have HB := n2_; clear n0_ n1_ n2_; (try clear hb); (try clear hb2); (try clear hk); (try clear hi); (try clear ho0); obtain ⟨Ao89, co89, eo89⟩ := Kd.R_slice HO223.out; subst eo89) | ((with_reducible refine gate_callee (f := 19) rfl ?_); refine goesL_ (some 89) rfl rfl Tryd.func19 (by kernel_rfl) rfl #[.slice Ao89 t221.length co89, .string (⟨#[]⟩ : ByteArray)] rfl (by (try simp only [List.map_toArray, List.map_cons, List.map_nil]); first | done | rfl | (simp only [List.length_drop, List.length_take]; rfl)) ?_; (with_reducible refine (strings_Join.calls _ _ t221 (⟨#[]⟩ : ByteArray) t224 _ ?side1 ?side2 A53.out).mono ?_); (case side1 => repeat (first | exact (Kd.R_reads' HO223.out).2.2 | (with_reducible refine Kd.C_alloc ?_ _) | (with_reducible refine Kd.C_drewN ?_ _) | (with_reducible refine Kd.C_drew ?_))); (case side2 => exact (Kd.R_reads' HO223.out).2.1); rintro e w90 ⟨rfl, hb⟩; refine ⟨_, rfl, ?_⟩; have n0_ := Aside0.mk (Kd.R_below (by (with_reducible repeat (first | apply Kd.R_alloc | apply Kd.R_drewN | apply Kd.R_drew)); exact HO223.out) hb); have n1_ := Aside0.mk (blk_below (g := gb217) (o := .cells #[.string t213, .string t214, .string t215] 41 (0, 0)) (by (with_reducible repeat (first | refine blk_drewN ?_ _ | refine blk_drew ?_ | refine blk_alloc ?_ _)); exact BK217.out) hb); have n2_ := Aside0.mk (below_step (by repeat (first | (with_reducible first | exact HB.out | apply below_alloc | apply pw_below_drewN | apply below_drew1 | refine below_set ?_ GE217.out) | exact HB.out)) hb); clear HO223; clear BK217; clear HB; have HO223 := n0_; have BK217 := n1_; have HB := n2_; clear n0_ n1_ n2_; (try clear hb); (try clear hb2); (try clear hk); (try clear hi)))
                go_ret
                exact ⟨by first | rfl | (simp [bneNil]; done) | (simp [errW_none, errW_some] <;> rfl) | (simp [*, errW_none, errW_some] <;> rfl), by repeat (first | (with_reducible first | exact HB.out | apply below_alloc | apply pw_below_drewN | apply below_drew1 | refine below_set ?_ GE217.out) | exact HB.out)⟩
            · rw [if_neg c54] at H
              exact absurd H (by simp)

/-- THE ONE PURE STATEMENT of postriderlaw07_HeadFolds: yours. -/
def postriderlaw07_HeadFolds.Pure : Prop := ∀ (l0 : List ByteArray) (a1 : Int), l0.length ≤ maxLen → (∀ x ∈ l0, x.size ≤ maxLen) → (Lit.int .u64 a1).wf = true → ∃ k, postriderlaw07_HeadFolds.f k l0 a1 = some true
theorem postriderlaw07_HeadFolds.walk (P : postriderlaw07_HeadFolds.Pure) (a0 : Option Addr) (len0 cap0 : Nat) (z0 : List ByteArray) (a1 : Int) (w : World) (w0 : IsRowS w a0 len0 cap0 z0) (w1 : (Lit.int .u64 a1).wf = true) (hG : Glob w) :
    Calls Tryd.prog 4 #[.slice a0 len0 cap0, .int .u64 a1] w fun e w' => e = .returned (.bool true) ∧ Below w.heap.size w w' := by
  obtain ⟨l0, rfl, hr0, hm0, hw0, hc0⟩ := strs_row w0
  obtain ⟨k, h⟩ := P l0 a1 hm0 hw0 w1
  refine (postriderlaw07_HeadFolds.calls k _ _ l0 a1 true w (Kd.C_of_reads (d := ByteArray.empty) (h1 := fun _ => rfl) hr0) hc0 hG h).mono ?_
  rintro e w' ⟨rfl, hd⟩
  exact ⟨rfl, hd⟩

end Go.Proofs.YtdciiahlakgikaaDoor.Q
