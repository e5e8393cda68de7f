/- Walks of functions. -/
import Derived.Test.YtdciiahlakgikaaDoorQx0
import Derived.Test.YtdciiahlakgikaaDoorQx5
import Derived.Test.YtdciiahlakgikaaDoorQx7
import Derived.Test.YtdciiahlakgikaaDoorQx11
namespace Go.Proofs.YtdciiahlakgikaaDoor.Q
open Go.RowKit Go.Proofs.YtdciiahlakgikaaDoorW.PrintWords Go.Proofs.YtdciiahlakgikaaDoorW.PrintLast Go.Proofs.YtdciiahlakgikaaDoorW.PrintMore
attribute [local go_sem] max2_int min2_int max_two min_two max_three min_three max_four min_four   -- for this text's walks alone
set_option linter.unusedVariables false
set_option linter.unusedSimpArgs false

attribute [local go_sem high] eqA60
/-! ### postriderlaw07_HeadLays: function 6 -/
def postriderlaw07_HeadLays.f (k : Nat) (l0_0 : List (S41)) (a0_1 : ByteArray) (a0_2 : Bool) (a1_0 : ByteArray) (a1_1 : ByteArray) (a1_2 : Int) : Option (Bool) := (postriderlaw07_Few.f k l0_0 a0_1 a0_2).bind fun bt325 => ((postriderlaw07_Of.f k bt325.1 bt325.2.1 bt325.2.2).bind fun bt330 => (if 0 ≤ (mn (a1_0.size : Int) 100) then (if (mn (a1_0.size : Int) 100) ≤ (a1_0.size : Int) then (if 0 ≤ (mn (a1_1.size : Int) 900) then (if (mn (a1_1.size : Int) 900) ≤ (a1_1.size : Int) then ((head_Lay.f k (a1_0.extract 0 ((mn (a1_0.size : Int) 100) : Int).toNat) (a1_1.extract 0 ((mn (a1_1.size : Int) 900) : Int).toNat)).bind fun bt336 => ((postriderref07_Lay.f k (a1_0.extract 0 ((mn (a1_0.size : Int) 100) : Int).toNat) (a1_1.extract 0 ((mn (a1_1.size : Int) 900) : Int).toNat)).bind fun bt341 => ((head_Message_Ahead.f k bt325.1 bt325.2.1 bt325.2.2 (a1_0.extract 0 ((mn (a1_0.size : Int) 100) : Int).toNat) (a1_1.extract 0 ((mn (a1_1.size : Int) 900) : Int).toNat)).bind fun bt346 => ((postriderref07_Ahead.f k bt330.1 bt330.2.1 bt330.2.2 (a1_0.extract 0 ((mn (a1_0.size : Int) 100) : Int).toNat) (a1_1.extract 0 ((mn (a1_1.size : Int) 900) : Int).toNat)).bind fun bt353 => ((head_Message_Put.f k bt325.1 bt325.2.1 bt325.2.2 a1_2 (a1_1.extract 0 ((mn (a1_1.size : Int) 900) : Int).toNat)).bind fun bt360 => ((postriderref07_Put.f k bt330.1 bt330.2.1 bt330.2.2 a1_2 (a1_1.extract 0 ((mn (a1_1.size : Int) 900) : Int).toNat)).bind fun bt367 => (if (bt336.1.toList == bt341.1.toList && (bt336.2.1.toList == bt341.2.1.toList && (bt336.2.2.1.toList == bt341.2.2.1.toList))) = true then (if bt336.2.2.2 = bt341.2.2.2 then ((postriderlaw07_Of.f k bt346.1 bt346.2.1 bt346.2.2.1).bind fun bt374 => ((postriderref07_Same.f k bt374.1 bt374.2.1 bt374.2.2 bt353.1 bt353.2.1 bt353.2.2.1).bind fun t379 => (if t379 = true then (if bt346.2.2.2 = bt353.2.2.2 then ((postriderlaw07_Of.f k bt360.1 bt360.2.1 bt360.2.2.1).bind fun bt380 => ((postriderref07_Same.f k bt380.1 bt380.2.1 bt380.2.2 bt367.1 bt367.2.1 bt367.2.2.1).bind fun t385 => (if t385 = true then (if bt360.2.2.2 = bt367.2.2.2 then ((postriderlaw07_Of.f k bt325.1 bt325.2.1 bt325.2.2).bind fun bt386 => ((postriderref07_Same.f k bt386.1 bt386.2.1 bt386.2.2 bt330.1 bt330.2.1 bt330.2.2).bind fun t391 => (if t391 = true then ((postriderlaw07_wakes.f k).bind fun t392 => (some t392)) else (some false)))) else (some false)) else (some false)))) else (some false)) else (some false)))) else (some false)) else (some false)))))))) else (none)) else (none)) else (none)) else (none)))
theorem postriderlaw07_HeadLays.mono : ∀ a0 a1 a2 a3 a4 a5 k, LeO (postriderlaw07_HeadLays.f k a0 a1 a2 a3 a4 a5) (postriderlaw07_HeadLays.f (k + 1) a0 a1 a2 a3 a4 a5) := by
 intro a0 a1 a2 a3 a4 a5 k
 unfold postriderlaw07_HeadLays.f
 repeat' first
   | (with_reducible exact head_Lay.mono _ _ _)
   | (with_reducible exact head_Message_Ahead.mono _ _ _ _ _ _)
   | (with_reducible exact head_Message_Put.mono _ _ _ _ _ _)
   | (with_reducible exact postriderlaw07_Few.mono _ _ _ _)
   | (with_reducible exact postriderlaw07_Of.mono _ _ _ _)
   | (with_reducible exact postriderlaw07_wakes.mono _)
   | (with_reducible exact postriderref07_Ahead.mono _ _ _ _ _ _)
   | (with_reducible exact postriderref07_Lay.mono _ _ _)
   | (with_reducible exact postriderref07_Put.mono _ _ _ _ _ _)
   | (with_reducible exact postriderref07_Same.mono _ _ _ _ _ _ _)
   | (with_reducible exact LeO.refl _)
   | (with_reducible exact LeO.none _)
   | (with_reducible refine LeO.ite ?_ ?_)
   | (with_reducible refine LeO.bind ?_ (fun _ => ?_))
   | exact head_Lay.mono _ _ _
   | exact head_Message_Ahead.mono _ _ _ _ _ _
   | exact head_Message_Put.mono _ _ _ _ _ _
   | exact postriderlaw07_Few.mono _ _ _ _
   | exact postriderlaw07_Of.mono _ _ _ _
   | exact postriderlaw07_wakes.mono _
   | exact postriderref07_Ahead.mono _ _ _ _ _ _
   | exact postriderref07_Lay.mono _ _ _
   | exact postriderref07_Put.mono _ _ _ _ _ _
   | exact postriderref07_Same.mono _ _ _ _ _ _ _
   | exact LeO.none _
   | refine LeO.ite ?_ ?_
   | refine LeO.bind ?_ (fun _ => ?_)
def postriderlaw07_HeadLays.T3 : Bool × List (List Nat × List Nat) := (true, [([], []), ([0], [0]), ([], []), ([2], [2]), ([3], [3]), ([4], [4]), ([1, 5], [1, 5]), ([], []), ([7], [7]), ([], []), ([9], [9]), ([10], [10]), ([11], [11]), ([8, 12], [8, 12]), ([6, 0, 1, 2, 3, 4, 5, 6], [6]), ([13, 14, 0, 1, 2, 3, 4, 5, 6, 7, 8, 9, 10, 11, 12, 13, 14], [13])])
def postriderlaw07_HeadLays.B3 : List Nat := [0, 1, 0, 4, 12, 28, 63, 0, 128, 0, 512, 1536, 3584, 8064, 127, 32767]
theorem postriderlaw07_HeadLays.tab3 : rtab .any (opsOf Tryd.f6 3) = postriderlaw07_HeadLays.T3 := by kernel_rfl
theorem postriderlaw07_HeadLays.bits3 : waitsOk postriderlaw07_HeadLays.T3.2 postriderlaw07_HeadLays.B3 = true := by kernel_rfl
def postriderlaw07_HeadLays.T10 : Bool × List (List Nat × List Nat) := (true, [([], []), ([], []), ([0, 1], [0, 1]), ([2], [2]), ([3], [3]), ([3], [3]), ([4, 5, 3], [3, 4, 5]), ([3, 6], [3, 6]), ([7, 3], [7]), ([8], [8]), ([9, 8, 8], [8, 9]), ([8], [8]), ([10, 11, 10, 8], [8, 10, 11]), ([8, 12], [8, 12]), ([13, 12], [13]), ([14], [14]), ([14], [14]), ([15, 16, 14], [14, 15, 16]), ([14, 17], [14, 17]), ([18, 14], [18]), ([19], [19]), ([20, 19, 19], [19, 20]), ([19], [19]), ([21, 22, 21, 19], [19, 21, 22]), ([19, 23], [19, 23]), ([24, 23], [24]), ([25], [25]), ([25], [25]), ([26, 27, 25], [25, 26, 27]), ([25, 28], [25, 28]), ([29, 25], [29]), ([30], [30]), ([31, 30, 30], [30, 31]), ([30], [30]), ([32, 33, 32, 30], [30, 32, 33]), ([30, 34], [30, 34]), ([35, 34], [35]), ([36, 36], [36]), ([36, 37], [36, 37]), ([38, 37, 0, 1, 2, 3, 4, 5, 6, 7, 8, 9, 10, 11, 12, 13, 14, 15, 16, 17, 18, 19, 20, 21, 22, 23, 24, 25, 26, 27, 28, 29, 30, 31, 32, 33, 34, 35, 36, 37, 38], [38])])
def postriderlaw07_HeadLays.B10 : List Nat := [0, 0, 3, 7, 15, 15, 63, 127, 255, 511, 1023, 511, 4095, 8191, 16383, 32767, 32767, 131071, 262143, 524287, 1048575, 2097151, 1048575, 8388607, 16777215, 33554431, 67108863, 67108863, 268435455, 536870911, 1073741823, 2147483647, 4294967295, 2147483647, 17179869183, 34359738367, 68719476735, 137438953471, 274877906943, 549755813887]
theorem postriderlaw07_HeadLays.tab10 : rtab .any (opsOf Tryd.f6 10) = postriderlaw07_HeadLays.T10 := by kernel_rfl
theorem postriderlaw07_HeadLays.bits10 : waitsOk postriderlaw07_HeadLays.T10.2 postriderlaw07_HeadLays.B10 = true := by kernel_rfl
set_option maxHeartbeats 8000000 in
set_option maxRecDepth 100000 in
theorem postriderlaw07_HeadLays.calls (k : Nat) (A0_0 : Option Addr) (c0_0 : Nat) (l0_0 : List (S41)) (a0_1 : ByteArray) (a0_2 : Bool) (a1_0 : ByteArray) (a1_1 : ByteArray) (a1_2 : Int) (r : Bool) (w : World) (hr0_0 : Kd.C k41 w A0_0 l0_0.length l0_0) (hc0_0 : l0_0.length ≤ c0_0) (hG : Glob w) (hT : r = true) (h : postriderlaw07_HeadLays.f k l0_0 a0_1 a0_2 a1_0 a1_1 a1_2 = some r) :
  Calls Tryd.prog 6 #[.agg #[.slice A0_0 l0_0.length c0_0, .string a0_1, .bool a0_2], .agg #[.string a1_0, .string a1_1, .int .i64 a1_2]] w fun e w' => e = .returned (.bool r) ∧ Below w.heap.size w w' := by
 have hu24 := Tryd.underlying24
 have hu59 := Tryd.underlying59
 have hu30 := Tryd.underlying30
 have hu41 := Tryd.underlying41
 have hu60 := Tryd.underlying60
 have HR0_0 := Aside0.mk hr0_0
 have HC0_0 := Aside0.mk hc0_0
 clear hr0_0 hc0_0
 have HB := Aside0.mk (Below.refl w.heap.size w)
 have HG := Aside0.mk hG
 clear hG
 have HT_r := Aside0.mk hT
 clear hT
 have H : ((postriderlaw07_Few.f k l0_0 a0_1 a0_2).bind fun bt325 => ((postriderlaw07_Of.f k bt325.1 bt325.2.1 bt325.2.2).bind fun bt330 => (if 0 ≤ (mn (a1_0.size : Int) 100) then (if (mn (a1_0.size : Int) 100) ≤ (a1_0.size : Int) then (if 0 ≤ (mn (a1_1.size : Int) 900) then (if (mn (a1_1.size : Int) 900) ≤ (a1_1.size : Int) then ((head_Lay.f k (a1_0.extract 0 ((mn (a1_0.size : Int) 100) : Int).toNat) (a1_1.extract 0 ((mn (a1_1.size : Int) 900) : Int).toNat)).bind fun bt336 => ((postriderref07_Lay.f k (a1_0.extract 0 ((mn (a1_0.size : Int) 100) : Int).toNat) (a1_1.extract 0 ((mn (a1_1.size : Int) 900) : Int).toNat)).bind fun bt341 => ((head_Message_Ahead.f k bt325.1 bt325.2.1 bt325.2.2 (a1_0.extract 0 ((mn (a1_0.size : Int) 100) : Int).toNat) (a1_1.extract 0 ((mn (a1_1.size : Int) 900) : Int).toNat)).bind fun bt346 => ((postriderref07_Ahead.f k bt330.1 bt330.2.1 bt330.2.2 (a1_0.extract 0 ((mn (a1_0.size : Int) 100) : Int).toNat) (a1_1.extract 0 ((mn (a1_1.size : Int) 900) : Int).toNat)).bind fun bt353 => ((head_Message_Put.f k bt325.1 bt325.2.1 bt325.2.2 a1_2 (a1_1.extract 0 ((mn (a1_1.size : Int) 900) : Int).toNat)).bind fun bt360 => ((postriderref07_Put.f k bt330.1 bt330.2.1 bt330.2.2 a1_2 (a1_1.extract 0 ((mn (a1_1.size : Int) 900) : Int).toNat)).bind fun bt367 => (if (bt336.1.toList == bt341.1.toList && (bt336.2.1.toList == bt341.2.1.toList && (bt336.2.2.1.toList == bt341.2.2.1.toList))) = true then (if bt336.2.2.2 = bt341.2.2.2 then ((postriderlaw07_Of.f k bt346.1 bt346.2.1 bt346.2.2.1).bind fun bt374 => ((postriderref07_Same.f k bt374.1 bt374.2.1 bt374.2.2 bt353.1 bt353.2.1 bt353.2.2.1).bind fun t379 => (if t379 = true then (if bt346.2.2.2 = bt353.2.2.2 then ((postriderlaw07_Of.f k bt360.1 bt360.2.1 bt360.2.2.1).bind fun bt380 => ((postriderref07_Same.f k bt380.1 bt380.2.1 bt380.2.2 bt367.1 bt367.2.1 bt367.2.2.1).bind fun t385 => (if t385 = true then (if bt360.2.2.2 = bt367.2.2.2 then ((postriderlaw07_Of.f k bt325.1 bt325.2.1 bt325.2.2).bind fun bt386 => ((postriderref07_Same.f k bt386.1 bt386.2.1 bt386.2.2 bt330.1 bt330.2.1 bt330.2.2).bind fun t391 => (if t391 = true then ((postriderlaw07_wakes.f k).bind fun t392 => (some t392)) else (some false)))) else (some false)) else (some false)))) else (some false)) else (some false)))) else (some false)) else (some false)))))))) else (none)) else (none)) else (none)) else (none)))) = some r := h
 clear h
 replace H := Option.bind_eq_some_iff.mp H
 obtain ⟨⟨t325, t328, t329⟩, A30, H⟩ := H
 replace H : ((postriderlaw07_Of.f k t325 t328 t329).bind fun bt330 => (if 0 ≤ (mn (a1_0.size : Int) 100) then (if (mn (a1_0.size : Int) 100) ≤ (a1_0.size : Int) then (if 0 ≤ (mn (a1_1.size : Int) 900) then (if (mn (a1_1.size : Int) 900) ≤ (a1_1.size : Int) then ((head_Lay.f k (a1_0.extract 0 ((mn (a1_0.size : Int) 100) : Int).toNat) (a1_1.extract 0 ((mn (a1_1.size : Int) 900) : Int).toNat)).bind fun bt336 => ((postriderref07_Lay.f k (a1_0.extract 0 ((mn (a1_0.size : Int) 100) : Int).toNat) (a1_1.extract 0 ((mn (a1_1.size : Int) 900) : Int).toNat)).bind fun bt341 => ((head_Message_Ahead.f k t325 t328 t329 (a1_0.extract 0 ((mn (a1_0.size : Int) 100) : Int).toNat) (a1_1.extract 0 ((mn (a1_1.size : Int) 900) : Int).toNat)).bind fun bt346 => ((postriderref07_Ahead.f k bt330.1 bt330.2.1 bt330.2.2 (a1_0.extract 0 ((mn (a1_0.size : Int) 100) : Int).toNat) (a1_1.extract 0 ((mn (a1_1.size : Int) 900) : Int).toNat)).bind fun bt353 => ((head_Message_Put.f k t325 t328 t329 a1_2 (a1_1.extract 0 ((mn (a1_1.size : Int) 900) : Int).toNat)).bind fun bt360 => ((postriderref07_Put.f k bt330.1 bt330.2.1 bt330.2.2 a1_2 (a1_1.extract 0 ((mn (a1_1.size : Int) 900) : Int).toNat)).bind fun bt367 => (if (bt336.1.toList == bt341.1.toList && (bt336.2.1.toList == bt341.2.1.toList && (bt336.2.2.1.toList == bt341.2.2.1.toList))) = true then (if bt336.2.2.2 = bt341.2.2.2 then ((postriderlaw07_Of.f k bt346.1 bt346.2.1 bt346.2.2.1).bind fun bt374 => ((postriderref07_Same.f k bt374.1 bt374.2.1 bt374.2.2 bt353.1 bt353.2.1 bt353.2.2.1).bind fun t379 => (if t379 = true then (if bt346.2.2.2 = bt353.2.2.2 then ((postriderlaw07_Of.f k bt360.1 bt360.2.1 bt360.2.2.1).bind fun bt380 => ((postriderref07_Same.f k bt380.1 bt380.2.1 bt380.2.2 bt367.1 bt367.2.1 bt367.2.2.1).bind fun t385 => (if t385 = true then (if bt360.2.2.2 = bt367.2.2.2 then ((postriderlaw07_Of.f k t325 t328 t329).bind fun bt386 => ((postriderref07_Same.f k bt386.1 bt386.2.1 bt386.2.2 bt330.1 bt330.2.1 bt330.2.2).bind fun t391 => (if t391 = true then ((postriderlaw07_wakes.f k).bind fun t392 => (some t392)) else (some false)))) else (some false)) else (some false)))) else (some false)) else (some false)))) else (some false)) else (some false)))))))) else (none)) else (none)) else (none)) else (none))) = some r := H
 have A3 := Aside0.mk A30
 clear A30
 replace H := Option.bind_eq_some_iff.mp H
 obtain ⟨⟨t330, t333, t334⟩, A40, H⟩ := H
 replace H : (if 0 ≤ (mn (a1_0.size : Int) 100) then (if (mn (a1_0.size : Int) 100) ≤ (a1_0.size : Int) then (if 0 ≤ (mn (a1_1.size : Int) 900) then (if (mn (a1_1.size : Int) 900) ≤ (a1_1.size : Int) then ((head_Lay.f k (a1_0.extract 0 ((mn (a1_0.size : Int) 100) : Int).toNat) (a1_1.extract 0 ((mn (a1_1.size : Int) 900) : Int).toNat)).bind fun bt336 => ((postriderref07_Lay.f k (a1_0.extract 0 ((mn (a1_0.size : Int) 100) : Int).toNat) (a1_1.extract 0 ((mn (a1_1.size : Int) 900) : Int).toNat)).bind fun bt341 => ((head_Message_Ahead.f k t325 t328 t329 (a1_0.extract 0 ((mn (a1_0.size : Int) 100) : Int).toNat) (a1_1.extract 0 ((mn (a1_1.size : Int) 900) : Int).toNat)).bind fun bt346 => ((postriderref07_Ahead.f k t330 t333 t334 (a1_0.extract 0 ((mn (a1_0.size : Int) 100) : Int).toNat) (a1_1.extract 0 ((mn (a1_1.size : Int) 900) : Int).toNat)).bind fun bt353 => ((head_Message_Put.f k t325 t328 t329 a1_2 (a1_1.extract 0 ((mn (a1_1.size : Int) 900) : Int).toNat)).bind fun bt360 => ((postriderref07_Put.f k t330 t333 t334 a1_2 (a1_1.extract 0 ((mn (a1_1.size : Int) 900) : Int).toNat)).bind fun bt367 => (if (bt336.1.toList == bt341.1.toList && (bt336.2.1.toList == bt341.2.1.toList && (bt336.2.2.1.toList == bt341.2.2.1.toList))) = true then (if bt336.2.2.2 = bt341.2.2.2 then ((postriderlaw07_Of.f k bt346.1 bt346.2.1 bt346.2.2.1).bind fun bt374 => ((postriderref07_Same.f k bt374.1 bt374.2.1 bt374.2.2 bt353.1 bt353.2.1 bt353.2.2.1).bind fun t379 => (if t379 = true then (if bt346.2.2.2 = bt353.2.2.2 then ((postriderlaw07_Of.f k bt360.1 bt360.2.1 bt360.2.2.1).bind fun bt380 => ((postriderref07_Same.f k bt380.1 bt380.2.1 bt380.2.2 bt367.1 bt367.2.1 bt367.2.2.1).bind fun t385 => (if t385 = true then (if bt360.2.2.2 = bt367.2.2.2 then ((postriderlaw07_Of.f k t325 t328 t329).bind fun bt386 => ((postriderref07_Same.f k bt386.1 bt386.2.1 bt386.2.2 t330 t333 t334).bind fun t391 => (if t391 = true then ((postriderlaw07_wakes.f k).bind fun t392 => (some t392)) else (some false)))) else (some false)) else (some false)))) else (some false)) else (some false)))) else (some false)) else (some false)))))))) else (none)) else (none)) else (none)) else (none)) = some r := H
 have A4 := Aside0.mk A40
 clear A40
 obtain ⟨ji5, hji5⟩ : ∃ j_ : Int, (mn (a1_0.size : Int) 100) = j_ := ⟨_, rfl⟩
 replace H : (if 0 ≤ (ji5) then (if (ji5) ≤ (a1_0.size : Int) then (if 0 ≤ (mn (a1_1.size : Int) 900) then (if (mn (a1_1.size : Int) 900) ≤ (a1_1.size : Int) then ((head_Lay.f k (a1_0.extract 0 ((ji5) : Int).toNat) (a1_1.extract 0 ((mn (a1_1.size : Int) 900) : Int).toNat)).bind fun bt336 => ((postriderref07_Lay.f k (a1_0.extract 0 ((ji5) : Int).toNat) (a1_1.extract 0 ((mn (a1_1.size : Int) 900) : Int).toNat)).bind fun bt341 => ((head_Message_Ahead.f k t325 t328 t329 (a1_0.extract 0 ((ji5) : Int).toNat) (a1_1.extract 0 ((mn (a1_1.size : Int) 900) : Int).toNat)).bind fun bt346 => ((postriderref07_Ahead.f k t330 t333 t334 (a1_0.extract 0 ((ji5) : Int).toNat) (a1_1.extract 0 ((mn (a1_1.size : Int) 900) : Int).toNat)).bind fun bt353 => ((head_Message_Put.f k t325 t328 t329 a1_2 (a1_1.extract 0 ((mn (a1_1.size : Int) 900) : Int).toNat)).bind fun bt360 => ((postriderref07_Put.f k t330 t333 t334 a1_2 (a1_1.extract 0 ((mn (a1_1.size : Int) 900) : Int).toNat)).bind fun bt367 => (if (bt336.1.toList == bt341.1.toList && (bt336.2.1.toList == bt341.2.1.toList && (bt336.2.2.1.toList == bt341.2.2.1.toList))) = true then (if bt336.2.2.2 = bt341.2.2.2 then ((postriderlaw07_Of.f k bt346.1 bt346.2.1 bt346.2.2.1).bind fun bt374 => ((postriderref07_Same.f k bt374.1 bt374.2.1 bt374.2.2 bt353.1 bt353.2.1 bt353.2.2.1).bind fun t379 => (if t379 = true then (if bt346.2.2.2 = bt353.2.2.2 then ((postriderlaw07_Of.f k bt360.1 bt360.2.1 bt360.2.2.1).bind fun bt380 => ((postriderref07_Same.f k bt380.1 bt380.2.1 bt380.2.2 bt367.1 bt367.2.1 bt367.2.2.1).bind fun t385 => (if t385 = true then (if bt360.2.2.2 = bt367.2.2.2 then ((postriderlaw07_Of.f k t325 t328 t329).bind fun bt386 => ((postriderref07_Same.f k bt386.1 bt386.2.1 bt386.2.2 t330 t333 t334).bind fun t391 => (if t391 = true then ((postriderlaw07_wakes.f k).bind fun t392 => (some t392)) else (some false)))) else (some false)) else (some false)))) else (some false)) else (some false)))) else (some false)) else (some false)))))))) else (none)) else (none)) else (none)) else (none)) = some r := by first | (rw [hji5] at H; exact H) | (simp only [hji5] at H ⊢; exact H)
 (try rw [hji5] at A3)
 (try rw [hji5] at A4)
 (try (have hji5h : ji5 ≤ 100 := by (rw [← hji5]; unfold mn; (repeat' split) <;> omega)))
 (try (have hji5g : ji5 ≤ 64 := by omega))
 (try (have hji5l : 0 ≤ ji5 := by (rw [← hji5]; unfold mn; (repeat' split) <;> omega)))
 (try (have hji5m : 0 ≤ ji5 := by omega))
 have hji5_ : (if 100 < (a1_0.size : Int) then 100 else (a1_0.size : Int)) = ji5 := hji5
 by_cases c6 : 0 ≤ (ji5)
 ·rw [if_pos c6] at H
  have c6b0 := eq_true c6
  have c6b1 : decide (0 ≤ (ji5)) = true := decide_eq_true c6
  clear c6
  by_cases c7 : (ji5) ≤ (a1_0.size : Int)
  ·rw [if_pos c7] at H
   have c7b0 := eq_true c7
   have c7b1 : decide ((ji5) ≤ (a1_0.size : Int)) = true := decide_eq_true c7
   clear c7
   obtain ⟨js8, hjs8⟩ : ∃ j_ : ByteArray, (a1_0.extract 0 ((ji5) : Int).toNat) = j_ := ⟨_, rfl⟩
   replace H : (if 0 ≤ (mn (a1_1.size : Int) 900) then (if (mn (a1_1.size : Int) 900) ≤ (a1_1.size : Int) then ((head_Lay.f k js8 (a1_1.extract 0 ((mn (a1_1.size : Int) 900) : Int).toNat)).bind fun bt336 => ((postriderref07_Lay.f k js8 (a1_1.extract 0 ((mn (a1_1.size : Int) 900) : Int).toNat)).bind fun bt341 => ((head_Message_Ahead.f k t325 t328 t329 js8 (a1_1.extract 0 ((mn (a1_1.size : Int) 900) : Int).toNat)).bind fun bt346 => ((postriderref07_Ahead.f k t330 t333 t334 js8 (a1_1.extract 0 ((mn (a1_1.size : Int) 900) : Int).toNat)).bind fun bt353 => ((head_Message_Put.f k t325 t328 t329 a1_2 (a1_1.extract 0 ((mn (a1_1.size : Int) 900) : Int).toNat)).bind fun bt360 => ((postriderref07_Put.f k t330 t333 t334 a1_2 (a1_1.extract 0 ((mn (a1_1.size : Int) 900) : Int).toNat)).bind fun bt367 => (if (bt336.1.toList == bt341.1.toList && (bt336.2.1.toList == bt341.2.1.toList && (bt336.2.2.1.toList == bt341.2.2.1.toList))) = true then (if bt336.2.2.2 = bt341.2.2.2 then ((postriderlaw07_Of.f k bt346.1 bt346.2.1 bt346.2.2.1).bind fun bt374 => ((postriderref07_Same.f k bt374.1 bt374.2.1 bt374.2.2 bt353.1 bt353.2.1 bt353.2.2.1).bind fun t379 => (if t379 = true then (if bt346.2.2.2 = bt353.2.2.2 then ((postriderlaw07_Of.f k bt360.1 bt360.2.1 bt360.2.2.1).bind fun bt380 => ((postriderref07_Same.f k bt380.1 bt380.2.1 bt380.2.2 bt367.1 bt367.2.1 bt367.2.2.1).bind fun t385 => (if t385 = true then (if bt360.2.2.2 = bt367.2.2.2 then ((postriderlaw07_Of.f k t325 t328 t329).bind fun bt386 => ((postriderref07_Same.f k bt386.1 bt386.2.1 bt386.2.2 t330 t333 t334).bind fun t391 => (if t391 = true then ((postriderlaw07_wakes.f k).bind fun t392 => (some t392)) else (some false)))) else (some false)) else (some false)))) else (some false)) else (some false)))) else (some false)) else (some false)))))))) else (none)) else (none)) = some r := by first | (rw [hjs8] at H; exact H) | (simp only [hjs8] at H ⊢; exact H)
   obtain ⟨ji9, hji9⟩ : ∃ j_ : Int, (mn (a1_1.size : Int) 900) = j_ := ⟨_, rfl⟩
   replace H : (if 0 ≤ (ji9) then (if (ji9) ≤ (a1_1.size : Int) then ((head_Lay.f k js8 (a1_1.extract 0 ((ji9) : Int).toNat)).bind fun bt336 => ((postriderref07_Lay.f k js8 (a1_1.extract 0 ((ji9) : Int).toNat)).bind fun bt341 => ((head_Message_Ahead.f k t325 t328 t329 js8 (a1_1.extract 0 ((ji9) : Int).toNat)).bind fun bt346 => ((postriderref07_Ahead.f k t330 t333 t334 js8 (a1_1.extract 0 ((ji9) : Int).toNat)).bind fun bt353 => ((head_Message_Put.f k t325 t328 t329 a1_2 (a1_1.extract 0 ((ji9) : Int).toNat)).bind fun bt360 => ((postriderref07_Put.f k t330 t333 t334 a1_2 (a1_1.extract 0 ((ji9) : Int).toNat)).bind fun bt367 => (if (bt336.1.toList == bt341.1.toList && (bt336.2.1.toList == bt341.2.1.toList && (bt336.2.2.1.toList == bt341.2.2.1.toList))) = true then (if bt336.2.2.2 = bt341.2.2.2 then ((postriderlaw07_Of.f k bt346.1 bt346.2.1 bt346.2.2.1).bind fun bt374 => ((postriderref07_Same.f k bt374.1 bt374.2.1 bt374.2.2 bt353.1 bt353.2.1 bt353.2.2.1).bind fun t379 => (if t379 = true then (if bt346.2.2.2 = bt353.2.2.2 then ((postriderlaw07_Of.f k bt360.1 bt360.2.1 bt360.2.2.1).bind fun bt380 => ((postriderref07_Same.f k bt380.1 bt380.2.1 bt380.2.2 bt367.1 bt367.2.1 bt367.2.2.1).bind fun t385 => (if t385 = true then (if bt360.2.2.2 = bt367.2.2.2 then ((postriderlaw07_Of.f k t325 t328 t329).bind fun bt386 => ((postriderref07_Same.f k bt386.1 bt386.2.1 bt386.2.2 t330 t333 t334).bind fun t391 => (if t391 = true then ((postriderlaw07_wakes.f k).bind fun t392 => (some t392)) else (some false)))) else (some false)) else (some false)))) else (some false)) else (some false)))) else (some false)) else (some false)))))))) else (none)) else (none)) = some r := by first | (rw [hji9] at H; exact H) | (simp only [hji9] at H ⊢; exact H)
   (try rw [hji9] at A3)
   (try rw [hji9] at A4)
   (try (have hji9h : ji9 ≤ 900 := by (rw [← hji9]; unfold mn; (repeat' split) <;> omega)))
   (try (have hji9g : ji9 ≤ 64 := by omega))
   (try (have hji9l : 0 ≤ ji9 := by (rw [← hji9]; unfold mn; (repeat' split) <;> omega)))
   (try (have hji9m : 0 ≤ ji9 := by omega))
   have hji9_ : (if 900 < (a1_1.size : Int) then 900 else (a1_1.size : Int)) = ji9 := hji9
   by_cases c10 : 0 ≤ (ji9)
   ·rw [if_pos c10] at H
    have c10b0 := eq_true c10
    have c10b1 : decide (0 ≤ (ji9)) = true := decide_eq_true c10
    clear c10
    by_cases c11 : (ji9) ≤ (a1_1.size : Int)
    ·rw [if_pos c11] at H
     have c11b0 := eq_true c11
     have c11b1 : decide ((ji9) ≤ (a1_1.size : Int)) = true := decide_eq_true c11
     clear c11
     obtain ⟨js12, hjs12⟩ : ∃ j_ : ByteArray, (a1_1.extract 0 ((ji9) : Int).toNat) = j_ := ⟨_, rfl⟩
     replace H : ((head_Lay.f k js8 js12).bind fun bt336 => ((postriderref07_Lay.f k js8 js12).bind fun bt341 => ((head_Message_Ahead.f k t325 t328 t329 js8 js12).bind fun bt346 => ((postriderref07_Ahead.f k t330 t333 t334 js8 js12).bind fun bt353 => ((head_Message_Put.f k t325 t328 t329 a1_2 js12).bind fun bt360 => ((postriderref07_Put.f k t330 t333 t334 a1_2 js12).bind fun bt367 => (if (bt336.1.toList == bt341.1.toList && (bt336.2.1.toList == bt341.2.1.toList && (bt336.2.2.1.toList == bt341.2.2.1.toList))) = true then (if bt336.2.2.2 = bt341.2.2.2 then ((postriderlaw07_Of.f k bt346.1 bt346.2.1 bt346.2.2.1).bind fun bt374 => ((postriderref07_Same.f k bt374.1 bt374.2.1 bt374.2.2 bt353.1 bt353.2.1 bt353.2.2.1).bind fun t379 => (if t379 = true then (if bt346.2.2.2 = bt353.2.2.2 then ((postriderlaw07_Of.f k bt360.1 bt360.2.1 bt360.2.2.1).bind fun bt380 => ((postriderref07_Same.f k bt380.1 bt380.2.1 bt380.2.2 bt367.1 bt367.2.1 bt367.2.2.1).bind fun t385 => (if t385 = true then (if bt360.2.2.2 = bt367.2.2.2 then ((postriderlaw07_Of.f k t325 t328 t329).bind fun bt386 => ((postriderref07_Same.f k bt386.1 bt386.2.1 bt386.2.2 t330 t333 t334).bind fun t391 => (if t391 = true then ((postriderlaw07_wakes.f k).bind fun t392 => (some t392)) else (some false)))) else (some false)) else (some false)))) else (some false)) else (some false)))) else (some false)) else (some false)))))))) = some r := by first | (rw [hjs12] at H; exact H) | (simp only [hjs12] at H ⊢; exact H)
     replace H := Option.bind_eq_some_iff.mp H
     obtain ⟨⟨t336, t337, t338, t339⟩, A130, H⟩ := H
     replace H : ((postriderref07_Lay.f k js8 js12).bind fun bt341 => ((head_Message_Ahead.f k t325 t328 t329 js8 js12).bind fun bt346 => ((postriderref07_Ahead.f k t330 t333 t334 js8 js12).bind fun bt353 => ((head_Message_Put.f k t325 t328 t329 a1_2 js12).bind fun bt360 => ((postriderref07_Put.f k t330 t333 t334 a1_2 js12).bind fun bt367 => (if (t336.toList == bt341.1.toList && (t337.toList == bt341.2.1.toList && (t338.toList == bt341.2.2.1.toList))) = true then (if t339 = bt341.2.2.2 then ((postriderlaw07_Of.f k bt346.1 bt346.2.1 bt346.2.2.1).bind fun bt374 => ((postriderref07_Same.f k bt374.1 bt374.2.1 bt374.2.2 bt353.1 bt353.2.1 bt353.2.2.1).bind fun t379 => (if t379 = true then (if bt346.2.2.2 = bt353.2.2.2 then ((postriderlaw07_Of.f k bt360.1 bt360.2.1 bt360.2.2.1).bind fun bt380 => ((postriderref07_Same.f k bt380.1 bt380.2.1 bt380.2.2 bt367.1 bt367.2.1 bt367.2.2.1).bind fun t385 => (if t385 = true then (if bt360.2.2.2 = bt367.2.2.2 then ((postriderlaw07_Of.f k t325 t328 t329).bind fun bt386 => ((postriderref07_Same.f k bt386.1 bt386.2.1 bt386.2.2 t330 t333 t334).bind fun t391 => (if t391 = true then ((postriderlaw07_wakes.f k).bind fun t392 => (some t392)) else (some false)))) else (some false)) else (some false)))) else (some false)) else (some false)))) else (some false)) else (some false))))))) = some r := H
     have A13 := Aside0.mk A130
     clear A130
     replace H := Option.bind_eq_some_iff.mp H
     obtain ⟨⟨t341, t342, t343, t344⟩, A140, H⟩ := H
     replace H : ((head_Message_Ahead.f k t325 t328 t329 js8 js12).bind fun bt346 => ((postriderref07_Ahead.f k t330 t333 t334 js8 js12).bind fun bt353 => ((head_Message_Put.f k t325 t328 t329 a1_2 js12).bind fun bt360 => ((postriderref07_Put.f k t330 t333 t334 a1_2 js12).bind fun bt367 => (if (t336.toList == t341.toList && (t337.toList == t342.toList && (t338.toList == t343.toList))) = true then (if t339 = t344 then ((postriderlaw07_Of.f k bt346.1 bt346.2.1 bt346.2.2.1).bind fun bt374 => ((postriderref07_Same.f k bt374.1 bt374.2.1 bt374.2.2 bt353.1 bt353.2.1 bt353.2.2.1).bind fun t379 => (if t379 = true then (if bt346.2.2.2 = bt353.2.2.2 then ((postriderlaw07_Of.f k bt360.1 bt360.2.1 bt360.2.2.1).bind fun bt380 => ((postriderref07_Same.f k bt380.1 bt380.2.1 bt380.2.2 bt367.1 bt367.2.1 bt367.2.2.1).bind fun t385 => (if t385 = true then (if bt360.2.2.2 = bt367.2.2.2 then ((postriderlaw07_Of.f k t325 t328 t329).bind fun bt386 => ((postriderref07_Same.f k bt386.1 bt386.2.1 bt386.2.2 t330 t333 t334).bind fun t391 => (if t391 = true then ((postriderlaw07_wakes.f k).bind fun t392 => (some t392)) else (some false)))) else (some false)) else (some false)))) else (some false)) else (some false)))) else (some false)) else (some false)))))) = some r := H
     have A14 := Aside0.mk A140
     clear A140
     replace H := Option.bind_eq_some_iff.mp H
     obtain ⟨⟨t346, t349, t350, t351⟩, A150, H⟩ := H
     replace H : ((postriderref07_Ahead.f k t330 t333 t334 js8 js12).bind fun bt353 => ((head_Message_Put.f k t325 t328 t329 a1_2 js12).bind fun bt360 => ((postriderref07_Put.f k t330 t333 t334 a1_2 js12).bind fun bt367 => (if (t336.toList == t341.toList && (t337.toList == t342.toList && (t338.toList == t343.toList))) = true then (if t339 = t344 then ((postriderlaw07_Of.f k t346 t349 t350).bind fun bt374 => ((postriderref07_Same.f k bt374.1 bt374.2.1 bt374.2.2 bt353.1 bt353.2.1 bt353.2.2.1).bind fun t379 => (if t379 = true then (if t351 = bt353.2.2.2 then ((postriderlaw07_Of.f k bt360.1 bt360.2.1 bt360.2.2.1).bind fun bt380 => ((postriderref07_Same.f k bt380.1 bt380.2.1 bt380.2.2 bt367.1 bt367.2.1 bt367.2.2.1).bind fun t385 => (if t385 = true then (if bt360.2.2.2 = bt367.2.2.2 then ((postriderlaw07_Of.f k t325 t328 t329).bind fun bt386 => ((postriderref07_Same.f k bt386.1 bt386.2.1 bt386.2.2 t330 t333 t334).bind fun t391 => (if t391 = true then ((postriderlaw07_wakes.f k).bind fun t392 => (some t392)) else (some false)))) else (some false)) else (some false)))) else (some false)) else (some false)))) else (some false)) else (some false))))) = some r := H
     have A15 := Aside0.mk A150
     clear A150
     replace H := Option.bind_eq_some_iff.mp H
     obtain ⟨⟨t353, t356, t357, t358⟩, A160, H⟩ := H
     replace H : ((head_Message_Put.f k t325 t328 t329 a1_2 js12).bind fun bt360 => ((postriderref07_Put.f k t330 t333 t334 a1_2 js12).bind fun bt367 => (if (t336.toList == t341.toList && (t337.toList == t342.toList && (t338.toList == t343.toList))) = true then (if t339 = t344 then ((postriderlaw07_Of.f k t346 t349 t350).bind fun bt374 => ((postriderref07_Same.f k bt374.1 bt374.2.1 bt374.2.2 t353 t356 t357).bind fun t379 => (if t379 = true then (if t351 = t358 then ((postriderlaw07_Of.f k bt360.1 bt360.2.1 bt360.2.2.1).bind fun bt380 => ((postriderref07_Same.f k bt380.1 bt380.2.1 bt380.2.2 bt367.1 bt367.2.1 bt367.2.2.1).bind fun t385 => (if t385 = true then (if bt360.2.2.2 = bt367.2.2.2 then ((postriderlaw07_Of.f k t325 t328 t329).bind fun bt386 => ((postriderref07_Same.f k bt386.1 bt386.2.1 bt386.2.2 t330 t333 t334).bind fun t391 => (if t391 = true then ((postriderlaw07_wakes.f k).bind fun t392 => (some t392)) else (some false)))) else (some false)) else (some false)))) else (some false)) else (some false)))) else (some false)) else (some false)))) = some r := H
     have A16 := Aside0.mk A160
     clear A160
     replace H := Option.bind_eq_some_iff.mp H
     obtain ⟨⟨t360, t363, t364, t365⟩, A170, H⟩ := H
     replace H : ((postriderref07_Put.f k t330 t333 t334 a1_2 js12).bind fun bt367 => (if (t336.toList == t341.toList && (t337.toList == t342.toList && (t338.toList == t343.toList))) = true then (if t339 = t344 then ((postriderlaw07_Of.f k t346 t349 t350).bind fun bt374 => ((postriderref07_Same.f k bt374.1 bt374.2.1 bt374.2.2 t353 t356 t357).bind fun t379 => (if t379 = true then (if t351 = t358 then ((postriderlaw07_Of.f k t360 t363 t364).bind fun bt380 => ((postriderref07_Same.f k bt380.1 bt380.2.1 bt380.2.2 bt367.1 bt367.2.1 bt367.2.2.1).bind fun t385 => (if t385 = true then (if t365 = bt367.2.2.2 then ((postriderlaw07_Of.f k t325 t328 t329).bind fun bt386 => ((postriderref07_Same.f k bt386.1 bt386.2.1 bt386.2.2 t330 t333 t334).bind fun t391 => (if t391 = true then ((postriderlaw07_wakes.f k).bind fun t392 => (some t392)) else (some false)))) else (some false)) else (some false)))) else (some false)) else (some false)))) else (some false)) else (some false))) = some r := H
     have A17 := Aside0.mk A170
     clear A170
     replace H := Option.bind_eq_some_iff.mp H
     obtain ⟨⟨t367, t370, t371, t372⟩, A180, H⟩ := H
     replace H : (if (t336.toList == t341.toList && (t337.toList == t342.toList && (t338.toList == t343.toList))) = true then (if t339 = t344 then ((postriderlaw07_Of.f k t346 t349 t350).bind fun bt374 => ((postriderref07_Same.f k bt374.1 bt374.2.1 bt374.2.2 t353 t356 t357).bind fun t379 => (if t379 = true then (if t351 = t358 then ((postriderlaw07_Of.f k t360 t363 t364).bind fun bt380 => ((postriderref07_Same.f k bt380.1 bt380.2.1 bt380.2.2 t367 t370 t371).bind fun t385 => (if t385 = true then (if t365 = t372 then ((postriderlaw07_Of.f k t325 t328 t329).bind fun bt386 => ((postriderref07_Same.f k bt386.1 bt386.2.1 bt386.2.2 t330 t333 t334).bind fun t391 => (if t391 = true then ((postriderlaw07_wakes.f k).bind fun t392 => (some t392)) else (some false)))) else (some false)) else (some false)))) else (some false)) else (some false)))) else (some false)) else (some false)) = some r := H
     have A18 := Aside0.mk A180
     clear A180
     by_cases c19 : (t336.toList == t341.toList && (t337.toList == t342.toList && (t338.toList == t343.toList))) = true
     ·rw [if_pos c19] at H
      have c19b0 : (t336.toList == t341.toList && (t337.toList == t342.toList && (t338.toList == t343.toList))) = true := c19
      (try (have c19b1 : decide (t336.toList = t341.toList && (t337.toList == t342.toList && (t338.toList == t343.toList))) = true := by simpa using c19))
      (try (have c19b2 : (t336.toList == t341.toList && (t337.toList == t342.toList && (t338.toList == t343.toList))) = true := by simpa using c19))
      clear c19
      by_cases c20 : t339 = t344
      ·rw [if_pos c20] at H
       have c20b0 : (t339 == t344) = true := beq_iff_eq.mpr c20
       have c20b1 : (t339 != t344) = false := bne_eq_false_iff_eq.mpr c20
       clear c20
       replace H := Option.bind_eq_some_iff.mp H
       obtain ⟨⟨t374, t377, t378⟩, A210, H⟩ := H
       replace H : ((postriderref07_Same.f k t374 t377 t378 t353 t356 t357).bind fun t379 => (if t379 = true then (if t351 = t358 then ((postriderlaw07_Of.f k t360 t363 t364).bind fun bt380 => ((postriderref07_Same.f k bt380.1 bt380.2.1 bt380.2.2 t367 t370 t371).bind fun t385 => (if t385 = true then (if t365 = t372 then ((postriderlaw07_Of.f k t325 t328 t329).bind fun bt386 => ((postriderref07_Same.f k bt386.1 bt386.2.1 bt386.2.2 t330 t333 t334).bind fun t391 => (if t391 = true then ((postriderlaw07_wakes.f k).bind fun t392 => (some t392)) else (some false)))) else (some false)) else (some false)))) else (some false)) else (some false))) = some r := H
       have A21 := Aside0.mk A210
       clear A210
       replace H := Option.bind_eq_some_iff.mp H
       obtain ⟨t379, A220, H⟩ := H
       replace H : (if t379 = true then (if t351 = t358 then ((postriderlaw07_Of.f k t360 t363 t364).bind fun bt380 => ((postriderref07_Same.f k bt380.1 bt380.2.1 bt380.2.2 t367 t370 t371).bind fun t385 => (if t385 = true then (if t365 = t372 then ((postriderlaw07_Of.f k t325 t328 t329).bind fun bt386 => ((postriderref07_Same.f k bt386.1 bt386.2.1 bt386.2.2 t330 t333 t334).bind fun t391 => (if t391 = true then ((postriderlaw07_wakes.f k).bind fun t392 => (some t392)) else (some false)))) else (some false)) else (some false)))) else (some false)) else (some false)) = some r := H
       have A22 := Aside0.mk A220
       clear A220
       by_cases c23 : t379 = true
       ·subst c23
        have H1 : (if t351 = t358 then ((postriderlaw07_Of.f k t360 t363 t364).bind fun bt380 => ((postriderref07_Same.f k bt380.1 bt380.2.1 bt380.2.2 t367 t370 t371).bind fun t385 => (if t385 = true then (if t365 = t372 then ((postriderlaw07_Of.f k t325 t328 t329).bind fun bt386 => ((postriderref07_Same.f k bt386.1 bt386.2.1 bt386.2.2 t330 t333 t334).bind fun t391 => (if t391 = true then ((postriderlaw07_wakes.f k).bind fun t392 => (some t392)) else (some false)))) else (some false)) else (some false)))) else (some false)) = some r := by rw [if_pos rfl] at H; exact H
        clear H
        have H := H1
        clear H1
        by_cases c24 : t351 = t358
        ·rw [if_pos c24] at H
         have c24b0 : (t351 == t358) = true := beq_iff_eq.mpr c24
         have c24b1 : (t351 != t358) = false := bne_eq_false_iff_eq.mpr c24
         clear c24
         replace H := Option.bind_eq_some_iff.mp H
         obtain ⟨⟨t380, t383, t384⟩, A250, H⟩ := H
         replace H : ((postriderref07_Same.f k t380 t383 t384 t367 t370 t371).bind fun t385 => (if t385 = true then (if t365 = t372 then ((postriderlaw07_Of.f k t325 t328 t329).bind fun bt386 => ((postriderref07_Same.f k bt386.1 bt386.2.1 bt386.2.2 t330 t333 t334).bind fun t391 => (if t391 = true then ((postriderlaw07_wakes.f k).bind fun t392 => (some t392)) else (some false)))) else (some false)) else (some false))) = some r := H
         have A25 := Aside0.mk A250
         clear A250
         replace H := Option.bind_eq_some_iff.mp H
         obtain ⟨t385, A260, H⟩ := H
         replace H : (if t385 = true then (if t365 = t372 then ((postriderlaw07_Of.f k t325 t328 t329).bind fun bt386 => ((postriderref07_Same.f k bt386.1 bt386.2.1 bt386.2.2 t330 t333 t334).bind fun t391 => (if t391 = true then ((postriderlaw07_wakes.f k).bind fun t392 => (some t392)) else (some false)))) else (some false)) else (some false)) = some r := H
         have A26 := Aside0.mk A260
         clear A260
         by_cases c27 : t385 = true
         ·subst c27
          have H1 : (if t365 = t372 then ((postriderlaw07_Of.f k t325 t328 t329).bind fun bt386 => ((postriderref07_Same.f k bt386.1 bt386.2.1 bt386.2.2 t330 t333 t334).bind fun t391 => (if t391 = true then ((postriderlaw07_wakes.f k).bind fun t392 => (some t392)) else (some false)))) else (some false)) = some r := by rw [if_pos rfl] at H; exact H
          clear H
          have H := H1
          clear H1
          by_cases c28 : t365 = t372
          ·rw [if_pos c28] at H
           have c28b0 : (t365 == t372) = true := beq_iff_eq.mpr c28
           have c28b1 : (t365 != t372) = false := bne_eq_false_iff_eq.mpr c28
           clear c28
           replace H := Option.bind_eq_some_iff.mp H
           obtain ⟨⟨t386, t389, t390⟩, A290, H⟩ := H
           replace H : ((postriderref07_Same.f k t386 t389 t390 t330 t333 t334).bind fun t391 => (if t391 = true then ((postriderlaw07_wakes.f k).bind fun t392 => (some t392)) else (some false))) = some r := H
           have A29 := Aside0.mk A290
           clear A290
           replace H := Option.bind_eq_some_iff.mp H
           obtain ⟨t391, A300, H⟩ := H
           replace H : (if t391 = true then ((postriderlaw07_wakes.f k).bind fun t392 => (some t392)) else (some false)) = some r := H
           have A30 := Aside0.mk A300
           clear A300
           by_cases c31 : t391 = true
           ·subst c31
            have H1 : ((postriderlaw07_wakes.f k).bind fun t392 => (some t392)) = some r := by rw [if_pos rfl] at H; exact H
            clear H
            have H := H1
            clear H1
            replace H := Option.bind_eq_some_iff.mp H
            obtain ⟨t392, A320, H⟩ := H
            replace H : (some t392) = some r := H
            have A32 := Aside0.mk A320
            clear A320
            obtain rfl := Option.some.inj H
            go_enter Tryd.func6, Tryd.ntmps6
            try go_wp2_with (first | ((with_reducible refine gate_dst (N := 2) rfl ?_); refine box_event ?hg (N := 2) ?hd (cs := #[.slice A0_0 l0_0.length c0_0, .string a0_1, .bool a0_2]) (t := 24) ?hr ?_; (case hd => rfl); (case hg => rfl); (case hr => first | (go_simp; done) | (go_simp; rfl)); intro gb323 hg w33 hbox hb; have n0_ := Aside0.mk (below_step bl hb); have n1_ := Aside0.mk (hbox); have n2_ := Aside0.mk ((by rw [hg]; exact (below_size bl) : w.heap.size ≤ gb323)); have n3_ := Aside0.mk ((by rw [hg]; exact (below_size bl) : w.heap.size ≤ gb323)); clear HB; have HB := n0_; have BK323 := n1_; have GW323 := n2_; have GE323 := n3_; clear n0_ n1_ n2_ n3_; clear hb hbox hg) | ((with_reducible refine gate_dst (N := 3) rfl ?_); refine box_event ?hg (N := 3) ?hd (cs := #[.string a1_0, .string a1_1, .int .i64 a1_2]) (t := 59) ?hr ?_; (case hd => rfl); (case hg => rfl); (case hr => first | (go_simp; done) | (go_simp; rfl)); intro gb324 hg w34 hbox hb; have n0_ := Aside0.mk (kb BK323.out hb); have n1_ := Aside0.mk (below_step bl hb); have n2_ := Aside0.mk (hbox); have n3_ := Aside0.mk ((by rw [hg]; exact (below_size bl) : w.heap.size ≤ gb324)); have n4_ := Aside0.mk ((by rw [hg]; exact (below_size bl) : w.heap.size ≤ gb324)); have n5_ := Aside0.mk ((by rw [hg]; exact Nat.ne_of_lt (blk_lt (bk BK323.out)) : gb323 ≠ gb324)); have n6_ := Aside0.mk ((by rw [hg]; exact Nat.ne_of_gt (blk_lt (bk BK323.out)) : gb324 ≠ gb323)); clear BK323; clear HB; have BK323 := n0_; have HB := n1_; have BK324 := n2_; have GW324 := n3_; have GE324 := n4_; have NB323_324 := n5_; have NB324_323 := n6_; clear n0_ n1_ n2_ n3_ n4_ n5_ n6_; clear hb hbox hg; have hnb35 := NB323_324.out; have hnc35 := NB324_323.out; have hcz36_0 : w34.cell? ⟨gb323, 0, none⟩ = some (.slice A0_0 l0_0.length c0_0) := (blk_cell BK323.out 0).trans rfl; have hcz36_1 : w34.cell? ⟨gb323, 1, none⟩ = some (.string a0_1) := (blk_cell BK323.out 1).trans rfl; have hcz36_2 : w34.cell? ⟨gb323, 2, none⟩ = some (.bool a0_2) := (blk_cell BK323.out 2).trans rfl; have hfz36_0 := blk_frozen BK323.out 0; have hfz36_1 := blk_frozen BK323.out 1; have hfz36_2 := blk_frozen BK323.out 2) | ((with_reducible refine gate_callee (f := 21) rfl ?_); refine goesL_ (some 21) rfl rfl Tryd.func21 (by kernel_rfl) rfl #[.agg #[.slice A0_0 l0_0.length c0_0, .string a0_1, .bool a0_2]] rfl ml ?_; (with_reducible refine (postriderlaw07_Few.calls k _ _ l0_0 a0_1 a0_2 t325 t328 t329 _ ?side1 ?side2 A3.out).mono ?_); (case side1 => repeat (first | exact (Kd.C_below HR0_0.out HB.out) | (with_reducible refine Kd.C_alloc ?_ _) | (with_reducible refine Kd.C_drewN ?_ _) | (with_reducible refine Kd.C_drew ?_))); (case side2 => exact HC0_0.out); rintro e w37 ⟨v326, rfl, ho0, hb⟩; refine ⟨_, rfl, ?_⟩; have n0_ := Aside0.mk (Kd.R_lower ho0 (below_size bl)); have n1_ := Aside0.mk (kb BK323.out hb); have n2_ := Aside0.mk (kb BK324.out hb); have n3_ := Aside0.mk (below_step bl hb); clear BK323; clear BK324; clear HB; have HO327 := n0_; have BK323 := n1_; have BK324 := n2_; have HB := n3_; clear n0_ n1_ n2_ n3_; (try clear hb); (try clear hb2); (try clear hk); (try clear hi); (try clear ho0); obtain ⟨Ao38, co38, eo38⟩ := Kd.R_slice HO327.out; subst eo38; have hcz39_0 : w37.cell? ⟨gb323, 0, none⟩ = some (.slice A0_0 l0_0.length c0_0) := (blk_cell BK323.out 0).trans rfl; have hcz39_1 : w37.cell? ⟨gb323, 1, none⟩ = some (.string a0_1) := (blk_cell BK323.out 1).trans rfl; have hcz39_2 : w37.cell? ⟨gb323, 2, none⟩ = some (.bool a0_2) := (blk_cell BK323.out 2).trans rfl; have hfz39_0 := blk_frozen BK323.out 0; have hfz39_1 := blk_frozen BK323.out 1; have hfz39_2 := blk_frozen BK323.out 2) | ((with_reducible refine gate_callee (f := 12) rfl ?_); refine goesL_ (some 23) rfl rfl Tryd.func12 (by kernel_rfl) rfl #[.agg #[.slice Ao38 t325.length co38, .string t328, .bool t329]] rfl ml ?_; (with_reducible refine (postriderlaw07_Of.calls k _ _ t325 t328 t329 t330 t333 t334 _ ?side1 ?side2 A4.out).mono ?_); (case side1 => refine (Kd.R_reads' (e := 41) (base := w.heap.size) (ok := fun k_ => True) (n := t325.length) (c := co38) ?_).2.2; exact (by (with_reducible repeat (first | apply Kd.R_alloc | apply Kd.R_drewN | apply Kd.R_drew)); exact (Kd.R_mono (Kd.R_far (p := ⟨gb323, 2, none⟩) (Kd.R_far (p := ⟨gb323, 1, none⟩) (Kd.R_far (p := ⟨gb323, 0, none⟩) (Kd.R_types HO327.out BK323.out (by decide)) (fun _ hk => hk.2) (.slice Ao38 t325.length co38)) (fun _ hk => hk.2) (.string t328)) (fun _ hk => hk.2) (.bool t329)) (fun _ h_ => h_.1)))); (case side2 => exact (Kd.R_reads' HO327.out).2.1); rintro e w40 ⟨v331, rfl, ho0, hb⟩; refine ⟨_, rfl, ?_⟩; have n0_ := Aside0.mk (Kd.R_below (by (with_reducible repeat (first | apply Kd.R_alloc | apply Kd.R_drewN | apply Kd.R_drew)); exact (Kd.R_mono (Kd.R_far (p := ⟨gb323, 2, none⟩) (Kd.R_far (p := ⟨gb323, 1, none⟩) (Kd.R_far (p := ⟨gb323, 0, none⟩) (Kd.R_types HO327.out BK323.out (by decide)) (fun _ hk => hk.2) (.slice Ao38 t325.length co38)) (fun _ hk => hk.2) (.string t328)) (fun _ hk => hk.2) (.bool t329)) (fun _ h_ => h_.1))) hb); have n1_ := Aside0.mk (Kd.R_lower ho0 (below_size bl)); have n2_ := Aside0.mk (blk_below (g := gb323) (o := .cells #[.slice Ao38 t325.length co38, .string t328, .bool t329] 24 (0, 0)) (by (with_reducible repeat (first | refine blk_drewN ?_ _ | refine blk_drew ?_ | refine blk_alloc ?_ _)); refine blk_put (cs := #[.slice Ao38 t325.length co38, .string t328, .bool a0_2]) ?_ 2 _ rfl; (with_reducible repeat (first | refine blk_drewN ?_ _ | refine blk_drew ?_ | refine blk_alloc ?_ _)); refine blk_put (cs := #[.slice Ao38 t325.length co38, .string a0_1, .bool a0_2]) ?_ 1 _ rfl; (with_reducible repeat (first | refine blk_drewN ?_ _ | refine blk_drew ?_ | refine blk_alloc ?_ _)); refine blk_put (cs := #[.slice A0_0 l0_0.length c0_0, .string a0_1, .bool a0_2]) ?_ 0 _ rfl; (with_reducible repeat (first | refine blk_drewN ?_ _ | refine blk_drew ?_ | refine blk_alloc ?_ _)); exact BK323.out) hb); have n3_ := Aside0.mk (kb BK324.out hb); have n4_ := Aside0.mk (below_step bl hb); clear HO327; clear BK323; clear BK324; clear HB; have HO327 := n0_; have HO332 := n1_; have BK323 := n2_; have BK324 := n3_; have HB := n4_; clear n0_ n1_ n2_ n3_ n4_; (try clear hb); (try clear hb2); (try clear hk); (try clear hi); (try clear ho0)) | ((with_reducible refine gate_dst (N := 5) rfl ?_); refine box_event ?hg (N := 5) ?hd (cs := #[.slice none 0 0, .string (⟨#[]⟩ : ByteArray), .bool false]) (t := 30) ?hr ?_; (case hd => rfl); (case hg => rfl); (case hr => first | (go_simp; done) | (go_simp; rfl)); intro gb335 hg w41 hbox hb; have n0_ := Aside0.mk (Kd.R_below (kr HO327.out) hb); have n1_ := Aside0.mk (Kd.R_below (kr HO332.out) hb); have n2_ := Aside0.mk (kb BK323.out hb); have n3_ := Aside0.mk (kb BK324.out hb); have n4_ := Aside0.mk (below_step bl hb); have n5_ := Aside0.mk (hbox); have n6_ := Aside0.mk ((by rw [hg]; exact (below_size bl) : w.heap.size ≤ gb335)); have n7_ := Aside0.mk ((by rw [hg]; exact (below_size bl) : w.heap.size ≤ gb335)); have n8_ := Aside0.mk ((by rw [hg]; exact Nat.ne_of_lt (blk_lt (bk BK323.out)) : gb323 ≠ gb335)); have n9_ := Aside0.mk ((by rw [hg]; exact Nat.ne_of_gt (blk_lt (bk BK323.out)) : gb335 ≠ gb323)); have n10_ := Aside0.mk ((by rw [hg]; exact Nat.ne_of_lt (blk_lt (bk BK324.out)) : gb324 ≠ gb335)); have n11_ := Aside0.mk ((by rw [hg]; exact Nat.ne_of_gt (blk_lt (bk BK324.out)) : gb335 ≠ gb324)); clear HO327; clear HO332; clear BK323; clear BK324; clear HB; have HO327 := n0_; have HO332 := n1_; have BK323 := n2_; have BK324 := n3_; have HB := n4_; have BK335 := n5_; have GW335 := n6_; have GE335 := n7_; have NB323_335 := n8_; have NB335_323 := n9_; have NB324_335 := n10_; have NB335_324 := n11_; clear n0_ n1_ n2_ n3_ n4_ n5_ n6_ n7_ n8_ n9_ n10_ n11_; clear hb hbox hg; obtain ⟨Ao42, co42, eo42⟩ := Kd.R_slice HO332.out; subst eo42; have hnb43 := NB335_323.out; have hnc43 := NB323_335.out; have hnb44 := NB335_324.out; have hnc44 := NB324_335.out; have hcz45_0 : w41.cell? ⟨gb335, 0, none⟩ = some (.slice none 0 0) := (blk_cell BK335.out 0).trans rfl; have hcz45_1 : w41.cell? ⟨gb335, 1, none⟩ = some (.string (⟨#[]⟩ : ByteArray)) := (blk_cell BK335.out 1).trans rfl; have hcz45_2 : w41.cell? ⟨gb335, 2, none⟩ = some (.bool false) := (blk_cell BK335.out 2).trans rfl; have hfz45_0 := blk_frozen BK335.out 0; have hfz45_1 := blk_frozen BK335.out 1; have hfz45_2 := blk_frozen BK335.out 2))
            have n0_ : Aside0 (Kd.R k41 41 (((w41.setCell ⟨gb335, 0, none⟩ (.slice Ao42 t330.length co42)).setCell ⟨gb335, 1, none⟩ (.string t333)).setCell ⟨gb335, 2, none⟩ (.bool t334)) w.heap.size (fun _ => True) (.slice Ao38 t325.length co38) t325) := ⟨by (with_reducible repeat (first | apply Kd.R_alloc | apply Kd.R_drewN | apply Kd.R_drew)); exact Kd.R_mono (Kd.R_far (p := ⟨gb335, 2, none⟩) (Kd.R_far (p := ⟨gb335, 1, none⟩) (Kd.R_far (p := ⟨gb335, 0, none⟩) (Kd.R_types HO327.out BK335.out (by decide)) (fun _ hk => hk.2) (.slice Ao42 t330.length co42)) (fun _ hk => hk.2) (.string t333)) (fun _ hk => hk.2) (.bool t334)) (fun _ hk => trivial)⟩
            have n1_ : Aside0 (Kd.R k60 60 (((w41.setCell ⟨gb335, 0, none⟩ (.slice Ao42 t330.length co42)).setCell ⟨gb335, 1, none⟩ (.string t333)).setCell ⟨gb335, 2, none⟩ (.bool t334)) w.heap.size (fun _ => True) (.slice Ao42 t330.length co42) t330) := ⟨by (with_reducible repeat (first | apply Kd.R_alloc | apply Kd.R_drewN | apply Kd.R_drew)); exact Kd.R_mono (Kd.R_far (p := ⟨gb335, 2, none⟩) (Kd.R_far (p := ⟨gb335, 1, none⟩) (Kd.R_far (p := ⟨gb335, 0, none⟩) (Kd.R_types HO332.out BK335.out (by decide)) (fun _ hk => hk.2) (.slice Ao42 t330.length co42)) (fun _ hk => hk.2) (.string t333)) (fun _ hk => hk.2) (.bool t334)) (fun _ hk => trivial)⟩
            have n2_ : Aside0 ((((w41.setCell ⟨gb335, 0, none⟩ (.slice Ao42 t330.length co42)).setCell ⟨gb335, 1, none⟩ (.string t333)).setCell ⟨gb335, 2, none⟩ (.bool t334)).heap[gb323]? = some (.cells #[.slice Ao38 t325.length co38, .string t328, .bool t329] 24 (0, 0))) := ⟨by (with_reducible repeat (first | refine blk_drewN ?_ _ | refine blk_drew ?_ | refine blk_alloc ?_ _)); refine blk_far ?_ NB323_335.out _; (with_reducible repeat (first | refine blk_drewN ?_ _ | refine blk_drew ?_ | refine blk_alloc ?_ _)); refine blk_far ?_ NB323_335.out _; (with_reducible repeat (first | refine blk_drewN ?_ _ | refine blk_drew ?_ | refine blk_alloc ?_ _)); refine blk_far ?_ NB323_335.out _; (with_reducible repeat (first | refine blk_drewN ?_ _ | refine blk_drew ?_ | refine blk_alloc ?_ _)); exact BK323.out⟩
            have n3_ : Aside0 ((((w41.setCell ⟨gb335, 0, none⟩ (.slice Ao42 t330.length co42)).setCell ⟨gb335, 1, none⟩ (.string t333)).setCell ⟨gb335, 2, none⟩ (.bool t334)).heap[gb324]? = some (.cells #[.string a1_0, .string a1_1, .int .i64 a1_2] 59 (0, 0))) := ⟨by (with_reducible repeat (first | refine blk_drewN ?_ _ | refine blk_drew ?_ | refine blk_alloc ?_ _)); refine blk_far ?_ NB324_335.out _; (with_reducible repeat (first | refine blk_drewN ?_ _ | refine blk_drew ?_ | refine blk_alloc ?_ _)); refine blk_far ?_ NB324_335.out _; (with_reducible repeat (first | refine blk_drewN ?_ _ | refine blk_drew ?_ | refine blk_alloc ?_ _)); refine blk_far ?_ NB324_335.out _; (with_reducible repeat (first | refine blk_drewN ?_ _ | refine blk_drew ?_ | refine blk_alloc ?_ _)); exact BK324.out⟩
            have n4_ : Aside0 ((((w41.setCell ⟨gb335, 0, none⟩ (.slice Ao42 t330.length co42)).setCell ⟨gb335, 1, none⟩ (.string t333)).setCell ⟨gb335, 2, none⟩ (.bool t334)).heap[gb335]? = some (.cells #[.slice Ao42 t330.length co42, .string t333, .bool t334] 30 (0, 0))) := ⟨by (with_reducible repeat (first | refine blk_drewN ?_ _ | refine blk_drew ?_ | refine blk_alloc ?_ _)); refine blk_put (cs := #[.slice Ao42 t330.length co42, .string t333, .bool false]) ?_ 2 _ rfl; (with_reducible repeat (first | refine blk_drewN ?_ _ | refine blk_drew ?_ | refine blk_alloc ?_ _)); refine blk_put (cs := #[.slice Ao42 t330.length co42, .string (⟨#[]⟩ : ByteArray), .bool false]) ?_ 1 _ rfl; (with_reducible repeat (first | refine blk_drewN ?_ _ | refine blk_drew ?_ | refine blk_alloc ?_ _)); refine blk_put (cs := #[.slice none 0 0, .string (⟨#[]⟩ : ByteArray), .bool false]) ?_ 0 _ rfl; (with_reducible repeat (first | refine blk_drewN ?_ _ | refine blk_drew ?_ | refine blk_alloc ?_ _)); exact BK335.out⟩
            have n5_ : Aside0 (Below w.heap.size w (((w41.setCell ⟨gb335, 0, none⟩ (.slice Ao42 t330.length co42)).setCell ⟨gb335, 1, none⟩ (.string t333)).setCell ⟨gb335, 2, none⟩ (.bool t334))) := ⟨by repeat (first | (with_reducible first | exact HB.out | apply below_alloc | apply pw_below_drewN | apply below_drew1 | refine below_set ?_ GE323.out | refine below_set ?_ GE324.out | refine below_set ?_ GE335.out) | exact HB.out)⟩
            (try clear HO327)
            (try clear HO332)
            (try clear BK323)
            (try clear BK324)
            (try clear BK335)
            (try clear HB)
            generalize (((w41.setCell ⟨gb335, 0, none⟩ (.slice Ao42 t330.length co42)).setCell ⟨gb335, 1, none⟩ (.string t333)).setCell ⟨gb335, 2, none⟩ (.bool t334)) = w46 at n0_ n1_ n2_ n3_ n4_ n5_ ⊢
            have HO327 := n0_
            have HO332 := n1_
            have BK323 := n2_
            have BK324 := n3_
            have BK335 := n4_
            have HB := n5_
            clear n0_ n1_ n2_ n3_ n4_ n5_
            have n0_ := Aside0.mk (Kd.R_drew HO327.out)
            have n1_ := Aside0.mk (Kd.R_drew HO332.out)
            have n2_ := Aside0.mk (blk_drew BK323.out)
            have n3_ := Aside0.mk (blk_drew BK324.out)
            have n4_ := Aside0.mk (blk_drew BK335.out)
            have n5_ := Aside0.mk (below_drew1 HB.out)
            clear HO327
            clear HO332
            clear BK323
            clear BK324
            clear BK335
            clear HB
            have HO327 := n0_
            have HO332 := n1_
            have BK323 := n2_
            have BK324 := n3_
            have BK335 := n4_
            have HB := n5_
            clear n0_ n1_ n2_ n3_ n4_ n5_
            refine start_ (n := 16) (S := fun w' => w'.cell? ⟨gb324, 0, none⟩ = some (.string a1_0) ∧ w'.cell? ⟨gb324, 1, none⟩ = some (.string a1_1) ∧ w'.cell? ⟨gb324, 2, none⟩ = some (.int .i64 a1_2)) (ds := []) #[false, false, false, false, false, false, false, false, false, false, false, false, false, false, false, false] (by kernel_rfl) rfl rfl ⟨(blk_cell BK324.out 0).trans rfl, (blk_cell BK324.out 1).trans rfl, (blk_cell BK324.out 2).trans rfl⟩ (fun hHeld => ?_); refine with_tabW postriderlaw07_HeadLays.tab3 postriderlaw07_HeadLays.bits3 (fun HT_ HW_ => ?_)
            generalize w46.drew = w47 at HO327 HO332 BK323 BK324 BK335 HB hHeld ⊢
            refine pure_ (i := 0) (N := some 24) (v := ?_) (a' := ?_) #[true, false, false, false, false, false, false, false, false, false, false, false, false, false, false, false] rfl rfl (any_of HT_.out (by kernel_rfl)) (fun _ _ _ h => h) (Or.inl ⟨by rfl, ?_⟩) ?_ ?_
            rotate_left
            ·intro w'
             go_simp
             with_reducible rfl
            rotate_left
            ·simp only [Act.put, List.setIfInBounds_toArray, List.set_cons_zero, List.set_cons_succ, i64_w, i32_w]
             rfl
            refine pure_ (i := 2) (N := some 26) (v := ?_) (a' := ?_) #[true, false, true, false, false, false, false, false, false, false, false, false, false, false, false, false] rfl rfl (any_of HT_.out (by kernel_rfl)) (fun _ _ _ h => h) (Or.inl ⟨by rfl, ?_⟩) ?_ ?_
            rotate_left
            ·intro w'
             go_simp
             with_reducible rfl
            rotate_left
            ·simp only [Act.put, List.setIfInBounds_toArray, List.set_cons_zero, List.set_cons_succ, i64_w, i32_w]
             rfl
            refine pure_ (i := 7) (N := some 31) (v := ?_) (a' := ?_) #[true, false, true, false, false, false, false, true, false, false, false, false, false, false, false, false] rfl rfl (any_of HT_.out (by kernel_rfl)) (fun _ _ _ h => h) (Or.inl ⟨by rfl, ?_⟩) ?_ ?_
            rotate_left
            ·intro w'
             go_simp
             with_reducible rfl
            rotate_left
            ·simp only [Act.put, List.setIfInBounds_toArray, List.set_cons_zero, List.set_cons_succ, i64_w, i32_w]
             rfl
            refine pure_ (i := 9) (N := some 33) (v := ?_) (a' := ?_) #[true, false, true, false, false, false, false, true, false, true, false, false, false, false, false, false] rfl rfl (any_of HT_.out (by kernel_rfl)) (fun _ _ _ h => h) (Or.inl ⟨by rfl, ?_⟩) ?_ ?_
            rotate_left
            ·intro w'
             go_simp
             with_reducible rfl
            rotate_left
            ·simp only [Act.put, List.setIfInBounds_toArray, List.set_cons_zero, List.set_cons_succ, i64_w, i32_w]
             rfl
            refine take_ (i := 1) (N := some 25) (v := ?_) (a' := ?_) #[true, true, true, false, false, false, false, true, false, true, false, false, false, false, false, false] rfl rfl (take_ofW HT_.out HW_.out (by kernel_rfl)) (fun _ _ _ h => h) (Or.inl ⟨by rfl, ?_⟩) hHeld ?_ ?_
            rotate_left
            ·rintro w' ⟨s0, s1, s2⟩
             go_simp
             with_reducible rfl
            rotate_left
            ·simp only [Act.put, List.setIfInBounds_toArray, List.set_cons_zero, List.set_cons_succ, i64_w, i32_w]
             rfl
            refine take_ (i := 3) (N := some 27) (v := ?_) (a' := ?_) #[true, true, true, true, false, false, false, true, false, true, false, false, false, false, false, false] rfl rfl (take_ofW HT_.out HW_.out (by kernel_rfl)) (fun _ _ _ h => h) (Or.inl ⟨by rfl, ?_⟩) hHeld ?_ ?_
            rotate_left
            ·rintro w' ⟨s0, s1, s2⟩
             go_simp
             with_reducible rfl
            rotate_left
            ·simp only [Act.put, List.setIfInBounds_toArray, List.set_cons_zero, List.set_cons_succ, i64_w, i32_w]
             rfl
            refine pure_ (i := 4) (N := some 28) (v := ?_) (a' := ?_) #[true, true, true, true, true, false, false, true, false, true, false, false, false, false, false, false] rfl rfl (any_of HT_.out (by kernel_rfl)) (fun _ _ _ h => h) (Or.inl ⟨by rfl, ?_⟩) ?_ ?_
            rotate_left
            ·intro w'
             go_simp
             with_reducible rfl
            rotate_left
            ·simp only [Act.put, List.setIfInBounds_toArray, List.set_cons_zero, List.set_cons_succ, i64_w, i32_w]
             rfl
            refine pure_ (i := 5) (N := some 29) (v := ?_) (a' := ?_) #[true, true, true, true, true, true, false, true, false, true, false, false, false, false, false, false] rfl rfl (any_of HT_.out (by kernel_rfl)) (fun _ _ _ h => h) (Or.inl ⟨by rfl, ?_⟩) ?_ ?_
            rotate_left
            ·intro w'
             go_simp
             with_reducible rfl
            rotate_left
            ·simp only [Act.put, List.setIfInBounds_toArray, List.set_cons_zero, List.set_cons_succ, i64_w, i32_w]
             rfl
            refine pure_ (i := 6) (N := some 30) (v := ?_) (a' := ?_) #[true, true, true, true, true, true, true, true, false, true, false, false, false, false, false, false] rfl rfl (any_of HT_.out (by kernel_rfl)) (fun _ _ _ h => h) (Or.inl ⟨by rfl, ?_⟩) ?_ ?_
            rotate_left
            ·intro w'
             go_simp
             with_reducible rfl
            rotate_left
            ·simp only [Act.put, List.setIfInBounds_toArray, List.set_cons_zero, List.set_cons_succ, i64_w, i32_w]
             rfl
            refine pure_ (i := 14) (N := some 6) (v := ?_) (a' := ?_) #[true, true, true, true, true, true, true, true, false, true, false, false, false, false, true, false] rfl rfl (any_of HT_.out (by kernel_rfl)) (fun _ _ _ h => h) (Or.inl ⟨by rfl, ?_⟩) ?_ ?_
            rotate_left
            ·intro w'
             go_simp
             with_reducible rfl
            rotate_left
            ·simp only [Act.put, List.setIfInBounds_toArray, List.set_cons_zero, List.set_cons_succ, i64_w, i32_w]
             rfl
            refine take_ (i := 8) (N := some 32) (v := ?_) (a' := ?_) #[true, true, true, true, true, true, true, true, true, true, false, false, false, false, true, false] rfl rfl (take_ofW HT_.out HW_.out (by kernel_rfl)) (fun _ _ _ h => h) (Or.inl ⟨by rfl, ?_⟩) hHeld ?_ ?_
            rotate_left
            ·rintro w' ⟨s0, s1, s2⟩
             go_simp
             with_reducible rfl
            rotate_left
            ·simp only [Act.put, List.setIfInBounds_toArray, List.set_cons_zero, List.set_cons_succ, i64_w, i32_w]
             rfl
            refine take_ (i := 10) (N := some 34) (v := ?_) (a' := ?_) #[true, true, true, true, true, true, true, true, true, true, true, false, false, false, true, false] rfl rfl (take_ofW HT_.out HW_.out (by kernel_rfl)) (fun _ _ _ h => h) (Or.inl ⟨by rfl, ?_⟩) hHeld ?_ ?_
            rotate_left
            ·rintro w' ⟨s0, s1, s2⟩
             go_simp
             with_reducible rfl
            rotate_left
            ·simp only [Act.put, List.setIfInBounds_toArray, List.set_cons_zero, List.set_cons_succ, i64_w, i32_w]
             rfl
            refine pure_ (i := 11) (N := some 35) (v := ?_) (a' := ?_) #[true, true, true, true, true, true, true, true, true, true, true, true, false, false, true, false] rfl rfl (any_of HT_.out (by kernel_rfl)) (fun _ _ _ h => h) (Or.inl ⟨by rfl, ?_⟩) ?_ ?_
            rotate_left
            ·intro w'
             go_simp
             with_reducible rfl
            rotate_left
            ·simp only [Act.put, List.setIfInBounds_toArray, List.set_cons_zero, List.set_cons_succ, i64_w, i32_w]
             rfl
            refine pure_ (i := 12) (N := some 36) (v := ?_) (a' := ?_) #[true, true, true, true, true, true, true, true, true, true, true, true, true, false, true, false] rfl rfl (any_of HT_.out (by kernel_rfl)) (fun _ _ _ h => h) (Or.inl ⟨by rfl, ?_⟩) ?_ ?_
            rotate_left
            ·intro w'
             go_simp
             with_reducible rfl
            rotate_left
            ·simp only [Act.put, List.setIfInBounds_toArray, List.set_cons_zero, List.set_cons_succ, i64_w, i32_w]
             rfl
            refine pure_ (i := 13) (N := some 37) (v := ?_) (a' := ?_) #[true, true, true, true, true, true, true, true, true, true, true, true, true, true, true, false] rfl rfl (any_of HT_.out (by kernel_rfl)) (fun _ _ _ h => h) (Or.inl ⟨by rfl, ?_⟩) ?_ ?_
            rotate_left
            ·intro w'
             go_simp
             with_reducible rfl
            rotate_left
            ·simp only [Act.put, List.setIfInBounds_toArray, List.set_cons_zero, List.set_cons_succ, i64_w, i32_w]
             rfl
            refine pure_ (i := 15) (N := some 7) (v := ?_) (a' := ?_) #[true, true, true, true, true, true, true, true, true, true, true, true, true, true, true, true] rfl rfl (any_of HT_.out (by kernel_rfl)) (fun _ _ _ h => h) (Or.inl ⟨by rfl, ?_⟩) ?_ ?_
            rotate_left
            ·intro w'
             go_simp
             with_reducible rfl
            rotate_left
            ·simp only [Act.put, List.setIfInBounds_toArray, List.set_cons_zero, List.set_cons_succ, i64_w, i32_w]
             rfl
            refine done_ (done_of HT_.out (by kernel_rfl)) ?_
            try go_wp2_with (first | ((with_reducible refine gate_callee (f := 14) rfl ?_); refine goesL_ (some 41) rfl rfl Tryd.func14 (by kernel_rfl) rfl #[.string js8, .string js12] rfl ml ?_; (with_reducible refine (head_Lay.calls k js8 js12 t336 t337 t338 t339 _ ?side1 A13.out).mono ?_); (case side1 => exact Glob.below HG.out bl); rintro e w48 ⟨rfl, hb⟩; refine ⟨_, rfl, ?_⟩; have n0_ := Aside0.mk (Kd.R_below (kr HO327.out) hb); have n1_ := Aside0.mk (Kd.R_below (kr HO332.out) hb); have n2_ := Aside0.mk (kb BK323.out hb); have n3_ := Aside0.mk (kb BK324.out hb); have n4_ := Aside0.mk (kb BK335.out hb); have n5_ := Aside0.mk (below_step bl hb); clear HO327; clear HO332; clear BK323; clear BK324; clear BK335; clear HB; have HO327 := n0_; have HO332 := n1_; have BK323 := n2_; have BK324 := n3_; have BK335 := n4_; have HB := n5_; clear n0_ n1_ n2_ n3_ n4_ n5_; (try clear hb); (try clear hb2); (try clear hk); (try clear hi)) | ((with_reducible refine gate_dst (N := 8) rfl ?_); refine box_event ?hg (N := 8) ?hd (cs := #[.string (⟨#[]⟩ : ByteArray), .string (⟨#[]⟩ : ByteArray), .string (⟨#[]⟩ : ByteArray)]) (t := 41) ?hr ?_; (case hd => rfl); (case hg => rfl); (case hr => first | (go_simp; done) | (go_simp; rfl)); intro gb340 hg w49 hbox hb; have n0_ := Aside0.mk (Kd.R_below (Kd.R_elderB (kr HO327.out) gb340 (Nat.le_of_eq hg.symm)) hb); have n1_ := Aside0.mk (Kd.R_below (kr HO332.out) hb); have n2_ := Aside0.mk (kb BK323.out hb); have n3_ := Aside0.mk (kb BK324.out hb); have n4_ := Aside0.mk (kb BK335.out hb); have n5_ := Aside0.mk (below_step bl hb); have n6_ := Aside0.mk (hbox); have n7_ := Aside0.mk ((by rw [hg]; exact (below_size bl) : w.heap.size ≤ gb340)); have n8_ := Aside0.mk ((by rw [hg]; exact (below_size bl) : w.heap.size ≤ gb340)); have n9_ := Aside0.mk ((by rw [hg]; exact Nat.ne_of_lt (blk_lt (bk BK323.out)) : gb323 ≠ gb340)); have n10_ := Aside0.mk ((by rw [hg]; exact Nat.ne_of_gt (blk_lt (bk BK323.out)) : gb340 ≠ gb323)); have n11_ := Aside0.mk ((by rw [hg]; exact Nat.ne_of_lt (blk_lt (bk BK324.out)) : gb324 ≠ gb340)); have n12_ := Aside0.mk ((by rw [hg]; exact Nat.ne_of_gt (blk_lt (bk BK324.out)) : gb340 ≠ gb324)); have n13_ := Aside0.mk ((by rw [hg]; exact Nat.ne_of_lt (blk_lt (bk BK335.out)) : gb335 ≠ gb340)); have n14_ := Aside0.mk ((by rw [hg]; exact Nat.ne_of_gt (blk_lt (bk BK335.out)) : gb340 ≠ gb335)); clear HO327; clear HO332; clear BK323; clear BK324; clear BK335; clear HB; have HO327 := n0_; have HO332 := n1_; have BK323 := n2_; have BK324 := n3_; have BK335 := n4_; have HB := n5_; have BK340 := n6_; have GW340 := n7_; have GE340 := n8_; have NB323_340 := n9_; have NB340_323 := n10_; have NB324_340 := n11_; have NB340_324 := n12_; have NB335_340 := n13_; have NB340_335 := n14_; clear n0_ n1_ n2_ n3_ n4_ n5_ n6_ n7_ n8_ n9_ n10_ n11_ n12_ n13_ n14_; clear hb hbox hg; have hnb50 := NB340_323.out; have hnc50 := NB323_340.out; have hnb51 := NB340_324.out; have hnc51 := NB324_340.out; have hnb52 := NB340_335.out; have hnc52 := NB335_340.out; have hcz53_0 : w49.cell? ⟨gb340, 0, none⟩ = some (.string (⟨#[]⟩ : ByteArray)) := (blk_cell BK340.out 0).trans rfl; have hcz53_1 : w49.cell? ⟨gb340, 1, none⟩ = some (.string (⟨#[]⟩ : ByteArray)) := (blk_cell BK340.out 1).trans rfl; have hcz53_2 : w49.cell? ⟨gb340, 2, none⟩ = some (.string (⟨#[]⟩ : ByteArray)) := (blk_cell BK340.out 2).trans rfl; have hfz53_0 := blk_frozen BK340.out 0; have hfz53_1 := blk_frozen BK340.out 1; have hfz53_2 := blk_frozen BK340.out 2) | ((with_reducible refine gate_callee (f := 30) rfl ?_); refine goesL_ (some 47) rfl rfl Tryd.func30 (by kernel_rfl) rfl #[.string js8, .string js12] rfl ml ?_; (with_reducible refine (postriderref07_Lay.calls k js8 js12 t341 t342 t343 t344 _ A14.out).mono ?_); rintro e w54 ⟨rfl, hb⟩; refine ⟨_, rfl, ?_⟩; have n0_ := Aside0.mk (Kd.R_below (by (with_reducible repeat (first | apply Kd.R_alloc | apply Kd.R_drewN | apply Kd.R_drew)); exact (Kd.R_mono (Kd.R_far (p := ⟨gb340, 2, none⟩) (Kd.R_far (p := ⟨gb340, 1, none⟩) (Kd.R_far (p := ⟨gb340, 0, none⟩) (Kd.R_mono HO327.out (fun k_ hk => (⟨hk, hk.2⟩ : _ ∧ k_ ≠ gb340))) (fun _ hk => hk.2) (.string t336)) (fun _ hk => hk.2) (.string t337)) (fun _ hk => hk.2) (.string t338)) (fun _ h_ => h_.1))) hb); have n1_ := Aside0.mk (Kd.R_below (by (with_reducible repeat (first | apply Kd.R_alloc | apply Kd.R_drewN | apply Kd.R_drew)); exact (Kd.R_mono (Kd.R_far (p := ⟨gb340, 2, none⟩) (Kd.R_far (p := ⟨gb340, 1, none⟩) (Kd.R_far (p := ⟨gb340, 0, none⟩) (Kd.R_types HO332.out BK340.out (by decide)) (fun _ hk => hk.2) (.string t336)) (fun _ hk => hk.2) (.string t337)) (fun _ hk => hk.2) (.string t338)) (fun _ h_ => h_.1))) hb); have n2_ := Aside0.mk (kb BK323.out hb); have n3_ := Aside0.mk (kb BK324.out hb); have n4_ := Aside0.mk (kb BK335.out hb); have n5_ := Aside0.mk (blk_below (g := gb340) (o := .cells #[.string t336, .string t337, .string t338] 41 (0, 0)) (by (with_reducible repeat (first | refine blk_drewN ?_ _ | refine blk_drew ?_ | refine blk_alloc ?_ _)); refine blk_put (cs := #[.string t336, .string t337, .string (⟨#[]⟩ : ByteArray)]) ?_ 2 _ rfl; (with_reducible repeat (first | refine blk_drewN ?_ _ | refine blk_drew ?_ | refine blk_alloc ?_ _)); refine blk_put (cs := #[.string t336, .string (⟨#[]⟩ : ByteArray), .string (⟨#[]⟩ : ByteArray)]) ?_ 1 _ rfl; (with_reducible repeat (first | refine blk_drewN ?_ _ | refine blk_drew ?_ | refine blk_alloc ?_ _)); refine blk_put (cs := #[.string (⟨#[]⟩ : ByteArray), .string (⟨#[]⟩ : ByteArray), .string (⟨#[]⟩ : ByteArray)]) ?_ 0 _ rfl; (with_reducible repeat (first | refine blk_drewN ?_ _ | refine blk_drew ?_ | refine blk_alloc ?_ _)); exact BK340.out) hb); have n6_ := Aside0.mk (below_step bl hb); clear HO327; clear HO332; clear BK323; clear BK324; clear BK335; clear BK340; clear HB; have HO327 := n0_; have HO332 := n1_; have BK323 := n2_; have BK324 := n3_; have BK335 := n4_; have BK340 := n5_; have HB := n6_; clear n0_ n1_ n2_ n3_ n4_ n5_ n6_; (try clear hb); (try clear hb2); (try clear hk); (try clear hi)) | ((with_reducible refine gate_dst (N := 10) rfl ?_); refine box_event ?hg (N := 10) ?hd (cs := #[.string (⟨#[]⟩ : ByteArray), .string (⟨#[]⟩ : ByteArray), .string (⟨#[]⟩ : ByteArray)]) (t := 60) ?hr ?_; (case hd => rfl); (case hg => rfl); (case hr => first | (go_simp; done) | (go_simp; rfl)); intro gb345 hg w55 hbox hb; have n0_ := Aside0.mk (Kd.R_below (kr HO327.out) hb); have n1_ := Aside0.mk (Kd.R_below (Kd.R_elderB (kr HO332.out) gb345 (Nat.le_of_eq hg.symm)) hb); have n2_ := Aside0.mk (kb BK323.out hb); have n3_ := Aside0.mk (kb BK324.out hb); have n4_ := Aside0.mk (kb BK335.out hb); have n5_ := Aside0.mk (kb BK340.out hb); have n6_ := Aside0.mk (below_step bl hb); have n7_ := Aside0.mk (hbox); have n8_ := Aside0.mk ((by rw [hg]; exact (below_size bl) : w.heap.size ≤ gb345)); have n9_ := Aside0.mk ((by rw [hg]; exact (below_size bl) : w.heap.size ≤ gb345)); have n10_ := Aside0.mk ((by rw [hg]; exact Nat.ne_of_lt (blk_lt (bk BK323.out)) : gb323 ≠ gb345)); have n11_ := Aside0.mk ((by rw [hg]; exact Nat.ne_of_gt (blk_lt (bk BK323.out)) : gb345 ≠ gb323)); have n12_ := Aside0.mk ((by rw [hg]; exact Nat.ne_of_lt (blk_lt (bk BK324.out)) : gb324 ≠ gb345)); have n13_ := Aside0.mk ((by rw [hg]; exact Nat.ne_of_gt (blk_lt (bk BK324.out)) : gb345 ≠ gb324)); have n14_ := Aside0.mk ((by rw [hg]; exact Nat.ne_of_lt (blk_lt (bk BK335.out)) : gb335 ≠ gb345)); have n15_ := Aside0.mk ((by rw [hg]; exact Nat.ne_of_gt (blk_lt (bk BK335.out)) : gb345 ≠ gb335)); have n16_ := Aside0.mk ((by rw [hg]; exact Nat.ne_of_lt (blk_lt (bk BK340.out)) : gb340 ≠ gb345)); have n17_ := Aside0.mk ((by rw [hg]; exact Nat.ne_of_gt (blk_lt (bk BK340.out)) : gb345 ≠ gb340)); clear HO327; clear HO332; clear BK323; clear BK324; clear BK335; clear BK340; clear HB; have HO327 := n0_; have HO332 := n1_; have BK323 := n2_; have BK324 := n3_; have BK335 := n4_; have BK340 := n5_; have HB := n6_; have BK345 := n7_; have GW345 := n8_; have GE345 := n9_; have NB323_345 := n10_; have NB345_323 := n11_; have NB324_345 := n12_; have NB345_324 := n13_; have NB335_345 := n14_; have NB345_335 := n15_; have NB340_345 := n16_; have NB345_340 := n17_; clear n0_ n1_ n2_ n3_ n4_ n5_ n6_ n7_ n8_ n9_ n10_ n11_ n12_ n13_ n14_ n15_ n16_ n17_; clear hb hbox hg; have hnb56 := NB345_323.out; have hnc56 := NB323_345.out; have hnb57 := NB345_324.out; have hnc57 := NB324_345.out; have hnb58 := NB345_335.out; have hnc58 := NB335_345.out; have hnb59 := NB345_340.out; have hnc59 := NB340_345.out; have hcz60_0 : w55.cell? ⟨gb345, 0, none⟩ = some (.string (⟨#[]⟩ : ByteArray)) := (blk_cell BK345.out 0).trans rfl; have hcz60_1 : w55.cell? ⟨gb345, 1, none⟩ = some (.string (⟨#[]⟩ : ByteArray)) := (blk_cell BK345.out 1).trans rfl; have hcz60_2 : w55.cell? ⟨gb345, 2, none⟩ = some (.string (⟨#[]⟩ : ByteArray)) := (blk_cell BK345.out 2).trans rfl; have hfz60_0 := blk_frozen BK345.out 0; have hfz60_1 := blk_frozen BK345.out 1; have hfz60_2 := blk_frozen BK345.out 2; have hcz61_0 : w55.cell? ⟨gb323, 0, none⟩ = some (.slice Ao38 t325.length co38) := (blk_cell BK323.out 0).trans rfl; have hcz61_1 : w55.cell? ⟨gb323, 1, none⟩ = some (.string t328) := (blk_cell BK323.out 1).trans rfl; have hcz61_2 : w55.cell? ⟨gb323, 2, none⟩ = some (.bool t329) := (blk_cell BK323.out 2).trans rfl; have hfz61_0 := blk_frozen BK323.out 0; have hfz61_1 := blk_frozen BK323.out 1; have hfz61_2 := blk_frozen BK323.out 2) | ((with_reducible refine gate_callee (f := 31) rfl ?_); refine goesL_ (some 54) rfl rfl Tryd.func31 (by kernel_rfl) rfl #[.agg #[.slice Ao38 t325.length co38, .string t328, .bool t329], .string js8, .string js12] rfl ml ?_; (with_reducible refine (head_Message_Ahead.calls k _ _ t325 t328 t329 js8 js12 t346 t349 t350 t351 _ ?side1 ?side2 ?side3 A15.out).mono ?_); (case side1 => refine (Kd.R_reads' (e := 41) (base := w.heap.size) (ok := fun k_ => (True ∧ k_ ≠ gb340)) (n := t325.length) (c := co38) ?_).2.2; exact (by (with_reducible repeat (first | apply Kd.R_alloc | apply Kd.R_drewN | apply Kd.R_drew)); exact (Kd.R_mono (Kd.R_far (p := ⟨gb345, 2, none⟩) (Kd.R_far (p := ⟨gb345, 1, none⟩) (Kd.R_far (p := ⟨gb345, 0, none⟩) (Kd.R_types HO327.out BK345.out (by decide)) (fun _ hk => hk.2) (.string t341)) (fun _ hk => hk.2) (.string t342)) (fun _ hk => hk.2) (.string t343)) (fun _ h_ => h_.1)))); (case side2 => exact (Kd.R_reads' HO327.out).2.1); (case side3 => exact Glob.below HG.out bl); rintro e w62 ⟨v347, rfl, ho0, hb⟩; refine ⟨_, rfl, ?_⟩; have n0_ := Aside0.mk (Kd.R_elder' (by (with_reducible repeat (first | apply Kd.R_alloc | apply Kd.R_drewN | apply Kd.R_drew)); exact (Kd.R_mono (Kd.R_far (p := ⟨gb345, 2, none⟩) (Kd.R_far (p := ⟨gb345, 1, none⟩) (Kd.R_far (p := ⟨gb345, 0, none⟩) (Kd.R_types HO327.out BK345.out (by decide)) (fun _ hk => hk.2) (.string t341)) (fun _ hk => hk.2) (.string t342)) (fun _ hk => hk.2) (.string t343)) (fun _ h_ => h_.1))) (Kd.R_base ho0) hb); have n1_ := Aside0.mk (Kd.R_below (by (with_reducible repeat (first | apply Kd.R_alloc | apply Kd.R_drewN | apply Kd.R_drew)); exact (Kd.R_mono (Kd.R_far (p := ⟨gb345, 2, none⟩) (Kd.R_far (p := ⟨gb345, 1, none⟩) (Kd.R_far (p := ⟨gb345, 0, none⟩) (Kd.R_mono HO332.out (fun k_ hk => (⟨hk, hk.2⟩ : _ ∧ k_ ≠ gb345))) (fun _ hk => hk.2) (.string t341)) (fun _ hk => hk.2) (.string t342)) (fun _ hk => hk.2) (.string t343)) (fun _ h_ => h_.1))) hb); have n2_ := Aside0.mk (Kd.R_lower (Kd.R_newB (Kd.R_new' ho0 (Kd.R_lt (by (with_reducible repeat (first | apply Kd.R_alloc | apply Kd.R_drewN | apply Kd.R_drew)); exact (Kd.R_mono (Kd.R_far (p := ⟨gb345, 2, none⟩) (Kd.R_far (p := ⟨gb345, 1, none⟩) (Kd.R_far (p := ⟨gb345, 0, none⟩) (Kd.R_types HO327.out BK345.out (by decide)) (fun _ hk => hk.2) (.string t341)) (fun _ hk => hk.2) (.string t342)) (fun _ hk => hk.2) (.string t343)) (fun _ h_ => h_.1))))) (g := gb340) (o := .cells #[.string t336, .string t337, .string t338] 41 (0, 0)) (bk BK340.out)) (below_size bl)); have n3_ := Aside0.mk (kb BK323.out hb); have n4_ := Aside0.mk (kb BK324.out hb); have n5_ := Aside0.mk (kb BK335.out hb); have n6_ := Aside0.mk (kb BK340.out hb); have n7_ := Aside0.mk (blk_below (g := gb345) (o := .cells #[.string t341, .string t342, .string t343] 60 (0, 0)) (by (with_reducible repeat (first | refine blk_drewN ?_ _ | refine blk_drew ?_ | refine blk_alloc ?_ _)); refine blk_put (cs := #[.string t341, .string t342, .string (⟨#[]⟩ : ByteArray)]) ?_ 2 _ rfl; (with_reducible repeat (first | refine blk_drewN ?_ _ | refine blk_drew ?_ | refine blk_alloc ?_ _)); refine blk_put (cs := #[.string t341, .string (⟨#[]⟩ : ByteArray), .string (⟨#[]⟩ : ByteArray)]) ?_ 1 _ rfl; (with_reducible repeat (first | refine blk_drewN ?_ _ | refine blk_drew ?_ | refine blk_alloc ?_ _)); refine blk_put (cs := #[.string (⟨#[]⟩ : ByteArray), .string (⟨#[]⟩ : ByteArray), .string (⟨#[]⟩ : ByteArray)]) ?_ 0 _ rfl; (with_reducible repeat (first | refine blk_drewN ?_ _ | refine blk_drew ?_ | refine blk_alloc ?_ _)); exact BK345.out) hb); have n8_ := Aside0.mk (below_step bl hb); clear HO327; clear HO332; clear BK323; clear BK324; clear BK335; clear BK340; clear BK345; clear HB; have HO327 := n0_; have HO332 := n1_; have HO348 := n2_; have BK323 := n3_; have BK324 := n4_; have BK335 := n5_; have BK340 := n6_; have BK345 := n7_; have HB := n8_; clear n0_ n1_ n2_ n3_ n4_ n5_ n6_ n7_ n8_; (try clear hb); (try clear hb2); (try clear hk); (try clear hi); (try clear ho0)) | ((with_reducible refine gate_dst (N := 12) rfl ?_); refine box_event ?hg (N := 12) ?hd (cs := #[.slice none 0 0, .string (⟨#[]⟩ : ByteArray), .bool false]) (t := 24) ?hr ?_; (case hd => rfl); (case hg => rfl); (case hr => first | (go_simp; done) | (go_simp; rfl)); intro gb352 hg w63 hbox hb; have n0_ := Aside0.mk (Kd.R_below (kr HO327.out) hb); have n1_ := Aside0.mk (Kd.R_below (kr HO332.out) hb); have n2_ := Aside0.mk (Kd.R_below (kr HO348.out) hb); have n3_ := Aside0.mk (kb BK323.out hb); have n4_ := Aside0.mk (kb BK324.out hb); have n5_ := Aside0.mk (kb BK335.out hb); have n6_ := Aside0.mk (kb BK340.out hb); have n7_ := Aside0.mk (kb BK345.out hb); have n8_ := Aside0.mk (below_step bl hb); have n9_ := Aside0.mk (hbox); have n10_ := Aside0.mk ((by rw [hg]; exact (below_size bl) : w.heap.size ≤ gb352)); have n11_ := Aside0.mk ((by rw [hg]; exact (below_size bl) : w.heap.size ≤ gb352)); have n12_ := Aside0.mk ((by rw [hg]; exact Nat.ne_of_lt (blk_lt (bk BK323.out)) : gb323 ≠ gb352)); have n13_ := Aside0.mk ((by rw [hg]; exact Nat.ne_of_gt (blk_lt (bk BK323.out)) : gb352 ≠ gb323)); have n14_ := Aside0.mk ((by rw [hg]; exact Nat.ne_of_lt (blk_lt (bk BK324.out)) : gb324 ≠ gb352)); have n15_ := Aside0.mk ((by rw [hg]; exact Nat.ne_of_gt (blk_lt (bk BK324.out)) : gb352 ≠ gb324)); have n16_ := Aside0.mk ((by rw [hg]; exact Nat.ne_of_lt (blk_lt (bk BK335.out)) : gb335 ≠ gb352)); have n17_ := Aside0.mk ((by rw [hg]; exact Nat.ne_of_gt (blk_lt (bk BK335.out)) : gb352 ≠ gb335)); have n18_ := Aside0.mk ((by rw [hg]; exact Nat.ne_of_lt (blk_lt (bk BK340.out)) : gb340 ≠ gb352)); have n19_ := Aside0.mk ((by rw [hg]; exact Nat.ne_of_gt (blk_lt (bk BK340.out)) : gb352 ≠ gb340)); have n20_ := Aside0.mk ((by rw [hg]; exact Nat.ne_of_lt (blk_lt (bk BK345.out)) : gb345 ≠ gb352)); have n21_ := Aside0.mk ((by rw [hg]; exact Nat.ne_of_gt (blk_lt (bk BK345.out)) : gb352 ≠ gb345)); clear HO327; clear HO332; clear HO348; clear BK323; clear BK324; clear BK335; clear BK340; clear BK345; clear HB; have HO327 := n0_; have HO332 := n1_; have HO348 := n2_; have BK323 := n3_; have BK324 := n4_; have BK335 := n5_; have BK340 := n6_; have BK345 := n7_; have HB := n8_; have BK352 := n9_; have GW352 := n10_; have GE352 := n11_; have NB323_352 := n12_; have NB352_323 := n13_; have NB324_352 := n14_; have NB352_324 := n15_; have NB335_352 := n16_; have NB352_335 := n17_; have NB340_352 := n18_; have NB352_340 := n19_; have NB345_352 := n20_; have NB352_345 := n21_; clear n0_ n1_ n2_ n3_ n4_ n5_ n6_ n7_ n8_ n9_ n10_ n11_ n12_ n13_ n14_ n15_ n16_ n17_ n18_ n19_ n20_ n21_; clear hb hbox hg; obtain ⟨Ao64, co64, eo64⟩ := Kd.R_slice HO348.out; subst eo64; have hnb65 := NB352_323.out; have hnc65 := NB323_352.out; have hnb66 := NB352_324.out; have hnc66 := NB324_352.out; have hnb67 := NB352_335.out; have hnc67 := NB335_352.out; have hnb68 := NB352_340.out; have hnc68 := NB340_352.out; have hnb69 := NB352_345.out; have hnc69 := NB345_352.out; have hcz70_0 : w63.cell? ⟨gb352, 0, none⟩ = some (.slice none 0 0) := (blk_cell BK352.out 0).trans rfl; have hcz70_1 : w63.cell? ⟨gb352, 1, none⟩ = some (.string (⟨#[]⟩ : ByteArray)) := (blk_cell BK352.out 1).trans rfl; have hcz70_2 : w63.cell? ⟨gb352, 2, none⟩ = some (.bool false) := (blk_cell BK352.out 2).trans rfl; have hfz70_0 := blk_frozen BK352.out 0; have hfz70_1 := blk_frozen BK352.out 1; have hfz70_2 := blk_frozen BK352.out 2; have hcz71_0 : w63.cell? ⟨gb335, 0, none⟩ = some (.slice Ao42 t330.length co42) := (blk_cell BK335.out 0).trans rfl; have hcz71_1 : w63.cell? ⟨gb335, 1, none⟩ = some (.string t333) := (blk_cell BK335.out 1).trans rfl; have hcz71_2 : w63.cell? ⟨gb335, 2, none⟩ = some (.bool t334) := (blk_cell BK335.out 2).trans rfl; have hfz71_0 := blk_frozen BK335.out 0; have hfz71_1 := blk_frozen BK335.out 1; have hfz71_2 := blk_frozen BK335.out 2) | ((with_reducible refine gate_callee (f := 32) rfl ?_); refine goesL_ (some 61) rfl rfl Tryd.func32 (by kernel_rfl) rfl #[.agg #[.slice Ao42 t330.length co42, .string t333, .bool t334], .string js8, .string js12] rfl ml ?_; (with_reducible refine (postriderref07_Ahead.calls k _ _ t330 t333 t334 js8 js12 t353 t356 t357 t358 _ ?side1 ?side2 A16.out).mono ?_); (case side1 => refine (Kd.R_reads' (e := 60) (base := w.heap.size) (ok := fun k_ => (True ∧ k_ ≠ gb345)) (n := t330.length) (c := co42) ?_).2.2; exact (by (with_reducible repeat (first | apply Kd.R_alloc | apply Kd.R_drewN | apply Kd.R_drew)); exact (Kd.R_mono (Kd.R_far (p := ⟨gb352, 2, none⟩) (Kd.R_far (p := ⟨gb352, 1, none⟩) (Kd.R_far (p := ⟨gb352, 0, none⟩) (Kd.R_types HO332.out BK352.out (by decide)) (fun _ hk => hk.2) (.slice Ao64 t346.length co64)) (fun _ hk => hk.2) (.string t349)) (fun _ hk => hk.2) (.bool t350)) (fun _ h_ => h_.1)))); (case side2 => exact (Kd.R_reads' HO332.out).2.1); rintro e w72 ⟨v354, rfl, ho0, hb⟩; refine ⟨_, rfl, ?_⟩; have n0_ := Aside0.mk (Kd.R_below (by (with_reducible repeat (first | apply Kd.R_alloc | apply Kd.R_drewN | apply Kd.R_drew)); exact (Kd.R_mono (Kd.R_far (p := ⟨gb352, 2, none⟩) (Kd.R_far (p := ⟨gb352, 1, none⟩) (Kd.R_far (p := ⟨gb352, 0, none⟩) (Kd.R_types HO327.out BK352.out (by decide)) (fun _ hk => hk.2) (.slice Ao64 t346.length co64)) (fun _ hk => hk.2) (.string t349)) (fun _ hk => hk.2) (.bool t350)) (fun _ h_ => h_.1))) hb); have n1_ := Aside0.mk (Kd.R_elder' (by (with_reducible repeat (first | apply Kd.R_alloc | apply Kd.R_drewN | apply Kd.R_drew)); exact (Kd.R_mono (Kd.R_far (p := ⟨gb352, 2, none⟩) (Kd.R_far (p := ⟨gb352, 1, none⟩) (Kd.R_far (p := ⟨gb352, 0, none⟩) (Kd.R_types HO332.out BK352.out (by decide)) (fun _ hk => hk.2) (.slice Ao64 t346.length co64)) (fun _ hk => hk.2) (.string t349)) (fun _ hk => hk.2) (.bool t350)) (fun _ h_ => h_.1))) (Kd.R_base ho0) hb); have n2_ := Aside0.mk (Kd.R_below (by (with_reducible repeat (first | apply Kd.R_alloc | apply Kd.R_drewN | apply Kd.R_drew)); exact (Kd.R_mono (Kd.R_far (p := ⟨gb352, 2, none⟩) (Kd.R_far (p := ⟨gb352, 1, none⟩) (Kd.R_far (p := ⟨gb352, 0, none⟩) (Kd.R_types HO348.out BK352.out (by decide)) (fun _ hk => hk.2) (.slice Ao64 t346.length co64)) (fun _ hk => hk.2) (.string t349)) (fun _ hk => hk.2) (.bool t350)) (fun _ h_ => h_.1))) hb); have n3_ := Aside0.mk (Kd.R_lower (Kd.R_newB (Kd.R_new' ho0 (Kd.R_lt (by (with_reducible repeat (first | apply Kd.R_alloc | apply Kd.R_drewN | apply Kd.R_drew)); exact (Kd.R_mono (Kd.R_far (p := ⟨gb352, 2, none⟩) (Kd.R_far (p := ⟨gb352, 1, none⟩) (Kd.R_far (p := ⟨gb352, 0, none⟩) (Kd.R_types HO332.out BK352.out (by decide)) (fun _ hk => hk.2) (.slice Ao64 t346.length co64)) (fun _ hk => hk.2) (.string t349)) (fun _ hk => hk.2) (.bool t350)) (fun _ h_ => h_.1))))) (g := gb345) (o := .cells #[.string t341, .string t342, .string t343] 60 (0, 0)) (bk BK345.out)) (below_size bl)); have n4_ := Aside0.mk (kb BK323.out hb); have n5_ := Aside0.mk (kb BK324.out hb); have n6_ := Aside0.mk (kb BK335.out hb); have n7_ := Aside0.mk (kb BK340.out hb); have n8_ := Aside0.mk (kb BK345.out hb); have n9_ := Aside0.mk (blk_below (g := gb352) (o := .cells #[.slice Ao64 t346.length co64, .string t349, .bool t350] 24 (0, 0)) (by (with_reducible repeat (first | refine blk_drewN ?_ _ | refine blk_drew ?_ | refine blk_alloc ?_ _)); refine blk_put (cs := #[.slice Ao64 t346.length co64, .string t349, .bool false]) ?_ 2 _ rfl; (with_reducible repeat (first | refine blk_drewN ?_ _ | refine blk_drew ?_ | refine blk_alloc ?_ _)); refine blk_put (cs := #[.slice Ao64 t346.length co64, .string (⟨#[]⟩ : ByteArray), .bool false]) ?_ 1 _ rfl; (with_reducible repeat (first | refine blk_drewN ?_ _ | refine blk_drew ?_ | refine blk_alloc ?_ _)); refine blk_put (cs := #[.slice none 0 0, .string (⟨#[]⟩ : ByteArray), .bool false]) ?_ 0 _ rfl; (with_reducible repeat (first | refine blk_drewN ?_ _ | refine blk_drew ?_ | refine blk_alloc ?_ _)); exact BK352.out) hb); have n10_ := Aside0.mk (below_step bl hb); clear HO327; clear HO332; clear HO348; clear BK323; clear BK324; clear BK335; clear BK340; clear BK345; clear BK352; clear HB; have HO327 := n0_; have HO332 := n1_; have HO348 := n2_; have HO355 := n3_; have BK323 := n4_; have BK324 := n5_; have BK335 := n6_; have BK340 := n7_; have BK345 := n8_; have BK352 := n9_; have HB := n10_; clear n0_ n1_ n2_ n3_ n4_ n5_ n6_ n7_ n8_ n9_ n10_; (try clear hb); (try clear hb2); (try clear hk); (try clear hi); (try clear ho0)) | ((with_reducible refine gate_dst (N := 14) rfl ?_); refine box_event ?hg (N := 14) ?hd (cs := #[.slice none 0 0, .string (⟨#[]⟩ : ByteArray), .bool false]) (t := 30) ?hr ?_; (case hd => rfl); (case hg => rfl); (case hr => first | (go_simp; done) | (go_simp; rfl)); intro gb359 hg w73 hbox hb; have n0_ := Aside0.mk (Kd.R_below (kr HO327.out) hb); have n1_ := Aside0.mk (Kd.R_below (kr HO332.out) hb); have n2_ := Aside0.mk (Kd.R_below (kr HO348.out) hb); have n3_ := Aside0.mk (Kd.R_below (kr HO355.out) hb); have n4_ := Aside0.mk (kb BK323.out hb); have n5_ := Aside0.mk (kb BK324.out hb); have n6_ := Aside0.mk (kb BK335.out hb); have n7_ := Aside0.mk (kb BK340.out hb); have n8_ := Aside0.mk (kb BK345.out hb); have n9_ := Aside0.mk (kb BK352.out hb); have n10_ := Aside0.mk (below_step bl hb); have n11_ := Aside0.mk (hbox); have n12_ := Aside0.mk ((by rw [hg]; exact (below_size bl) : w.heap.size ≤ gb359)); have n13_ := Aside0.mk ((by rw [hg]; exact (below_size bl) : w.heap.size ≤ gb359)); have n14_ := Aside0.mk ((by rw [hg]; exact Nat.ne_of_lt (blk_lt (bk BK323.out)) : gb323 ≠ gb359)); have n15_ := Aside0.mk ((by rw [hg]; exact Nat.ne_of_gt (blk_lt (bk BK323.out)) : gb359 ≠ gb323)); have n16_ := Aside0.mk ((by rw [hg]; exact Nat.ne_of_lt (blk_lt (bk BK324.out)) : gb324 ≠ gb359)); have n17_ := Aside0.mk ((by rw [hg]; exact Nat.ne_of_gt (blk_lt (bk BK324.out)) : gb359 ≠ gb324)); have n18_ := Aside0.mk ((by rw [hg]; exact Nat.ne_of_lt (blk_lt (bk BK335.out)) : gb335 ≠ gb359)); have n19_ := Aside0.mk ((by rw [hg]; exact Nat.ne_of_gt (blk_lt (bk BK335.out)) : gb359 ≠ gb335)); have n20_ := Aside0.mk ((by rw [hg]; exact Nat.ne_of_lt (blk_lt (bk BK340.out)) : gb340 ≠ gb359)); have n21_ := Aside0.mk ((by rw [hg]; exact Nat.ne_of_gt (blk_lt (bk BK340.out)) : gb359 ≠ gb340)); have n22_ := Aside0.mk ((by rw [hg]; exact Nat.ne_of_lt (blk_lt (bk BK345.out)) : gb345 ≠ gb359)); have n23_ := Aside0.mk ((by rw [hg]; exact Nat.ne_of_gt (blk_lt (bk BK345.out)) : gb359 ≠ gb345)); have n24_ := Aside0.mk ((by rw [hg]; exact Nat.ne_of_lt (blk_lt (bk BK352.out)) : gb352 ≠ gb359)); have n25_ := Aside0.mk ((by rw [hg]; exact Nat.ne_of_gt (blk_lt (bk BK352.out)) : gb359 ≠ gb352)); clear HO327; clear HO332; clear HO348; clear HO355; clear BK323; clear BK324; clear BK335; clear BK340; clear BK345; clear BK352; clear HB; have HO327 := n0_; have HO332 := n1_; have HO348 := n2_; have HO355 := n3_; have BK323 := n4_; have BK324 := n5_; have BK335 := n6_; have BK340 := n7_; have BK345 := n8_; have BK352 := n9_; have HB := n10_; have BK359 := n11_; have GW359 := n12_; have GE359 := n13_; have NB323_359 := n14_; have NB359_323 := n15_; have NB324_359 := n16_; have NB359_324 := n17_; have NB335_359 := n18_; have NB359_335 := n19_; have NB340_359 := n20_; have NB359_340 := n21_; have NB345_359 := n22_; have NB359_345 := n23_; have NB352_359 := n24_; have NB359_352 := n25_; clear n0_ n1_ n2_ n3_ n4_ n5_ n6_ n7_ n8_ n9_ n10_ n11_ n12_ n13_ n14_ n15_ n16_ n17_ n18_ n19_ n20_ n21_ n22_ n23_ n24_ n25_; clear hb hbox hg; obtain ⟨Ao74, co74, eo74⟩ := Kd.R_slice HO355.out; subst eo74; have hnb75 := NB359_323.out; have hnc75 := NB323_359.out; have hnb76 := NB359_324.out; have hnc76 := NB324_359.out; have hnb77 := NB359_335.out; have hnc77 := NB335_359.out; have hnb78 := NB359_340.out; have hnc78 := NB340_359.out; have hnb79 := NB359_345.out; have hnc79 := NB345_359.out; have hnb80 := NB359_352.out; have hnc80 := NB352_359.out; have hcz81_0 : w73.cell? ⟨gb359, 0, none⟩ = some (.slice none 0 0) := (blk_cell BK359.out 0).trans rfl; have hcz81_1 : w73.cell? ⟨gb359, 1, none⟩ = some (.string (⟨#[]⟩ : ByteArray)) := (blk_cell BK359.out 1).trans rfl; have hcz81_2 : w73.cell? ⟨gb359, 2, none⟩ = some (.bool false) := (blk_cell BK359.out 2).trans rfl; have hfz81_0 := blk_frozen BK359.out 0; have hfz81_1 := blk_frozen BK359.out 1; have hfz81_2 := blk_frozen BK359.out 2; have hcz82_0 : w73.cell? ⟨gb323, 0, none⟩ = some (.slice Ao38 t325.length co38) := (blk_cell BK323.out 0).trans rfl; have hcz82_1 : w73.cell? ⟨gb323, 1, none⟩ = some (.string t328) := (blk_cell BK323.out 1).trans rfl; have hcz82_2 : w73.cell? ⟨gb323, 2, none⟩ = some (.bool t329) := (blk_cell BK323.out 2).trans rfl; have hfz82_0 := blk_frozen BK323.out 0; have hfz82_1 := blk_frozen BK323.out 1; have hfz82_2 := blk_frozen BK323.out 2; have hcz83_0 : w73.cell? ⟨gb324, 0, none⟩ = some (.string a1_0) := (blk_cell BK324.out 0).trans rfl; have hcz83_1 : w73.cell? ⟨gb324, 1, none⟩ = some (.string a1_1) := (blk_cell BK324.out 1).trans rfl; have hcz83_2 : w73.cell? ⟨gb324, 2, none⟩ = some (.int .i64 a1_2) := (blk_cell BK324.out 2).trans rfl; have hfz83_0 := blk_frozen BK324.out 0; have hfz83_1 := blk_frozen BK324.out 1; have hfz83_2 := blk_frozen BK324.out 2) | ((with_reducible refine gate_callee (f := 33) rfl ?_); refine goesL_ (some 69) rfl rfl Tryd.func33 (by kernel_rfl) rfl #[.agg #[.slice Ao38 t325.length co38, .string t328, .bool t329], .int .i64 a1_2, .string js12] rfl ml ?_; (with_reducible refine (head_Message_Put.calls k _ _ t325 t328 t329 a1_2 js12 t360 t363 t364 t365 _ ?side1 ?side2 ?side3 A17.out).mono ?_); (case side1 => refine (Kd.R_reads' (e := 41) (base := w.heap.size) (ok := fun k_ => ((True ∧ k_ ≠ gb340) ∧ some k_ ≠ (.slice Ao64 t346.length co64 : Value).ownBlock)) (n := t325.length) (c := co38) ?_).2.2; exact (by (with_reducible repeat (first | apply Kd.R_alloc | apply Kd.R_drewN | apply Kd.R_drew)); exact (Kd.R_mono (Kd.R_far (p := ⟨gb359, 2, none⟩) (Kd.R_far (p := ⟨gb359, 1, none⟩) (Kd.R_far (p := ⟨gb359, 0, none⟩) (Kd.R_types HO327.out BK359.out (by decide)) (fun _ hk => hk.2) (.slice Ao74 t353.length co74)) (fun _ hk => hk.2) (.string t356)) (fun _ hk => hk.2) (.bool t357)) (fun _ h_ => h_.1)))); (case side2 => exact (Kd.R_reads' HO327.out).2.1); (case side3 => exact Glob.below HG.out bl); rintro e w84 ⟨v361, rfl, ho0, hb⟩; refine ⟨_, rfl, ?_⟩; have n0_ := Aside0.mk (Kd.R_elder' (by (with_reducible repeat (first | apply Kd.R_alloc | apply Kd.R_drewN | apply Kd.R_drew)); exact (Kd.R_mono (Kd.R_far (p := ⟨gb359, 2, none⟩) (Kd.R_far (p := ⟨gb359, 1, none⟩) (Kd.R_far (p := ⟨gb359, 0, none⟩) (Kd.R_types HO327.out BK359.out (by decide)) (fun _ hk => hk.2) (.slice Ao74 t353.length co74)) (fun _ hk => hk.2) (.string t356)) (fun _ hk => hk.2) (.bool t357)) (fun _ h_ => h_.1))) (Kd.R_base ho0) hb); have n1_ := Aside0.mk (Kd.R_below (by (with_reducible repeat (first | apply Kd.R_alloc | apply Kd.R_drewN | apply Kd.R_drew)); exact (Kd.R_mono (Kd.R_far (p := ⟨gb359, 2, none⟩) (Kd.R_far (p := ⟨gb359, 1, none⟩) (Kd.R_far (p := ⟨gb359, 0, none⟩) (Kd.R_types HO332.out BK359.out (by decide)) (fun _ hk => hk.2) (.slice Ao74 t353.length co74)) (fun _ hk => hk.2) (.string t356)) (fun _ hk => hk.2) (.bool t357)) (fun _ h_ => h_.1))) hb); have n2_ := Aside0.mk (Kd.R_elder' (by (with_reducible repeat (first | apply Kd.R_alloc | apply Kd.R_drewN | apply Kd.R_drew)); exact (Kd.R_mono (Kd.R_far (p := ⟨gb359, 2, none⟩) (Kd.R_far (p := ⟨gb359, 1, none⟩) (Kd.R_far (p := ⟨gb359, 0, none⟩) (Kd.R_types HO348.out BK359.out (by decide)) (fun _ hk => hk.2) (.slice Ao74 t353.length co74)) (fun _ hk => hk.2) (.string t356)) (fun _ hk => hk.2) (.bool t357)) (fun _ h_ => h_.1))) (Kd.R_base ho0) hb); have n3_ := Aside0.mk (Kd.R_below (by (with_reducible repeat (first | apply Kd.R_alloc | apply Kd.R_drewN | apply Kd.R_drew)); exact (Kd.R_mono (Kd.R_far (p := ⟨gb359, 2, none⟩) (Kd.R_far (p := ⟨gb359, 1, none⟩) (Kd.R_far (p := ⟨gb359, 0, none⟩) (Kd.R_types HO355.out BK359.out (by decide)) (fun _ hk => hk.2) (.slice Ao74 t353.length co74)) (fun _ hk => hk.2) (.string t356)) (fun _ hk => hk.2) (.bool t357)) (fun _ h_ => h_.1))) hb); have n4_ := Aside0.mk (Kd.R_lower (Kd.R_newB (Kd.R_new' (Kd.R_new' ho0 (Kd.R_lt (by (with_reducible repeat (first | apply Kd.R_alloc | apply Kd.R_drewN | apply Kd.R_drew)); exact (Kd.R_mono (Kd.R_far (p := ⟨gb359, 2, none⟩) (Kd.R_far (p := ⟨gb359, 1, none⟩) (Kd.R_far (p := ⟨gb359, 0, none⟩) (Kd.R_types HO327.out BK359.out (by decide)) (fun _ hk => hk.2) (.slice Ao74 t353.length co74)) (fun _ hk => hk.2) (.string t356)) (fun _ hk => hk.2) (.bool t357)) (fun _ h_ => h_.1))))) (Kd.R_lt (by (with_reducible repeat (first | apply Kd.R_alloc | apply Kd.R_drewN | apply Kd.R_drew)); exact (Kd.R_mono (Kd.R_far (p := ⟨gb359, 2, none⟩) (Kd.R_far (p := ⟨gb359, 1, none⟩) (Kd.R_far (p := ⟨gb359, 0, none⟩) (Kd.R_types HO348.out BK359.out (by decide)) (fun _ hk => hk.2) (.slice Ao74 t353.length co74)) (fun _ hk => hk.2) (.string t356)) (fun _ hk => hk.2) (.bool t357)) (fun _ h_ => h_.1))))) (g := gb340) (o := .cells #[.string t336, .string t337, .string t338] 41 (0, 0)) (bk BK340.out)) (below_size bl)); have n5_ := Aside0.mk (kb BK323.out hb); have n6_ := Aside0.mk (kb BK324.out hb); have n7_ := Aside0.mk (kb BK335.out hb); have n8_ := Aside0.mk (kb BK340.out hb); have n9_ := Aside0.mk (kb BK345.out hb); have n10_ := Aside0.mk (kb BK352.out hb); have n11_ := Aside0.mk (blk_below (g := gb359) (o := .cells #[.slice Ao74 t353.length co74, .string t356, .bool t357] 30 (0, 0)) (by (with_reducible repeat (first | refine blk_drewN ?_ _ | refine blk_drew ?_ | refine blk_alloc ?_ _)); refine blk_put (cs := #[.slice Ao74 t353.length co74, .string t356, .bool false]) ?_ 2 _ rfl; (with_reducible repeat (first | refine blk_drewN ?_ _ | refine blk_drew ?_ | refine blk_alloc ?_ _)); refine blk_put (cs := #[.slice Ao74 t353.length co74, .string (⟨#[]⟩ : ByteArray), .bool false]) ?_ 1 _ rfl; (with_reducible repeat (first | refine blk_drewN ?_ _ | refine blk_drew ?_ | refine blk_alloc ?_ _)); refine blk_put (cs := #[.slice none 0 0, .string (⟨#[]⟩ : ByteArray), .bool false]) ?_ 0 _ rfl; (with_reducible repeat (first | refine blk_drewN ?_ _ | refine blk_drew ?_ | refine blk_alloc ?_ _)); exact BK359.out) hb); have n12_ := Aside0.mk (below_step bl hb); clear HO327; clear HO332; clear HO348; clear HO355; clear BK323; clear BK324; clear BK335; clear BK340; clear BK345; clear BK352; clear BK359; clear HB; have HO327 := n0_; have HO332 := n1_; have HO348 := n2_; have HO355 := n3_; have HO362 := n4_; have BK323 := n5_; have BK324 := n6_; have BK335 := n7_; have BK340 := n8_; have BK345 := n9_; have BK352 := n10_; have BK359 := n11_; have HB := n12_; clear n0_ n1_ n2_ n3_ n4_ n5_ n6_ n7_ n8_ n9_ n10_ n11_ n12_; (try clear hb); (try clear hb2); (try clear hk); (try clear hi); (try clear ho0)) | ((with_reducible refine gate_dst (N := 16) rfl ?_); refine box_event ?hg (N := 16) ?hd (cs := #[.slice none 0 0, .string (⟨#[]⟩ : ByteArray), .bool false]) (t := 24) ?hr ?_; (case hd => rfl); (case hg => rfl); (case hr => first | (go_simp; done) | (go_simp; rfl)); intro gb366 hg w85 hbox hb; have n0_ := Aside0.mk (Kd.R_below (kr HO327.out) hb); have n1_ := Aside0.mk (Kd.R_below (kr HO332.out) hb); have n2_ := Aside0.mk (Kd.R_below (kr HO348.out) hb); have n3_ := Aside0.mk (Kd.R_below (kr HO355.out) hb); have n4_ := Aside0.mk (Kd.R_below (kr HO362.out) hb); have n5_ := Aside0.mk (kb BK323.out hb); have n6_ := Aside0.mk (kb BK324.out hb); have n7_ := Aside0.mk (kb BK335.out hb); have n8_ := Aside0.mk (kb BK340.out hb); have n9_ := Aside0.mk (kb BK345.out hb); have n10_ := Aside0.mk (kb BK352.out hb); have n11_ := Aside0.mk (kb BK359.out hb); have n12_ := Aside0.mk (below_step bl hb); have n13_ := Aside0.mk (hbox); have n14_ := Aside0.mk ((by rw [hg]; exact (below_size bl) : w.heap.size ≤ gb366)); have n15_ := Aside0.mk ((by rw [hg]; exact (below_size bl) : w.heap.size ≤ gb366)); have n16_ := Aside0.mk ((by rw [hg]; exact Nat.ne_of_lt (blk_lt (bk BK323.out)) : gb323 ≠ gb366)); have n17_ := Aside0.mk ((by rw [hg]; exact Nat.ne_of_gt (blk_lt (bk BK323.out)) : gb366 ≠ gb323)); have n18_ := Aside0.mk ((by rw [hg]; exact Nat.ne_of_lt (blk_lt (bk BK324.out)) : gb324 ≠ gb366)); have n19_ := Aside0.mk ((by rw [hg]; exact Nat.ne_of_gt (blk_lt (bk BK324.out)) : gb366 ≠ gb324)); have n20_ := Aside0.mk ((by rw [hg]; exact Nat.ne_of_lt (blk_lt (bk BK335.out)) : gb335 ≠ gb366)); have n21_ := Aside0.mk ((by rw [hg]; exact Nat.ne_of_gt (blk_lt (bk BK335.out)) : gb366 ≠ gb335)); have n22_ := Aside0.mk ((by rw [hg]; exact Nat.ne_of_lt (blk_lt (bk BK340.out)) : gb340 ≠ gb366)); have n23_ := Aside0.mk ((by rw [hg]; exact Nat.ne_of_gt (blk_lt (bk BK340.out)) : gb366 ≠ gb340)); have n24_ := Aside0.mk ((by rw [hg]; exact Nat.ne_of_lt (blk_lt (bk BK345.out)) : gb345 ≠ gb366)); have n25_ := Aside0.mk ((by rw [hg]; exact Nat.ne_of_gt (blk_lt (bk BK345.out)) : gb366 ≠ gb345)); have n26_ := Aside0.mk ((by rw [hg]; exact Nat.ne_of_lt (blk_lt (bk BK352.out)) : gb352 ≠ gb366)); have n27_ := Aside0.mk ((by rw [hg]; exact Nat.ne_of_gt (blk_lt (bk BK352.out)) : gb366 ≠ gb352)); have n28_ := Aside0.mk ((by rw [hg]; exact Nat.ne_of_lt (blk_lt (bk BK359.out)) : gb359 ≠ gb366)); have n29_ := Aside0.mk ((by rw [hg]; exact Nat.ne_of_gt (blk_lt (bk BK359.out)) : gb366 ≠ gb359)); clear HO327; clear HO332; clear HO348; clear HO355; clear HO362; clear BK323; clear BK324; clear BK335; clear BK340; clear BK345; clear BK352; clear BK359; clear HB; have HO327 := n0_; have HO332 := n1_; have HO348 := n2_; have HO355 := n3_; have HO362 := n4_; have BK323 := n5_; have BK324 := n6_; have BK335 := n7_; have BK340 := n8_; have BK345 := n9_; have BK352 := n10_; have BK359 := n11_; have HB := n12_; have BK366 := n13_; have GW366 := n14_; have GE366 := n15_; have NB323_366 := n16_; have NB366_323 := n17_; have NB324_366 := n18_; have NB366_324 := n19_; have NB335_366 := n20_; have NB366_335 := n21_; have NB340_366 := n22_; have NB366_340 := n23_; have NB345_366 := n24_; have NB366_345 := n25_; have NB352_366 := n26_; have NB366_352 := n27_; have NB359_366 := n28_; have NB366_359 := n29_; clear n0_ n1_ n2_ n3_ n4_ n5_ n6_ n7_ n8_ n9_ n10_ n11_ n12_ n13_ n14_ n15_ n16_ n17_ n18_ n19_ n20_ n21_ n22_ n23_ n24_ n25_ n26_ n27_ n28_ n29_; clear hb hbox hg; obtain ⟨Ao86, co86, eo86⟩ := Kd.R_slice HO362.out; subst eo86; have hnb87 := NB366_323.out; have hnc87 := NB323_366.out; have hnb88 := NB366_324.out; have hnc88 := NB324_366.out; have hnb89 := NB366_335.out; have hnc89 := NB335_366.out; have hnb90 := NB366_340.out; have hnc90 := NB340_366.out; have hnb91 := NB366_345.out; have hnc91 := NB345_366.out; have hnb92 := NB366_352.out; have hnc92 := NB352_366.out; have hnb93 := NB366_359.out; have hnc93 := NB359_366.out; have hcz94_0 : w85.cell? ⟨gb366, 0, none⟩ = some (.slice none 0 0) := (blk_cell BK366.out 0).trans rfl; have hcz94_1 : w85.cell? ⟨gb366, 1, none⟩ = some (.string (⟨#[]⟩ : ByteArray)) := (blk_cell BK366.out 1).trans rfl; have hcz94_2 : w85.cell? ⟨gb366, 2, none⟩ = some (.bool false) := (blk_cell BK366.out 2).trans rfl; have hfz94_0 := blk_frozen BK366.out 0; have hfz94_1 := blk_frozen BK366.out 1; have hfz94_2 := blk_frozen BK366.out 2; have hcz95_0 : w85.cell? ⟨gb335, 0, none⟩ = some (.slice Ao42 t330.length co42) := (blk_cell BK335.out 0).trans rfl; have hcz95_1 : w85.cell? ⟨gb335, 1, none⟩ = some (.string t333) := (blk_cell BK335.out 1).trans rfl; have hcz95_2 : w85.cell? ⟨gb335, 2, none⟩ = some (.bool t334) := (blk_cell BK335.out 2).trans rfl; have hfz95_0 := blk_frozen BK335.out 0; have hfz95_1 := blk_frozen BK335.out 1; have hfz95_2 := blk_frozen BK335.out 2; have hcz96_0 : w85.cell? ⟨gb324, 0, none⟩ = some (.string a1_0) := (blk_cell BK324.out 0).trans rfl; have hcz96_1 : w85.cell? ⟨gb324, 1, none⟩ = some (.string a1_1) := (blk_cell BK324.out 1).trans rfl; have hcz96_2 : w85.cell? ⟨gb324, 2, none⟩ = some (.int .i64 a1_2) := (blk_cell BK324.out 2).trans rfl; have hfz96_0 := blk_frozen BK324.out 0; have hfz96_1 := blk_frozen BK324.out 1; have hfz96_2 := blk_frozen BK324.out 2) | ((with_reducible refine gate_callee (f := 34) rfl ?_); refine goesL_ (some 77) rfl rfl Tryd.func34 (by kernel_rfl) rfl #[.agg #[.slice Ao42 t330.length co42, .string t333, .bool t334], .int .i64 a1_2, .string js12] rfl ml ?_; (with_reducible refine (postriderref07_Put.calls k _ _ t330 t333 t334 a1_2 js12 t367 t370 t371 t372 _ ?side1 ?side2 A18.out).mono ?_); (case side1 => refine (Kd.R_reads' (e := 60) (base := w.heap.size) (ok := fun k_ => ((True ∧ k_ ≠ gb345) ∧ some k_ ≠ (.slice Ao74 t353.length co74 : Value).ownBlock)) (n := t330.length) (c := co42) ?_).2.2; exact (by (with_reducible repeat (first | apply Kd.R_alloc | apply Kd.R_drewN | apply Kd.R_drew)); exact (Kd.R_mono (Kd.R_far (p := ⟨gb366, 2, none⟩) (Kd.R_far (p := ⟨gb366, 1, none⟩) (Kd.R_far (p := ⟨gb366, 0, none⟩) (Kd.R_types HO332.out BK366.out (by decide)) (fun _ hk => hk.2) (.slice Ao86 t360.length co86)) (fun _ hk => hk.2) (.string t363)) (fun _ hk => hk.2) (.bool t364)) (fun _ h_ => h_.1)))); (case side2 => exact (Kd.R_reads' HO332.out).2.1); rintro e w97 ⟨v368, rfl, ho0, hb⟩; refine ⟨_, rfl, ?_⟩; have n0_ := Aside0.mk (Kd.R_below (by (with_reducible repeat (first | apply Kd.R_alloc | apply Kd.R_drewN | apply Kd.R_drew)); exact (Kd.R_mono (Kd.R_far (p := ⟨gb366, 2, none⟩) (Kd.R_far (p := ⟨gb366, 1, none⟩) (Kd.R_far (p := ⟨gb366, 0, none⟩) (Kd.R_types HO327.out BK366.out (by decide)) (fun _ hk => hk.2) (.slice Ao86 t360.length co86)) (fun _ hk => hk.2) (.string t363)) (fun _ hk => hk.2) (.bool t364)) (fun _ h_ => h_.1))) hb); have n1_ := Aside0.mk (Kd.R_elder' (by (with_reducible repeat (first | apply Kd.R_alloc | apply Kd.R_drewN | apply Kd.R_drew)); exact (Kd.R_mono (Kd.R_far (p := ⟨gb366, 2, none⟩) (Kd.R_far (p := ⟨gb366, 1, none⟩) (Kd.R_far (p := ⟨gb366, 0, none⟩) (Kd.R_types HO332.out BK366.out (by decide)) (fun _ hk => hk.2) (.slice Ao86 t360.length co86)) (fun _ hk => hk.2) (.string t363)) (fun _ hk => hk.2) (.bool t364)) (fun _ h_ => h_.1))) (Kd.R_base ho0) hb); have n2_ := Aside0.mk (Kd.R_below (by (with_reducible repeat (first | apply Kd.R_alloc | apply Kd.R_drewN | apply Kd.R_drew)); exact (Kd.R_mono (Kd.R_far (p := ⟨gb366, 2, none⟩) (Kd.R_far (p := ⟨gb366, 1, none⟩) (Kd.R_far (p := ⟨gb366, 0, none⟩) (Kd.R_types HO348.out BK366.out (by decide)) (fun _ hk => hk.2) (.slice Ao86 t360.length co86)) (fun _ hk => hk.2) (.string t363)) (fun _ hk => hk.2) (.bool t364)) (fun _ h_ => h_.1))) hb); have n3_ := Aside0.mk (Kd.R_elder' (by (with_reducible repeat (first | apply Kd.R_alloc | apply Kd.R_drewN | apply Kd.R_drew)); exact (Kd.R_mono (Kd.R_far (p := ⟨gb366, 2, none⟩) (Kd.R_far (p := ⟨gb366, 1, none⟩) (Kd.R_far (p := ⟨gb366, 0, none⟩) (Kd.R_types HO355.out BK366.out (by decide)) (fun _ hk => hk.2) (.slice Ao86 t360.length co86)) (fun _ hk => hk.2) (.string t363)) (fun _ hk => hk.2) (.bool t364)) (fun _ h_ => h_.1))) (Kd.R_base ho0) hb); have n4_ := Aside0.mk (Kd.R_below (by (with_reducible repeat (first | apply Kd.R_alloc | apply Kd.R_drewN | apply Kd.R_drew)); exact (Kd.R_mono (Kd.R_far (p := ⟨gb366, 2, none⟩) (Kd.R_far (p := ⟨gb366, 1, none⟩) (Kd.R_far (p := ⟨gb366, 0, none⟩) (Kd.R_types HO362.out BK366.out (by decide)) (fun _ hk => hk.2) (.slice Ao86 t360.length co86)) (fun _ hk => hk.2) (.string t363)) (fun _ hk => hk.2) (.bool t364)) (fun _ h_ => h_.1))) hb); have n5_ := Aside0.mk (Kd.R_lower (Kd.R_newB (Kd.R_new' (Kd.R_new' ho0 (Kd.R_lt (by (with_reducible repeat (first | apply Kd.R_alloc | apply Kd.R_drewN | apply Kd.R_drew)); exact (Kd.R_mono (Kd.R_far (p := ⟨gb366, 2, none⟩) (Kd.R_far (p := ⟨gb366, 1, none⟩) (Kd.R_far (p := ⟨gb366, 0, none⟩) (Kd.R_types HO332.out BK366.out (by decide)) (fun _ hk => hk.2) (.slice Ao86 t360.length co86)) (fun _ hk => hk.2) (.string t363)) (fun _ hk => hk.2) (.bool t364)) (fun _ h_ => h_.1))))) (Kd.R_lt (by (with_reducible repeat (first | apply Kd.R_alloc | apply Kd.R_drewN | apply Kd.R_drew)); exact (Kd.R_mono (Kd.R_far (p := ⟨gb366, 2, none⟩) (Kd.R_far (p := ⟨gb366, 1, none⟩) (Kd.R_far (p := ⟨gb366, 0, none⟩) (Kd.R_types HO355.out BK366.out (by decide)) (fun _ hk => hk.2) (.slice Ao86 t360.length co86)) (fun _ hk => hk.2) (.string t363)) (fun _ hk => hk.2) (.bool t364)) (fun _ h_ => h_.1))))) (g := gb345) (o := .cells #[.string t341, .string t342, .string t343] 60 (0, 0)) (bk BK345.out)) (below_size bl)); have n6_ := Aside0.mk (kb BK323.out hb); have n7_ := Aside0.mk (kb BK324.out hb); have n8_ := Aside0.mk (kb BK335.out hb); have n9_ := Aside0.mk (kb BK340.out hb); have n10_ := Aside0.mk (kb BK345.out hb); have n11_ := Aside0.mk (kb BK352.out hb); have n12_ := Aside0.mk (kb BK359.out hb); have n13_ := Aside0.mk (blk_below (g := gb366) (o := .cells #[.slice Ao86 t360.length co86, .string t363, .bool t364] 24 (0, 0)) (by (with_reducible repeat (first | refine blk_drewN ?_ _ | refine blk_drew ?_ | refine blk_alloc ?_ _)); refine blk_put (cs := #[.slice Ao86 t360.length co86, .string t363, .bool false]) ?_ 2 _ rfl; (with_reducible repeat (first | refine blk_drewN ?_ _ | refine blk_drew ?_ | refine blk_alloc ?_ _)); refine blk_put (cs := #[.slice Ao86 t360.length co86, .string (⟨#[]⟩ : ByteArray), .bool false]) ?_ 1 _ rfl; (with_reducible repeat (first | refine blk_drewN ?_ _ | refine blk_drew ?_ | refine blk_alloc ?_ _)); refine blk_put (cs := #[.slice none 0 0, .string (⟨#[]⟩ : ByteArray), .bool false]) ?_ 0 _ rfl; (with_reducible repeat (first | refine blk_drewN ?_ _ | refine blk_drew ?_ | refine blk_alloc ?_ _)); exact BK366.out) hb); have n14_ := Aside0.mk (below_step bl hb); clear HO327; clear HO332; clear HO348; clear HO355; clear HO362; clear BK323; clear BK324; clear BK335; clear BK340; clear BK345; clear BK352; clear BK359; clear BK366; clear HB; have HO327 := n0_; have HO332 := n1_; have HO348 := n2_; have HO355 := n3_; have HO362 := n4_; have HO369 := n5_; have BK323 := n6_; have BK324 := n7_; have BK335 := n8_; have BK340 := n9_; have BK345 := n10_; have BK352 := n11_; have BK359 := n12_; have BK366 := n13_; have HB := n14_; clear n0_ n1_ n2_ n3_ n4_ n5_ n6_ n7_ n8_ n9_ n10_ n11_ n12_ n13_ n14_; (try clear hb); (try clear hb2); (try clear hk); (try clear hi); (try clear ho0)) | ((with_reducible refine gate_dst (N := 18) rfl ?_); refine box_event ?hg (N := 18) ?hd (cs := #[.slice none 0 0, .string (⟨#[]⟩ : ByteArray), .bool false]) (t := 30) ?hr ?_; (case hd => rfl); (case hg => rfl); (case hr => first | (go_simp; done) | (go_simp; rfl)); intro gb373 hg w98 hbox hb; have n0_ := Aside0.mk (Kd.R_below (kr HO327.out) hb); have n1_ := Aside0.mk (Kd.R_below (kr HO332.out) hb); have n2_ := Aside0.mk (Kd.R_below (kr HO348.out) hb); have n3_ := Aside0.mk (Kd.R_below (kr HO355.out) hb); have n4_ := Aside0.mk (Kd.R_below (kr HO362.out) hb); have n5_ := Aside0.mk (Kd.R_below (kr HO369.out) hb); have n6_ := Aside0.mk (kb BK323.out hb); have n7_ := Aside0.mk (kb BK324.out hb); have n8_ := Aside0.mk (kb BK335.out hb); have n9_ := Aside0.mk (kb BK340.out hb); have n10_ := Aside0.mk (kb BK345.out hb); have n11_ := Aside0.mk (kb BK352.out hb); have n12_ := Aside0.mk (kb BK359.out hb); have n13_ := Aside0.mk (kb BK366.out hb); have n14_ := Aside0.mk (below_step bl hb); have n15_ := Aside0.mk (hbox); have n16_ := Aside0.mk ((by rw [hg]; exact (below_size bl) : w.heap.size ≤ gb373)); have n17_ := Aside0.mk ((by rw [hg]; exact (below_size bl) : w.heap.size ≤ gb373)); have n18_ := Aside0.mk ((by rw [hg]; exact Nat.ne_of_lt (blk_lt (bk BK323.out)) : gb323 ≠ gb373)); have n19_ := Aside0.mk ((by rw [hg]; exact Nat.ne_of_gt (blk_lt (bk BK323.out)) : gb373 ≠ gb323)); have n20_ := Aside0.mk ((by rw [hg]; exact Nat.ne_of_lt (blk_lt (bk BK324.out)) : gb324 ≠ gb373)); have n21_ := Aside0.mk ((by rw [hg]; exact Nat.ne_of_gt (blk_lt (bk BK324.out)) : gb373 ≠ gb324)); have n22_ := Aside0.mk ((by rw [hg]; exact Nat.ne_of_lt (blk_lt (bk BK335.out)) : gb335 ≠ gb373)); have n23_ := Aside0.mk ((by rw [hg]; exact Nat.ne_of_gt (blk_lt (bk BK335.out)) : gb373 ≠ gb335)); have n24_ := Aside0.mk ((by rw [hg]; exact Nat.ne_of_lt (blk_lt (bk BK340.out)) : gb340 ≠ gb373)); have n25_ := Aside0.mk ((by rw [hg]; exact Nat.ne_of_gt (blk_lt (bk BK340.out)) : gb373 ≠ gb340)); have n26_ := Aside0.mk ((by rw [hg]; exact Nat.ne_of_lt (blk_lt (bk BK345.out)) : gb345 ≠ gb373)); have n27_ := Aside0.mk ((by rw [hg]; exact Nat.ne_of_gt (blk_lt (bk BK345.out)) : gb373 ≠ gb345)); have n28_ := Aside0.mk ((by rw [hg]; exact Nat.ne_of_lt (blk_lt (bk BK352.out)) : gb352 ≠ gb373)); have n29_ := Aside0.mk ((by rw [hg]; exact Nat.ne_of_gt (blk_lt (bk BK352.out)) : gb373 ≠ gb352)); have n30_ := Aside0.mk ((by rw [hg]; exact Nat.ne_of_lt (blk_lt (bk BK359.out)) : gb359 ≠ gb373)); have n31_ := Aside0.mk ((by rw [hg]; exact Nat.ne_of_gt (blk_lt (bk BK359.out)) : gb373 ≠ gb359)); have n32_ := Aside0.mk ((by rw [hg]; exact Nat.ne_of_lt (blk_lt (bk BK366.out)) : gb366 ≠ gb373)); have n33_ := Aside0.mk ((by rw [hg]; exact Nat.ne_of_gt (blk_lt (bk BK366.out)) : gb373 ≠ gb366)); clear HO327; clear HO332; clear HO348; clear HO355; clear HO362; clear HO369; clear BK323; clear BK324; clear BK335; clear BK340; clear BK345; clear BK352; clear BK359; clear BK366; clear HB; have HO327 := n0_; have HO332 := n1_; have HO348 := n2_; have HO355 := n3_; have HO362 := n4_; have HO369 := n5_; have BK323 := n6_; have BK324 := n7_; have BK335 := n8_; have BK340 := n9_; have BK345 := n10_; have BK352 := n11_; have BK359 := n12_; have BK366 := n13_; have HB := n14_; have BK373 := n15_; have GW373 := n16_; have GE373 := n17_; have NB323_373 := n18_; have NB373_323 := n19_; have NB324_373 := n20_; have NB373_324 := n21_; have NB335_373 := n22_; have NB373_335 := n23_; have NB340_373 := n24_; have NB373_340 := n25_; have NB345_373 := n26_; have NB373_345 := n27_; have NB352_373 := n28_; have NB373_352 := n29_; have NB359_373 := n30_; have NB373_359 := n31_; have NB366_373 := n32_; have NB373_366 := n33_; clear n0_ n1_ n2_ n3_ n4_ n5_ n6_ n7_ n8_ n9_ n10_ n11_ n12_ n13_ n14_ n15_ n16_ n17_ n18_ n19_ n20_ n21_ n22_ n23_ n24_ n25_ n26_ n27_ n28_ n29_ n30_ n31_ n32_ n33_; clear hb hbox hg; obtain ⟨Ao99, co99, eo99⟩ := Kd.R_slice HO369.out; subst eo99; have hnb100 := NB373_323.out; have hnc100 := NB323_373.out; have hnb101 := NB373_324.out; have hnc101 := NB324_373.out; have hnb102 := NB373_335.out; have hnc102 := NB335_373.out; have hnb103 := NB373_340.out; have hnc103 := NB340_373.out; have hnb104 := NB373_345.out; have hnc104 := NB345_373.out; have hnb105 := NB373_352.out; have hnc105 := NB352_373.out; have hnb106 := NB373_359.out; have hnc106 := NB359_373.out; have hnb107 := NB373_366.out; have hnc107 := NB366_373.out; have hcz108_0 : w98.cell? ⟨gb373, 0, none⟩ = some (.slice none 0 0) := (blk_cell BK373.out 0).trans rfl; have hcz108_1 : w98.cell? ⟨gb373, 1, none⟩ = some (.string (⟨#[]⟩ : ByteArray)) := (blk_cell BK373.out 1).trans rfl; have hcz108_2 : w98.cell? ⟨gb373, 2, none⟩ = some (.bool false) := (blk_cell BK373.out 2).trans rfl; have hfz108_0 := blk_frozen BK373.out 0; have hfz108_1 := blk_frozen BK373.out 1; have hfz108_2 := blk_frozen BK373.out 2))
            have n0_ : Aside0 (Kd.R k41 41 (((w98.setCell ⟨gb373, 0, none⟩ (.slice Ao99 t367.length co99)).setCell ⟨gb373, 1, none⟩ (.string t370)).setCell ⟨gb373, 2, none⟩ (.bool t371)) w.heap.size (fun k_ => some k_ ≠ (.slice Ao64 t346.length co64 : Value).ownBlock ∧ some k_ ≠ (.slice Ao86 t360.length co86 : Value).ownBlock ∧ k_ ≠ gb340) (.slice Ao38 t325.length co38) t325) := ⟨by (with_reducible repeat (first | apply Kd.R_alloc | apply Kd.R_drewN | apply Kd.R_drew)); exact Kd.R_mono (Kd.R_far (p := ⟨gb373, 2, none⟩) (Kd.R_far (p := ⟨gb373, 1, none⟩) (Kd.R_far (p := ⟨gb373, 0, none⟩) (Kd.R_types HO327.out BK373.out (by decide)) (fun _ hk => hk.2) (.slice Ao99 t367.length co99)) (fun _ hk => hk.2) (.string t370)) (fun _ hk => hk.2) (.bool t371)) (fun _ hk => ⟨hk.1.1.2, ⟨hk.1.2, hk.1.1.1.2⟩⟩)⟩
            have n1_ : Aside0 (Kd.R k60 60 (((w98.setCell ⟨gb373, 0, none⟩ (.slice Ao99 t367.length co99)).setCell ⟨gb373, 1, none⟩ (.string t370)).setCell ⟨gb373, 2, none⟩ (.bool t371)) w.heap.size (fun k_ => some k_ ≠ (.slice Ao74 t353.length co74 : Value).ownBlock ∧ some k_ ≠ (.slice Ao99 t367.length co99 : Value).ownBlock ∧ k_ ≠ gb345) (.slice Ao42 t330.length co42) t330) := ⟨by (with_reducible repeat (first | apply Kd.R_alloc | apply Kd.R_drewN | apply Kd.R_drew)); exact Kd.R_mono (Kd.R_far (p := ⟨gb373, 2, none⟩) (Kd.R_far (p := ⟨gb373, 1, none⟩) (Kd.R_far (p := ⟨gb373, 0, none⟩) (Kd.R_types HO332.out BK373.out (by decide)) (fun _ hk => hk.2) (.slice Ao99 t367.length co99)) (fun _ hk => hk.2) (.string t370)) (fun _ hk => hk.2) (.bool t371)) (fun _ hk => ⟨hk.1.1.2, ⟨hk.1.2, hk.1.1.1.2⟩⟩)⟩
            have n2_ : Aside0 (Kd.R k41 41 (((w98.setCell ⟨gb373, 0, none⟩ (.slice Ao99 t367.length co99)).setCell ⟨gb373, 1, none⟩ (.string t370)).setCell ⟨gb373, 2, none⟩ (.bool t371)) w.heap.size (fun k_ => some k_ ≠ (.slice Ao38 t325.length co38 : Value).ownBlock ∧ some k_ ≠ (.slice Ao86 t360.length co86 : Value).ownBlock ∧ k_ ≠ gb340) (.slice Ao64 t346.length co64) t346) := ⟨by (with_reducible repeat (first | apply Kd.R_alloc | apply Kd.R_drewN | apply Kd.R_drew)); exact Kd.R_mono (Kd.R_far (p := ⟨gb373, 2, none⟩) (Kd.R_far (p := ⟨gb373, 1, none⟩) (Kd.R_far (p := ⟨gb373, 0, none⟩) (Kd.R_types HO348.out BK373.out (by decide)) (fun _ hk => hk.2) (.slice Ao99 t367.length co99)) (fun _ hk => hk.2) (.string t370)) (fun _ hk => hk.2) (.bool t371)) (fun _ hk => ⟨hk.1.1.1.2, ⟨hk.1.2, hk.1.1.2⟩⟩)⟩
            have n3_ : Aside0 (Kd.R k60 60 (((w98.setCell ⟨gb373, 0, none⟩ (.slice Ao99 t367.length co99)).setCell ⟨gb373, 1, none⟩ (.string t370)).setCell ⟨gb373, 2, none⟩ (.bool t371)) w.heap.size (fun k_ => some k_ ≠ (.slice Ao42 t330.length co42 : Value).ownBlock ∧ some k_ ≠ (.slice Ao99 t367.length co99 : Value).ownBlock ∧ k_ ≠ gb345) (.slice Ao74 t353.length co74) t353) := ⟨by (with_reducible repeat (first | apply Kd.R_alloc | apply Kd.R_drewN | apply Kd.R_drew)); exact Kd.R_mono (Kd.R_far (p := ⟨gb373, 2, none⟩) (Kd.R_far (p := ⟨gb373, 1, none⟩) (Kd.R_far (p := ⟨gb373, 0, none⟩) (Kd.R_types HO355.out BK373.out (by decide)) (fun _ hk => hk.2) (.slice Ao99 t367.length co99)) (fun _ hk => hk.2) (.string t370)) (fun _ hk => hk.2) (.bool t371)) (fun _ hk => ⟨hk.1.1.1.2, ⟨hk.1.2, hk.1.1.2⟩⟩)⟩
            have n4_ : Aside0 (Kd.R k41 41 (((w98.setCell ⟨gb373, 0, none⟩ (.slice Ao99 t367.length co99)).setCell ⟨gb373, 1, none⟩ (.string t370)).setCell ⟨gb373, 2, none⟩ (.bool t371)) w.heap.size (fun k_ => some k_ ≠ (.slice Ao38 t325.length co38 : Value).ownBlock ∧ some k_ ≠ (.slice Ao64 t346.length co64 : Value).ownBlock ∧ k_ ≠ gb340) (.slice Ao86 t360.length co86) t360) := ⟨by (with_reducible repeat (first | apply Kd.R_alloc | apply Kd.R_drewN | apply Kd.R_drew)); exact Kd.R_mono (Kd.R_far (p := ⟨gb373, 2, none⟩) (Kd.R_far (p := ⟨gb373, 1, none⟩) (Kd.R_far (p := ⟨gb373, 0, none⟩) (Kd.R_types HO362.out BK373.out (by decide)) (fun _ hk => hk.2) (.slice Ao99 t367.length co99)) (fun _ hk => hk.2) (.string t370)) (fun _ hk => hk.2) (.bool t371)) (fun _ hk => ⟨hk.1.1.1.2, ⟨hk.1.1.2, hk.1.2⟩⟩)⟩
            have n5_ : Aside0 (Kd.R k60 60 (((w98.setCell ⟨gb373, 0, none⟩ (.slice Ao99 t367.length co99)).setCell ⟨gb373, 1, none⟩ (.string t370)).setCell ⟨gb373, 2, none⟩ (.bool t371)) w.heap.size (fun k_ => some k_ ≠ (.slice Ao42 t330.length co42 : Value).ownBlock ∧ some k_ ≠ (.slice Ao74 t353.length co74 : Value).ownBlock ∧ k_ ≠ gb345) (.slice Ao99 t367.length co99) t367) := ⟨by (with_reducible repeat (first | apply Kd.R_alloc | apply Kd.R_drewN | apply Kd.R_drew)); exact Kd.R_mono (Kd.R_far (p := ⟨gb373, 2, none⟩) (Kd.R_far (p := ⟨gb373, 1, none⟩) (Kd.R_far (p := ⟨gb373, 0, none⟩) (Kd.R_types HO369.out BK373.out (by decide)) (fun _ hk => hk.2) (.slice Ao99 t367.length co99)) (fun _ hk => hk.2) (.string t370)) (fun _ hk => hk.2) (.bool t371)) (fun _ hk => ⟨hk.1.1.1.2, ⟨hk.1.1.2, hk.1.2⟩⟩)⟩
            have n6_ : Aside0 ((((w98.setCell ⟨gb373, 0, none⟩ (.slice Ao99 t367.length co99)).setCell ⟨gb373, 1, none⟩ (.string t370)).setCell ⟨gb373, 2, none⟩ (.bool t371)).heap[gb323]? = some (.cells #[.slice Ao38 t325.length co38, .string t328, .bool t329] 24 (0, 0))) := ⟨by (with_reducible repeat (first | refine blk_drewN ?_ _ | refine blk_drew ?_ | refine blk_alloc ?_ _)); refine blk_far ?_ NB323_373.out _; (with_reducible repeat (first | refine blk_drewN ?_ _ | refine blk_drew ?_ | refine blk_alloc ?_ _)); refine blk_far ?_ NB323_373.out _; (with_reducible repeat (first | refine blk_drewN ?_ _ | refine blk_drew ?_ | refine blk_alloc ?_ _)); refine blk_far ?_ NB323_373.out _; (with_reducible repeat (first | refine blk_drewN ?_ _ | refine blk_drew ?_ | refine blk_alloc ?_ _)); exact BK323.out⟩
            have n7_ : Aside0 ((((w98.setCell ⟨gb373, 0, none⟩ (.slice Ao99 t367.length co99)).setCell ⟨gb373, 1, none⟩ (.string t370)).setCell ⟨gb373, 2, none⟩ (.bool t371)).heap[gb324]? = some (.cells #[.string a1_0, .string a1_1, .int .i64 a1_2] 59 (0, 0))) := ⟨by (with_reducible repeat (first | refine blk_drewN ?_ _ | refine blk_drew ?_ | refine blk_alloc ?_ _)); refine blk_far ?_ NB324_373.out _; (with_reducible repeat (first | refine blk_drewN ?_ _ | refine blk_drew ?_ | refine blk_alloc ?_ _)); refine blk_far ?_ NB324_373.out _; (with_reducible repeat (first | refine blk_drewN ?_ _ | refine blk_drew ?_ | refine blk_alloc ?_ _)); refine blk_far ?_ NB324_373.out _; (with_reducible repeat (first | refine blk_drewN ?_ _ | refine blk_drew ?_ | refine blk_alloc ?_ _)); exact BK324.out⟩
            have n8_ : Aside0 ((((w98.setCell ⟨gb373, 0, none⟩ (.slice Ao99 t367.length co99)).setCell ⟨gb373, 1, none⟩ (.string t370)).setCell ⟨gb373, 2, none⟩ (.bool t371)).heap[gb335]? = some (.cells #[.slice Ao42 t330.length co42, .string t333, .bool t334] 30 (0, 0))) := ⟨by (with_reducible repeat (first | refine blk_drewN ?_ _ | refine blk_drew ?_ | refine blk_alloc ?_ _)); refine blk_far ?_ NB335_373.out _; (with_reducible repeat (first | refine blk_drewN ?_ _ | refine blk_drew ?_ | refine blk_alloc ?_ _)); refine blk_far ?_ NB335_373.out _; (with_reducible repeat (first | refine blk_drewN ?_ _ | refine blk_drew ?_ | refine blk_alloc ?_ _)); refine blk_far ?_ NB335_373.out _; (with_reducible repeat (first | refine blk_drewN ?_ _ | refine blk_drew ?_ | refine blk_alloc ?_ _)); exact BK335.out⟩
            have n9_ : Aside0 ((((w98.setCell ⟨gb373, 0, none⟩ (.slice Ao99 t367.length co99)).setCell ⟨gb373, 1, none⟩ (.string t370)).setCell ⟨gb373, 2, none⟩ (.bool t371)).heap[gb340]? = some (.cells #[.string t336, .string t337, .string t338] 41 (0, 0))) := ⟨by (with_reducible repeat (first | refine blk_drewN ?_ _ | refine blk_drew ?_ | refine blk_alloc ?_ _)); refine blk_far ?_ NB340_373.out _; (with_reducible repeat (first | refine blk_drewN ?_ _ | refine blk_drew ?_ | refine blk_alloc ?_ _)); refine blk_far ?_ NB340_373.out _; (with_reducible repeat (first | refine blk_drewN ?_ _ | refine blk_drew ?_ | refine blk_alloc ?_ _)); refine blk_far ?_ NB340_373.out _; (with_reducible repeat (first | refine blk_drewN ?_ _ | refine blk_drew ?_ | refine blk_alloc ?_ _)); exact BK340.out⟩
            have n10_ : Aside0 ((((w98.setCell ⟨gb373, 0, none⟩ (.slice Ao99 t367.length co99)).setCell ⟨gb373, 1, none⟩ (.string t370)).setCell ⟨gb373, 2, none⟩ (.bool t371)).heap[gb345]? = some (.cells #[.string t341, .string t342, .string t343] 60 (0, 0))) := ⟨by (with_reducible repeat (first | refine blk_drewN ?_ _ | refine blk_drew ?_ | refine blk_alloc ?_ _)); refine blk_far ?_ NB345_373.out _; (with_reducible repeat (first | refine blk_drewN ?_ _ | refine blk_drew ?_ | refine blk_alloc ?_ _)); refine blk_far ?_ NB345_373.out _; (with_reducible repeat (first | refine blk_drewN ?_ _ | refine blk_drew ?_ | refine blk_alloc ?_ _)); refine blk_far ?_ NB345_373.out _; (with_reducible repeat (first | refine blk_drewN ?_ _ | refine blk_drew ?_ | refine blk_alloc ?_ _)); exact BK345.out⟩
            have n11_ : Aside0 ((((w98.setCell ⟨gb373, 0, none⟩ (.slice Ao99 t367.length co99)).setCell ⟨gb373, 1, none⟩ (.string t370)).setCell ⟨gb373, 2, none⟩ (.bool t371)).heap[gb352]? = some (.cells #[.slice Ao64 t346.length co64, .string t349, .bool t350] 24 (0, 0))) := ⟨by (with_reducible repeat (first | refine blk_drewN ?_ _ | refine blk_drew ?_ | refine blk_alloc ?_ _)); refine blk_far ?_ NB352_373.out _; (with_reducible repeat (first | refine blk_drewN ?_ _ | refine blk_drew ?_ | refine blk_alloc ?_ _)); refine blk_far ?_ NB352_373.out _; (with_reducible repeat (first | refine blk_drewN ?_ _ | refine blk_drew ?_ | refine blk_alloc ?_ _)); refine blk_far ?_ NB352_373.out _; (with_reducible repeat (first | refine blk_drewN ?_ _ | refine blk_drew ?_ | refine blk_alloc ?_ _)); exact BK352.out⟩
            have n12_ : Aside0 ((((w98.setCell ⟨gb373, 0, none⟩ (.slice Ao99 t367.length co99)).setCell ⟨gb373, 1, none⟩ (.string t370)).setCell ⟨gb373, 2, none⟩ (.bool t371)).heap[gb359]? = some (.cells #[.slice Ao74 t353.length co74, .string t356, .bool t357] 30 (0, 0))) := ⟨by (with_reducible repeat (first | refine blk_drewN ?_ _ | refine blk_drew ?_ | refine blk_alloc ?_ _)); refine blk_far ?_ NB359_373.out _; (with_reducible repeat (first | refine blk_drewN ?_ _ | refine blk_drew ?_ | refine blk_alloc ?_ _)); refine blk_far ?_ NB359_373.out _; (with_reducible repeat (first | refine blk_drewN ?_ _ | refine blk_drew ?_ | refine blk_alloc ?_ _)); refine blk_far ?_ NB359_373.out _; (with_reducible repeat (first | refine blk_drewN ?_ _ | refine blk_drew ?_ | refine blk_alloc ?_ _)); exact BK359.out⟩
            have n13_ : Aside0 ((((w98.setCell ⟨gb373, 0, none⟩ (.slice Ao99 t367.length co99)).setCell ⟨gb373, 1, none⟩ (.string t370)).setCell ⟨gb373, 2, none⟩ (.bool t371)).heap[gb366]? = some (.cells #[.slice Ao86 t360.length co86, .string t363, .bool t364] 24 (0, 0))) := ⟨by (with_reducible repeat (first | refine blk_drewN ?_ _ | refine blk_drew ?_ | refine blk_alloc ?_ _)); refine blk_far ?_ NB366_373.out _; (with_reducible repeat (first | refine blk_drewN ?_ _ | refine blk_drew ?_ | refine blk_alloc ?_ _)); refine blk_far ?_ NB366_373.out _; (with_reducible repeat (first | refine blk_drewN ?_ _ | refine blk_drew ?_ | refine blk_alloc ?_ _)); refine blk_far ?_ NB366_373.out _; (with_reducible repeat (first | refine blk_drewN ?_ _ | refine blk_drew ?_ | refine blk_alloc ?_ _)); exact BK366.out⟩
            have n14_ : Aside0 ((((w98.setCell ⟨gb373, 0, none⟩ (.slice Ao99 t367.length co99)).setCell ⟨gb373, 1, none⟩ (.string t370)).setCell ⟨gb373, 2, none⟩ (.bool t371)).heap[gb373]? = some (.cells #[.slice Ao99 t367.length co99, .string t370, .bool t371] 30 (0, 0))) := ⟨by (with_reducible repeat (first | refine blk_drewN ?_ _ | refine blk_drew ?_ | refine blk_alloc ?_ _)); refine blk_put (cs := #[.slice Ao99 t367.length co99, .string t370, .bool false]) ?_ 2 _ rfl; (with_reducible repeat (first | refine blk_drewN ?_ _ | refine blk_drew ?_ | refine blk_alloc ?_ _)); refine blk_put (cs := #[.slice Ao99 t367.length co99, .string (⟨#[]⟩ : ByteArray), .bool false]) ?_ 1 _ rfl; (with_reducible repeat (first | refine blk_drewN ?_ _ | refine blk_drew ?_ | refine blk_alloc ?_ _)); refine blk_put (cs := #[.slice none 0 0, .string (⟨#[]⟩ : ByteArray), .bool false]) ?_ 0 _ rfl; (with_reducible repeat (first | refine blk_drewN ?_ _ | refine blk_drew ?_ | refine blk_alloc ?_ _)); exact BK373.out⟩
            have n15_ : Aside0 (Below w.heap.size w (((w98.setCell ⟨gb373, 0, none⟩ (.slice Ao99 t367.length co99)).setCell ⟨gb373, 1, none⟩ (.string t370)).setCell ⟨gb373, 2, none⟩ (.bool t371))) := ⟨by repeat (first | (with_reducible first | exact HB.out | apply below_alloc | apply pw_below_drewN | apply below_drew1 | refine below_set ?_ GE323.out | refine below_set ?_ GE324.out | refine below_set ?_ GE335.out | refine below_set ?_ GE340.out | refine below_set ?_ GE345.out | refine below_set ?_ GE352.out | refine below_set ?_ GE359.out | refine below_set ?_ GE366.out | refine below_set ?_ GE373.out) | exact HB.out)⟩
            (try clear HO327)
            (try clear HO332)
            (try clear HO348)
            (try clear HO355)
            (try clear HO362)
            (try clear HO369)
            (try clear BK323)
            (try clear BK324)
            (try clear BK335)
            (try clear BK340)
            (try clear BK345)
            (try clear BK352)
            (try clear BK359)
            (try clear BK366)
            (try clear BK373)
            (try clear HB)
            generalize (((w98.setCell ⟨gb373, 0, none⟩ (.slice Ao99 t367.length co99)).setCell ⟨gb373, 1, none⟩ (.string t370)).setCell ⟨gb373, 2, none⟩ (.bool t371)) = w109 at n0_ n1_ n2_ n3_ n4_ n5_ n6_ n7_ n8_ n9_ n10_ n11_ n12_ n13_ n14_ n15_ ⊢
            have HO327 := n0_
            have HO332 := n1_
            have HO348 := n2_
            have HO355 := n3_
            have HO362 := n4_
            have HO369 := n5_
            have BK323 := n6_
            have BK324 := n7_
            have BK335 := n8_
            have BK340 := n9_
            have BK345 := n10_
            have BK352 := n11_
            have BK359 := n12_
            have BK366 := n13_
            have BK373 := n14_
            have HB := n15_
            clear n0_ n1_ n2_ n3_ n4_ n5_ n6_ n7_ n8_ n9_ n10_ n11_ n12_ n13_ n14_ n15_
            have n0_ := Aside0.mk (Kd.R_drew HO327.out)
            have n1_ := Aside0.mk (Kd.R_drew HO332.out)
            have n2_ := Aside0.mk (Kd.R_drew HO348.out)
            have n3_ := Aside0.mk (Kd.R_drew HO355.out)
            have n4_ := Aside0.mk (Kd.R_drew HO362.out)
            have n5_ := Aside0.mk (Kd.R_drew HO369.out)
            have n6_ := Aside0.mk (blk_drew BK323.out)
            have n7_ := Aside0.mk (blk_drew BK324.out)
            have n8_ := Aside0.mk (blk_drew BK335.out)
            have n9_ := Aside0.mk (blk_drew BK340.out)
            have n10_ := Aside0.mk (blk_drew BK345.out)
            have n11_ := Aside0.mk (blk_drew BK352.out)
            have n12_ := Aside0.mk (blk_drew BK359.out)
            have n13_ := Aside0.mk (blk_drew BK366.out)
            have n14_ := Aside0.mk (blk_drew BK373.out)
            have n15_ := Aside0.mk (below_drew1 HB.out)
            clear HO327
            clear HO332
            clear HO348
            clear HO355
            clear HO362
            clear HO369
            clear BK323
            clear BK324
            clear BK335
            clear BK340
            clear BK345
            clear BK352
            clear BK359
            clear BK366
            clear BK373
            clear HB
            have HO327 := n0_
            have HO332 := n1_
            have HO348 := n2_
            have HO355 := n3_
            have HO362 := n4_
            have HO369 := n5_
            have BK323 := n6_
            have BK324 := n7_
            have BK335 := n8_
            have BK340 := n9_
            have BK345 := n10_
            have BK352 := n11_
            have BK359 := n12_
            have BK366 := n13_
            have BK373 := n14_
            have HB := n15_
            clear n0_ n1_ n2_ n3_ n4_ n5_ n6_ n7_ n8_ n9_ n10_ n11_ n12_ n13_ n14_ n15_
            refine start_ (n := 40) (S := fun w' => w'.cell? ⟨gb340, 0, none⟩ = some (.string t336) ∧ w'.cell? ⟨gb340, 1, none⟩ = some (.string t337) ∧ w'.cell? ⟨gb340, 2, none⟩ = some (.string t338) ∧ w'.cell? ⟨gb345, 0, none⟩ = some (.string t341) ∧ w'.cell? ⟨gb345, 1, none⟩ = some (.string t342) ∧ w'.cell? ⟨gb345, 2, none⟩ = some (.string t343) ∧ w'.cell? ⟨gb352, 0, none⟩ = some (.slice Ao64 t346.length co64) ∧ w'.cell? ⟨gb352, 1, none⟩ = some (.string t349) ∧ w'.cell? ⟨gb352, 2, none⟩ = some (.bool t350) ∧ w'.cell? ⟨gb359, 0, none⟩ = some (.slice Ao74 t353.length co74) ∧ w'.cell? ⟨gb359, 1, none⟩ = some (.string t356) ∧ w'.cell? ⟨gb359, 2, none⟩ = some (.bool t357) ∧ w'.cell? ⟨gb366, 0, none⟩ = some (.slice Ao86 t360.length co86) ∧ w'.cell? ⟨gb366, 1, none⟩ = some (.string t363) ∧ w'.cell? ⟨gb366, 2, none⟩ = some (.bool t364) ∧ w'.cell? ⟨gb373, 0, none⟩ = some (.slice Ao99 t367.length co99) ∧ w'.cell? ⟨gb373, 1, none⟩ = some (.string t370) ∧ w'.cell? ⟨gb373, 2, none⟩ = some (.bool t371) ∧ w'.cell? ⟨gb323, 0, none⟩ = some (.slice Ao38 t325.length co38) ∧ w'.cell? ⟨gb323, 1, none⟩ = some (.string t328) ∧ w'.cell? ⟨gb323, 2, none⟩ = some (.bool t329) ∧ w'.cell? ⟨gb335, 0, none⟩ = some (.slice Ao42 t330.length co42) ∧ w'.cell? ⟨gb335, 1, none⟩ = some (.string t333) ∧ w'.cell? ⟨gb335, 2, none⟩ = some (.bool t334)) (ds := []) #[false, false, false, false, false, false, false, false, false, false, false, false, false, false, false, false, false, false, false, false, false, false, false, false, false, false, false, false, false, false, false, false, false, false, false, false, false, false, false, false] (by kernel_rfl) rfl rfl ⟨(blk_cell BK340.out 0).trans rfl, (blk_cell BK340.out 1).trans rfl, (blk_cell BK340.out 2).trans rfl, (blk_cell BK345.out 0).trans rfl, (blk_cell BK345.out 1).trans rfl, (blk_cell BK345.out 2).trans rfl, (blk_cell BK352.out 0).trans rfl, (blk_cell BK352.out 1).trans rfl, (blk_cell BK352.out 2).trans rfl, (blk_cell BK359.out 0).trans rfl, (blk_cell BK359.out 1).trans rfl, (blk_cell BK359.out 2).trans rfl, (blk_cell BK366.out 0).trans rfl, (blk_cell BK366.out 1).trans rfl, (blk_cell BK366.out 2).trans rfl, (blk_cell BK373.out 0).trans rfl, (blk_cell BK373.out 1).trans rfl, (blk_cell BK373.out 2).trans rfl, (blk_cell BK323.out 0).trans rfl, (blk_cell BK323.out 1).trans rfl, (blk_cell BK323.out 2).trans rfl, (blk_cell BK335.out 0).trans rfl, (blk_cell BK335.out 1).trans rfl, (blk_cell BK335.out 2).trans rfl⟩ (fun hHeld => ?_); refine with_tabW postriderlaw07_HeadLays.tab10 postriderlaw07_HeadLays.bits10 (fun HT_ HW_ => ?_)
            generalize w109.drew = w110 at HO327 HO332 HO348 HO355 HO362 HO369 BK323 BK324 BK335 BK340 BK345 BK352 BK359 BK366 BK373 HB hHeld ⊢
            refine take_ (i := 0) (N := some 80) (v := ?_) (a' := ?_) #[true, false, false, false, false, false, false, false, false, false, false, false, false, false, false, false, false, false, false, false, false, false, false, false, false, false, false, false, false, false, false, false, false, false, false, false, false, false, false, false] rfl rfl (take_ofW HT_.out HW_.out (by kernel_rfl)) (fun _ _ _ h => h) (Or.inl ⟨by rfl, ?_⟩) hHeld ?_ ?_
            rotate_left
            ·rintro w' ⟨s0, s1, s2, s3, s4, s5, s6, s7, s8, s9, s10, s11, s12, s13, s14, s15, s16, s17, s18, s19, s20, s21, s22, s23⟩
             go_simp
             with_reducible rfl
            rotate_left
            ·simp only [Act.put, List.setIfInBounds_toArray, List.set_cons_zero, List.set_cons_succ, i64_w, i32_w]
             rfl
            refine take_ (i := 1) (N := some 81) (v := ?_) (a' := ?_) #[true, true, false, false, false, false, false, false, false, false, false, false, false, false, false, false, false, false, false, false, false, false, false, false, false, false, false, false, false, false, false, false, false, false, false, false, false, false, false, false] rfl rfl (take_ofW HT_.out HW_.out (by kernel_rfl)) (fun _ _ _ h => h) (Or.inl ⟨by rfl, ?_⟩) hHeld ?_ ?_
            rotate_left
            ·rintro w' ⟨s0, s1, s2, s3, s4, s5, s6, s7, s8, s9, s10, s11, s12, s13, s14, s15, s16, s17, s18, s19, s20, s21, s22, s23⟩
             go_simp
             with_reducible rfl
            rotate_left
            ·simp only [Act.put, List.setIfInBounds_toArray, List.set_cons_zero, List.set_cons_succ, i64_w, i32_w]
             rfl
            refine pure_ (i := 2) (N := some 82) (v := ?_) (a' := ?_) #[true, true, true, false, false, false, false, false, false, false, false, false, false, false, false, false, false, false, false, false, false, false, false, false, false, false, false, false, false, false, false, false, false, false, false, false, false, false, false, false] rfl rfl (any_of HT_.out (by kernel_rfl)) (fun _ _ _ h => h) (Or.inl ⟨by rfl, ?_⟩) ?_ ?_
            rotate_left
            ·intro w'
             go_simp
             with_reducible rfl
            rotate_left
            ·simp only [Act.put, List.setIfInBounds_toArray, List.set_cons_zero, List.set_cons_succ, i64_w, i32_w]
             rfl
            refine pure_ (i := 3) (N := some 83) (v := ?_) (a' := ?_) #[true, true, true, true, false, false, false, false, false, false, false, false, false, false, false, false, false, false, false, false, false, false, false, false, false, false, false, false, false, false, false, false, false, false, false, false, false, false, false, false] rfl rfl (any_of HT_.out (by kernel_rfl)) (fun _ _ _ h => h) (Or.inl ⟨by rfl, ?_⟩) ?_ ?_
            rotate_left
            ·intro w'
             go_simp
             with_reducible rfl
            rotate_left
            ·simp only [Act.put, List.setIfInBounds_toArray, List.set_cons_zero, List.set_cons_succ, i64_w, i32_w]
             rfl
            refine pure_ (i := 4) (N := some 84) (v := ?_) (a' := ?_) #[true, true, true, true, true, false, false, false, false, false, false, false, false, false, false, false, false, false, false, false, false, false, false, false, false, false, false, false, false, false, false, false, false, false, false, false, false, false, false, false] rfl rfl (any_of HT_.out (by kernel_rfl)) (fun _ _ _ h => h) (Or.inl ⟨by rfl, ?_⟩) ?_ ?_
            rotate_left
            ·intro w'
             go_simp
             with_reducible rfl
            rotate_left
            ·simp only [Act.put, List.setIfInBounds_toArray, List.set_cons_zero, List.set_cons_succ, i64_w, i32_w]
             rfl
            refine pure_ (i := 5) (N := some 85) (v := ?_) (a' := ?_) #[true, true, true, true, true, true, false, false, false, false, false, false, false, false, false, false, false, false, false, false, false, false, false, false, false, false, false, false, false, false, false, false, false, false, false, false, false, false, false, false] rfl rfl (any_of HT_.out (by kernel_rfl)) (fun _ _ _ h => h) (Or.inl ⟨by rfl, ?_⟩) ?_ ?_
            rotate_left
            ·intro w'
             go_simp
             with_reducible rfl
            rotate_left
            ·simp only [Act.put, List.setIfInBounds_toArray, List.set_cons_zero, List.set_cons_succ, i64_w, i32_w]
             rfl
            refine pure_ (i := 6) (N := some 86) (v := ?_) (a' := ?_) #[true, true, true, true, true, true, true, false, false, false, false, false, false, false, false, false, false, false, false, false, false, false, false, false, false, false, false, false, false, false, false, false, false, false, false, false, false, false, false, false] rfl rfl (any_of HT_.out (by kernel_rfl)) (fun _ _ _ h => h) (Or.inl ⟨by rfl, ?_⟩) ?_ ?_
            rotate_left
            ·intro w'
             go_simp
             with_reducible rfl
            rotate_left
            ·simp only [Act.put, List.setIfInBounds_toArray, List.set_cons_zero, List.set_cons_succ, i64_w, i32_w]
             rfl
            refine pure_ (i := 7) (N := some 87) (v := ?_) (a' := ?_) #[true, true, true, true, true, true, true, true, false, false, false, false, false, false, false, false, false, false, false, false, false, false, false, false, false, false, false, false, false, false, false, false, false, false, false, false, false, false, false, false] rfl rfl (any_of HT_.out (by kernel_rfl)) (fun _ _ _ h => h) (Or.inl ⟨by rfl, ?_⟩) ?_ ?_
            rotate_left
            ·intro w'
             go_simp
             with_reducible rfl
            rotate_left
            ·simp only [Act.put, List.setIfInBounds_toArray, List.set_cons_zero, List.set_cons_succ, i64_w, i32_w]
             rfl
            refine pure_ (i := 8) (N := some 88) (v := ?_) (a' := ?_) #[true, true, true, true, true, true, true, true, true, false, false, false, false, false, false, false, false, false, false, false, false, false, false, false, false, false, false, false, false, false, false, false, false, false, false, false, false, false, false, false] rfl rfl (any_of HT_.out (by kernel_rfl)) (fun _ _ _ h => h) (Or.inl ⟨by rfl, ?_⟩) ?_ ?_
            rotate_left
            ·intro w'
             go_simp
             with_reducible rfl
            rotate_left
            ·simp only [Act.put, List.setIfInBounds_toArray, List.set_cons_zero, List.set_cons_succ, i64_w, i32_w]
             rfl
            refine take_ (i := 9) (N := some 89) (v := ?_) (a' := ?_) #[true, true, true, true, true, true, true, true, true, true, false, false, false, false, false, false, false, false, false, false, false, false, false, false, false, false, false, false, false, false, false, false, false, false, false, false, false, false, false, false] rfl rfl (take_ofW HT_.out HW_.out (by kernel_rfl)) (fun _ _ _ h => h) (Or.inl ⟨by rfl, ?_⟩) hHeld ?_ ?_
            rotate_left
            ·rintro w' ⟨s0, s1, s2, s3, s4, s5, s6, s7, s8, s9, s10, s11, s12, s13, s14, s15, s16, s17, s18, s19, s20, s21, s22, s23⟩
             go_simp
             with_reducible rfl
            rotate_left
            ·simp only [Act.put, List.setIfInBounds_toArray, List.set_cons_zero, List.set_cons_succ, i64_w, i32_w]
             rfl
            refine take_ (i := 11) (N := some 91) (v := ?_) (a' := ?_) #[true, true, true, true, true, true, true, true, true, true, false, true, false, false, false, false, false, false, false, false, false, false, false, false, false, false, false, false, false, false, false, false, false, false, false, false, false, false, false, false] rfl rfl (take_ofW HT_.out HW_.out (by kernel_rfl)) (fun _ _ _ h => h) (Or.inl ⟨by rfl, ?_⟩) hHeld ?_ ?_
            rotate_left
            ·rintro w' ⟨s0, s1, s2, s3, s4, s5, s6, s7, s8, s9, s10, s11, s12, s13, s14, s15, s16, s17, s18, s19, s20, s21, s22, s23⟩
             go_simp
             with_reducible rfl
            rotate_left
            ·simp only [Act.put, List.setIfInBounds_toArray, List.set_cons_zero, List.set_cons_succ, i64_w, i32_w]
             rfl
            refine one_ (i := 10) (N := some 90) #[true, true, true, true, true, true, true, true, true, true, true, true, false, false, false, false, false, false, false, false, false, false, false, false, false, false, false, false, false, false, false, false, false, false, false, false, false, false, false, false] rfl rfl (one_of HT_.out (by kernel_rfl)) (by decide) (fun K hK => ?_)
            refine goes_ Tryd.func12 (by kernel_rfl) rfl #[.agg #[.slice Ao64 t346.length co64, .string t349, .bool t350]] (by rfl) rfl rfl ml ?_
            with_reducible refine (postriderlaw07_Of.calls k _ _ t346 t349 t350 t374 t377 t378 _ ?side1 ?side2 A21.out).mono ?_
            (case side1 => repeat (first | exact (Kd.R_reads' HO348.out).2.2 | (with_reducible refine Kd.C_alloc ?_ _) | (with_reducible refine Kd.C_drewN ?_ _) | (with_reducible refine Kd.C_drew ?_)))
            (case side2 => exact (Kd.R_reads' HO348.out).2.1)
            rintro e w111 ⟨v375, rfl, ho0, hb⟩
            refine ⟨_, rfl, ?_⟩
            have n0_ := Aside0.mk (Kd.R_below (kr HO327.out) hb)
            have n1_ := Aside0.mk (Kd.R_elder' (kr HO332.out) (Kd.R_base ho0) hb)
            have n2_ := Aside0.mk (Kd.R_below (kr HO348.out) hb)
            have n3_ := Aside0.mk (Kd.R_elder' (kr HO355.out) (Kd.R_base ho0) hb)
            have n4_ := Aside0.mk (Kd.R_below (kr HO362.out) hb)
            have n5_ := Aside0.mk (Kd.R_elder' (kr HO369.out) (Kd.R_base ho0) hb)
            have n6_ := Aside0.mk (Kd.R_lower (Kd.R_newB (Kd.R_new' (Kd.R_new' (Kd.R_new' ho0 (Kd.R_lt (kr HO332.out))) (Kd.R_lt (kr HO355.out))) (Kd.R_lt (kr HO369.out))) (g := gb345) (o := .cells #[.string t341, .string t342, .string t343] 60 (0, 0)) (bk BK345.out)) (below_size bl))
            have n7_ := Aside0.mk (kb BK323.out hb)
            have n8_ := Aside0.mk (kb BK324.out hb)
            have n9_ := Aside0.mk (kb BK335.out hb)
            have n10_ := Aside0.mk (kb BK340.out hb)
            have n11_ := Aside0.mk (kb BK345.out hb)
            have n12_ := Aside0.mk (kb BK352.out hb)
            have n13_ := Aside0.mk (kb BK359.out hb)
            have n14_ := Aside0.mk (kb BK366.out hb)
            have n15_ := Aside0.mk (kb BK373.out hb)
            have n16_ := Aside0.mk (below_step bl hb)
            clear HO327
            clear HO332
            clear HO348
            clear HO355
            clear HO362
            clear HO369
            clear BK323
            clear BK324
            clear BK335
            clear BK340
            clear BK345
            clear BK352
            clear BK359
            clear BK366
            clear BK373
            clear HB
            have HO327 := n0_
            have HO332 := n1_
            have HO348 := n2_
            have HO355 := n3_
            have HO362 := n4_
            have HO369 := n5_
            have HO376 := n6_
            have BK323 := n7_
            have BK324 := n8_
            have BK335 := n9_
            have BK340 := n10_
            have BK345 := n11_
            have BK352 := n12_
            have BK359 := n13_
            have BK366 := n14_
            have BK373 := n15_
            have HB := n16_
            clear n0_ n1_ n2_ n3_ n4_ n5_ n6_ n7_ n8_ n9_ n10_ n11_ n12_ n13_ n14_ n15_ n16_
            (try clear hb)
            (try clear hb2)
            (try clear hk)
            (try clear hi)
            (try clear ho0)
            obtain ⟨Ao112, co112, eo112⟩ := Kd.R_slice HO376.out
            (first | subst eo112 | (injection eo112 with f1_ f2_ f3_; have f4_ := f1_.symm; have f5_ := f3_.symm; clear f1_ f2_ f3_; subst f4_; subst f5_))
            refine hK.out _ _ ⟨(blk_cell BK340.out 0).trans rfl, (blk_cell BK340.out 1).trans rfl, (blk_cell BK340.out 2).trans rfl, (blk_cell BK345.out 0).trans rfl, (blk_cell BK345.out 1).trans rfl, (blk_cell BK345.out 2).trans rfl, (blk_cell BK352.out 0).trans rfl, (blk_cell BK352.out 1).trans rfl, (blk_cell BK352.out 2).trans rfl, (blk_cell BK359.out 0).trans rfl, (blk_cell BK359.out 1).trans rfl, (blk_cell BK359.out 2).trans rfl, (blk_cell BK366.out 0).trans rfl, (blk_cell BK366.out 1).trans rfl, (blk_cell BK366.out 2).trans rfl, (blk_cell BK373.out 0).trans rfl, (blk_cell BK373.out 1).trans rfl, (blk_cell BK373.out 2).trans rfl, (blk_cell BK323.out 0).trans rfl, (blk_cell BK323.out 1).trans rfl, (blk_cell BK323.out 2).trans rfl, (blk_cell BK335.out 0).trans rfl, (blk_cell BK335.out 1).trans rfl, (blk_cell BK335.out 2).trans rfl⟩ (fun hHeld => ?_)
            clear hK K
            refine norm_ (a' := ?_) ?_ ?_
            rotate_left
            ·show Act.put _ (some 90) _ = _
             simp only [Act.put, List.setIfInBounds_toArray, List.set_cons_zero, List.set_cons_succ, i64_w, i32_w]
             rfl
            refine one_ (i := 12) (N := some 92) #[true, true, true, true, true, true, true, true, true, true, true, true, true, false, false, false, false, false, false, false, false, false, false, false, false, false, false, false, false, false, false, false, false, false, false, false, false, false, false, false] rfl rfl (one_of HT_.out (by kernel_rfl)) (by decide) (fun K hK => ?_)
            refine goes_ Tryd.func11 (by kernel_rfl) rfl #[.agg #[.slice Ao112 t374.length co112, .string t377, .bool t378], .agg #[.slice Ao74 t353.length co74, .string t356, .bool t357]] (by rfl) rfl rfl ml ?_
            with_reducible refine (postriderref07_Same.calls k _ _ t374 t377 t378 _ _ t353 t356 t357 true _ ?side1 ?side2 ?side3 ?side4 A22.out).mono ?_
            (case side1 => repeat (first | exact (Kd.R_reads' HO376.out).2.2 | (with_reducible refine Kd.C_alloc ?_ _) | (with_reducible refine Kd.C_drewN ?_ _) | (with_reducible refine Kd.C_drew ?_)))
            (case side2 => exact (Kd.R_reads' HO376.out).2.1)
            (case side3 => repeat (first | exact (Kd.R_reads' HO355.out).2.2 | (with_reducible refine Kd.C_alloc ?_ _) | (with_reducible refine Kd.C_drewN ?_ _) | (with_reducible refine Kd.C_drew ?_)))
            (case side4 => exact (Kd.R_reads' HO355.out).2.1)
            rintro e w113 ⟨rfl, hb⟩
            refine ⟨_, rfl, ?_⟩
            have n0_ := Aside0.mk (Kd.R_below (kr HO327.out) hb)
            have n1_ := Aside0.mk (Kd.R_below (kr HO332.out) hb)
            have n2_ := Aside0.mk (Kd.R_below (kr HO348.out) hb)
            have n3_ := Aside0.mk (Kd.R_below (kr HO355.out) hb)
            have n4_ := Aside0.mk (Kd.R_below (kr HO362.out) hb)
            have n5_ := Aside0.mk (Kd.R_below (kr HO369.out) hb)
            have n6_ := Aside0.mk (Kd.R_below (kr HO376.out) hb)
            have n7_ := Aside0.mk (kb BK323.out hb)
            have n8_ := Aside0.mk (kb BK324.out hb)
            have n9_ := Aside0.mk (kb BK335.out hb)
            have n10_ := Aside0.mk (kb BK340.out hb)
            have n11_ := Aside0.mk (kb BK345.out hb)
            have n12_ := Aside0.mk (kb BK352.out hb)
            have n13_ := Aside0.mk (kb BK359.out hb)
            have n14_ := Aside0.mk (kb BK366.out hb)
            have n15_ := Aside0.mk (kb BK373.out hb)
            have n16_ := Aside0.mk (below_step bl hb)
            clear HO327
            clear HO332
            clear HO348
            clear HO355
            clear HO362
            clear HO369
            clear HO376
            clear BK323
            clear BK324
            clear BK335
            clear BK340
            clear BK345
            clear BK352
            clear BK359
            clear BK366
            clear BK373
            clear HB
            have HO327 := n0_
            have HO332 := n1_
            have HO348 := n2_
            have HO355 := n3_
            have HO362 := n4_
            have HO369 := n5_
            have HO376 := n6_
            have BK323 := n7_
            have BK324 := n8_
            have BK335 := n9_
            have BK340 := n10_
            have BK345 := n11_
            have BK352 := n12_
            have BK359 := n13_
            have BK366 := n14_
            have BK373 := n15_
            have HB := n16_
            clear n0_ n1_ n2_ n3_ n4_ n5_ n6_ n7_ n8_ n9_ n10_ n11_ n12_ n13_ n14_ n15_ n16_
            (try clear hb)
            (try clear hb2)
            (try clear hk)
            (try clear hi)
            refine hK.out _ _ ⟨(blk_cell BK340.out 0).trans rfl, (blk_cell BK340.out 1).trans rfl, (blk_cell BK340.out 2).trans rfl, (blk_cell BK345.out 0).trans rfl, (blk_cell BK345.out 1).trans rfl, (blk_cell BK345.out 2).trans rfl, (blk_cell BK352.out 0).trans rfl, (blk_cell BK352.out 1).trans rfl, (blk_cell BK352.out 2).trans rfl, (blk_cell BK359.out 0).trans rfl, (blk_cell BK359.out 1).trans rfl, (blk_cell BK359.out 2).trans rfl, (blk_cell BK366.out 0).trans rfl, (blk_cell BK366.out 1).trans rfl, (blk_cell BK366.out 2).trans rfl, (blk_cell BK373.out 0).trans rfl, (blk_cell BK373.out 1).trans rfl, (blk_cell BK373.out 2).trans rfl, (blk_cell BK323.out 0).trans rfl, (blk_cell BK323.out 1).trans rfl, (blk_cell BK323.out 2).trans rfl, (blk_cell BK335.out 0).trans rfl, (blk_cell BK335.out 1).trans rfl, (blk_cell BK335.out 2).trans rfl⟩ (fun hHeld => ?_)
            clear hK K
            refine norm_ (a' := ?_) ?_ ?_
            rotate_left
            ·show Act.put _ (some 92) _ = _
             simp only [Act.put, List.setIfInBounds_toArray, List.set_cons_zero, List.set_cons_succ, i64_w, i32_w]
             rfl
            refine pure_ (i := 13) (N := some 93) (v := ?_) (a' := ?_) #[true, true, true, true, true, true, true, true, true, true, true, true, true, true, false, false, false, false, false, false, false, false, false, false, false, false, false, false, false, false, false, false, false, false, false, false, false, false, false, false] rfl rfl (any_of HT_.out (by kernel_rfl)) (fun _ _ _ h => h) (Or.inl ⟨by rfl, ?_⟩) ?_ ?_
            rotate_left
            ·intro w'
             go_simp
             with_reducible rfl
            rotate_left
            ·simp only [Act.put, List.setIfInBounds_toArray, List.set_cons_zero, List.set_cons_succ, i64_w, i32_w]
             rfl
            refine pure_ (i := 14) (N := some 94) (v := ?_) (a' := ?_) #[true, true, true, true, true, true, true, true, true, true, true, true, true, true, true, false, false, false, false, false, false, false, false, false, false, false, false, false, false, false, false, false, false, false, false, false, false, false, false, false] rfl rfl (any_of HT_.out (by kernel_rfl)) (fun _ _ _ h => h) (Or.inl ⟨by rfl, ?_⟩) ?_ ?_
            rotate_left
            ·intro w'
             go_simp
             with_reducible rfl
            rotate_left
            ·simp only [Act.put, List.setIfInBounds_toArray, List.set_cons_zero, List.set_cons_succ, i64_w, i32_w]
             rfl
            refine pure_ (i := 15) (N := some 95) (v := ?_) (a' := ?_) #[true, true, true, true, true, true, true, true, true, true, true, true, true, true, true, true, false, false, false, false, false, false, false, false, false, false, false, false, false, false, false, false, false, false, false, false, false, false, false, false] rfl rfl (any_of HT_.out (by kernel_rfl)) (fun _ _ _ h => h) (Or.inl ⟨by rfl, ?_⟩) ?_ ?_
            rotate_left
            ·intro w'
             go_simp
             with_reducible rfl
            rotate_left
            ·simp only [Act.put, List.setIfInBounds_toArray, List.set_cons_zero, List.set_cons_succ, i64_w, i32_w]
             rfl
            refine pure_ (i := 16) (N := some 96) (v := ?_) (a' := ?_) #[true, true, true, true, true, true, true, true, true, true, true, true, true, true, true, true, true, false, false, false, false, false, false, false, false, false, false, false, false, false, false, false, false, false, false, false, false, false, false, false] rfl rfl (any_of HT_.out (by kernel_rfl)) (fun _ _ _ h => h) (Or.inl ⟨by rfl, ?_⟩) ?_ ?_
            rotate_left
            ·intro w'
             go_simp
             with_reducible rfl
            rotate_left
            ·simp only [Act.put, List.setIfInBounds_toArray, List.set_cons_zero, List.set_cons_succ, i64_w, i32_w]
             rfl
            refine pure_ (i := 17) (N := some 97) (v := ?_) (a' := ?_) #[true, true, true, true, true, true, true, true, true, true, true, true, true, true, true, true, true, true, false, false, false, false, false, false, false, false, false, false, false, false, false, false, false, false, false, false, false, false, false, false] rfl rfl (any_of HT_.out (by kernel_rfl)) (fun _ _ _ h => h) (Or.inl ⟨by rfl, ?_⟩) ?_ ?_
            rotate_left
            ·intro w'
             go_simp
             with_reducible rfl
            rotate_left
            ·simp only [Act.put, List.setIfInBounds_toArray, List.set_cons_zero, List.set_cons_succ, i64_w, i32_w]
             rfl
            refine pure_ (i := 18) (N := some 98) (v := ?_) (a' := ?_) #[true, true, true, true, true, true, true, true, true, true, true, true, true, true, true, true, true, true, true, false, false, false, false, false, false, false, false, false, false, false, false, false, false, false, false, false, false, false, false, false] rfl rfl (any_of HT_.out (by kernel_rfl)) (fun _ _ _ h => h) (Or.inl ⟨by rfl, ?_⟩) ?_ ?_
            rotate_left
            ·intro w'
             go_simp
             with_reducible rfl
            rotate_left
            ·simp only [Act.put, List.setIfInBounds_toArray, List.set_cons_zero, List.set_cons_succ, i64_w, i32_w]
             rfl
            refine pure_ (i := 19) (N := some 99) (v := ?_) (a' := ?_) #[true, true, true, true, true, true, true, true, true, true, true, true, true, true, true, true, true, true, true, true, false, false, false, false, false, false, false, false, false, false, false, false, false, false, false, false, false, false, false, false] rfl rfl (any_of HT_.out (by kernel_rfl)) (fun _ _ _ h => h) (Or.inl ⟨by rfl, ?_⟩) ?_ ?_
            rotate_left
            ·intro w'
             go_simp
             with_reducible rfl
            rotate_left
            ·simp only [Act.put, List.setIfInBounds_toArray, List.set_cons_zero, List.set_cons_succ, i64_w, i32_w]
             rfl
            refine take_ (i := 20) (N := some 100) (v := ?_) (a' := ?_) #[true, true, true, true, true, true, true, true, true, true, true, true, true, true, true, true, true, true, true, true, true, false, false, false, false, false, false, false, false, false, false, false, false, false, false, false, false, false, false, false] rfl rfl (take_ofW HT_.out HW_.out (by kernel_rfl)) (fun _ _ _ h => h) (Or.inl ⟨by rfl, ?_⟩) hHeld ?_ ?_
            rotate_left
            ·rintro w' ⟨s0, s1, s2, s3, s4, s5, s6, s7, s8, s9, s10, s11, s12, s13, s14, s15, s16, s17, s18, s19, s20, s21, s22, s23⟩
             go_simp
             with_reducible rfl
            rotate_left
            ·simp only [Act.put, List.setIfInBounds_toArray, List.set_cons_zero, List.set_cons_succ, i64_w, i32_w]
             rfl
            refine take_ (i := 22) (N := some 102) (v := ?_) (a' := ?_) #[true, true, true, true, true, true, true, true, true, true, true, true, true, true, true, true, true, true, true, true, true, false, true, false, false, false, false, false, false, false, false, false, false, false, false, false, false, false, false, false] rfl rfl (take_ofW HT_.out HW_.out (by kernel_rfl)) (fun _ _ _ h => h) (Or.inl ⟨by rfl, ?_⟩) hHeld ?_ ?_
            rotate_left
            ·rintro w' ⟨s0, s1, s2, s3, s4, s5, s6, s7, s8, s9, s10, s11, s12, s13, s14, s15, s16, s17, s18, s19, s20, s21, s22, s23⟩
             go_simp
             with_reducible rfl
            rotate_left
            ·simp only [Act.put, List.setIfInBounds_toArray, List.set_cons_zero, List.set_cons_succ, i64_w, i32_w]
             rfl
            refine one_ (i := 21) (N := some 101) #[true, true, true, true, true, true, true, true, true, true, true, true, true, true, true, true, true, true, true, true, true, true, true, false, false, false, false, false, false, false, false, false, false, false, false, false, false, false, false, false] rfl rfl (one_of HT_.out (by kernel_rfl)) (by decide) (fun K hK => ?_)
            refine goes_ Tryd.func12 (by kernel_rfl) rfl #[.agg #[.slice Ao86 t360.length co86, .string t363, .bool t364]] (by rfl) rfl rfl ml ?_
            with_reducible refine (postriderlaw07_Of.calls k _ _ t360 t363 t364 t380 t383 t384 _ ?side1 ?side2 A25.out).mono ?_
            (case side1 => repeat (first | exact (Kd.R_reads' HO362.out).2.2 | (with_reducible refine Kd.C_alloc ?_ _) | (with_reducible refine Kd.C_drewN ?_ _) | (with_reducible refine Kd.C_drew ?_)))
            (case side2 => exact (Kd.R_reads' HO362.out).2.1)
            rintro e w114 ⟨v381, rfl, ho0, hb⟩
            refine ⟨_, rfl, ?_⟩
            have n0_ := Aside0.mk (Kd.R_below (kr HO327.out) hb)
            have n1_ := Aside0.mk (Kd.R_elder' (kr HO332.out) (Kd.R_base ho0) hb)
            have n2_ := Aside0.mk (Kd.R_below (kr HO348.out) hb)
            have n3_ := Aside0.mk (Kd.R_elder' (kr HO355.out) (Kd.R_base ho0) hb)
            have n4_ := Aside0.mk (Kd.R_below (kr HO362.out) hb)
            have n5_ := Aside0.mk (Kd.R_elder' (kr HO369.out) (Kd.R_base ho0) hb)
            have n6_ := Aside0.mk (Kd.R_elder' (kr HO376.out) (Kd.R_base ho0) hb)
            have n7_ := Aside0.mk (Kd.R_lower (Kd.R_newB (Kd.R_new' (Kd.R_new' (Kd.R_new' (Kd.R_new' ho0 (Kd.R_lt (kr HO332.out))) (Kd.R_lt (kr HO355.out))) (Kd.R_lt (kr HO369.out))) (Kd.R_lt (kr HO376.out))) (g := gb345) (o := .cells #[.string t341, .string t342, .string t343] 60 (0, 0)) (bk BK345.out)) (below_size bl))
            have n8_ := Aside0.mk (kb BK323.out hb)
            have n9_ := Aside0.mk (kb BK324.out hb)
            have n10_ := Aside0.mk (kb BK335.out hb)
            have n11_ := Aside0.mk (kb BK340.out hb)
            have n12_ := Aside0.mk (kb BK345.out hb)
            have n13_ := Aside0.mk (kb BK352.out hb)
            have n14_ := Aside0.mk (kb BK359.out hb)
            have n15_ := Aside0.mk (kb BK366.out hb)
            have n16_ := Aside0.mk (kb BK373.out hb)
            have n17_ := Aside0.mk (below_step bl hb)
            clear HO327
            clear HO332
            clear HO348
            clear HO355
            clear HO362
            clear HO369
            clear HO376
            clear BK323
            clear BK324
            clear BK335
            clear BK340
            clear BK345
            clear BK352
            clear BK359
            clear BK366
            clear BK373
            clear HB
            have HO327 := n0_
            have HO332 := n1_
            have HO348 := n2_
            have HO355 := n3_
            have HO362 := n4_
            have HO369 := n5_
            have HO376 := n6_
            have HO382 := n7_
            have BK323 := n8_
            have BK324 := n9_
            have BK335 := n10_
            have BK340 := n11_
            have BK345 := n12_
            have BK352 := n13_
            have BK359 := n14_
            have BK366 := n15_
            have BK373 := n16_
            have HB := n17_
            clear n0_ n1_ n2_ n3_ n4_ n5_ n6_ n7_ n8_ n9_ n10_ n11_ n12_ n13_ n14_ n15_ n16_ n17_
            (try clear hb)
            (try clear hb2)
            (try clear hk)
            (try clear hi)
            (try clear ho0)
            obtain ⟨Ao115, co115, eo115⟩ := Kd.R_slice HO382.out
            (first | subst eo115 | (injection eo115 with f1_ f2_ f3_; have f4_ := f1_.symm; have f5_ := f3_.symm; clear f1_ f2_ f3_; subst f4_; subst f5_))
            refine hK.out _ _ ⟨(blk_cell BK340.out 0).trans rfl, (blk_cell BK340.out 1).trans rfl, (blk_cell BK340.out 2).trans rfl, (blk_cell BK345.out 0).trans rfl, (blk_cell BK345.out 1).trans rfl, (blk_cell BK345.out 2).trans rfl, (blk_cell BK352.out 0).trans rfl, (blk_cell BK352.out 1).trans rfl, (blk_cell BK352.out 2).trans rfl, (blk_cell BK359.out 0).trans rfl, (blk_cell BK359.out 1).trans rfl, (blk_cell BK359.out 2).trans rfl, (blk_cell BK366.out 0).trans rfl, (blk_cell BK366.out 1).trans rfl, (blk_cell BK366.out 2).trans rfl, (blk_cell BK373.out 0).trans rfl, (blk_cell BK373.out 1).trans rfl, (blk_cell BK373.out 2).trans rfl, (blk_cell BK323.out 0).trans rfl, (blk_cell BK323.out 1).trans rfl, (blk_cell BK323.out 2).trans rfl, (blk_cell BK335.out 0).trans rfl, (blk_cell BK335.out 1).trans rfl, (blk_cell BK335.out 2).trans rfl⟩ (fun hHeld => ?_)
            clear hK K
            refine norm_ (a' := ?_) ?_ ?_
            rotate_left
            ·show Act.put _ (some 101) _ = _
             simp only [Act.put, List.setIfInBounds_toArray, List.set_cons_zero, List.set_cons_succ, i64_w, i32_w]
             rfl
            refine one_ (i := 23) (N := some 103) #[true, true, true, true, true, true, true, true, true, true, true, true, true, true, true, true, true, true, true, true, true, true, true, true, false, false, false, false, false, false, false, false, false, false, false, false, false, false, false, false] rfl rfl (one_of HT_.out (by kernel_rfl)) (by decide) (fun K hK => ?_)
            refine goes_ Tryd.func11 (by kernel_rfl) rfl #[.agg #[.slice Ao115 t380.length co115, .string t383, .bool t384], .agg #[.slice Ao99 t367.length co99, .string t370, .bool t371]] (by rfl) rfl rfl ml ?_
            with_reducible refine (postriderref07_Same.calls k _ _ t380 t383 t384 _ _ t367 t370 t371 true _ ?side1 ?side2 ?side3 ?side4 A26.out).mono ?_
            (case side1 => repeat (first | exact (Kd.R_reads' HO382.out).2.2 | (with_reducible refine Kd.C_alloc ?_ _) | (with_reducible refine Kd.C_drewN ?_ _) | (with_reducible refine Kd.C_drew ?_)))
            (case side2 => exact (Kd.R_reads' HO382.out).2.1)
            (case side3 => repeat (first | exact (Kd.R_reads' HO369.out).2.2 | (with_reducible refine Kd.C_alloc ?_ _) | (with_reducible refine Kd.C_drewN ?_ _) | (with_reducible refine Kd.C_drew ?_)))
            (case side4 => exact (Kd.R_reads' HO369.out).2.1)
            rintro e w116 ⟨rfl, hb⟩
            refine ⟨_, rfl, ?_⟩
            have n0_ := Aside0.mk (Kd.R_below (kr HO327.out) hb)
            have n1_ := Aside0.mk (Kd.R_below (kr HO332.out) hb)
            have n2_ := Aside0.mk (Kd.R_below (kr HO348.out) hb)
            have n3_ := Aside0.mk (Kd.R_below (kr HO355.out) hb)
            have n4_ := Aside0.mk (Kd.R_below (kr HO362.out) hb)
            have n5_ := Aside0.mk (Kd.R_below (kr HO369.out) hb)
            have n6_ := Aside0.mk (Kd.R_below (kr HO376.out) hb)
            have n7_ := Aside0.mk (Kd.R_below (kr HO382.out) hb)
            have n8_ := Aside0.mk (kb BK323.out hb)
            have n9_ := Aside0.mk (kb BK324.out hb)
            have n10_ := Aside0.mk (kb BK335.out hb)
            have n11_ := Aside0.mk (kb BK340.out hb)
            have n12_ := Aside0.mk (kb BK345.out hb)
            have n13_ := Aside0.mk (kb BK352.out hb)
            have n14_ := Aside0.mk (kb BK359.out hb)
            have n15_ := Aside0.mk (kb BK366.out hb)
            have n16_ := Aside0.mk (kb BK373.out hb)
            have n17_ := Aside0.mk (below_step bl hb)
            clear HO327
            clear HO332
            clear HO348
            clear HO355
            clear HO362
            clear HO369
            clear HO376
            clear HO382
            clear BK323
            clear BK324
            clear BK335
            clear BK340
            clear BK345
            clear BK352
            clear BK359
            clear BK366
            clear BK373
            clear HB
            have HO327 := n0_
            have HO332 := n1_
            have HO348 := n2_
            have HO355 := n3_
            have HO362 := n4_
            have HO369 := n5_
            have HO376 := n6_
            have HO382 := n7_
            have BK323 := n8_
            have BK324 := n9_
            have BK335 := n10_
            have BK340 := n11_
            have BK345 := n12_
            have BK352 := n13_
            have BK359 := n14_
            have BK366 := n15_
            have BK373 := n16_
            have HB := n17_
            clear n0_ n1_ n2_ n3_ n4_ n5_ n6_ n7_ n8_ n9_ n10_ n11_ n12_ n13_ n14_ n15_ n16_ n17_
            (try clear hb)
            (try clear hb2)
            (try clear hk)
            (try clear hi)
            refine hK.out _ _ ⟨(blk_cell BK340.out 0).trans rfl, (blk_cell BK340.out 1).trans rfl, (blk_cell BK340.out 2).trans rfl, (blk_cell BK345.out 0).trans rfl, (blk_cell BK345.out 1).trans rfl, (blk_cell BK345.out 2).trans rfl, (blk_cell BK352.out 0).trans rfl, (blk_cell BK352.out 1).trans rfl, (blk_cell BK352.out 2).trans rfl, (blk_cell BK359.out 0).trans rfl, (blk_cell BK359.out 1).trans rfl, (blk_cell BK359.out 2).trans rfl, (blk_cell BK366.out 0).trans rfl, (blk_cell BK366.out 1).trans rfl, (blk_cell BK366.out 2).trans rfl, (blk_cell BK373.out 0).trans rfl, (blk_cell BK373.out 1).trans rfl, (blk_cell BK373.out 2).trans rfl, (blk_cell BK323.out 0).trans rfl, (blk_cell BK323.out 1).trans rfl, (blk_cell BK323.out 2).trans rfl, (blk_cell BK335.out 0).trans rfl, (blk_cell BK335.out 1).trans rfl, (blk_cell BK335.out 2).trans rfl⟩ (fun hHeld => ?_)
            clear hK K
            refine norm_ (a' := ?_) ?_ ?_
            rotate_left
            ·show Act.put _ (some 103) _ = _
             simp only [Act.put, List.setIfInBounds_toArray, List.set_cons_zero, List.set_cons_succ, i64_w, i32_w]
             rfl
            refine pure_ (i := 24) (N := some 104) (v := ?_) (a' := ?_) #[true, true, true, true, true, true, true, true, true, true, true, true, true, true, true, true, true, true, true, true, true, true, true, true, true, false, false, false, false, false, false, false, false, false, false, false, false, false, false, false] rfl rfl (any_of HT_.out (by kernel_rfl)) (fun _ _ _ h => h) (Or.inl ⟨by rfl, ?_⟩) ?_ ?_
            rotate_left
            ·intro w'
             go_simp
             with_reducible rfl
            rotate_left
            ·simp only [Act.put, List.setIfInBounds_toArray, List.set_cons_zero, List.set_cons_succ, i64_w, i32_w]
             rfl
            refine pure_ (i := 25) (N := some 105) (v := ?_) (a' := ?_) #[true, true, true, true, true, true, true, true, true, true, true, true, true, true, true, true, true, true, true, true, true, true, true, true, true, true, false, false, false, false, false, false, false, false, false, false, false, false, false, false] rfl rfl (any_of HT_.out (by kernel_rfl)) (fun _ _ _ h => h) (Or.inl ⟨by rfl, ?_⟩) ?_ ?_
            rotate_left
            ·intro w'
             go_simp
             with_reducible rfl
            rotate_left
            ·simp only [Act.put, List.setIfInBounds_toArray, List.set_cons_zero, List.set_cons_succ, i64_w, i32_w]
             rfl
            refine pure_ (i := 26) (N := some 106) (v := ?_) (a' := ?_) #[true, true, true, true, true, true, true, true, true, true, true, true, true, true, true, true, true, true, true, true, true, true, true, true, true, true, true, false, false, false, false, false, false, false, false, false, false, false, false, false] rfl rfl (any_of HT_.out (by kernel_rfl)) (fun _ _ _ h => h) (Or.inl ⟨by rfl, ?_⟩) ?_ ?_
            rotate_left
            ·intro w'
             go_simp
             with_reducible rfl
            rotate_left
            ·simp only [Act.put, List.setIfInBounds_toArray, List.set_cons_zero, List.set_cons_succ, i64_w, i32_w]
             rfl
            refine pure_ (i := 27) (N := some 107) (v := ?_) (a' := ?_) #[true, true, true, true, true, true, true, true, true, true, true, true, true, true, true, true, true, true, true, true, true, true, true, true, true, true, true, true, false, false, false, false, false, false, false, false, false, false, false, false] rfl rfl (any_of HT_.out (by kernel_rfl)) (fun _ _ _ h => h) (Or.inl ⟨by rfl, ?_⟩) ?_ ?_
            rotate_left
            ·intro w'
             go_simp
             with_reducible rfl
            rotate_left
            ·simp only [Act.put, List.setIfInBounds_toArray, List.set_cons_zero, List.set_cons_succ, i64_w, i32_w]
             rfl
            refine pure_ (i := 28) (N := some 108) (v := ?_) (a' := ?_) #[true, true, true, true, true, true, true, true, true, true, true, true, true, true, true, true, true, true, true, true, true, true, true, true, true, true, true, true, true, false, false, false, false, false, false, false, false, false, false, false] rfl rfl (any_of HT_.out (by kernel_rfl)) (fun _ _ _ h => h) (Or.inl ⟨by rfl, ?_⟩) ?_ ?_
            rotate_left
            ·intro w'
             go_simp
             with_reducible rfl
            rotate_left
            ·simp only [Act.put, List.setIfInBounds_toArray, List.set_cons_zero, List.set_cons_succ, i64_w, i32_w]
             rfl
            refine pure_ (i := 29) (N := some 109) (v := ?_) (a' := ?_) #[true, true, true, true, true, true, true, true, true, true, true, true, true, true, true, true, true, true, true, true, true, true, true, true, true, true, true, true, true, true, false, false, false, false, false, false, false, false, false, false] rfl rfl (any_of HT_.out (by kernel_rfl)) (fun _ _ _ h => h) (Or.inl ⟨by rfl, ?_⟩) ?_ ?_
            rotate_left
            ·intro w'
             go_simp
             with_reducible rfl
            rotate_left
            ·simp only [Act.put, List.setIfInBounds_toArray, List.set_cons_zero, List.set_cons_succ, i64_w, i32_w]
             rfl
            refine pure_ (i := 30) (N := some 110) (v := ?_) (a' := ?_) #[true, true, true, true, true, true, true, true, true, true, true, true, true, true, true, true, true, true, true, true, true, true, true, true, true, true, true, true, true, true, true, false, false, false, false, false, false, false, false, false] rfl rfl (any_of HT_.out (by kernel_rfl)) (fun _ _ _ h => h) (Or.inl ⟨by rfl, ?_⟩) ?_ ?_
            rotate_left
            ·intro w'
             go_simp
             with_reducible rfl
            rotate_left
            ·simp only [Act.put, List.setIfInBounds_toArray, List.set_cons_zero, List.set_cons_succ, i64_w, i32_w]
             rfl
            refine take_ (i := 31) (N := some 111) (v := ?_) (a' := ?_) #[true, true, true, true, true, true, true, true, true, true, true, true, true, true, true, true, true, true, true, true, true, true, true, true, true, true, true, true, true, true, true, true, false, false, false, false, false, false, false, false] rfl rfl (take_ofW HT_.out HW_.out (by kernel_rfl)) (fun _ _ _ h => h) (Or.inl ⟨by rfl, ?_⟩) hHeld ?_ ?_
            rotate_left
            ·rintro w' ⟨s0, s1, s2, s3, s4, s5, s6, s7, s8, s9, s10, s11, s12, s13, s14, s15, s16, s17, s18, s19, s20, s21, s22, s23⟩
             go_simp
             with_reducible rfl
            rotate_left
            ·simp only [Act.put, List.setIfInBounds_toArray, List.set_cons_zero, List.set_cons_succ, i64_w, i32_w]
             rfl
            refine take_ (i := 33) (N := some 113) (v := ?_) (a' := ?_) #[true, true, true, true, true, true, true, true, true, true, true, true, true, true, true, true, true, true, true, true, true, true, true, true, true, true, true, true, true, true, true, true, false, true, false, false, false, false, false, false] rfl rfl (take_ofW HT_.out HW_.out (by kernel_rfl)) (fun _ _ _ h => h) (Or.inl ⟨by rfl, ?_⟩) hHeld ?_ ?_
            rotate_left
            ·rintro w' ⟨s0, s1, s2, s3, s4, s5, s6, s7, s8, s9, s10, s11, s12, s13, s14, s15, s16, s17, s18, s19, s20, s21, s22, s23⟩
             go_simp
             with_reducible rfl
            rotate_left
            ·simp only [Act.put, List.setIfInBounds_toArray, List.set_cons_zero, List.set_cons_succ, i64_w, i32_w]
             rfl
            refine one_ (i := 32) (N := some 112) #[true, true, true, true, true, true, true, true, true, true, true, true, true, true, true, true, true, true, true, true, true, true, true, true, true, true, true, true, true, true, true, true, true, true, false, false, false, false, false, false] rfl rfl (one_of HT_.out (by kernel_rfl)) (by decide) (fun K hK => ?_)
            refine goes_ Tryd.func12 (by kernel_rfl) rfl #[.agg #[.slice Ao38 t325.length co38, .string t328, .bool t329]] (by rfl) rfl rfl ml ?_
            with_reducible refine (postriderlaw07_Of.calls k _ _ t325 t328 t329 t386 t389 t390 _ ?side1 ?side2 A29.out).mono ?_
            (case side1 => repeat (first | exact (Kd.R_reads' HO327.out).2.2 | (with_reducible refine Kd.C_alloc ?_ _) | (with_reducible refine Kd.C_drewN ?_ _) | (with_reducible refine Kd.C_drew ?_)))
            (case side2 => exact (Kd.R_reads' HO327.out).2.1)
            rintro e w117 ⟨v387, rfl, ho0, hb⟩
            refine ⟨_, rfl, ?_⟩
            have n0_ := Aside0.mk (Kd.R_below (kr HO327.out) hb)
            have n1_ := Aside0.mk (Kd.R_elder' (kr HO332.out) (Kd.R_base ho0) hb)
            have n2_ := Aside0.mk (Kd.R_below (kr HO348.out) hb)
            have n3_ := Aside0.mk (Kd.R_elder' (kr HO355.out) (Kd.R_base ho0) hb)
            have n4_ := Aside0.mk (Kd.R_below (kr HO362.out) hb)
            have n5_ := Aside0.mk (Kd.R_elder' (kr HO369.out) (Kd.R_base ho0) hb)
            have n6_ := Aside0.mk (Kd.R_elder' (kr HO376.out) (Kd.R_base ho0) hb)
            have n7_ := Aside0.mk (Kd.R_elder' (kr HO382.out) (Kd.R_base ho0) hb)
            have n8_ := Aside0.mk (Kd.R_lower (Kd.R_newB (Kd.R_new' (Kd.R_new' (Kd.R_new' (Kd.R_new' (Kd.R_new' ho0 (Kd.R_lt (kr HO332.out))) (Kd.R_lt (kr HO355.out))) (Kd.R_lt (kr HO369.out))) (Kd.R_lt (kr HO376.out))) (Kd.R_lt (kr HO382.out))) (g := gb345) (o := .cells #[.string t341, .string t342, .string t343] 60 (0, 0)) (bk BK345.out)) (below_size bl))
            have n9_ := Aside0.mk (kb BK323.out hb)
            have n10_ := Aside0.mk (kb BK324.out hb)
            have n11_ := Aside0.mk (kb BK335.out hb)
            have n12_ := Aside0.mk (kb BK340.out hb)
            have n13_ := Aside0.mk (kb BK345.out hb)
            have n14_ := Aside0.mk (kb BK352.out hb)
            have n15_ := Aside0.mk (kb BK359.out hb)
            have n16_ := Aside0.mk (kb BK366.out hb)
            have n17_ := Aside0.mk (kb BK373.out hb)
            have n18_ := Aside0.mk (below_step bl hb)
            clear HO327
            clear HO332
            clear HO348
            clear HO355
            clear HO362
            clear HO369
            clear HO376
            clear HO382
            clear BK323
            clear BK324
            clear BK335
            clear BK340
            clear BK345
            clear BK352
            clear BK359
            clear BK366
            clear BK373
            clear HB
            have HO327 := n0_
            have HO332 := n1_
            have HO348 := n2_
            have HO355 := n3_
            have HO362 := n4_
            have HO369 := n5_
            have HO376 := n6_
            have HO382 := n7_
            have HO388 := n8_
            have BK323 := n9_
            have BK324 := n10_
            have BK335 := n11_
            have BK340 := n12_
            have BK345 := n13_
            have BK352 := n14_
            have BK359 := n15_
            have BK366 := n16_
            have BK373 := n17_
            have HB := n18_
            clear n0_ n1_ n2_ n3_ n4_ n5_ n6_ n7_ n8_ n9_ n10_ n11_ n12_ n13_ n14_ n15_ n16_ n17_ n18_
            (try clear hb)
            (try clear hb2)
            (try clear hk)
            (try clear hi)
            (try clear ho0)
            obtain ⟨Ao118, co118, eo118⟩ := Kd.R_slice HO388.out
            (first | subst eo118 | (injection eo118 with f1_ f2_ f3_; have f4_ := f1_.symm; have f5_ := f3_.symm; clear f1_ f2_ f3_; subst f4_; subst f5_))
            refine hK.out _ _ ⟨(blk_cell BK340.out 0).trans rfl, (blk_cell BK340.out 1).trans rfl, (blk_cell BK340.out 2).trans rfl, (blk_cell BK345.out 0).trans rfl, (blk_cell BK345.out 1).trans rfl, (blk_cell BK345.out 2).trans rfl, (blk_cell BK352.out 0).trans rfl, (blk_cell BK352.out 1).trans rfl, (blk_cell BK352.out 2).trans rfl, (blk_cell BK359.out 0).trans rfl, (blk_cell BK359.out 1).trans rfl, (blk_cell BK359.out 2).trans rfl, (blk_cell BK366.out 0).trans rfl, (blk_cell BK366.out 1).trans rfl, (blk_cell BK366.out 2).trans rfl, (blk_cell BK373.out 0).trans rfl, (blk_cell BK373.out 1).trans rfl, (blk_cell BK373.out 2).trans rfl, (blk_cell BK323.out 0).trans rfl, (blk_cell BK323.out 1).trans rfl, (blk_cell BK323.out 2).trans rfl, (blk_cell BK335.out 0).trans rfl, (blk_cell BK335.out 1).trans rfl, (blk_cell BK335.out 2).trans rfl⟩ (fun hHeld => ?_)
            clear hK K
            refine norm_ (a' := ?_) ?_ ?_
            rotate_left
            ·show Act.put _ (some 112) _ = _
             simp only [Act.put, List.setIfInBounds_toArray, List.set_cons_zero, List.set_cons_succ, i64_w, i32_w]
             rfl
            refine one_ (i := 34) (N := some 114) #[true, true, true, true, true, true, true, true, true, true, true, true, true, true, true, true, true, true, true, true, true, true, true, true, true, true, true, true, true, true, true, true, true, true, true, false, false, false, false, false] rfl rfl (one_of HT_.out (by kernel_rfl)) (by decide) (fun K hK => ?_)
            refine goes_ Tryd.func11 (by kernel_rfl) rfl #[.agg #[.slice Ao118 t386.length co118, .string t389, .bool t390], .agg #[.slice Ao42 t330.length co42, .string t333, .bool t334]] (by rfl) rfl rfl ml ?_
            with_reducible refine (postriderref07_Same.calls k _ _ t386 t389 t390 _ _ t330 t333 t334 true _ ?side1 ?side2 ?side3 ?side4 A30.out).mono ?_
            (case side1 => repeat (first | exact (Kd.R_reads' HO388.out).2.2 | (with_reducible refine Kd.C_alloc ?_ _) | (with_reducible refine Kd.C_drewN ?_ _) | (with_reducible refine Kd.C_drew ?_)))
            (case side2 => exact (Kd.R_reads' HO388.out).2.1)
            (case side3 => repeat (first | exact (Kd.R_reads' HO332.out).2.2 | (with_reducible refine Kd.C_alloc ?_ _) | (with_reducible refine Kd.C_drewN ?_ _) | (with_reducible refine Kd.C_drew ?_)))
            (case side4 => exact (Kd.R_reads' HO332.out).2.1)
            rintro e w119 ⟨rfl, hb⟩
            refine ⟨_, rfl, ?_⟩
            have n0_ := Aside0.mk (Kd.R_below (kr HO327.out) hb)
            have n1_ := Aside0.mk (Kd.R_below (kr HO332.out) hb)
            have n2_ := Aside0.mk (Kd.R_below (kr HO348.out) hb)
            have n3_ := Aside0.mk (Kd.R_below (kr HO355.out) hb)
            have n4_ := Aside0.mk (Kd.R_below (kr HO362.out) hb)
            have n5_ := Aside0.mk (Kd.R_below (kr HO369.out) hb)
            have n6_ := Aside0.mk (Kd.R_below (kr HO376.out) hb)
            have n7_ := Aside0.mk (Kd.R_below (kr HO382.out) hb)
            have n8_ := Aside0.mk (Kd.R_below (kr HO388.out) hb)
            have n9_ := Aside0.mk (kb BK323.out hb)
            have n10_ := Aside0.mk (kb BK324.out hb)
            have n11_ := Aside0.mk (kb BK335.out hb)
            have n12_ := Aside0.mk (kb BK340.out hb)
            have n13_ := Aside0.mk (kb BK345.out hb)
            have n14_ := Aside0.mk (kb BK352.out hb)
            have n15_ := Aside0.mk (kb BK359.out hb)
            have n16_ := Aside0.mk (kb BK366.out hb)
            have n17_ := Aside0.mk (kb BK373.out hb)
            have n18_ := Aside0.mk (below_step bl hb)
            clear HO327
            clear HO332
            clear HO348
            clear HO355
            clear HO362
            clear HO369
            clear HO376
            clear HO382
            clear HO388
            clear BK323
            clear BK324
            clear BK335
            clear BK340
            clear BK345
            clear BK352
            clear BK359
            clear BK366
            clear BK373
            clear HB
            have HO327 := n0_
            have HO332 := n1_
            have HO348 := n2_
            have HO355 := n3_
            have HO362 := n4_
            have HO369 := n5_
            have HO376 := n6_
            have HO382 := n7_
            have HO388 := n8_
            have BK323 := n9_
            have BK324 := n10_
            have BK335 := n11_
            have BK340 := n12_
            have BK345 := n13_
            have BK352 := n14_
            have BK359 := n15_
            have BK366 := n16_
            have BK373 := n17_
            have HB := n18_
            clear n0_ n1_ n2_ n3_ n4_ n5_ n6_ n7_ n8_ n9_ n10_ n11_ n12_ n13_ n14_ n15_ n16_ n17_ n18_
            (try clear hb)
            (try clear hb2)
            (try clear hk)
            (try clear hi)
            refine hK.out _ _ ⟨(blk_cell BK340.out 0).trans rfl, (blk_cell BK340.out 1).trans rfl, (blk_cell BK340.out 2).trans rfl, (blk_cell BK345.out 0).trans rfl, (blk_cell BK345.out 1).trans rfl, (blk_cell BK345.out 2).trans rfl, (blk_cell BK352.out 0).trans rfl, (blk_cell BK352.out 1).trans rfl, (blk_cell BK352.out 2).trans rfl, (blk_cell BK359.out 0).trans rfl, (blk_cell BK359.out 1).trans rfl, (blk_cell BK359.out 2).trans rfl, (blk_cell BK366.out 0).trans rfl, (blk_cell BK366.out 1).trans rfl, (blk_cell BK366.out 2).trans rfl, (blk_cell BK373.out 0).trans rfl, (blk_cell BK373.out 1).trans rfl, (blk_cell BK373.out 2).trans rfl, (blk_cell BK323.out 0).trans rfl, (blk_cell BK323.out 1).trans rfl, (blk_cell BK323.out 2).trans rfl, (blk_cell BK335.out 0).trans rfl, (blk_cell BK335.out 1).trans rfl, (blk_cell BK335.out 2).trans rfl⟩ (fun hHeld => ?_)
            clear hK K
            refine norm_ (a' := ?_) ?_ ?_
            rotate_left
            ·show Act.put _ (some 114) _ = _
             simp only [Act.put, List.setIfInBounds_toArray, List.set_cons_zero, List.set_cons_succ, i64_w, i32_w]
             rfl
            refine pure_ (i := 35) (N := some 115) (v := ?_) (a' := ?_) #[true, true, true, true, true, true, true, true, true, true, true, true, true, true, true, true, true, true, true, true, true, true, true, true, true, true, true, true, true, true, true, true, true, true, true, true, false, false, false, false] rfl rfl (any_of HT_.out (by kernel_rfl)) (fun _ _ _ h => h) (Or.inl ⟨by rfl, ?_⟩) ?_ ?_
            rotate_left
            ·intro w'
             go_simp
             with_reducible rfl
            rotate_left
            ·simp only [Act.put, List.setIfInBounds_toArray, List.set_cons_zero, List.set_cons_succ, i64_w, i32_w]
             rfl
            refine pure_ (i := 36) (N := some 116) (v := ?_) (a' := ?_) #[true, true, true, true, true, true, true, true, true, true, true, true, true, true, true, true, true, true, true, true, true, true, true, true, true, true, true, true, true, true, true, true, true, true, true, true, true, false, false, false] rfl rfl (any_of HT_.out (by kernel_rfl)) (fun _ _ _ h => h) (Or.inl ⟨by rfl, ?_⟩) ?_ ?_
            rotate_left
            ·intro w'
             go_simp
             with_reducible rfl
            rotate_left
            ·simp only [Act.put, List.setIfInBounds_toArray, List.set_cons_zero, List.set_cons_succ, i64_w, i32_w]
             rfl
            refine one_ (i := 37) (N := some 117) #[true, true, true, true, true, true, true, true, true, true, true, true, true, true, true, true, true, true, true, true, true, true, true, true, true, true, true, true, true, true, true, true, true, true, true, true, true, true, false, false] rfl rfl (one_of HT_.out (by kernel_rfl)) (by decide) (fun K hK => ?_)
            refine goes_ Tryd.func13 (by kernel_rfl) rfl #[] (by rfl) rfl rfl ml ?_
            with_reducible refine (postriderlaw07_wakes.calls k  t392 _ ?side1 A32.out).mono ?_
            (case side1 => exact Glob.below HG.out bl)
            rintro e w120 ⟨rfl, hb⟩
            refine ⟨_, rfl, ?_⟩
            have n0_ := Aside0.mk (Kd.R_below (kr HO327.out) hb)
            have n1_ := Aside0.mk (Kd.R_below (kr HO332.out) hb)
            have n2_ := Aside0.mk (Kd.R_below (kr HO348.out) hb)
            have n3_ := Aside0.mk (Kd.R_below (kr HO355.out) hb)
            have n4_ := Aside0.mk (Kd.R_below (kr HO362.out) hb)
            have n5_ := Aside0.mk (Kd.R_below (kr HO369.out) hb)
            have n6_ := Aside0.mk (Kd.R_below (kr HO376.out) hb)
            have n7_ := Aside0.mk (Kd.R_below (kr HO382.out) hb)
            have n8_ := Aside0.mk (Kd.R_below (kr HO388.out) hb)
            have n9_ := Aside0.mk (kb BK323.out hb)
            have n10_ := Aside0.mk (kb BK324.out hb)
            have n11_ := Aside0.mk (kb BK335.out hb)
            have n12_ := Aside0.mk (kb BK340.out hb)
            have n13_ := Aside0.mk (kb BK345.out hb)
            have n14_ := Aside0.mk (kb BK352.out hb)
            have n15_ := Aside0.mk (kb BK359.out hb)
            have n16_ := Aside0.mk (kb BK366.out hb)
            have n17_ := Aside0.mk (kb BK373.out hb)
            have n18_ := Aside0.mk (below_step bl hb)
            clear HO327
            clear HO332
            clear HO348
            clear HO355
            clear HO362
            clear HO369
            clear HO376
            clear HO382
            clear HO388
            clear BK323
            clear BK324
            clear BK335
            clear BK340
            clear BK345
            clear BK352
            clear BK359
            clear BK366
            clear BK373
            clear HB
            have HO327 := n0_
            have HO332 := n1_
            have HO348 := n2_
            have HO355 := n3_
            have HO362 := n4_
            have HO369 := n5_
            have HO376 := n6_
            have HO382 := n7_
            have HO388 := n8_
            have BK323 := n9_
            have BK324 := n10_
            have BK335 := n11_
            have BK340 := n12_
            have BK345 := n13_
            have BK352 := n14_
            have BK359 := n15_
            have BK366 := n16_
            have BK373 := n17_
            have HB := n18_
            clear n0_ n1_ n2_ n3_ n4_ n5_ n6_ n7_ n8_ n9_ n10_ n11_ n12_ n13_ n14_ n15_ n16_ n17_ n18_
            (try clear hb)
            (try clear hb2)
            (try clear hk)
            (try clear hi)
            refine hK.out _ _ ⟨(blk_cell BK340.out 0).trans rfl, (blk_cell BK340.out 1).trans rfl, (blk_cell BK340.out 2).trans rfl, (blk_cell BK345.out 0).trans rfl, (blk_cell BK345.out 1).trans rfl, (blk_cell BK345.out 2).trans rfl, (blk_cell BK352.out 0).trans rfl, (blk_cell BK352.out 1).trans rfl, (blk_cell BK352.out 2).trans rfl, (blk_cell BK359.out 0).trans rfl, (blk_cell BK359.out 1).trans rfl, (blk_cell BK359.out 2).trans rfl, (blk_cell BK366.out 0).trans rfl, (blk_cell BK366.out 1).trans rfl, (blk_cell BK366.out 2).trans rfl, (blk_cell BK373.out 0).trans rfl, (blk_cell BK373.out 1).trans rfl, (blk_cell BK373.out 2).trans rfl, (blk_cell BK323.out 0).trans rfl, (blk_cell BK323.out 1).trans rfl, (blk_cell BK323.out 2).trans rfl, (blk_cell BK335.out 0).trans rfl, (blk_cell BK335.out 1).trans rfl, (blk_cell BK335.out 2).trans rfl⟩ (fun hHeld => ?_)
            clear hK K
            refine norm_ (a' := ?_) ?_ ?_
            rotate_left
            ·show Act.put _ (some 117) _ = _
             simp only [Act.put, List.setIfInBounds_toArray, List.set_cons_zero, List.set_cons_succ, i64_w, i32_w]
             rfl
            refine pure_ (i := 38) (N := some 118) (v := ?_) (a' := ?_) #[true, true, true, true, true, true, true, true, true, true, true, true, true, true, true, true, true, true, true, true, true, true, true, true, true, true, true, true, true, true, true, true, true, true, true, true, true, true, true, false] rfl rfl (any_of HT_.out (by kernel_rfl)) (fun _ _ _ h => h) (Or.inl ⟨by rfl, ?_⟩) ?_ ?_
            rotate_left
            ·intro w'
             go_simp
             with_reducible rfl
            rotate_left
            ·simp only [Act.put, List.setIfInBounds_toArray, List.set_cons_zero, List.set_cons_succ, i64_w, i32_w]
             rfl
            refine pure_ (i := 39) (N := some 4) (v := ?_) (a' := ?_) #[true, true, true, true, true, true, true, true, true, true, true, true, true, true, true, true, true, true, true, true, true, true, true, true, true, true, true, true, true, true, true, true, true, true, true, true, true, true, true, true] rfl rfl (any_of HT_.out (by kernel_rfl)) (fun _ _ _ h => h) (Or.inl ⟨by rfl, ?_⟩) ?_ ?_
            rotate_left
            ·intro w'
             go_simp
             with_reducible rfl
            rotate_left
            ·simp only [Act.put, List.setIfInBounds_toArray, List.set_cons_zero, List.set_cons_succ, i64_w, i32_w]
             rfl
            refine done_ (done_of HT_.out (by kernel_rfl)) ?_
            try go_wp2
            go_ret
            exact ⟨by first | rfl | (simp [bneNil]; done) | (simp [errW_none, errW_some] <;> rfl) | (simp only [← hji5, ← hji9]; first | rfl | (simp [errW_none, errW_some] <;> rfl)) | (simp [*, errW_none, errW_some] <;> rfl), by repeat (first | (with_reducible first | exact HB.out | apply below_alloc | apply pw_below_drewN | apply below_drew1 | refine below_set ?_ GE323.out | refine below_set ?_ GE324.out | refine below_set ?_ GE335.out | refine below_set ?_ GE340.out | refine below_set ?_ GE345.out | refine below_set ?_ GE352.out | refine below_set ?_ GE359.out | refine below_set ?_ GE366.out | refine below_set ?_ GE373.out) | exact HB.out)⟩
           ·replace c31 := Bool.eq_false_iff.mpr c31
            subst c31
            have H1 : (some false) = some r := by rw [if_neg (show ¬ (false = true) by decide)] at H; exact H
            clear H
            have H := H1
            clear H1
            exact absurd ((Option.some.inj H).trans HT_r.out) (by decide)
          ·rw [if_neg c28] at H
           have c28b0 : (t365 == t372) = false := beq_eq_false_iff_ne.mpr c28
           have c28b1 : (t365 != t372) = true := bne_iff_ne.mpr c28
           exact absurd ((Option.some.inj H).trans HT_r.out) (by decide)
         ·replace c27 := Bool.eq_false_iff.mpr c27
          subst c27
          have H1 : (some false) = some r := by rw [if_neg (show ¬ (false = true) by decide)] at H; exact H
          clear H
          have H := H1
          clear H1
          exact absurd ((Option.some.inj H).trans HT_r.out) (by decide)
        ·rw [if_neg c24] at H
         have c24b0 : (t351 == t358) = false := beq_eq_false_iff_ne.mpr c24
         have c24b1 : (t351 != t358) = true := bne_iff_ne.mpr c24
         exact absurd ((Option.some.inj H).trans HT_r.out) (by decide)
       ·replace c23 := Bool.eq_false_iff.mpr c23
        subst c23
        have H1 : (some false) = some r := by rw [if_neg (show ¬ (false = true) by decide)] at H; exact H
        clear H
        have H := H1
        clear H1
        exact absurd ((Option.some.inj H).trans HT_r.out) (by decide)
      ·rw [if_neg c20] at H
       have c20b0 : (t339 == t344) = false := beq_eq_false_iff_ne.mpr c20
       have c20b1 : (t339 != t344) = true := bne_iff_ne.mpr c20
       exact absurd ((Option.some.inj H).trans HT_r.out) (by decide)
     ·rw [if_neg c19] at H
      have c19b0 : (t336.toList == t341.toList && (t337.toList == t342.toList && (t338.toList == t343.toList))) = false := by simpa using c19
      (try (have c19b1 : decide (t336.toList = t341.toList && (t337.toList == t342.toList && (t338.toList == t343.toList))) = false := by simpa using c19))
      (try (have c19b2 : (t336.toList == t341.toList && (t337.toList == t342.toList && (t338.toList == t343.toList))) = false := by simpa using c19))
      (try (have c19b3 : ¬ (t336.toList = t341.toList && (t337.toList == t342.toList && (t338.toList == t343.toList))) := by simpa using c19))
      clear c19
      exact absurd ((Option.some.inj H).trans HT_r.out) (by decide)
    ·rw [if_neg c11] at H
     exact absurd H (by simp)
   ·rw [if_neg c10] at H
    exact absurd H (by simp)
  ·rw [if_neg c7] at H
   exact absurd H (by simp)
 ·rw [if_neg c6] at H
  exact absurd H (by simp)

/-- THE ONE PURE STATEMENT of postriderlaw07_HeadLays: yours. -/
def postriderlaw07_HeadLays.Pure : Prop := ∀ (l0_0 : List (S41)) (a0_1 : ByteArray) (a0_2 : Bool) (a1_0 : ByteArray) (a1_1 : ByteArray) (a1_2 : Int), l0_0.length ≤ maxLen → (∀ y_ ∈ l0_0, (y_.f0.size ≤ maxLen ∧ y_.f1.size ≤ maxLen ∧ y_.f2.size ≤ maxLen)) → a0_1.size ≤ maxLen → a1_0.size ≤ maxLen → a1_1.size ≤ maxLen → (Lit.int .i64 a1_2).wf = true → ∃ k, postriderlaw07_HeadLays.f k l0_0 a0_1 a0_2 a1_0 a1_1 a1_2 = some true
theorem postriderlaw07_HeadLays.walk (P : postriderlaw07_HeadLays.Pure) (A0_0 : Option Addr) (c0_0 : Nat) (l0_0 : List (S41)) (a0_1 : ByteArray) (a0_2 : Bool) (a1_0 : ByteArray) (a1_1 : ByteArray) (a1_2 : Int) (w : World) (hr0_0 : Kd.C k41 w A0_0 l0_0.length l0_0) (hc0_0 : l0_0.length ≤ c0_0) (hm0_0 : l0_0.length ≤ maxLen) (hw0_0 : ∀ y_ ∈ l0_0, (y_.f0.size ≤ maxLen ∧ y_.f1.size ≤ maxLen ∧ y_.f2.size ≤ maxLen)) (w0_1 : a0_1.size ≤ maxLen) (w1_0 : a1_0.size ≤ maxLen) (w1_1 : a1_1.size ≤ maxLen) (w1_2 : (Lit.int .i64 a1_2).wf = true) (hG : Glob w) :
  Calls Tryd.prog 6 #[.agg #[.slice A0_0 l0_0.length c0_0, .string a0_1, .bool a0_2], .agg #[.string a1_0, .string a1_1, .int .i64 a1_2]] w fun e w' => e = .returned (.bool true) ∧ Below w.heap.size w w' := by
 obtain ⟨k, h⟩ := P l0_0 a0_1 a0_2 a1_0 a1_1 a1_2 hm0_0 hw0_0 w0_1 w1_0 w1_1 w1_2
 refine (postriderlaw07_HeadLays.calls k _ _ l0_0 a0_1 a0_2 a1_0 a1_1 a1_2 true w hr0_0 hc0_0 hG rfl h).mono ?_
 rintro e w' ⟨rfl, hd⟩
 exact ⟨rfl, hd⟩

end Go.Proofs.YtdciiahlakgikaaDoor.Q
