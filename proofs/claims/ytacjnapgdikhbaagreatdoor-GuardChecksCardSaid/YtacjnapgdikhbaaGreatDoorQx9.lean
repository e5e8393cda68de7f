/- Walks of functions. -/
import Derived.Test.YtacjnapgdikhbaaGreatDoorQx0
set_option linter.unusedSimpArgs false
set_option linter.unusedVariables false
open Go.RowKit Go.Proofs.YtacjnapgdikhbaaGreatDoorW.PrintWords Go.Proofs.YtacjnapgdikhbaaGreatDoorW.PrintLast Go.Proofs.YtacjnapgdikhbaaGreatDoorW.PrintMore
set_option maxHeartbeats 8000000
set_option maxRecDepth 100000
attribute [local go_sem] max2_int min2_int max_two min_two max_three min_three max_four min_four
section
namespace Go.Proofs.YtacjnapgdikhbaaGreatDoor.Q

/-! ### addr_local: function 79 -/
def addr_local.f (k : Nat) (a0 : ByteArray) : Option (ByteArray × ByteArray × Bool) := (strings_HasPrefix.f a0 (⟨#[34]⟩ : ByteArray)).bind fun t149 => (if t149 = true then ((text_Quoted.f k a0).bind fun bt150 => (if 0 ≤ bt150.2.1 then (if bt150.2.1 ≤ (a0.size : Int) then (if bt150.2.2 = 0 then (some (bt150.1, a0.extract (bt150.2.1 : Int).toNat a0.size, (bt150.1.toList != ([] : List UInt8)))) else (some (bt150.1, a0.extract (bt150.2.1 : Int).toNat a0.size, false))) else (none)) else (none))) else ((strings_IndexByte.f a0 64).bind fun t153 => (if 0 ≤ (mx t153 0) then (if (mx t153 0) ≤ (a0.size : Int) then ((text_DotAtom.f k (a0.extract 0 ((mx t153 0) : Int).toNat)).bind fun t154 => (some (a0.extract 0 ((mx t153 0) : Int).toNat, a0.extract ((mx t153 0) : Int).toNat a0.size, t154))) else (none)) else (none))))
theorem addr_local.mono : ∀ a0 k, LeO (addr_local.f k a0) (addr_local.f (k + 1) a0) := by
 intro a0 k
 unfold addr_local.f
 repeat' first
   | (with_reducible first | exact text_DotAtom.mono _ _ | exact text_Quoted.mono _ _ | exact LeO.refl _ | exact LeO.none _ | refine LeO.ite ?_ ?_ | refine LeO.bind ?_ (fun _ => ?_))
def addr_local.T3 : Bool × List (List Nat × List Nat) := (true, [([], []), ([], []), ([], []), ([1, 2], [1, 2]), ([], []), ([4], [4]), ([5], [5]), ([6], [6]), ([7, 6], [6, 7]), ([6, 8], [6, 8]), ([0, 6, 0], [0]), ([3, 10, 0, 1, 2, 3, 10], [3]), ([9, 11, 0, 1, 2, 3, 4, 5, 6, 7, 8, 9, 10, 11], [9])])
def addr_local.B3 : List Nat := [0, 0, 0, 6, 0, 16, 48, 112, 240, 496, 113, 1151, 4095]
theorem addr_local.tab3 : rtab .any (opsOf Tryz.f79 3) = addr_local.T3 := by kernel_rfl
theorem addr_local.bits3 : waitsOk addr_local.T3.2 addr_local.B3 = true := by kernel_rfl
def addr_local.T5 : Bool × List (List Nat × List Nat) := (true, [([], []), ([], []), ([0, 1], [0, 1]), ([], []), ([], []), ([3, 4], [3, 4]), ([], []), ([], []), ([6, 7], [6, 7]), ([8], [8]), ([2, 9, 0, 1, 2], [2]), ([5, 10, 0, 1, 2, 3, 4, 5, 10], [5]), ([9, 11, 0, 1, 2, 3, 4, 5, 6, 7, 8, 9, 10, 11], [9])])
def addr_local.B5 : List Nat := [0, 0, 3, 0, 0, 24, 0, 0, 192, 448, 967, 2047, 4095]
theorem addr_local.tab5 : rtab .any (opsOf Tryz.f79 5) = addr_local.T5 := by kernel_rfl
theorem addr_local.bits5 : waitsOk addr_local.T5.2 addr_local.B5 = true := by kernel_rfl
theorem addr_local.calls (k : Nat) (a0 : ByteArray) (r1 : ByteArray) (r2 : ByteArray) (r3 : Bool) (w : World) (hG : Glob w) (h : addr_local.f k a0 = some (r1, r2, r3)) :
  Calls Tryz.prog 79 #[.string a0] w fun e w' => e = .returned (.tuple #[.string r1, .string r2, .bool r3]) ∧ Below w.heap.size w w' := by
 have HB := Aside0.mk (Below.refl w.heap.size w)
 have HG := Aside0.mk hG
 clear hG
 have H : ((strings_HasPrefix.f a0 (⟨#[34]⟩ : ByteArray)).bind fun t149 => (if t149 = true then ((text_Quoted.f k a0).bind fun bt150 => (if 0 ≤ bt150.2.1 then (if bt150.2.1 ≤ (a0.size : Int) then (if bt150.2.2 = 0 then (some (bt150.1, a0.extract (bt150.2.1 : Int).toNat a0.size, (bt150.1.toList != ([] : List UInt8)))) else (some (bt150.1, a0.extract (bt150.2.1 : Int).toNat a0.size, false))) else (none)) else (none))) else ((strings_IndexByte.f a0 64).bind fun t153 => (if 0 ≤ (mx t153 0) then (if (mx t153 0) ≤ (a0.size : Int) then ((text_DotAtom.f k (a0.extract 0 ((mx t153 0) : Int).toNat)).bind fun t154 => (some (a0.extract 0 ((mx t153 0) : Int).toNat, a0.extract ((mx t153 0) : Int).toNat a0.size, t154))) else (none)) else (none))))) = some (r1, r2, r3) := h
 clear h
 obtain ⟨t149, A20, H⟩ := Option.bind_eq_some_iff.mp H
 replace H : (if t149 = true then ((text_Quoted.f k a0).bind fun bt150 => (if 0 ≤ bt150.2.1 then (if bt150.2.1 ≤ (a0.size : Int) then (if bt150.2.2 = 0 then (some (bt150.1, a0.extract (bt150.2.1 : Int).toNat a0.size, (bt150.1.toList != ([] : List UInt8)))) else (some (bt150.1, a0.extract (bt150.2.1 : Int).toNat a0.size, false))) else (none)) else (none))) else ((strings_IndexByte.f a0 64).bind fun t153 => (if 0 ≤ (mx t153 0) then (if (mx t153 0) ≤ (a0.size : Int) then ((text_DotAtom.f k (a0.extract 0 ((mx t153 0) : Int).toNat)).bind fun t154 => (some (a0.extract 0 ((mx t153 0) : Int).toNat, a0.extract ((mx t153 0) : Int).toNat a0.size, t154))) else (none)) else (none)))) = some (r1, r2, r3) := H
 have A2 := Aside0.mk A20
 clear A20
 by_cases c3 : t149 = true
 ·subst c3
  replace H : ((text_Quoted.f k a0).bind fun bt150 => (if 0 ≤ bt150.2.1 then (if bt150.2.1 ≤ (a0.size : Int) then (if bt150.2.2 = 0 then (some (bt150.1, a0.extract (bt150.2.1 : Int).toNat a0.size, (bt150.1.toList != ([] : List UInt8)))) else (some (bt150.1, a0.extract (bt150.2.1 : Int).toNat a0.size, false))) else (none)) else (none))) = some (r1, r2, r3) := by rw [if_pos rfl] at H; exact H
  obtain ⟨⟨t150, t151, t152⟩, A40, H⟩ := Option.bind_eq_some_iff.mp H
  replace H : (if 0 ≤ t151 then (if t151 ≤ (a0.size : Int) then (if t152 = 0 then (some (t150, a0.extract (t151 : Int).toNat a0.size, (t150.toList != ([] : List UInt8)))) else (some (t150, a0.extract (t151 : Int).toNat a0.size, false))) else (none)) else (none)) = some (r1, r2, r3) := H
  have A4 := Aside0.mk A40
  clear A40
  by_cases c5 : 0 ≤ t151
  rotate_left
  ·rw [if_neg c5] at H
   exact ab H
  rw [if_pos c5] at H
  have c5b0 := eq_true c5
  have c5b1 : decide (0 ≤ t151) = true := decide_eq_true c5
  clear c5
  by_cases c6 : t151 ≤ (a0.size : Int)
  rotate_left
  ·rw [if_neg c6] at H
   exact ab H
  rw [if_pos c6] at H
  have c6b0 := eq_true c6
  have c6b1 : decide (t151 ≤ (a0.size : Int)) = true := decide_eq_true c6
  clear c6
  by_cases c7 : t152 = 0
  ·rw [if_pos c7] at H
   have c7b0 : (t152 == 0) = true := beq_iff_eq.mpr c7
   have c7b1 : (t152 != 0) = false := bne_eq_false_iff_eq.mpr c7
   clear c7
   simp only [Option.some.injEq, Prod.mk.injEq] at H
   obtain ⟨rfl, rfl, rfl⟩ := H
   go_enter Tryz.func79, Tryz.ntmps79
   try go_wp2_with (first | ((with_reducible refine gate_callee (f := 26) rfl ?_); refine goesL_ (some 10) rfl rfl Tryz.func26 kf rfl #[.string a0, .string (⟨#[34]⟩ : ByteArray)] rfl ml ?_; (with_reducible refine (strings_HasPrefix.calls a0 (⟨#[34]⟩ : ByteArray) true _ A2.out).mono ?_); rintro e w' ⟨rfl, ⟨nd, rfl⟩⟩; refine ⟨_, rfl, ?_⟩) | ((with_reducible refine gate_callee (f := 127) rfl ?_); refine goesL_ (some 13) rfl rfl Tryz.func127 kf rfl #[.string a0] rfl ml ?_; (with_reducible refine (text_Quoted.calls k a0 t150 t151 t152 _ A4.out).mono ?_); rintro e w8 ⟨rfl, hb⟩; refine ⟨_, rfl, ?_⟩; replace HB := Aside0.mk (below_step bl hb); (try clear hb); (try clear hb2); (try clear hk); (try clear hi)))
   replace HB := Aside0.mk (below_drew1 HB.out)
   refine start_ (n := 13) (S := fun w' => True) (ds := []) #[false, false, false, false, false, false, false, false, false, false, false, false, false] kf rfl rfl trivial (fun hHeld => ?_); refine with_tabW addr_local.tab3 addr_local.bits3 (fun HT_ HW_ => ?_)
   generalize w8.drew = w9 at HB hHeld ⊢
   refine pure_ (i := 0) (N := some 17) (v := ?_) (a' := ?_) #[true, false, false, false, false, false, false, false, false, false, false, false, false] rfl rfl (any_of HT_.out kf) (fun _ _ _ h => h) (Or.inl ⟨by rfl, ?_⟩) ?_ ?_
   rotate_left
   ·intro w'
    go_simp
    with_reducible rfl
   rotate_left
   ·simp only [Act.put, sA, sB, sC, i64_w, i32_w]
    rfl
   refine pure_ (i := 1) (N := some 18) (v := ?_) (a' := ?_) #[true, true, false, false, false, false, false, false, false, false, false, false, false] rfl rfl (any_of HT_.out kf) (fun _ _ _ h => h) (Or.inl ⟨by rfl, ?_⟩) ?_ ?_
   rotate_left
   ·intro w'
    go_simp
    with_reducible rfl
   rotate_left
   ·simp only [Act.put, sA, sB, sC, i64_w, i32_w]
    rfl
   refine pure_ (i := 2) (N := some 19) (v := ?_) (a' := ?_) #[true, true, true, false, false, false, false, false, false, false, false, false, false] rfl rfl (any_of HT_.out kf) (fun _ _ _ h => h) (Or.inl ⟨by rfl, ?_⟩) ?_ ?_
   rotate_left
   ·intro w'
    go_simp
    with_reducible rfl
   rotate_left
   ·simp only [Act.put, sA, sB, sC, i64_w, i32_w]
    rfl
   refine pure_ (i := 3) (N := some 20) (v := ?_) (a' := ?_) #[true, true, true, true, false, false, false, false, false, false, false, false, false] rfl rfl (any_of HT_.out kf) (fun _ _ _ h => h) (Or.inl ⟨by rfl, ?_⟩) ?_ ?_
   rotate_left
   ·intro w'
    go_simp
    with_reducible rfl
   rotate_left
   ·simp only [Act.put, sA, sB, sC, i64_w, i32_w]
    rfl
   refine pure_ (i := 4) (N := some 21) (v := ?_) (a' := ?_) #[true, true, true, true, true, false, false, false, false, false, false, false, false] rfl rfl (any_of HT_.out kf) (fun _ _ _ h => h) (Or.inl ⟨by rfl, ?_⟩) ?_ ?_
   rotate_left
   ·intro w'
    go_simp
    with_reducible rfl
   rotate_left
   ·simp only [Act.put, sA, sB, sC, i64_w, i32_w]
    rfl
   refine pure_ (i := 5) (N := some 22) (v := ?_) (a' := ?_) #[true, true, true, true, true, true, false, false, false, false, false, false, false] rfl rfl (any_of HT_.out kf) (fun _ _ _ h => h) (Or.inl ⟨by rfl, ?_⟩) ?_ ?_
   rotate_left
   ·intro w'
    go_simp
    with_reducible rfl
   rotate_left
   ·simp only [Act.put, sA, sB, sC, i64_w, i32_w]
    rfl
   refine pure_ (i := 6) (N := some 23) (v := ?_) (a' := ?_) #[true, true, true, true, true, true, true, false, false, false, false, false, false] rfl rfl (any_of HT_.out kf) (fun _ _ _ h => h) (Or.inl ⟨by rfl, ?_⟩) ?_ ?_
   rotate_left
   ·intro w'
    go_simp
    with_reducible rfl
   rotate_left
   ·simp only [Act.put, sA, sB, sC, i64_w, i32_w]
    rfl
   refine pure_ (i := 7) (N := some 24) (v := ?_) (a' := ?_) #[true, true, true, true, true, true, true, true, false, false, false, false, false] rfl rfl (any_of HT_.out kf) (fun _ _ _ h => h) (Or.inl ⟨by rfl, ?_⟩) ?_ ?_
   rotate_left
   ·intro w'
    go_simp
    with_reducible rfl
   rotate_left
   ·simp only [Act.put, sA, sB, sC, i64_w, i32_w]
    rfl
   refine pure_ (i := 8) (N := some 25) (v := ?_) (a' := ?_) #[true, true, true, true, true, true, true, true, true, false, false, false, false] rfl rfl (any_of HT_.out kf) (fun _ _ _ h => h) (Or.inl ⟨by rfl, ?_⟩) ?_ ?_
   rotate_left
   ·intro w'
    go_simp
    with_reducible rfl
   rotate_left
   ·simp only [Act.put, sA, sB, sC, i64_w, i32_w]
    rfl
   refine pure_ (i := 9) (N := some 26) (v := ?_) (a' := ?_) #[true, true, true, true, true, true, true, true, true, true, false, false, false] rfl rfl (any_of HT_.out kf) (fun _ _ _ h => h) (Or.inl ⟨by rfl, ?_⟩) ?_ ?_
   rotate_left
   ·intro w'
    go_simp
    with_reducible rfl
   rotate_left
   ·simp only [Act.put, sA, sB, sC, i64_w, i32_w]
    rfl
   refine pure_ (i := 10) (N := some 2) (v := ?_) (a' := ?_) #[true, true, true, true, true, true, true, true, true, true, true, false, false] rfl rfl (any_of HT_.out kf) (fun _ _ _ h => h) (Or.inl ⟨by rfl, ?_⟩) ?_ ?_
   rotate_left
   ·intro w'
    go_simp
    with_reducible rfl
   rotate_left
   ·simp only [Act.put, sA, sB, sC, i64_w, i32_w]
    rfl
   refine pure_ (i := 11) (N := some 3) (v := ?_) (a' := ?_) #[true, true, true, true, true, true, true, true, true, true, true, true, false] rfl rfl (any_of HT_.out kf) (fun _ _ _ h => h) (Or.inl ⟨by rfl, ?_⟩) ?_ ?_
   rotate_left
   ·intro w'
    go_simp
    with_reducible rfl
   rotate_left
   ·simp only [Act.put, sA, sB, sC, i64_w, i32_w]
    rfl
   refine pure_ (i := 12) (N := some 4) (v := ?_) (a' := ?_) #[true, true, true, true, true, true, true, true, true, true, true, true, true] rfl rfl (any_of HT_.out kf) (fun _ _ _ h => h) (Or.inl ⟨by rfl, ?_⟩) ?_ ?_
   rotate_left
   ·intro w'
    go_simp
    with_reducible rfl
   rotate_left
   ·simp only [Act.put, sA, sB, sC, i64_w, i32_w]
    rfl
   refine done_ (done_of HT_.out kf) ?_
   try go_wp2
   go_ret3
   exact ⟨rf, bl⟩
  ·rw [if_neg c7] at H
   have c7b0 : (t152 == 0) = false := beq_eq_false_iff_ne.mpr c7
   have c7b1 : (t152 != 0) = true := bne_iff_ne.mpr c7
   simp only [Option.some.injEq, Prod.mk.injEq] at H
   obtain ⟨rfl, rfl, rfl⟩ := H
   go_enter Tryz.func79, Tryz.ntmps79
   try go_wp2_with (first | ((with_reducible refine gate_callee (f := 26) rfl ?_); refine goesL_ (some 10) rfl rfl Tryz.func26 kf rfl #[.string a0, .string (⟨#[34]⟩ : ByteArray)] rfl ml ?_; (with_reducible refine (strings_HasPrefix.calls a0 (⟨#[34]⟩ : ByteArray) true _ A2.out).mono ?_); rintro e w' ⟨rfl, ⟨nd, rfl⟩⟩; refine ⟨_, rfl, ?_⟩) | ((with_reducible refine gate_callee (f := 127) rfl ?_); refine goesL_ (some 13) rfl rfl Tryz.func127 kf rfl #[.string a0] rfl ml ?_; (with_reducible refine (text_Quoted.calls k a0 t150 t151 t152 _ A4.out).mono ?_); rintro e w10 ⟨rfl, hb⟩; refine ⟨_, rfl, ?_⟩; replace HB := Aside0.mk (below_step bl hb); (try clear hb); (try clear hb2); (try clear hk); (try clear hi)))
   replace HB := Aside0.mk (below_drew1 HB.out)
   refine start_ (n := 13) (S := fun w' => True) (ds := []) #[false, false, false, false, false, false, false, false, false, false, false, false, false] kf rfl rfl trivial (fun hHeld => ?_); refine with_tabW addr_local.tab3 addr_local.bits3 (fun HT_ HW_ => ?_)
   generalize w10.drew = w11 at HB hHeld ⊢
   refine pure_ (i := 0) (N := some 17) (v := ?_) (a' := ?_) #[true, false, false, false, false, false, false, false, false, false, false, false, false] rfl rfl (any_of HT_.out kf) (fun _ _ _ h => h) (Or.inl ⟨by rfl, ?_⟩) ?_ ?_
   rotate_left
   ·intro w'
    go_simp
    with_reducible rfl
   rotate_left
   ·simp only [Act.put, sA, sB, sC, i64_w, i32_w]
    rfl
   refine pure_ (i := 1) (N := some 18) (v := ?_) (a' := ?_) #[true, true, false, false, false, false, false, false, false, false, false, false, false] rfl rfl (any_of HT_.out kf) (fun _ _ _ h => h) (Or.inl ⟨by rfl, ?_⟩) ?_ ?_
   rotate_left
   ·intro w'
    go_simp
    with_reducible rfl
   rotate_left
   ·simp only [Act.put, sA, sB, sC, i64_w, i32_w]
    rfl
   refine pure_ (i := 2) (N := some 19) (v := ?_) (a' := ?_) #[true, true, true, false, false, false, false, false, false, false, false, false, false] rfl rfl (any_of HT_.out kf) (fun _ _ _ h => h) (Or.inl ⟨by rfl, ?_⟩) ?_ ?_
   rotate_left
   ·intro w'
    go_simp
    with_reducible rfl
   rotate_left
   ·simp only [Act.put, sA, sB, sC, i64_w, i32_w]
    rfl
   refine pure_ (i := 3) (N := some 20) (v := ?_) (a' := ?_) #[true, true, true, true, false, false, false, false, false, false, false, false, false] rfl rfl (any_of HT_.out kf) (fun _ _ _ h => h) (Or.inl ⟨by rfl, ?_⟩) ?_ ?_
   rotate_left
   ·intro w'
    go_simp
    with_reducible rfl
   rotate_left
   ·simp only [Act.put, sA, sB, sC, i64_w, i32_w]
    rfl
   refine pure_ (i := 4) (N := some 21) (v := ?_) (a' := ?_) #[true, true, true, true, true, false, false, false, false, false, false, false, false] rfl rfl (any_of HT_.out kf) (fun _ _ _ h => h) (Or.inl ⟨by rfl, ?_⟩) ?_ ?_
   rotate_left
   ·intro w'
    go_simp
    with_reducible rfl
   rotate_left
   ·simp only [Act.put, sA, sB, sC, i64_w, i32_w]
    rfl
   refine pure_ (i := 5) (N := some 22) (v := ?_) (a' := ?_) #[true, true, true, true, true, true, false, false, false, false, false, false, false] rfl rfl (any_of HT_.out kf) (fun _ _ _ h => h) (Or.inl ⟨by rfl, ?_⟩) ?_ ?_
   rotate_left
   ·intro w'
    go_simp
    with_reducible rfl
   rotate_left
   ·simp only [Act.put, sA, sB, sC, i64_w, i32_w]
    rfl
   refine pure_ (i := 6) (N := some 23) (v := ?_) (a' := ?_) #[true, true, true, true, true, true, true, false, false, false, false, false, false] rfl rfl (any_of HT_.out kf) (fun _ _ _ h => h) (Or.inl ⟨by rfl, ?_⟩) ?_ ?_
   rotate_left
   ·intro w'
    go_simp
    with_reducible rfl
   rotate_left
   ·simp only [Act.put, sA, sB, sC, i64_w, i32_w]
    rfl
   refine pure_ (i := 7) (N := some 24) (v := undef) (a' := ?_) #[true, true, true, true, true, true, true, true, false, false, false, false, false] rfl rfl (any_of HT_.out kf) (fun _ _ _ h => h) (Or.inr ⟨by rfl, rfl⟩) ?_ ?_
   rotate_left
   ·simp only [Act.put, sA, sB, sC, i64_w, i32_w]
    rfl
   refine pure_ (i := 8) (N := some 25) (v := undef) (a' := ?_) #[true, true, true, true, true, true, true, true, true, false, false, false, false] rfl rfl (any_of HT_.out kf) (fun _ _ _ h => h) (Or.inr ⟨by rfl, rfl⟩) ?_ ?_
   rotate_left
   ·simp only [Act.put, sA, sB, sC, i64_w, i32_w]
    rfl
   refine pure_ (i := 9) (N := some 26) (v := ?_) (a' := ?_) #[true, true, true, true, true, true, true, true, true, true, false, false, false] rfl rfl (any_of HT_.out kf) (fun _ _ _ h => h) (Or.inl ⟨by rfl, ?_⟩) ?_ ?_
   rotate_left
   ·intro w'
    go_simp
    with_reducible rfl
   rotate_left
   ·simp only [Act.put, sA, sB, sC, i64_w, i32_w]
    rfl
   refine pure_ (i := 10) (N := some 2) (v := ?_) (a' := ?_) #[true, true, true, true, true, true, true, true, true, true, true, false, false] rfl rfl (any_of HT_.out kf) (fun _ _ _ h => h) (Or.inl ⟨by rfl, ?_⟩) ?_ ?_
   rotate_left
   ·intro w'
    go_simp
    with_reducible rfl
   rotate_left
   ·simp only [Act.put, sA, sB, sC, i64_w, i32_w]
    rfl
   refine pure_ (i := 11) (N := some 3) (v := ?_) (a' := ?_) #[true, true, true, true, true, true, true, true, true, true, true, true, false] rfl rfl (any_of HT_.out kf) (fun _ _ _ h => h) (Or.inl ⟨by rfl, ?_⟩) ?_ ?_
   rotate_left
   ·intro w'
    go_simp
    with_reducible rfl
   rotate_left
   ·simp only [Act.put, sA, sB, sC, i64_w, i32_w]
    rfl
   refine pure_ (i := 12) (N := some 4) (v := ?_) (a' := ?_) #[true, true, true, true, true, true, true, true, true, true, true, true, true] rfl rfl (any_of HT_.out kf) (fun _ _ _ h => h) (Or.inl ⟨by rfl, ?_⟩) ?_ ?_
   rotate_left
   ·intro w'
    go_simp
    with_reducible rfl
   rotate_left
   ·simp only [Act.put, sA, sB, sC, i64_w, i32_w]
    rfl
   refine done_ (done_of HT_.out kf) ?_
   try go_wp2
   go_ret3
   exact ⟨rf, bl⟩
 ·replace c3 := Bool.eq_false_iff.mpr c3
  subst c3
  replace H : ((strings_IndexByte.f a0 64).bind fun t153 => (if 0 ≤ (mx t153 0) then (if (mx t153 0) ≤ (a0.size : Int) then ((text_DotAtom.f k (a0.extract 0 ((mx t153 0) : Int).toNat)).bind fun t154 => (some (a0.extract 0 ((mx t153 0) : Int).toNat, a0.extract ((mx t153 0) : Int).toNat a0.size, t154))) else (none)) else (none))) = some (r1, r2, r3) := by rw [if_neg (show ¬ (false = true) by decide)] at H; exact H
  obtain ⟨t153, A120, H⟩ := Option.bind_eq_some_iff.mp H
  replace H : (if 0 ≤ (mx t153 0) then (if (mx t153 0) ≤ (a0.size : Int) then ((text_DotAtom.f k (a0.extract 0 ((mx t153 0) : Int).toNat)).bind fun t154 => (some (a0.extract 0 ((mx t153 0) : Int).toNat, a0.extract ((mx t153 0) : Int).toNat a0.size, t154))) else (none)) else (none)) = some (r1, r2, r3) := H
  have A12 := Aside0.mk A120
  clear A120
  obtain ⟨ji13, hji13⟩ : ∃ j_ : Int, (mx t153 0) = j_ := ⟨_, rfl⟩
  replace H : (if 0 ≤ (ji13) then (if (ji13) ≤ (a0.size : Int) then ((text_DotAtom.f k (a0.extract 0 ((ji13) : Int).toNat)).bind fun t154 => (some (a0.extract 0 ((ji13) : Int).toNat, a0.extract ((ji13) : Int).toNat a0.size, t154))) else (none)) else (none)) = some (r1, r2, r3) := by first | (rw [hji13] at H; exact H) | (simp only [hji13] at H ⊢; exact H)
  (try rw [hji13] at A2)
  (try rw [hji13] at A12)
  (try (have hji13l : 0 ≤ ji13 := by (rw [← hji13]; unfold mx; (repeat' split) <;> omega)))
  (try (have hji13m : 0 ≤ ji13 := by omega))
  have hji13_ : (if t153 < 0 then 0 else t153) = ji13 := hji13
  by_cases c14 : 0 ≤ (ji13)
  rotate_left
  ·rw [if_neg c14] at H
   exact ab H
  rw [if_pos c14] at H
  have c14b0 := eq_true c14
  have c14b1 : decide (0 ≤ (ji13)) = true := decide_eq_true c14
  clear c14
  by_cases c15 : (ji13) ≤ (a0.size : Int)
  rotate_left
  ·rw [if_neg c15] at H
   exact ab H
  rw [if_pos c15] at H
  have c15b0 := eq_true c15
  have c15b1 : decide ((ji13) ≤ (a0.size : Int)) = true := decide_eq_true c15
  clear c15
  have c16b0 := eq_true (od : 0 ≤ (ji13))
  have c17b0 := eq_true (od : (ji13) ≤ (a0.size : Int))
  have c18b0 := eq_true (od : 0 ≤ (ji13))
  have c19b0 := eq_true (od : (ji13) ≤ (a0.size : Int))
  obtain ⟨t154, A200, H⟩ := Option.bind_eq_some_iff.mp H
  replace H : (some (a0.extract 0 ((ji13) : Int).toNat, a0.extract ((ji13) : Int).toNat a0.size, t154)) = some (r1, r2, r3) := H
  have A20 := Aside0.mk A200
  clear A200
  simp only [Option.some.injEq, Prod.mk.injEq] at H
  obtain ⟨rfl, rfl, rfl⟩ := H
  go_enter Tryz.func79, Tryz.ntmps79
  try go_wp2_with (first | ((with_reducible refine gate_callee (f := 26) rfl ?_); refine goesL_ (some 10) rfl rfl Tryz.func26 kf rfl #[.string a0, .string (⟨#[34]⟩ : ByteArray)] rfl ml ?_; (with_reducible refine (strings_HasPrefix.calls a0 (⟨#[34]⟩ : ByteArray) false _ A2.out).mono ?_); rintro e w' ⟨rfl, ⟨nd, rfl⟩⟩; refine ⟨_, rfl, ?_⟩) | ((with_reducible refine gate_callee (f := 128) rfl ?_); refine goesL_ (some 28) rfl rfl Tryz.func128 kf rfl #[.string a0, .int .u8 64] rfl ml ?_; (with_reducible refine (strings_IndexByte.calls a0 64 t153 _ A12.out).mono ?_); rintro e w' ⟨rfl, ⟨nd, rfl⟩⟩; refine ⟨_, rfl, ?_⟩))
  rename_i nd1_ h1_ K1_ a1_
  replace HB := Aside0.mk (below_drew1 (pw_below_drewN HB.out (nd1_ + nd)))
  refine start_ (n := 13) (S := fun w' => True) (ds := []) #[false, false, false, false, false, false, false, false, false, false, false, false, false] kf rfl rfl trivial (fun hHeld => ?_); refine with_tabW addr_local.tab5 addr_local.bits5 (fun HT_ HW_ => ?_)
  generalize (w.drewN (nd1_ + nd)).drew = w21 at HB hHeld ⊢
  refine pure_ (i := 0) (N := some 30) (v := ?_) (a' := ?_) #[true, false, false, false, false, false, false, false, false, false, false, false, false] rfl rfl (any_of HT_.out kf) (fun _ _ _ h => h) (Or.inl ⟨by rfl, ?_⟩) ?_ ?_
  rotate_left
  ·intro w'
   go_simp
   with_reducible rfl
  rotate_left
  ·simp only [Act.put, sA, sB, sC, i64_w, i32_w]
   rfl
  refine pure_ (i := 1) (N := some 31) (v := ?_) (a' := ?_) #[true, true, false, false, false, false, false, false, false, false, false, false, false] rfl rfl (any_of HT_.out kf) (fun _ _ _ h => h) (Or.inl ⟨by rfl, ?_⟩) ?_ ?_
  rotate_left
  ·intro w'
   go_simp
   with_reducible rfl
  rotate_left
  ·simp only [Act.put, sA, sB, sC, i64_w, i32_w]
   rfl
  refine pure_ (i := 2) (N := some 32) (v := ?_) (a' := ?_) #[true, true, true, false, false, false, false, false, false, false, false, false, false] rfl rfl (any_of HT_.out kf) (fun _ _ _ h => h) (Or.inl ⟨by rfl, ?_⟩) ?_ ?_
  rotate_left
  ·intro w'
   go_simp
   with_reducible rfl
  rotate_left
  ·simp only [Act.put, sA, sB, sC, i64_w, i32_w]
   rfl
  refine pure_ (i := 3) (N := some 33) (v := ?_) (a' := ?_) #[true, true, true, true, false, false, false, false, false, false, false, false, false] rfl rfl (any_of HT_.out kf) (fun _ _ _ h => h) (Or.inl ⟨by rfl, ?_⟩) ?_ ?_
  rotate_left
  ·intro w'
   go_simp
   with_reducible rfl
  rotate_left
  ·simp only [Act.put, sA, sB, sC, i64_w, i32_w]
   rfl
  refine pure_ (i := 4) (N := some 34) (v := ?_) (a' := ?_) #[true, true, true, true, true, false, false, false, false, false, false, false, false] rfl rfl (any_of HT_.out kf) (fun _ _ _ h => h) (Or.inl ⟨by rfl, ?_⟩) ?_ ?_
  rotate_left
  ·intro w'
   go_simp
   with_reducible rfl
  rotate_left
  ·simp only [Act.put, sA, sB, sC, i64_w, i32_w]
   rfl
  refine pure_ (i := 5) (N := some 35) (v := ?_) (a' := ?_) #[true, true, true, true, true, true, false, false, false, false, false, false, false] rfl rfl (any_of HT_.out kf) (fun _ _ _ h => h) (Or.inl ⟨by rfl, ?_⟩) ?_ ?_
  rotate_left
  ·intro w'
   go_simp
   with_reducible rfl
  rotate_left
  ·simp only [Act.put, sA, sB, sC, i64_w, i32_w]
   rfl
  refine pure_ (i := 6) (N := some 36) (v := ?_) (a' := ?_) #[true, true, true, true, true, true, true, false, false, false, false, false, false] rfl rfl (any_of HT_.out kf) (fun _ _ _ h => h) (Or.inl ⟨by rfl, ?_⟩) ?_ ?_
  rotate_left
  ·intro w'
   go_simp
   with_reducible rfl
  rotate_left
  ·simp only [Act.put, sA, sB, sC, i64_w, i32_w]
   rfl
  refine pure_ (i := 7) (N := some 37) (v := ?_) (a' := ?_) #[true, true, true, true, true, true, true, true, false, false, false, false, false] rfl rfl (any_of HT_.out kf) (fun _ _ _ h => h) (Or.inl ⟨by rfl, ?_⟩) ?_ ?_
  rotate_left
  ·intro w'
   go_simp
   with_reducible rfl
  rotate_left
  ·simp only [Act.put, sA, sB, sC, i64_w, i32_w]
   rfl
  refine pure_ (i := 8) (N := some 38) (v := ?_) (a' := ?_) #[true, true, true, true, true, true, true, true, true, false, false, false, false] rfl rfl (any_of HT_.out kf) (fun _ _ _ h => h) (Or.inl ⟨by rfl, ?_⟩) ?_ ?_
  rotate_left
  ·intro w'
   go_simp
   with_reducible rfl
  rotate_left
  ·simp only [Act.put, sA, sB, sC, i64_w, i32_w]
   rfl
  refine one_ (i := 9) (N := some 39) #[true, true, true, true, true, true, true, true, true, true, false, false, false] rfl rfl (one_of HT_.out kf) (by decide) (fun K hK => ?_)
  refine goes_ Tryz.func103 kf rfl #[.string (a0.extract 0 ((ji13) : Int).toNat)] (by rfl) rfl rfl (by (try simp only [List.map_toArray, List.map_cons, List.map_nil]); first | done | (simp only [hji13]; rfl) | rfl | (simp only [List.length_drop, List.length_take]; rfl)) ?_
  with_reducible refine (text_DotAtom.calls k (a0.extract 0 ((ji13) : Int).toNat) t154 _ ?side1 A20.out).mono ?_
  (case side1 => exact Glob.below HG.out bl)
  rintro e w22 ⟨rfl, hb⟩
  refine ⟨_, rfl, ?_⟩
  replace HB := Aside0.mk (below_step bl hb)
  (try clear hb)
  (try clear hb2)
  (try clear hk)
  (try clear hi)
  refine hK.out _ _ trivial (fun hHeld => ?_)
  clear hK K
  refine norm_ (a' := ?_) ?_ ?_
  rotate_left
  ·show Act.put _ (some 39) _ = _
   simp only [Act.put, sA, sB, sC, i64_w, i32_w]
   rfl
  refine pure_ (i := 10) (N := some 2) (v := ?_) (a' := ?_) #[true, true, true, true, true, true, true, true, true, true, true, false, false] rfl rfl (any_of HT_.out kf) (fun _ _ _ h => h) (Or.inl ⟨by rfl, ?_⟩) ?_ ?_
  rotate_left
  ·intro w'
   go_simp
   with_reducible rfl
  rotate_left
  ·simp only [Act.put, sA, sB, sC, i64_w, i32_w]
   rfl
  refine pure_ (i := 11) (N := some 3) (v := ?_) (a' := ?_) #[true, true, true, true, true, true, true, true, true, true, true, true, false] rfl rfl (any_of HT_.out kf) (fun _ _ _ h => h) (Or.inl ⟨by rfl, ?_⟩) ?_ ?_
  rotate_left
  ·intro w'
   go_simp
   with_reducible rfl
  rotate_left
  ·simp only [Act.put, sA, sB, sC, i64_w, i32_w]
   rfl
  refine pure_ (i := 12) (N := some 4) (v := ?_) (a' := ?_) #[true, true, true, true, true, true, true, true, true, true, true, true, true] rfl rfl (any_of HT_.out kf) (fun _ _ _ h => h) (Or.inl ⟨by rfl, ?_⟩) ?_ ?_
  rotate_left
  ·intro w'
   go_simp
   with_reducible rfl
  rotate_left
  ·simp only [Act.put, sA, sB, sC, i64_w, i32_w]
   rfl
  refine done_ (done_of HT_.out kf) ?_
  try go_wp2
  go_ret3
  exact ⟨by first | rfl | (simp [bneNil]; done) | (simp [errW_none, errW_some] <;> rfl) | (simp only [← hji13]; first | rfl | (simp [errW_none, errW_some] <;> rfl)) | (simp [*, errW_none, errW_some] <;> rfl), bl⟩

/-! ### stringslite_CutPrefix: function 129 -/
def stringslite_CutPrefix.f (a0 : ByteArray) (a1 : ByteArray) : Option (ByteArray × Bool) := (stringslite_HasPrefix.f a0 a1).bind fun t155 => (if t155 = true then (if 0 ≤ (a1.size : Int) then (if (a1.size : Int) ≤ (a0.size : Int) then (some (a0.extract ((a1.size : Int) : Int).toNat a0.size, true)) else (none)) else (none)) else (some (a0, false)))
theorem stringslite_CutPrefix.calls (a0 : ByteArray) (a1 : ByteArray) (r1 : ByteArray) (r2 : Bool) (w : World) (h : stringslite_CutPrefix.f a0 a1 = some (r1, r2)) :
  Calls Tryz.prog 129 #[.string a0, .string a1] w fun e w' => e = .returned (.tuple #[.string r1, .bool r2]) ∧ Drawn0 w w' := by
 have H : ((stringslite_HasPrefix.f a0 a1).bind fun t155 => (if t155 = true then (if 0 ≤ (a1.size : Int) then (if (a1.size : Int) ≤ (a0.size : Int) then (some (a0.extract ((a1.size : Int) : Int).toNat a0.size, true)) else (none)) else (none)) else (some (a0, false)))) = some (r1, r2) := h
 clear h
 obtain ⟨t155, A30, H⟩ := Option.bind_eq_some_iff.mp H
 replace H : (if t155 = true then (if 0 ≤ (a1.size : Int) then (if (a1.size : Int) ≤ (a0.size : Int) then (some (a0.extract ((a1.size : Int) : Int).toNat a0.size, true)) else (none)) else (none)) else (some (a0, false))) = some (r1, r2) := H
 have A3 := Aside0.mk A30
 clear A30
 by_cases c4 : t155 = true
 ·subst c4
  replace H : (if 0 ≤ (a1.size : Int) then (if (a1.size : Int) ≤ (a0.size : Int) then (some (a0.extract ((a1.size : Int) : Int).toNat a0.size, true)) else (none)) else (none)) = some (r1, r2) := by rw [if_pos rfl] at H; exact H
  by_cases c5 : 0 ≤ (a1.size : Int)
  rotate_left
  ·rw [if_neg c5] at H
   exact ab H
  rw [if_pos c5] at H
  have c5b0 := eq_true c5
  have c5b1 : decide (0 ≤ (a1.size : Int)) = true := decide_eq_true c5
  clear c5
  by_cases c6 : (a1.size : Int) ≤ (a0.size : Int)
  rotate_left
  ·rw [if_neg c6] at H
   exact ab H
  rw [if_pos c6] at H
  have c6b0 := eq_true c6
  have c6b1 : decide ((a1.size : Int) ≤ (a0.size : Int)) = true := decide_eq_true c6
  clear c6
  simp only [Option.some.injEq, Prod.mk.injEq] at H
  obtain ⟨rfl, rfl⟩ := H
  go_enter Tryz.func129, Tryz.ntmps129
  go_wp2_with (first | ((with_reducible refine gate_callee (f := 58) rfl ?_); refine goesL_ (some 8) rfl rfl Tryz.func58 kf rfl #[.string a0, .string a1] rfl ml ?_; (with_reducible refine (stringslite_HasPrefix.calls a0 a1 true _ A3.out).mono ?_); rintro e w' ⟨rfl, ⟨nd, rfl⟩⟩; refine ⟨_, rfl, ?_⟩))
  go_ret2
  exact ⟨by first | rfl | (simp [bneNil]; done) | (simp; done) | (simp [*]; done), dr⟩
 ·replace c4 := Bool.eq_false_iff.mpr c4
  subst c4
  replace H : (some (a0, false)) = some (r1, r2) := by rw [if_neg (show ¬ (false = true) by decide)] at H; exact H
  simp only [Option.some.injEq, Prod.mk.injEq] at H
  obtain ⟨rfl, rfl⟩ := H
  go_enter Tryz.func129, Tryz.ntmps129
  go_wp2_with (first | ((with_reducible refine gate_callee (f := 58) rfl ?_); refine goesL_ (some 8) rfl rfl Tryz.func58 kf rfl #[.string a0, .string a1] rfl ml ?_; (with_reducible refine (stringslite_HasPrefix.calls a0 a1 false _ A3.out).mono ?_); rintro e w' ⟨rfl, ⟨nd, rfl⟩⟩; refine ⟨_, rfl, ?_⟩))
  go_ret2
  exact ⟨by first | rfl | (simp [bneNil]; done) | (simp; done) | (simp [*]; done), dr⟩

/-! ### strings_CutPrefix: function 80 -/
def strings_CutPrefix.f (a0 : ByteArray) (a1 : ByteArray) : Option (ByteArray × Bool) := (stringslite_CutPrefix.f a0 a1).bind fun bt156 => (some (bt156.1, bt156.2))
theorem strings_CutPrefix.calls (a0 : ByteArray) (a1 : ByteArray) (r1 : ByteArray) (r2 : Bool) (w : World) (h : strings_CutPrefix.f a0 a1 = some (r1, r2)) :
  Calls Tryz.prog 80 #[.string a0, .string a1] w fun e w' => e = .returned (.tuple #[.string r1, .bool r2]) ∧ Drawn0 w w' := by
 have H : ((stringslite_CutPrefix.f a0 a1).bind fun bt156 => (some (bt156.1, bt156.2))) = some (r1, r2) := h
 clear h
 obtain ⟨⟨t156, t157⟩, A30, H⟩ := Option.bind_eq_some_iff.mp H
 replace H : (some (t156, t157)) = some (r1, r2) := H
 have A3 := Aside0.mk A30
 clear A30
 simp only [Option.some.injEq, Prod.mk.injEq] at H
 obtain ⟨rfl, rfl⟩ := H
 go_enter Tryz.func80, Tryz.ntmps80
 go_wp2_with (first | ((with_reducible refine gate_callee (f := 129) rfl ?_); refine goesL_ (some 8) rfl rfl Tryz.func129 kf rfl #[.string a0, .string a1] rfl ml ?_; (with_reducible refine (stringslite_CutPrefix.calls a0 a1 t156 t157 _ A3.out).mono ?_); rintro e w' ⟨rfl, ⟨nd, rfl⟩⟩; refine ⟨_, rfl, ?_⟩))
 go_ret2
 exact ⟨by first | rfl | (simp [bneNil]; done) | (simp; done) | (simp [*]; done), dr⟩

/-! ### stringslite_HasSuffix: function 55 -/
def stringslite_HasSuffix.f (a0 : ByteArray) (a1 : ByteArray) : Option (Bool) := if (a0.size : Int) ≥ (a1.size : Int) then (if 0 ≤ (wrap64 ((a0.size : Int) - (a1.size : Int))) then (if (wrap64 ((a0.size : Int) - (a1.size : Int))) ≤ (a0.size : Int) then (some ((a0.extract ((wrap64 ((a0.size : Int) - (a1.size : Int))) : Int).toNat a0.size).toList == a1.toList)) else (none)) else (none)) else (some false)
theorem stringslite_HasSuffix.calls (a0 : ByteArray) (a1 : ByteArray) (r : Bool) (w : World) (h : stringslite_HasSuffix.f a0 a1 = some r) :
  Calls Tryz.prog 55 #[.string a0, .string a1] w fun e w' => e = .returned (.bool r) ∧ Drawn0 w w' := by
 have H : (if (a0.size : Int) ≥ (a1.size : Int) then (if 0 ≤ (wrap64 ((a0.size : Int) - (a1.size : Int))) then (if (wrap64 ((a0.size : Int) - (a1.size : Int))) ≤ (a0.size : Int) then (some ((a0.extract ((wrap64 ((a0.size : Int) - (a1.size : Int))) : Int).toNat a0.size).toList == a1.toList)) else (none)) else (none)) else (some false)) = some r := h
 clear h
 by_cases c3 : (a0.size : Int) ≥ (a1.size : Int)
 ·rw [if_pos c3] at H
  have c3b0 : decide ((a1.size : Int) ≤ (a0.size : Int)) = true := decide_eq_true c3
  have c3b1 : decide (a1.size ≤ a0.size) = true := decide_eq_true (Int.ofNat_le.mp c3)
  clear c3
  obtain ⟨ji4, hji4⟩ : ∃ j_ : Int, (wrap64 ((a0.size : Int) - (a1.size : Int))) = j_ := ⟨_, rfl⟩
  replace H : (if 0 ≤ (ji4) then (if (ji4) ≤ (a0.size : Int) then (some ((a0.extract ((ji4) : Int).toNat a0.size).toList == a1.toList)) else (none)) else (none)) = some r := by first | (rw [hji4] at H; exact H) | (simp only [hji4] at H ⊢; exact H)
  have hji4w : (IntKind.i64.wrap ((a0.size : Int) - (a1.size : Int))) = ji4 := (i64_w _).trans hji4
  by_cases c5 : 0 ≤ (ji4)
  rotate_left
  ·rw [if_neg c5] at H
   exact ab H
  rw [if_pos c5] at H
  have c5b0 := eq_true c5
  have c5b1 : decide (0 ≤ (ji4)) = true := decide_eq_true c5
  clear c5
  by_cases c6 : (ji4) ≤ (a0.size : Int)
  rotate_left
  ·rw [if_neg c6] at H
   exact ab H
  rw [if_pos c6] at H
  have c6b0 := eq_true c6
  have c6b1 : decide ((ji4) ≤ (a0.size : Int)) = true := decide_eq_true c6
  clear c6
  obtain rfl := Option.some.inj H
  go_enter Tryz.func55, Tryz.ntmps55
  go_wp2
  go_ret
  exact ⟨by first | rfl | (simp [bneNil]; done) | (simp; done) | (simp only [← hji4] <;> (first | rfl | simp)) | (simp [*]; done), dr⟩
 ·rw [if_neg c3] at H
  have c3b0 : decide ((a1.size : Int) ≤ (a0.size : Int)) = false := decide_eq_false c3
  have c3b1 : decide (a1.size ≤ a0.size) = false := decide_eq_false (fun h => c3 (Int.ofNat_le.mpr h))
  clear c3
  obtain rfl := Option.some.inj H
  go_enter Tryz.func55, Tryz.ntmps55
  go_wp2
  go_ret
  exact ⟨by first | rfl | (simp [bneNil]; done) | (simp; done) | (simp [*]; done), dr⟩

/-! ### stringslite_CutSuffix: function 138 -/
def stringslite_CutSuffix.f (a0 : ByteArray) (a1 : ByteArray) : Option (ByteArray × Bool) := (stringslite_HasSuffix.f a0 a1).bind fun t158 => (if t158 = true then (if 0 ≤ (wrap64 ((a0.size : Int) - (a1.size : Int))) then (if (wrap64 ((a0.size : Int) - (a1.size : Int))) ≤ (a0.size : Int) then (some (a0.extract 0 ((wrap64 ((a0.size : Int) - (a1.size : Int))) : Int).toNat, true)) else (none)) else (none)) else (some (a0, false)))
theorem stringslite_CutSuffix.calls (a0 : ByteArray) (a1 : ByteArray) (r1 : ByteArray) (r2 : Bool) (w : World) (h : stringslite_CutSuffix.f a0 a1 = some (r1, r2)) :
  Calls Tryz.prog 138 #[.string a0, .string a1] w fun e w' => e = .returned (.tuple #[.string r1, .bool r2]) ∧ Drawn0 w w' := by
 have H : ((stringslite_HasSuffix.f a0 a1).bind fun t158 => (if t158 = true then (if 0 ≤ (wrap64 ((a0.size : Int) - (a1.size : Int))) then (if (wrap64 ((a0.size : Int) - (a1.size : Int))) ≤ (a0.size : Int) then (some (a0.extract 0 ((wrap64 ((a0.size : Int) - (a1.size : Int))) : Int).toNat, true)) else (none)) else (none)) else (some (a0, false)))) = some (r1, r2) := h
 clear h
 obtain ⟨t158, A30, H⟩ := Option.bind_eq_some_iff.mp H
 replace H : (if t158 = true then (if 0 ≤ (wrap64 ((a0.size : Int) - (a1.size : Int))) then (if (wrap64 ((a0.size : Int) - (a1.size : Int))) ≤ (a0.size : Int) then (some (a0.extract 0 ((wrap64 ((a0.size : Int) - (a1.size : Int))) : Int).toNat, true)) else (none)) else (none)) else (some (a0, false))) = some (r1, r2) := H
 have A3 := Aside0.mk A30
 clear A30
 by_cases c4 : t158 = true
 ·subst c4
  replace H : (if 0 ≤ (wrap64 ((a0.size : Int) - (a1.size : Int))) then (if (wrap64 ((a0.size : Int) - (a1.size : Int))) ≤ (a0.size : Int) then (some (a0.extract 0 ((wrap64 ((a0.size : Int) - (a1.size : Int))) : Int).toNat, true)) else (none)) else (none)) = some (r1, r2) := by rw [if_pos rfl] at H; exact H
  obtain ⟨ji5, hji5⟩ : ∃ j_ : Int, (wrap64 ((a0.size : Int) - (a1.size : Int))) = j_ := ⟨_, rfl⟩
  replace H : (if 0 ≤ (ji5) then (if (ji5) ≤ (a0.size : Int) then (some (a0.extract 0 ((ji5) : Int).toNat, true)) else (none)) else (none)) = some (r1, r2) := by first | (rw [hji5] at H; exact H) | (simp only [hji5] at H ⊢; exact H)
  (try rw [hji5] at A3)
  have hji5w : (IntKind.i64.wrap ((a0.size : Int) - (a1.size : Int))) = ji5 := (i64_w _).trans hji5
  by_cases c6 : 0 ≤ (ji5)
  rotate_left
  ·rw [if_neg c6] at H
   exact ab H
  rw [if_pos c6] at H
  have c6b0 := eq_true c6
  have c6b1 : decide (0 ≤ (ji5)) = true := decide_eq_true c6
  clear c6
  by_cases c7 : (ji5) ≤ (a0.size : Int)
  rotate_left
  ·rw [if_neg c7] at H
   exact ab H
  rw [if_pos c7] at H
  have c7b0 := eq_true c7
  have c7b1 : decide ((ji5) ≤ (a0.size : Int)) = true := decide_eq_true c7
  clear c7
  simp only [Option.some.injEq, Prod.mk.injEq] at H
  obtain ⟨rfl, rfl⟩ := H
  go_enter Tryz.func138, Tryz.ntmps138
  go_wp2_with (first | ((with_reducible refine gate_callee (f := 55) rfl ?_); refine goesL_ (some 8) rfl rfl Tryz.func55 kf rfl #[.string a0, .string a1] rfl ml ?_; (with_reducible refine (stringslite_HasSuffix.calls a0 a1 true _ A3.out).mono ?_); rintro e w' ⟨rfl, ⟨nd, rfl⟩⟩; refine ⟨_, rfl, ?_⟩))
  go_ret2
  exact ⟨by first | rfl | (simp [bneNil]; done) | (simp; done) | (simp only [← hji5] <;> (first | rfl | simp)) | (simp [*]; done), dr⟩
 ·replace c4 := Bool.eq_false_iff.mpr c4
  subst c4
  replace H : (some (a0, false)) = some (r1, r2) := by rw [if_neg (show ¬ (false = true) by decide)] at H; exact H
  simp only [Option.some.injEq, Prod.mk.injEq] at H
  obtain ⟨rfl, rfl⟩ := H
  go_enter Tryz.func138, Tryz.ntmps138
  go_wp2_with (first | ((with_reducible refine gate_callee (f := 55) rfl ?_); refine goesL_ (some 8) rfl rfl Tryz.func55 kf rfl #[.string a0, .string a1] rfl ml ?_; (with_reducible refine (stringslite_HasSuffix.calls a0 a1 false _ A3.out).mono ?_); rintro e w' ⟨rfl, ⟨nd, rfl⟩⟩; refine ⟨_, rfl, ?_⟩))
  go_ret2
  exact ⟨by first | rfl | (simp [bneNil]; done) | (simp; done) | (simp [*]; done), dr⟩

/-! ### strings_CutSuffix: function 84 -/
def strings_CutSuffix.f (a0 : ByteArray) (a1 : ByteArray) : Option (ByteArray × Bool) := (stringslite_CutSuffix.f a0 a1).bind fun bt159 => (some (bt159.1, bt159.2))
theorem strings_CutSuffix.calls (a0 : ByteArray) (a1 : ByteArray) (r1 : ByteArray) (r2 : Bool) (w : World) (h : strings_CutSuffix.f a0 a1 = some (r1, r2)) :
  Calls Tryz.prog 84 #[.string a0, .string a1] w fun e w' => e = .returned (.tuple #[.string r1, .bool r2]) ∧ Drawn0 w w' := by
 have H : ((stringslite_CutSuffix.f a0 a1).bind fun bt159 => (some (bt159.1, bt159.2))) = some (r1, r2) := h
 clear h
 obtain ⟨⟨t159, t160⟩, A30, H⟩ := Option.bind_eq_some_iff.mp H
 replace H : (some (t159, t160)) = some (r1, r2) := H
 have A3 := Aside0.mk A30
 clear A30
 simp only [Option.some.injEq, Prod.mk.injEq] at H
 obtain ⟨rfl, rfl⟩ := H
 go_enter Tryz.func84, Tryz.ntmps84
 go_wp2_with (first | ((with_reducible refine gate_callee (f := 138) rfl ?_); refine goesL_ (some 8) rfl rfl Tryz.func138 kf rfl #[.string a0, .string a1] rfl ml ?_; (with_reducible refine (stringslite_CutSuffix.calls a0 a1 t159 t160 _ A3.out).mono ?_); rintro e w' ⟨rfl, ⟨nd, rfl⟩⟩; refine ⟨_, rfl, ?_⟩))
 go_ret2
 exact ⟨by first | rfl | (simp [bneNil]; done) | (simp; done) | (simp [*]; done), dr⟩

/-! ### strings_Split: function 85 (by hand) -/
def strings_Split.f (a0 a1 : ByteArray) : Option (List ByteArray) := if a0.size < 4294967281 ∧ 1 ≤ a1.size then some (Lib.splitB a1 0 (Lib.countB a0 a1) a0) else none
theorem strings_Split.calls (a0 a1 : ByteArray) (r : List ByteArray) (w : World) (hG : Glob w) (h : strings_Split.f a0 a1 = some r) :
    Calls Tryz.prog 85 #[.string a0, .string a1] w fun e w' => ∃ v0_ : Value, e = .returned (v0_) ∧ Kd.R Kd.string 9 w' w.heap.size (fun _ => True) v0_ r ∧ Below w.heap.size w w' := by
  unfold strings_Split.f at h
  split at h
  · rename_i hs
    obtain rfl := Option.some.inj h
    obtain ⟨m, hm⟩ := hG.mx
    refine (Tryz.strings_Split a0 a1 m w hs.1 hm hs.2).mono ?_
    rintro e w' ⟨rfl, rfl⟩
    have hl := Lib.splitB_all a1 hs.2 0 _ a0 rfl
    have hc := Lib.countB_le a1 hs.2 a0.size a0 (Nat.le_refl _)
    have ho := own_lit_of (enc := Value.string) w w.heap.size 9 (Lib.splitB a1 0 (Lib.countB a0 a1) a0) (Nat.le_refl _) (by rw [hl]; omega)
    refine ⟨_, rfl, Kd.R_of_own ?_ (fun _ _ => trivial), (Below.refl _ _).alloc (Nat.le_refl _) _⟩
    rw [hl] at ho ⊢
    exact ho
  · cases h


/-! ### strings_Trim: function 142 (by hand) -/
def strings_Trim.f (a0 a1 : ByteArray) : Option ByteArray := if a0.size ≤ 9223372036854775807 ∧ a1.size < 4294967281 ∧ (a1.data.toList.all fun b => decide (b.toNat < 128)) = true then some ⟨(Lib.trimS a0.data.toList a1.data.toList).toArray⟩ else none
theorem strings_Trim.calls (a0 a1 : ByteArray) (r : ByteArray) (w : World) (h : strings_Trim.f a0 a1 = some r) :
    Calls Tryz.prog 142 #[.string a0, .string a1] w fun e w' => e = .returned (.string r) ∧ Below w.heap.size w w' := by
  unfold strings_Trim.f at h
  by_cases hc : a0.size ≤ 9223372036854775807 ∧ a1.size < 4294967281 ∧ (a1.data.toList.all fun b => decide (b.toNat < 128)) = true
  · rw [if_pos hc] at h
    obtain rfl := Option.some.inj h
    refine Any.strings_Trim_laid Tryz.lays160 kf a0 a1 w hc.1 hc.2.1 (fun j b hj => ?_)
    have := List.all_eq_true.1 hc.2.2 b (List.mem_of_getElem? hj)
    simpa using this
  · rw [if_neg hc] at h; cases h


/-! ### text_Number: function 171 (by hand) -/
def digC (c : UInt8) : Bool := decide (48 ≤ c.toNat) && decide (c.toNat ≤ 57)
def numL (l : List UInt8) : Int := l.foldl (fun n c => 10 * n + ((c.toNat : Int) - 48)) 0
def numOK (s : ByteArray) (d : Int) : Bool := !s.data.toList.isEmpty && decide ((s.size : Int) ≤ max 1 (min d 15)) && s.data.toList.all digC
def text_Number.f (a0 : ByteArray) (a1 : Int) : Option (Int × Int) := if a0.size < 70368744177000 then (if numOK a0 a1 = true then some (numL a0.data.toList, 0) else some (0, 5)) else none
theorem numL_snoc (l : List UInt8) (c : UInt8) : numL (l ++ [c]) = 10 * numL l + ((c.toNat : Int) - 48) := by simp [numL]
theorem numL_bd : ∀ (n : Nat) (l : List UInt8), l.length = n → l.all digC = true → 0 ≤ numL l ∧ numL l < 10 ^ n := by
  intro n
  induction n with
  | zero => intro l h _; obtain rfl := List.eq_nil_of_length_eq_zero h; simp [numL]
  | succ n ih =>
    intro l h ha
    obtain ⟨i, c, rfl⟩ : ∃ i c, l = i ++ [c] := by
      have hne : l ≠ [] := by intro e; rw [e] at h; simp at h
      exact ⟨l.dropLast, l.getLast hne, (List.dropLast_concat_getLast hne).symm⟩
    simp at h
    rw [List.all_append, Bool.and_eq_true] at ha
    have := ih i h ha.1
    have hc : 48 ≤ c.toNat ∧ c.toNat ≤ 57 := by simpa [digC] using ha.2
    rw [numL_snoc, Int.pow_succ]
    omega
theorem dropW_nil {p : UInt8 → Bool} : ∀ {l : List UInt8}, l.dropWhile p = [] ↔ ∀ x ∈ l, p x = true
  | [] => by simp
  | a :: l => by
    by_cases h : p a = true
    · simp [List.dropWhile_cons, h, dropW_nil (l := l)]
    · simp [List.dropWhile_cons, h]
theorem trim_nil (p : UInt8 → Bool) (l : List UInt8) : ((l.reverse.dropWhile p).reverse.dropWhile p = []) ↔ l.all p = true := by
  constructor
  · intro h
    have h1 : ∀ x ∈ (l.reverse.dropWhile p).reverse, p x = true := by simpa using dropW_nil.1 h
    have h2 : l.reverse.dropWhile p = [] := by
      cases hd : l.reverse.dropWhile p with
      | nil => rfl
      | cons a t =>
        have ha := h1 a (by rw [hd]; simp)
        have := List.head?_dropWhile_not p l.reverse
        rw [hd] at this
        simp [ha] at this
    rw [List.all_eq_true]
    intro x hx
    have := dropW_nil.1 h2 x (by simpa using hx)
    exact this
  · intro h
    have : l.reverse.dropWhile p = [] := dropW_nil.2 (fun x hx => List.all_eq_true.1 h x (by simpa using hx))
    rw [this]; rfl
theorem dig_has (c : UInt8) : [48, 49, 50, 51, 52, 53, 54, 55, 56, 57].contains c = digC c := by
  have : ∀ n, n < 256 → [48, 49, 50, 51, 52, 53, 54, 55, 56, 57].contains (UInt8.ofNat n) = digC (UInt8.ofNat n) := by decide +kernel
  have h := this c.toNat (UInt8.toNat_lt c)
  rwa [UInt8.ofNat_toNat] at h
theorem trim_digits (s : ByteArray) : Lib.trimS s.data.toList [48, 49, 50, 51, 52, 53, 54, 55, 56, 57] = [] ↔ s.data.toList.all digC = true := by
  unfold Lib.trimS Lib.trimLeftS Lib.trimRightS
  simp only [dig_has]
  exact trim_nil digC _
def numTrim (s : ByteArray) : ByteArray := ⟨(Lib.trimS s.data.toList [48, 49, 50, 51, 52, 53, 54, 55, 56, 57]).toArray⟩
theorem numTrim_nil (s : ByteArray) : (numTrim s).toList = [] ↔ s.data.toList.all digC = true := by
  rw [ByteArray.toList_eq, ← trim_digits]; simp [numTrim]
theorem num_take (s : ByteArray) (k : Nat) (h : k < s.size) : numL (s.data.toList.take (k + 1)) = 10 * numL (s.data.toList.take k) + (((s[k]'h).toNat : Int) - 48) := by
  rw [List.take_succ_eq_append_getElem (by simpa using h), numL_snoc]; rfl
theorem dig_at (s : ByteArray) (ha : s.data.toList.all digC = true) (k : Nat) (h : k < s.size) : 48 ≤ (s[k]'h).toNat ∧ (s[k]'h).toNat ≤ 57 := by
  have h' : k < s.data.toList.length := by simpa using h
  have e : s.data.toList[k]'h' = s[k]'h := by simp; rfl
  have := List.all_eq_true.1 ha (s.data.toList[k]'h') (List.getElem_mem h')
  rw [e] at this
  simpa [digC] using this
theorem bytes_cell_at3 {W w1 : World} {g e : Nat} {s : ByteArray} {C : Array Value} {fz : Nat × Nat} (h : W.heap[g]? = some (.cells C e fz)) (hC : C = Lib.bytesCells w1 e s) (j : Nat) (hj : j < s.size) : W.cell? ⟨g, j, none⟩ = some (.int .u8 ((s[j]'hj).toNat : Nat)) := by
  subst hC
  simp [World.cell?, h, Lib.bytesCells, Array.getElem?_append, hj]
  rfl
theorem text_Number.calls (a0 : ByteArray) (a1 r1 r2 : Int) (w : World) (h : text_Number.f a0 a1 = some (r1, r2)) :
    Calls Tryz.prog 171 #[.string a0, .int .i64 a1] w fun e w' => e = .returned (.tuple #[.int .i64 r1, .int .i64 r2]) ∧ Below w.heap.size w w' := by
  unfold text_Number.f at h
  by_cases hsz : a0.size < 70368744177000
  · rw [if_pos hsz] at h
    obtain ⟨m1, hm1⟩ : ∃ m, (if 15 < a1 then 15 else a1) = m := ⟨_, rfl⟩
    obtain ⟨m2, hm2⟩ : ∃ m, (if 1 < m1 then m1 else 1) = m := ⟨_, rfl⟩
    have hmm : max 1 (min a1 15) = m2 := by split at hm1 <;> split at hm2 <;> omega
    have hm15 : m2 ≤ 15 := by split at hm1 <;> split at hm2 <;> omega
    by_cases he : a0.toList = ([] : List UInt8)
    · have hf : numOK a0 a1 = false := by unfold numOK; rw [← ByteArray.toList_eq, he]; rfl
      rw [hf] at h
      simp only [Bool.false_eq_true, if_false, Option.some.injEq, Prod.mk.injEq] at h
      obtain ⟨rfl, rfl⟩ := h
      have hb : (a0.toList == ([] : List UInt8)) = true := beq_iff_eq.mpr he
      have hb3 : a0.toList.isEmpty = true := by rw [he]; rfl
      clear hm1 hm2 hmm hf he
      go_enter Tryz.func171, Tryz.ntmps171
      go_wp2
      go_ret2
      exact ⟨rfl, Below.refl _ _⟩
    · have hb : (a0.toList == ([] : List UInt8)) = false := beq_eq_false_iff_ne.mpr he
      have hb3 : a0.toList.isEmpty = false := by cases h : a0.toList <;> simp_all
      have hb4 : a0.data.toList.isEmpty = false := by rw [← ByteArray.toList_eq]; exact hb3
      clear he
      by_cases hl : m2 < (a0.size : Int)
      · have hf : numOK a0 a1 = false := by
          unfold numOK; rw [hmm, decide_eq_false (by omega)]; simp
        rw [hf] at h
        simp only [Bool.false_eq_true, if_false, Option.some.injEq, Prod.mk.injEq] at h
        obtain ⟨rfl, rfl⟩ := h
        have hlb : decide (m2 < (a0.size : Int)) = true := decide_eq_true hl
        clear hmm hf hb4
        go_enter Tryz.func171, Tryz.ntmps171
        go_wp2
        go_ret2
        exact ⟨rfl, Below.refl _ _⟩
      · have hlb : decide (m2 < (a0.size : Int)) = false := decide_eq_false hl
        have hlen : a0.size ≤ 15 := by omega
        have hT : strings_Trim.f a0 ⟨#[48, 49, 50, 51, 52, 53, 54, 55, 56, 57]⟩ = some (numTrim a0) := by
          unfold strings_Trim.f; rw [if_pos ⟨by omega, by decide, by decide⟩]; rfl
        have HT := Lib.hid hT
        clear hT
        have hiff := numTrim_nil a0
        obtain ⟨tr, htr⟩ : ∃ tr, tr = numTrim a0 := ⟨_, rfl⟩
        rw [← htr] at HT hiff
        clear htr
        by_cases ha : a0.data.toList.all digC = true
        · have hf : numOK a0 a1 = true := by
            unfold numOK; rw [hmm, decide_eq_true (by omega), hb4, ha]; rfl
          rw [if_pos hf] at h
          simp only [Option.some.injEq, Prod.mk.injEq] at h
          obtain ⟨rfl, rfl⟩ := h
          have htn := hiff.2 ha
          have t1 : (tr.toList == ([] : List UInt8)) = true := beq_iff_eq.mpr htn
          have t2 : (tr.toList != ([] : List UInt8)) = false := bne_eq_false_iff_eq.mpr htn
          have t3 : tr.toList.isEmpty = true := by rw [htn]; rfl
          have Ha := Lib.hid ha
          clear hmm hf hb4 hiff htn ha
          have hcv := fun W => print_bytes (P := Tryz.prog) 9 102 5 Tryz.underlying9 Tryz.underlying102 Tryz.underlying5 a0 W
          go_enter Tryz.func171, Tryz.ntmps171
          go_wp2_with (go_at_call 142; refine (strings_Trim.calls a0 _ tr _ HT.out).mono ?_; rintro e w1 ⟨rfl, hb1⟩; have HB1 := Lib.hid hb1; clear hb1)
          clear hcv
          have HB := Aside0.mk (bytes_below HB1.out HB1.out.size 5 a0)
          have HG := Lib.hid (Lib.bytesWorld_at_new w1 5 a0)
          obtain ⟨C, hC⟩ : ∃ C, C = Lib.bytesCells w1 5 a0 := ⟨_, rfl⟩
          rw [← hC] at HG
          have HC := Lib.hid hC
          clear hC
          obtain ⟨w3, hw3⟩ : ∃ w3, w3 = Lib.bytesWorld w1 5 a0 := ⟨_, rfl⟩
          rw [← hw3] at HG HB ⊢
          clear hw3
          generalize grownCap w1 a0.size 0 5 = cap
          go_loop [6, 27] (fun v6 v27 => ∃ k : Nat, v27 = .int .i64 k ∧ k ≤ a0.size ∧ v6 = .int .i64 (numL (a0.data.toList.take k))) (fun _ v27 => a0.size - (intOf v27).toNat)
          case atStart => exact ⟨0, rfl, Nat.zero_le _, rfl⟩
          case round =>
            obtain ⟨k, rfl, hk, rfl⟩ := hrel
            by_cases hlt : k < a0.size
            · have hcell : w3.cell? ⟨w1.heap.size, k, none⟩ = some (.int .u8 ((a0[k]'hlt).toNat : Nat)) := bytes_cell_at3 HG.out HC.out k hlt
              have hd := dig_at a0 Ha.out k hlt
              have Hn := Lib.hid (num_take a0 k hlt)
              have hx := numL_bd k (a0.data.toList.take k) (by rw [List.length_take, Array.length_toList]; exact Nat.min_eq_left hk) (by
                rw [List.all_eq_true]; intro x hx; exact List.all_eq_true.1 Ha.out x (List.mem_of_mem_take hx))
              have hp : (10 : Int) ^ k ≤ 1000000000000000 := by
                have : ∀ j, j < 16 → (10 : Int) ^ j ≤ 1000000000000000 := by decide
                exact this k (by omega)
              obtain ⟨hx0, hx1⟩ := hx
              have hx2 : numL (a0.data.toList.take k) ≤ 1000000000000000 := by omega
              clear hx1 hp
              obtain ⟨hd1, hd2⟩ := hd
              obtain ⟨c, hc⟩ : ∃ c : Nat, c = (a0[k]'hlt).toNat := ⟨_, rfl⟩
              rw [← hc] at hcell hd1 hd2 Hn
              clear hc
              obtain ⟨x, hx⟩ : ∃ x : Int, x = numL (a0.data.toList.take k) := ⟨_, rfl⟩
              rw [← hx] at hx0 hx2 Hn ⊢
              clear hx
              have hd1' : 48 ≤ (c : Int) := by omega
              have hd2' : (c : Int) ≤ 57 := by omega
              clear hd1 hd2 hm1 hm2
              go_wp2
              go_round
              case rel => exact ⟨k + 1, by go_num, hlt, by rw [Hn.out]⟩
              case measure => simp [intOf]; omega
            · have hk' : k = a0.size := by omega
              subst hk'
              have HF := Lib.hid (show numL (a0.data.toList.take a0.size) = numL a0.data.toList by rw [List.take_of_length_le (by simp)])
              go_wp2
              go_ret2
              exact ⟨by rw [← HF.out]; rfl, HB.out⟩
        · have hf : numOK a0 a1 = false := by
            unfold numOK; rw [Bool.eq_false_iff.mpr ha]; simp
          rw [hf] at h
          simp only [Bool.false_eq_true, if_false, Option.some.injEq, Prod.mk.injEq] at h
          obtain ⟨rfl, rfl⟩ := h
          have htn : ¬ tr.toList = [] := fun e => ha (hiff.1 e)
          have t1 : (tr.toList == ([] : List UInt8)) = false := beq_eq_false_iff_ne.mpr htn
          have t2 : (tr.toList != ([] : List UInt8)) = true := bne_iff_ne.mpr htn
          have t3 : tr.toList.isEmpty = false := by cases h : tr.toList <;> simp_all
          clear hmm hf hb4 hiff htn ha
          go_enter Tryz.func171, Tryz.ntmps171
          go_wp2_with (go_at_call 142; refine (strings_Trim.calls a0 _ tr _ HT.out).mono ?_; rintro e w1 ⟨rfl, hb1⟩; have HB1 := Lib.hid hb1; clear hb1)
          go_ret2
          exact ⟨rfl, HB1.out⟩
  · rw [if_neg hsz] at h; cases h


/-! ### strconv_Itoa: function 172 (by hand) -/
def strconv_Itoa.f (a0 : Int) : Option ByteArray := if -9223372036854775808 ≤ a0 ∧ a0 ≤ 9223372036854775807 then some ⟨(Lib.itoa a0).toArray⟩ else none
theorem strconv_Itoa.calls (a0 : Int) (r : ByteArray) (w : World) (hG : Glob w) (h : strconv_Itoa.f a0 = some r) :
    Calls Tryz.prog 172 #[.int .i64 a0] w fun e w' => e = .returned (.string r) ∧ Below w.heap.size w w' := by
  unfold strconv_Itoa.f at h
  split at h
  · rename_i hs
    obtain rfl := Option.some.inj h
    refine (Tryz.strconv_Itoa a0 hs.1 hs.2 w hG.p10).mono ?_
    rintro e w' ⟨rfl, k, os, rfl⟩
    exact ⟨rfl, Lib.below_grow _ _ (Nat.le_refl _) _ _⟩
  · cases h


end Go.Proofs.YtacjnapgdikhbaaGreatDoor.Q
end
section
namespace Go.Proofs.YtacjnapgdikhbaaGreatDoor.Q

/-! ### addr_octet: function 133 -/
def addr_octet.f (a0 : ByteArray) : Option (Bool) := (text_Number.f a0 3).bind fun bt161 => (if bt161.2 = 0 then (if bt161.1 < 256 then ((strconv_Itoa.f bt161.1).bind fun t163 => (some (t163.toList == a0.toList))) else (some false)) else (some false))
theorem addr_octet.calls (a0 : ByteArray) (r : Bool) (w : World) (hG : Glob w) (h : addr_octet.f a0 = some r) :
  Calls Tryz.prog 133 #[.string a0] w fun e w' => e = .returned (.bool r) ∧ Below w.heap.size w w' := by
 have HB := Aside0.mk (Below.refl w.heap.size w)
 have HG := Aside0.mk hG
 clear hG
 have H : ((text_Number.f a0 3).bind fun bt161 => (if bt161.2 = 0 then (if bt161.1 < 256 then ((strconv_Itoa.f bt161.1).bind fun t163 => (some (t163.toList == a0.toList))) else (some false)) else (some false))) = some r := h
 clear h
 obtain ⟨⟨t161, t162⟩, A20, H⟩ := Option.bind_eq_some_iff.mp H
 replace H : (if t162 = 0 then (if t161 < 256 then ((strconv_Itoa.f t161).bind fun t163 => (some (t163.toList == a0.toList))) else (some false)) else (some false)) = some r := H
 have A2 := Aside0.mk A20
 clear A20
 by_cases c3 : t162 = 0
 ·rw [if_pos c3] at H
  have c3b0 : (t162 == 0) = true := beq_iff_eq.mpr c3
  have c3b1 : (t162 != 0) = false := bne_eq_false_iff_eq.mpr c3
  clear c3
  by_cases c4 : t161 < 256
  ·rw [if_pos c4] at H
   have c4b0 : decide (t161 < 256) = true := decide_eq_true c4
   clear c4
   obtain ⟨t163, A50, H⟩ := Option.bind_eq_some_iff.mp H
   replace H : (some (t163.toList == a0.toList)) = some r := H
   have A5 := Aside0.mk A50
   clear A50
   obtain rfl := Option.some.inj H
   go_enter Tryz.func133, Tryz.ntmps133
   go_wp2_with (first | ((with_reducible refine gate_callee (f := 171) rfl ?_); refine goesL_ (some 7) rfl rfl Tryz.func171 kf rfl #[.string a0, .int .i64 3] rfl ml ?_; (with_reducible refine (text_Number.calls a0 3 t161 t162 _ A2.out).mono ?_); rintro e w6 ⟨rfl, hb⟩; refine ⟨_, rfl, ?_⟩; replace HB := Aside0.mk (below_step bl hb); (try clear hb); (try clear hb2); (try clear hk); (try clear hi)) | (go_at_call 172; (with_reducible refine (strconv_Itoa.calls t161 t163 _ ?side1 A5.out).mono ?_); (case side1 => exact Glob.below HG.out bl); rintro e w7 ⟨rfl, hb⟩; replace HB := Aside0.mk (below_step bl hb); (try clear hb); (try clear hb2); (try clear hk); (try clear hi)))
   go_ret
   exact ⟨rf, bl⟩
  ·rw [if_neg c4] at H
   have c4b0 : decide (t161 < 256) = false := decide_eq_false c4
   clear c4
   obtain rfl := Option.some.inj H
   go_enter Tryz.func133, Tryz.ntmps133
   go_wp2_with (first | ((with_reducible refine gate_callee (f := 171) rfl ?_); refine goesL_ (some 7) rfl rfl Tryz.func171 kf rfl #[.string a0, .int .i64 3] rfl ml ?_; (with_reducible refine (text_Number.calls a0 3 t161 t162 _ A2.out).mono ?_); rintro e w8 ⟨rfl, hb⟩; refine ⟨_, rfl, ?_⟩; replace HB := Aside0.mk (below_step bl hb); (try clear hb); (try clear hb2); (try clear hk); (try clear hi)))
   go_ret
   exact ⟨rf, bl⟩
 ·rw [if_neg c3] at H
  have c3b0 : (t162 == 0) = false := beq_eq_false_iff_ne.mpr c3
  have c3b1 : (t162 != 0) = true := bne_iff_ne.mpr c3
  obtain rfl := Option.some.inj H
  go_enter Tryz.func133, Tryz.ntmps133
  go_wp2_with (first | ((with_reducible refine gate_callee (f := 171) rfl ?_); refine goesL_ (some 7) rfl rfl Tryz.func171 kf rfl #[.string a0, .int .i64 3] rfl ml ?_; (with_reducible refine (text_Number.calls a0 3 t161 t162 _ A2.out).mono ?_); rintro e w9 ⟨rfl, hb⟩; refine ⟨_, rfl, ?_⟩; replace HB := Aside0.mk (below_step bl hb); (try clear hb); (try clear hb2); (try clear hk); (try clear hi)))
  go_ret
  exact ⟨rf, bl⟩

/-! ### addr_label: function 134 -/
def addr_label.f (a0 : ByteArray) : Option (Bool) := if a0.toList = ([] : List UInt8) then (some false) else ((strings_Trim.f a0 (⟨#[97, 98, 99, 100, 101, 102, 103, 104, 105, 106, 107, 108, 109, 110, 111, 112, 113, 114, 115, 116, 117, 118, 119, 120, 121, 122, 65, 66, 67, 68, 69, 70, 71, 72, 73, 74, 75, 76, 77, 78, 79, 80, 81, 82, 83, 84, 85, 86, 87, 88, 89, 90, 48, 49, 50, 51, 52, 53, 54, 55, 56, 57, 45]⟩ : ByteArray)).bind fun t164 => (if t164.toList = ([] : List UInt8) then (if 0 < (a0.size : Int) then (if (bt a0 0) = 45 then (some false) else (if 0 ≤ (wrap64 ((a0.size : Int) - 1)) then (if (wrap64 ((a0.size : Int) - 1)) < (a0.size : Int) then (some ((bt a0 (wrap64 ((a0.size : Int) - 1))) != 45)) else (none)) else (none))) else (none)) else (some false)))
theorem addr_label.calls (a0 : ByteArray) (r : Bool) (w : World) (h : addr_label.f a0 = some r) :
  Calls Tryz.prog 134 #[.string a0] w fun e w' => e = .returned (.bool r) ∧ Below w.heap.size w w' := by
 have HB := Aside0.mk (Below.refl w.heap.size w)
 have H : (if a0.toList = ([] : List UInt8) then (some false) else ((strings_Trim.f a0 (⟨#[97, 98, 99, 100, 101, 102, 103, 104, 105, 106, 107, 108, 109, 110, 111, 112, 113, 114, 115, 116, 117, 118, 119, 120, 121, 122, 65, 66, 67, 68, 69, 70, 71, 72, 73, 74, 75, 76, 77, 78, 79, 80, 81, 82, 83, 84, 85, 86, 87, 88, 89, 90, 48, 49, 50, 51, 52, 53, 54, 55, 56, 57, 45]⟩ : ByteArray)).bind fun t164 => (if t164.toList = ([] : List UInt8) then (if 0 < (a0.size : Int) then (if (bt a0 0) = 45 then (some false) else (if 0 ≤ (wrap64 ((a0.size : Int) - 1)) then (if (wrap64 ((a0.size : Int) - 1)) < (a0.size : Int) then (some ((bt a0 (wrap64 ((a0.size : Int) - 1))) != 45)) else (none)) else (none))) else (none)) else (some false)))) = some r := h
 clear h
 by_cases c2 : a0.toList = ([] : List UInt8)
 ·rw [if_pos c2] at H
  have c2b0 : (a0.toList == ([] : List UInt8)) = true := beq_iff_eq.mpr c2
  have c2b1 : (a0.toList != ([] : List UInt8)) = false := bne_eq_false_iff_eq.mpr c2
  clear c2
  obtain rfl := Option.some.inj H
  go_enter Tryz.func134, Tryz.ntmps134
  go_wp2
  go_ret
  exact ⟨rf, bl⟩
 ·rw [if_neg c2] at H
  have c2b0 : (a0.toList == ([] : List UInt8)) = false := beq_eq_false_iff_ne.mpr c2
  have c2b1 : (a0.toList != ([] : List UInt8)) = true := bne_iff_ne.mpr c2
  obtain ⟨t164, A30, H⟩ := Option.bind_eq_some_iff.mp H
  replace H : (if t164.toList = ([] : List UInt8) then (if 0 < (a0.size : Int) then (if (bt a0 0) = 45 then (some false) else (if 0 ≤ (wrap64 ((a0.size : Int) - 1)) then (if (wrap64 ((a0.size : Int) - 1)) < (a0.size : Int) then (some ((bt a0 (wrap64 ((a0.size : Int) - 1))) != 45)) else (none)) else (none))) else (none)) else (some false)) = some r := H
  have A3 := Aside0.mk A30
  clear A30
  by_cases c4 : t164.toList = ([] : List UInt8)
  ·rw [if_pos c4] at H
   have c4b0 : (t164.toList == ([] : List UInt8)) = true := beq_iff_eq.mpr c4
   have c4b1 : (t164.toList != ([] : List UInt8)) = false := bne_eq_false_iff_eq.mpr c4
   clear c4
   by_cases c5 : 0 < (a0.size : Int)
   rotate_left
   ·rw [if_neg c5] at H
    exact ab H
   rw [if_pos c5] at H
   have c5b0 : decide (0 < (a0.size : Int)) = true := decide_eq_true c5
   have c5b1 : decide (0 < a0.size) = true := decide_eq_true (by omega)
   clear c5
   by_cases c7 : (bt a0 0) = 45
   ·rw [if_pos c7] at H
    have c7b0 : ((bt a0 0) == 45) = true := beq_iff_eq.mpr c7
    have c7b1 : ((bt a0 0) != 45) = false := bne_eq_false_iff_eq.mpr c7
    clear c7
    obtain rfl := Option.some.inj H
    go_enter Tryz.func134, Tryz.ntmps134
    go_wp2_with (first | (go_at_call 142; (with_reducible refine (strings_Trim.calls a0 (⟨#[97, 98, 99, 100, 101, 102, 103, 104, 105, 106, 107, 108, 109, 110, 111, 112, 113, 114, 115, 116, 117, 118, 119, 120, 121, 122, 65, 66, 67, 68, 69, 70, 71, 72, 73, 74, 75, 76, 77, 78, 79, 80, 81, 82, 83, 84, 85, 86, 87, 88, 89, 90, 48, 49, 50, 51, 52, 53, 54, 55, 56, 57, 45]⟩ : ByteArray) t164 _ A3.out).mono ?_); rintro e w8 ⟨rfl, hb⟩; replace HB := Aside0.mk (below_step bl hb); (try clear hb); (try clear hb2); (try clear hk); (try clear hi); have p6 : 0 ≤ (0 : Int) := (by omega); have q6 : 0 < a0.size := (by have : (0 : Int) < (a0.size : Int) := od; omega); have hx6 : ∀ h : 0 < a0.size, ((a0[0]'h).toNat : Int) = bt a0 0 := bt_at a0 0; clear p6; have qi6 : (0 < (a0.size : Int)) = True := eq_true (od); replace q6 := eq_true q6))
    go_ret
    exact ⟨rf, bl⟩
   ·rw [if_neg c7] at H
    have c7b0 : ((bt a0 0) == 45) = false := beq_eq_false_iff_ne.mpr c7
    have c7b1 : ((bt a0 0) != 45) = true := bne_iff_ne.mpr c7
    obtain ⟨ji9, hji9⟩ : ∃ j_ : Int, (wrap64 ((a0.size : Int) - 1)) = j_ := ⟨_, rfl⟩
    replace H : (if 0 ≤ (ji9) then (if (ji9) < (a0.size : Int) then (some ((bt a0 (ji9)) != 45)) else (none)) else (none)) = some r := by first | (rw [hji9] at H; exact H) | (simp only [hji9] at H ⊢; exact H)
    (try rw [hji9] at A3)
    have hji9w : (IntKind.i64.wrap ((a0.size : Int) - 1)) = ji9 := (i64_w _).trans hji9
    by_cases c10 : 0 ≤ (ji9)
    rotate_left
    ·rw [if_neg c10] at H
     exact ab H
    rw [if_pos c10] at H
    have c10b0 : decide (0 ≤ (ji9)) = true := decide_eq_true c10
    clear c10
    by_cases c11 : (ji9) < (a0.size : Int)
    rotate_left
    ·rw [if_neg c11] at H
     exact ab H
    rw [if_pos c11] at H
    have c11b0 : decide ((ji9) < (a0.size : Int)) = true := decide_eq_true c11
    clear c11
    obtain rfl := Option.some.inj H
    go_enter Tryz.func134, Tryz.ntmps134
    go_wp2_with (first | (go_at_call 142; (with_reducible refine (strings_Trim.calls a0 (⟨#[97, 98, 99, 100, 101, 102, 103, 104, 105, 106, 107, 108, 109, 110, 111, 112, 113, 114, 115, 116, 117, 118, 119, 120, 121, 122, 65, 66, 67, 68, 69, 70, 71, 72, 73, 74, 75, 76, 77, 78, 79, 80, 81, 82, 83, 84, 85, 86, 87, 88, 89, 90, 48, 49, 50, 51, 52, 53, 54, 55, 56, 57, 45]⟩ : ByteArray) t164 _ A3.out).mono ?_); rintro e w13 ⟨rfl, hb⟩; replace HB := Aside0.mk (below_step bl hb); (try clear hb); (try clear hb2); (try clear hk); (try clear hi); have p6 : 0 ≤ (0 : Int) := (by omega); have q6 : 0 < a0.size := (by have : (0 : Int) < (a0.size : Int) := od; omega); have hx6 : ∀ h : 0 < a0.size, ((a0[0]'h).toNat : Int) = bt a0 0 := bt_at a0 0; clear p6; have qi6 : (0 < (a0.size : Int)) = True := eq_true (od); replace q6 := eq_true q6; have p12 : 0 ≤ ((ji9) : Int) := od; have q12 : (ji9) < (a0.size : Int) := od; have hx12 := bt_at a0 (ji9); replace p12 := eq_true p12; replace q12 := eq_true q12))
    go_ret
    exact ⟨by first | rfl | (simp [bneNil]; done) | (simp [errW_none, errW_some] <;> rfl) | (simp only [← hji9]; first | rfl | (simp [errW_none, errW_some] <;> rfl)) | (simp [*, errW_none, errW_some] <;> rfl), bl⟩
  ·rw [if_neg c4] at H
   have c4b0 : (t164.toList == ([] : List UInt8)) = false := beq_eq_false_iff_ne.mpr c4
   have c4b1 : (t164.toList != ([] : List UInt8)) = true := bne_iff_ne.mpr c4
   obtain rfl := Option.some.inj H
   go_enter Tryz.func134, Tryz.ntmps134
   go_wp2_with (first | (go_at_call 142; (with_reducible refine (strings_Trim.calls a0 (⟨#[97, 98, 99, 100, 101, 102, 103, 104, 105, 106, 107, 108, 109, 110, 111, 112, 113, 114, 115, 116, 117, 118, 119, 120, 121, 122, 65, 66, 67, 68, 69, 70, 71, 72, 73, 74, 75, 76, 77, 78, 79, 80, 81, 82, 83, 84, 85, 86, 87, 88, 89, 90, 48, 49, 50, 51, 52, 53, 54, 55, 56, 57, 45]⟩ : ByteArray) t164 _ A3.out).mono ?_); rintro e w14 ⟨rfl, hb⟩; replace HB := Aside0.mk (below_step bl hb); (try clear hb); (try clear hb2); (try clear hk); (try clear hi)))
   go_ret
   exact ⟨rf, bl⟩

/-! ### addr_domain_2: function 135 -/
def addr_domain_2.f (a0 : ByteArray) : Option (Bool) := some (decide ((a0.size : Int) ≤ 63))
theorem addr_domain_2.calls (a0 : ByteArray) (r : Bool) (w : World) (h : addr_domain_2.f a0 = some r) :
  Calls Tryz.prog 135 #[.string a0] w fun e w' => e = .returned (.bool r) ∧ Drawn0 w w' := by
 have H : (some (decide ((a0.size : Int) ≤ 63))) = some r := h
 clear h
 obtain rfl := Option.some.inj H
 go_enter Tryz.func135, Tryz.ntmps135
 go_wp2
 go_ret
 exact ⟨by first | rfl | (simp [bneNil]; done) | (simp; done) | (simp [*]; done), dr⟩

/-! ### addr_domain_1__addr_domain_2: function 130 with function 135 (by hand) -/
def addr_domain_1__addr_domain_2.p (x : ByteArray) : Option Bool := (addr_domain_2.f x).bind fun b => some (!b)
def addr_domain_1__addr_domain_2.f (a0 : ByteArray) : Option Bool := (strings_Split.f a0 (⟨#[46]⟩ : ByteArray)).bind fun l => (anyF (fun x => addr_domain_1__addr_domain_2.p x) l).bind fun b => some (!b)
theorem addr_domain_1__addr_domain_2.clo (x : ByteArray) (b : Bool) (w : World) (hG : Glob w) (Bi : Nat) (T : TypeId) (hm : w.heap[Bi]? = some (.cells #[.func (.func 135) #[] #[]] T (0, 0))) (h : addr_domain_1__addr_domain_2.p x = some b) :
    Calls Tryz.prog 131 #[.string x, .pointer (some ⟨Bi, 0, none⟩)] w fun e w' => e = .returned (.bool b) ∧ Below w.heap.size w w' := by
  obtain ⟨c, hc, he⟩ := Option.bind_eq_some_iff.mp h
  obtain rfl := Option.some.inj he
  have hcell : w.cell? ⟨Bi, 0, none⟩ = some (.func (.func 135) #[] #[]) := (blk_cell hm 0).trans rfl
  have HQ := Aside0.mk hc
  have HG := Aside0.mk hG
  clear h he hc hm hG
  go_enter Tryz.func131, Tryz.ntmps131
  go_wp2_with (go_at_call 135; (with_reducible refine (addr_domain_2.calls x c _ HQ.out).mono ?_); rintro e w1 ⟨rfl, hd1⟩; have HB1 := Lib.hid hd1.below; clear hd1)
  go_ret
  exact ⟨by simp, HB1.out⟩
theorem addr_domain_1__addr_domain_2.idx (l : List ByteArray) (r : Bool) (hl : l.length ≤ 9223372036854775807) (A : Option Addr) (c : Nat) (w : World) (hC : ReadsOf Value.string ByteArray.empty w A l.length l) (hG : Glob w) (Bi : Nat) (T : TypeId) (hm : w.heap[Bi]? = some (.cells #[.func (.func 135) #[] #[]] T (0, 0))) (h : anyF (fun x => addr_domain_1__addr_domain_2.p x) l = some r) :
    Calls Tryz.prog 140 #[.slice A l.length c, .func (.func 131) #[] #[.pointer (some ⟨Bi, 0, none⟩)]] w (IdxPost r w) := by
  have HC := Lib.hid hC
  have HG := Lib.hid hG
  have HM := Lib.hid hm
  have h' : Aside0 (anyF (fun x => addr_domain_1__addr_domain_2.p x) (l.drop 0) = some r) := ⟨h⟩
  clear hC h hG hm
  go_enter Tryz.func140, Tryz.ntmps140
  go_wp2
  go_loopw [8] (fun v8 w' => ∃ j : Nat, v8 = .int .i64 j ∧ j ≤ l.length ∧ Aside0 (anyF (fun x => addr_domain_1__addr_domain_2.p x) (l.drop j) = some r) ∧ Aside0 (Below w.heap.size w w')) (fun v8 _ => l.length - (intOf v8).toNat)
  case atStart => exact ⟨0, rfl, Nat.zero_le _, h', ⟨Below.refl _ _⟩⟩
  case round =>
    obtain ⟨j, rfl, hj, Hall, HB⟩ := hrel
    by_cases hlt : j < l.length
    · obtain ⟨ad, hA, hcell⟩ := (HC.out.below HB.out).at_ (j : Int) (by omega) (by omega)
      rw [Int.toNat_natCast] at hcell
      have ex : rdOf ByteArray.empty l (j : Int) = l[j]'hlt := by simp [rdOf, hlt]
      rw [ex] at hcell
      clear ex
      have hd := Hall.out
      rw [List.drop_eq_getElem_cons hlt] at hd
      obtain ⟨b, hb, hrest⟩ := anyF_cons hd
      have Hb := Lib.hid hb
      clear hb hd
      obtain ⟨x, hx⟩ : ∃ x : ByteArray, x = l[j]'hlt := ⟨_, rfl⟩
      rw [← hx] at hcell Hb
      clear hx
      rcases hrest with ⟨rfl, hr⟩ | ⟨rfl, hr⟩
      · have Hr := Lib.hid hr
        clear hr
        subst hA
        go_wp2_with (refine (addr_domain_1__addr_domain_2.clo x true _ (HG.out.below HB.out) Bi T (blk_below HM.out HB.out) Hb.out).mono ?_; rintro e w1 ⟨rfl, hb1⟩; have HB1 := Lib.hid hb1; clear hb1)
        go_ret
        refine ⟨(j : Int), rfl, ?_, HB.out.trans (HB1.out.mono HB.out.size)⟩
        rw [Hr.out]
        exact decide_eq_true (by omega)
      · have Hr := Aside0.mk hr
        clear hr
        subst hA
        go_wp2_with (refine (addr_domain_1__addr_domain_2.clo x false _ (HG.out.below HB.out) Bi T (blk_below HM.out HB.out) Hb.out).mono ?_; rintro e w1 ⟨rfl, hb1⟩; have HB1 := Lib.hid hb1; clear hb1)
        go_roundw
        case rel => exact ⟨j + 1, by go_num, hlt, Hr, ⟨HB.out.trans (HB1.out.mono HB.out.size)⟩⟩
        case measure => simp [intOf]; omega
    · go_wp2
      go_ret
      have hd := Hall.out
      rw [List.drop_of_length_le (by omega)] at hd
      have hr : false = r := Option.some.inj hd
      refine ⟨-1, rfl, ?_, HB.out⟩
      rw [← hr]; rfl
theorem addr_domain_1__addr_domain_2.cf (A0 : Option Addr) (c0 : Nat) (l0 : List ByteArray) (r : Bool) (w : World) (hr0 : Kd.C Kd.string w A0 l0.length l0) (hG : Glob w) (Bi : Nat) (T : TypeId) (hm : w.heap[Bi]? = some (.cells #[.func (.func 135) #[] #[]] T (0, 0))) (h : anyF (fun x => addr_domain_1__addr_domain_2.p x) l0 = some r) :
    Calls Tryz.prog 86 #[.slice A0 l0.length c0, .func (.func 131) #[] #[.pointer (some ⟨Bi, 0, none⟩)]] w fun e w' => e = .returned (.bool r) ∧ Below w.heap.size w w' := by
  have hrd : ReadsOf Value.string ByteArray.empty w A0 l0.length l0 := Kd.reads_of_C hr0
  have HI := Lib.hid (addr_domain_1__addr_domain_2.idx l0 r hrd.2.1 A0 c0 w hrd hG Bi T hm h)
  clear hrd hr0 h hG hm
  go_enter Tryz.func86, Tryz.ntmps86
  go_wp2_with (go_at_call 140; refine HI.out.mono ?_; rintro e w1 ⟨i, rfl, hi, hb⟩; have HB1 := Lib.hid hb; clear hb; have Hi := Lib.hid hi; clear hi)
  go_ret
  exact ⟨by have hi := Hi.out; simp [hi], HB1.out⟩
theorem addr_domain_1__addr_domain_2.calls (a0 : ByteArray) (r : Bool) (w : World) (hG : Glob w) (h : addr_domain_1__addr_domain_2.f a0 = some r) :
    Calls Tryz.prog 130 #[.string a0, .func (.func 135) #[] #[]] w fun e w' => e = .returned (.bool r) ∧ Below w.heap.size w w' := by
  obtain ⟨l, h1, h2⟩ := Option.bind_eq_some_iff.mp h
  obtain ⟨c, h3, h4⟩ := Option.bind_eq_some_iff.mp h2
  obtain rfl := Option.some.inj h4
  have HB := Aside0.mk (Below.refl w.heap.size w)
  have H1 := Aside0.mk h1
  have H3 := Aside0.mk h3
  have HG := Aside0.mk hG
  clear h h1 h2 h3 h4 hG
  go_enter Tryz.func130, Tryz.ntmps130
  go_wp2_with (first
    | (go_at_call 85; (with_reducible refine (strings_Split.calls a0 (⟨#[46]⟩ : ByteArray) l _ ?side1 H1.out).mono ?_); (case side1 => exact Glob.below HG.out (below_alloc HB.out _)); rintro e w1 ⟨v0_, rfl, hR, hb⟩; have HM := Aside0.mk (blk_below (blk_new w _) hb); have HB1 := Aside0.mk ((below_alloc HB.out _).trans (hb.mono (below_alloc HB.out _).size)); clear HB; have HR := Aside0.mk hR; clear hb hR; obtain ⟨Ao, co, eo⟩ := Kd.R_slice HR.out; subst eo)
    | (go_at_call 86; (with_reducible refine (addr_domain_1__addr_domain_2.cf _ _ l c _ (Kd.R_reads' HR.out).2.2 (Glob.below HG.out HB1.out) _ _ HM.out H3.out).mono ?_); rintro e w2 ⟨rfl, hb2⟩; have HB2 := Aside0.mk (HB1.out.trans (hb2.mono HB1.out.size)); clear hb2))
  go_ret
  exact ⟨by simp, HB2.out⟩


/-! ### addr_domain_1__addr_label: function 130 with function 134 (by hand) -/
def addr_domain_1__addr_label.p (x : ByteArray) : Option Bool := (addr_label.f x).bind fun b => some (!b)
def addr_domain_1__addr_label.f (a0 : ByteArray) : Option Bool := (strings_Split.f a0 (⟨#[46]⟩ : ByteArray)).bind fun l => (anyF (fun x => addr_domain_1__addr_label.p x) l).bind fun b => some (!b)
theorem addr_domain_1__addr_label.clo (x : ByteArray) (b : Bool) (w : World) (hG : Glob w) (Bi : Nat) (T : TypeId) (hm : w.heap[Bi]? = some (.cells #[.func (.func 134) #[] #[]] T (0, 0))) (h : addr_domain_1__addr_label.p x = some b) :
    Calls Tryz.prog 131 #[.string x, .pointer (some ⟨Bi, 0, none⟩)] w fun e w' => e = .returned (.bool b) ∧ Below w.heap.size w w' := by
  obtain ⟨c, hc, he⟩ := Option.bind_eq_some_iff.mp h
  obtain rfl := Option.some.inj he
  have hcell : w.cell? ⟨Bi, 0, none⟩ = some (.func (.func 134) #[] #[]) := (blk_cell hm 0).trans rfl
  have HQ := Aside0.mk hc
  have HG := Aside0.mk hG
  clear h he hc hm hG
  go_enter Tryz.func131, Tryz.ntmps131
  go_wp2_with (go_at_call 134; (with_reducible refine (addr_label.calls x c _ HQ.out).mono ?_); rintro e w1 ⟨rfl, hb1⟩; have HB1 := Lib.hid hb1; clear hb1)
  go_ret
  exact ⟨by simp, HB1.out⟩
theorem addr_domain_1__addr_label.idx (l : List ByteArray) (r : Bool) (hl : l.length ≤ 9223372036854775807) (A : Option Addr) (c : Nat) (w : World) (hC : ReadsOf Value.string ByteArray.empty w A l.length l) (hG : Glob w) (Bi : Nat) (T : TypeId) (hm : w.heap[Bi]? = some (.cells #[.func (.func 134) #[] #[]] T (0, 0))) (h : anyF (fun x => addr_domain_1__addr_label.p x) l = some r) :
    Calls Tryz.prog 140 #[.slice A l.length c, .func (.func 131) #[] #[.pointer (some ⟨Bi, 0, none⟩)]] w (IdxPost r w) := by
  have HC := Lib.hid hC
  have HG := Lib.hid hG
  have HM := Lib.hid hm
  have h' : Aside0 (anyF (fun x => addr_domain_1__addr_label.p x) (l.drop 0) = some r) := ⟨h⟩
  clear hC h hG hm
  go_enter Tryz.func140, Tryz.ntmps140
  go_wp2
  go_loopw [8] (fun v8 w' => ∃ j : Nat, v8 = .int .i64 j ∧ j ≤ l.length ∧ Aside0 (anyF (fun x => addr_domain_1__addr_label.p x) (l.drop j) = some r) ∧ Aside0 (Below w.heap.size w w')) (fun v8 _ => l.length - (intOf v8).toNat)
  case atStart => exact ⟨0, rfl, Nat.zero_le _, h', ⟨Below.refl _ _⟩⟩
  case round =>
    obtain ⟨j, rfl, hj, Hall, HB⟩ := hrel
    by_cases hlt : j < l.length
    · obtain ⟨ad, hA, hcell⟩ := (HC.out.below HB.out).at_ (j : Int) (by omega) (by omega)
      rw [Int.toNat_natCast] at hcell
      have ex : rdOf ByteArray.empty l (j : Int) = l[j]'hlt := by simp [rdOf, hlt]
      rw [ex] at hcell
      clear ex
      have hd := Hall.out
      rw [List.drop_eq_getElem_cons hlt] at hd
      obtain ⟨b, hb, hrest⟩ := anyF_cons hd
      have Hb := Lib.hid hb
      clear hb hd
      obtain ⟨x, hx⟩ : ∃ x : ByteArray, x = l[j]'hlt := ⟨_, rfl⟩
      rw [← hx] at hcell Hb
      clear hx
      rcases hrest with ⟨rfl, hr⟩ | ⟨rfl, hr⟩
      · have Hr := Lib.hid hr
        clear hr
        subst hA
        go_wp2_with (refine (addr_domain_1__addr_label.clo x true _ (HG.out.below HB.out) Bi T (blk_below HM.out HB.out) Hb.out).mono ?_; rintro e w1 ⟨rfl, hb1⟩; have HB1 := Lib.hid hb1; clear hb1)
        go_ret
        refine ⟨(j : Int), rfl, ?_, HB.out.trans (HB1.out.mono HB.out.size)⟩
        rw [Hr.out]
        exact decide_eq_true (by omega)
      · have Hr := Aside0.mk hr
        clear hr
        subst hA
        go_wp2_with (refine (addr_domain_1__addr_label.clo x false _ (HG.out.below HB.out) Bi T (blk_below HM.out HB.out) Hb.out).mono ?_; rintro e w1 ⟨rfl, hb1⟩; have HB1 := Lib.hid hb1; clear hb1)
        go_roundw
        case rel => exact ⟨j + 1, by go_num, hlt, Hr, ⟨HB.out.trans (HB1.out.mono HB.out.size)⟩⟩
        case measure => simp [intOf]; omega
    · go_wp2
      go_ret
      have hd := Hall.out
      rw [List.drop_of_length_le (by omega)] at hd
      have hr : false = r := Option.some.inj hd
      refine ⟨-1, rfl, ?_, HB.out⟩
      rw [← hr]; rfl
theorem addr_domain_1__addr_label.cf (A0 : Option Addr) (c0 : Nat) (l0 : List ByteArray) (r : Bool) (w : World) (hr0 : Kd.C Kd.string w A0 l0.length l0) (hG : Glob w) (Bi : Nat) (T : TypeId) (hm : w.heap[Bi]? = some (.cells #[.func (.func 134) #[] #[]] T (0, 0))) (h : anyF (fun x => addr_domain_1__addr_label.p x) l0 = some r) :
    Calls Tryz.prog 86 #[.slice A0 l0.length c0, .func (.func 131) #[] #[.pointer (some ⟨Bi, 0, none⟩)]] w fun e w' => e = .returned (.bool r) ∧ Below w.heap.size w w' := by
  have hrd : ReadsOf Value.string ByteArray.empty w A0 l0.length l0 := Kd.reads_of_C hr0
  have HI := Lib.hid (addr_domain_1__addr_label.idx l0 r hrd.2.1 A0 c0 w hrd hG Bi T hm h)
  clear hrd hr0 h hG hm
  go_enter Tryz.func86, Tryz.ntmps86
  go_wp2_with (go_at_call 140; refine HI.out.mono ?_; rintro e w1 ⟨i, rfl, hi, hb⟩; have HB1 := Lib.hid hb; clear hb; have Hi := Lib.hid hi; clear hi)
  go_ret
  exact ⟨by have hi := Hi.out; simp [hi], HB1.out⟩
theorem addr_domain_1__addr_label.calls (a0 : ByteArray) (r : Bool) (w : World) (hG : Glob w) (h : addr_domain_1__addr_label.f a0 = some r) :
    Calls Tryz.prog 130 #[.string a0, .func (.func 134) #[] #[]] w fun e w' => e = .returned (.bool r) ∧ Below w.heap.size w w' := by
  obtain ⟨l, h1, h2⟩ := Option.bind_eq_some_iff.mp h
  obtain ⟨c, h3, h4⟩ := Option.bind_eq_some_iff.mp h2
  obtain rfl := Option.some.inj h4
  have HB := Aside0.mk (Below.refl w.heap.size w)
  have H1 := Aside0.mk h1
  have H3 := Aside0.mk h3
  have HG := Aside0.mk hG
  clear h h1 h2 h3 h4 hG
  go_enter Tryz.func130, Tryz.ntmps130
  go_wp2_with (first
    | (go_at_call 85; (with_reducible refine (strings_Split.calls a0 (⟨#[46]⟩ : ByteArray) l _ ?side1 H1.out).mono ?_); (case side1 => exact Glob.below HG.out (below_alloc HB.out _)); rintro e w1 ⟨v0_, rfl, hR, hb⟩; have HM := Aside0.mk (blk_below (blk_new w _) hb); have HB1 := Aside0.mk ((below_alloc HB.out _).trans (hb.mono (below_alloc HB.out _).size)); clear HB; have HR := Aside0.mk hR; clear hb hR; obtain ⟨Ao, co, eo⟩ := Kd.R_slice HR.out; subst eo)
    | (go_at_call 86; (with_reducible refine (addr_domain_1__addr_label.cf _ _ l c _ (Kd.R_reads' HR.out).2.2 (Glob.below HG.out HB1.out) _ _ HM.out H3.out).mono ?_); rintro e w2 ⟨rfl, hb2⟩; have HB2 := Aside0.mk (HB1.out.trans (hb2.mono HB1.out.size)); clear hb2))
  go_ret
  exact ⟨by simp, HB2.out⟩


/-! ### addr_domain_1__addr_octet: function 130 with function 133 (by hand) -/
def addr_domain_1__addr_octet.p (x : ByteArray) : Option Bool := (addr_octet.f x).bind fun b => some (!b)
def addr_domain_1__addr_octet.f (a0 : ByteArray) : Option Bool := (strings_Split.f a0 (⟨#[46]⟩ : ByteArray)).bind fun l => (anyF (fun x => addr_domain_1__addr_octet.p x) l).bind fun b => some (!b)
theorem addr_domain_1__addr_octet.clo (x : ByteArray) (b : Bool) (w : World) (hG : Glob w) (Bi : Nat) (T : TypeId) (hm : w.heap[Bi]? = some (.cells #[.func (.func 133) #[] #[]] T (0, 0))) (h : addr_domain_1__addr_octet.p x = some b) :
    Calls Tryz.prog 131 #[.string x, .pointer (some ⟨Bi, 0, none⟩)] w fun e w' => e = .returned (.bool b) ∧ Below w.heap.size w w' := by
  obtain ⟨c, hc, he⟩ := Option.bind_eq_some_iff.mp h
  obtain rfl := Option.some.inj he
  have hcell : w.cell? ⟨Bi, 0, none⟩ = some (.func (.func 133) #[] #[]) := (blk_cell hm 0).trans rfl
  have HQ := Aside0.mk hc
  have HG := Aside0.mk hG
  clear h he hc hm hG
  go_enter Tryz.func131, Tryz.ntmps131
  go_wp2_with (go_at_call 133; (with_reducible refine (addr_octet.calls x c _ HG.out HQ.out).mono ?_); rintro e w1 ⟨rfl, hb1⟩; have HB1 := Lib.hid hb1; clear hb1)
  go_ret
  exact ⟨by simp, HB1.out⟩
theorem addr_domain_1__addr_octet.idx (l : List ByteArray) (r : Bool) (hl : l.length ≤ 9223372036854775807) (A : Option Addr) (c : Nat) (w : World) (hC : ReadsOf Value.string ByteArray.empty w A l.length l) (hG : Glob w) (Bi : Nat) (T : TypeId) (hm : w.heap[Bi]? = some (.cells #[.func (.func 133) #[] #[]] T (0, 0))) (h : anyF (fun x => addr_domain_1__addr_octet.p x) l = some r) :
    Calls Tryz.prog 140 #[.slice A l.length c, .func (.func 131) #[] #[.pointer (some ⟨Bi, 0, none⟩)]] w (IdxPost r w) := by
  have HC := Lib.hid hC
  have HG := Lib.hid hG
  have HM := Lib.hid hm
  have h' : Aside0 (anyF (fun x => addr_domain_1__addr_octet.p x) (l.drop 0) = some r) := ⟨h⟩
  clear hC h hG hm
  go_enter Tryz.func140, Tryz.ntmps140
  go_wp2
  go_loopw [8] (fun v8 w' => ∃ j : Nat, v8 = .int .i64 j ∧ j ≤ l.length ∧ Aside0 (anyF (fun x => addr_domain_1__addr_octet.p x) (l.drop j) = some r) ∧ Aside0 (Below w.heap.size w w')) (fun v8 _ => l.length - (intOf v8).toNat)
  case atStart => exact ⟨0, rfl, Nat.zero_le _, h', ⟨Below.refl _ _⟩⟩
  case round =>
    obtain ⟨j, rfl, hj, Hall, HB⟩ := hrel
    by_cases hlt : j < l.length
    · obtain ⟨ad, hA, hcell⟩ := (HC.out.below HB.out).at_ (j : Int) (by omega) (by omega)
      rw [Int.toNat_natCast] at hcell
      have ex : rdOf ByteArray.empty l (j : Int) = l[j]'hlt := by simp [rdOf, hlt]
      rw [ex] at hcell
      clear ex
      have hd := Hall.out
      rw [List.drop_eq_getElem_cons hlt] at hd
      obtain ⟨b, hb, hrest⟩ := anyF_cons hd
      have Hb := Lib.hid hb
      clear hb hd
      obtain ⟨x, hx⟩ : ∃ x : ByteArray, x = l[j]'hlt := ⟨_, rfl⟩
      rw [← hx] at hcell Hb
      clear hx
      rcases hrest with ⟨rfl, hr⟩ | ⟨rfl, hr⟩
      · have Hr := Lib.hid hr
        clear hr
        subst hA
        go_wp2_with (refine (addr_domain_1__addr_octet.clo x true _ (HG.out.below HB.out) Bi T (blk_below HM.out HB.out) Hb.out).mono ?_; rintro e w1 ⟨rfl, hb1⟩; have HB1 := Lib.hid hb1; clear hb1)
        go_ret
        refine ⟨(j : Int), rfl, ?_, HB.out.trans (HB1.out.mono HB.out.size)⟩
        rw [Hr.out]
        exact decide_eq_true (by omega)
      · have Hr := Aside0.mk hr
        clear hr
        subst hA
        go_wp2_with (refine (addr_domain_1__addr_octet.clo x false _ (HG.out.below HB.out) Bi T (blk_below HM.out HB.out) Hb.out).mono ?_; rintro e w1 ⟨rfl, hb1⟩; have HB1 := Lib.hid hb1; clear hb1)
        go_roundw
        case rel => exact ⟨j + 1, by go_num, hlt, Hr, ⟨HB.out.trans (HB1.out.mono HB.out.size)⟩⟩
        case measure => simp [intOf]; omega
    · go_wp2
      go_ret
      have hd := Hall.out
      rw [List.drop_of_length_le (by omega)] at hd
      have hr : false = r := Option.some.inj hd
      refine ⟨-1, rfl, ?_, HB.out⟩
      rw [← hr]; rfl
theorem addr_domain_1__addr_octet.cf (A0 : Option Addr) (c0 : Nat) (l0 : List ByteArray) (r : Bool) (w : World) (hr0 : Kd.C Kd.string w A0 l0.length l0) (hG : Glob w) (Bi : Nat) (T : TypeId) (hm : w.heap[Bi]? = some (.cells #[.func (.func 133) #[] #[]] T (0, 0))) (h : anyF (fun x => addr_domain_1__addr_octet.p x) l0 = some r) :
    Calls Tryz.prog 86 #[.slice A0 l0.length c0, .func (.func 131) #[] #[.pointer (some ⟨Bi, 0, none⟩)]] w fun e w' => e = .returned (.bool r) ∧ Below w.heap.size w w' := by
  have hrd : ReadsOf Value.string ByteArray.empty w A0 l0.length l0 := Kd.reads_of_C hr0
  have HI := Lib.hid (addr_domain_1__addr_octet.idx l0 r hrd.2.1 A0 c0 w hrd hG Bi T hm h)
  clear hrd hr0 h hG hm
  go_enter Tryz.func86, Tryz.ntmps86
  go_wp2_with (go_at_call 140; refine HI.out.mono ?_; rintro e w1 ⟨i, rfl, hi, hb⟩; have HB1 := Lib.hid hb; clear hb; have Hi := Lib.hid hi; clear hi)
  go_ret
  exact ⟨by have hi := Hi.out; simp [hi], HB1.out⟩
theorem addr_domain_1__addr_octet.calls (a0 : ByteArray) (r : Bool) (w : World) (hG : Glob w) (h : addr_domain_1__addr_octet.f a0 = some r) :
    Calls Tryz.prog 130 #[.string a0, .func (.func 133) #[] #[]] w fun e w' => e = .returned (.bool r) ∧ Below w.heap.size w w' := by
  obtain ⟨l, h1, h2⟩ := Option.bind_eq_some_iff.mp h
  obtain ⟨c, h3, h4⟩ := Option.bind_eq_some_iff.mp h2
  obtain rfl := Option.some.inj h4
  have HB := Aside0.mk (Below.refl w.heap.size w)
  have H1 := Aside0.mk h1
  have H3 := Aside0.mk h3
  have HG := Aside0.mk hG
  clear h h1 h2 h3 h4 hG
  go_enter Tryz.func130, Tryz.ntmps130
  go_wp2_with (first
    | (go_at_call 85; (with_reducible refine (strings_Split.calls a0 (⟨#[46]⟩ : ByteArray) l _ ?side1 H1.out).mono ?_); (case side1 => exact Glob.below HG.out (below_alloc HB.out _)); rintro e w1 ⟨v0_, rfl, hR, hb⟩; have HM := Aside0.mk (blk_below (blk_new w _) hb); have HB1 := Aside0.mk ((below_alloc HB.out _).trans (hb.mono (below_alloc HB.out _).size)); clear HB; have HR := Aside0.mk hR; clear hb hR; obtain ⟨Ao, co, eo⟩ := Kd.R_slice HR.out; subst eo)
    | (go_at_call 86; (with_reducible refine (addr_domain_1__addr_octet.cf _ _ l c _ (Kd.R_reads' HR.out).2.2 (Glob.below HG.out HB1.out) _ _ HM.out H3.out).mono ?_); rintro e w2 ⟨rfl, hb2⟩; have HB2 := Aside0.mk (HB1.out.trans (hb2.mono HB1.out.size)); clear hb2))
  go_ret
  exact ⟨by simp, HB2.out⟩


/-! ### strings_Count: function 132 (by hand) -/
def strings_Count.f (a0 a1 : ByteArray) : Option Int := match a1.data.toList with | [c] => some (Lib.countByte a0.data.toList c) | _ => none
theorem strings_Count.calls (a0 a1 : ByteArray) (r : Int) (w : World) (h : strings_Count.f a0 a1 = some r) :
    Calls Tryz.prog 132 #[.string a0, .string a1] w fun e w' => e = .returned (.int .i64 r) ∧ Drawn0 w w' := by
  unfold strings_Count.f at h
  split at h
  · rename_i c hc
    obtain rfl := Option.some.inj h
    obtain rfl : a1 = ⟨#[c]⟩ := by
      obtain ⟨⟨l⟩⟩ := a1
      simp at hc
      rw [hc]
    refine (Tryz.strings_Count_one a0 c w).mono ?_
    rintro e w' ⟨rfl, rfl⟩
    exact ⟨rfl, Drawn0.refl _⟩
  · cases h


/-! ### addr_domain: function 81 -/
def addr_domain.f (a0 : ByteArray) : Option (Int) := (strings_CutPrefix.f a0 (⟨#[91]⟩ : ByteArray)).bind fun bt165 => (if bt165.2 = true then ((strings_CutSuffix.f bt165.1 (⟨#[93]⟩ : ByteArray)).bind fun bt167 => (if bt167.2 = true then ((strings_Count.f bt167.1 (⟨#[46]⟩ : ByteArray)).bind fun t169 => (if t169 = 3 then ((addr_domain_1__addr_octet.f bt167.1).bind fun t170 => (if t170 = true then (some 0) else (some 5))) else (some 5))) else (some 5))) else ((addr_domain_1__addr_label.f a0).bind fun t171 => (if t171 = true then (if (a0.size : Int) > 255 then (some 3) else ((addr_domain_1__addr_domain_2.f a0).bind fun t172 => (if t172 = true then (some 0) else (some 3)))) else (some 5))))
theorem addr_domain.calls (a0 : ByteArray) (r : Int) (w : World) (hG : Glob w) (h : addr_domain.f a0 = some r) :
  Calls Tryz.prog 81 #[.string a0] w fun e w' => e = .returned (.int .i64 r) ∧ Below w.heap.size w w' := by
 have HB := Aside0.mk (Below.refl w.heap.size w)
 have HG := Aside0.mk hG
 clear hG
 have H : ((strings_CutPrefix.f a0 (⟨#[91]⟩ : ByteArray)).bind fun bt165 => (if bt165.2 = true then ((strings_CutSuffix.f bt165.1 (⟨#[93]⟩ : ByteArray)).bind fun bt167 => (if bt167.2 = true then ((strings_Count.f bt167.1 (⟨#[46]⟩ : ByteArray)).bind fun t169 => (if t169 = 3 then ((addr_domain_1__addr_octet.f bt167.1).bind fun t170 => (if t170 = true then (some 0) else (some 5))) else (some 5))) else (some 5))) else ((addr_domain_1__addr_label.f a0).bind fun t171 => (if t171 = true then (if (a0.size : Int) > 255 then (some 3) else ((addr_domain_1__addr_domain_2.f a0).bind fun t172 => (if t172 = true then (some 0) else (some 3)))) else (some 5))))) = some r := h
 clear h
 obtain ⟨⟨t165, t166⟩, A20, H⟩ := Option.bind_eq_some_iff.mp H
 replace H : (if t166 = true then ((strings_CutSuffix.f t165 (⟨#[93]⟩ : ByteArray)).bind fun bt167 => (if bt167.2 = true then ((strings_Count.f bt167.1 (⟨#[46]⟩ : ByteArray)).bind fun t169 => (if t169 = 3 then ((addr_domain_1__addr_octet.f bt167.1).bind fun t170 => (if t170 = true then (some 0) else (some 5))) else (some 5))) else (some 5))) else ((addr_domain_1__addr_label.f a0).bind fun t171 => (if t171 = true then (if (a0.size : Int) > 255 then (some 3) else ((addr_domain_1__addr_domain_2.f a0).bind fun t172 => (if t172 = true then (some 0) else (some 3)))) else (some 5)))) = some r := H
 have A2 := Aside0.mk A20
 clear A20
 by_cases c3 : t166 = true
 ·subst c3
  replace H : ((strings_CutSuffix.f t165 (⟨#[93]⟩ : ByteArray)).bind fun bt167 => (if bt167.2 = true then ((strings_Count.f bt167.1 (⟨#[46]⟩ : ByteArray)).bind fun t169 => (if t169 = 3 then ((addr_domain_1__addr_octet.f bt167.1).bind fun t170 => (if t170 = true then (some 0) else (some 5))) else (some 5))) else (some 5))) = some r := by rw [if_pos rfl] at H; exact H
  obtain ⟨⟨t167, t168⟩, A40, H⟩ := Option.bind_eq_some_iff.mp H
  replace H : (if t168 = true then ((strings_Count.f t167 (⟨#[46]⟩ : ByteArray)).bind fun t169 => (if t169 = 3 then ((addr_domain_1__addr_octet.f t167).bind fun t170 => (if t170 = true then (some 0) else (some 5))) else (some 5))) else (some 5)) = some r := H
  have A4 := Aside0.mk A40
  clear A40
  by_cases c5 : t168 = true
  ·subst c5
   replace H : ((strings_Count.f t167 (⟨#[46]⟩ : ByteArray)).bind fun t169 => (if t169 = 3 then ((addr_domain_1__addr_octet.f t167).bind fun t170 => (if t170 = true then (some 0) else (some 5))) else (some 5))) = some r := by rw [if_pos rfl] at H; exact H
   obtain ⟨t169, A60, H⟩ := Option.bind_eq_some_iff.mp H
   replace H : (if t169 = 3 then ((addr_domain_1__addr_octet.f t167).bind fun t170 => (if t170 = true then (some 0) else (some 5))) else (some 5)) = some r := H
   have A6 := Aside0.mk A60
   clear A60
   by_cases c7 : t169 = 3
   ·rw [if_pos c7] at H
    have c7b0 : (t169 == 3) = true := beq_iff_eq.mpr c7
    have c7b1 : (t169 != 3) = false := bne_eq_false_iff_eq.mpr c7
    clear c7
    obtain ⟨t170, A80, H⟩ := Option.bind_eq_some_iff.mp H
    replace H : (if t170 = true then (some 0) else (some 5)) = some r := H
    have A8 := Aside0.mk A80
    clear A80
    by_cases c9 : t170 = true
    ·subst c9
     replace H : (some 0) = some r := by rw [if_pos rfl] at H; exact H
     obtain rfl := Option.some.inj H
     go_enter Tryz.func81, Tryz.ntmps81
     go_wp2_with (first | ((with_reducible refine gate_callee (f := 80) rfl ?_); refine goesL_ (some 10) rfl rfl Tryz.func80 kf rfl #[.string a0, .string (⟨#[91]⟩ : ByteArray)] rfl ml ?_; (with_reducible refine (strings_CutPrefix.calls a0 (⟨#[91]⟩ : ByteArray) t165 true _ A2.out).mono ?_); rintro e w' ⟨rfl, ⟨nd, rfl⟩⟩; refine ⟨_, rfl, ?_⟩) | ((with_reducible refine gate_callee (f := 84) rfl ?_); refine goesL_ (some 16) rfl rfl Tryz.func84 kf rfl #[.string t165, .string (⟨#[93]⟩ : ByteArray)] rfl ml ?_; (with_reducible refine (strings_CutSuffix.calls t165 (⟨#[93]⟩ : ByteArray) t167 true _ A4.out).mono ?_); rintro e w' ⟨rfl, ⟨nd, rfl⟩⟩; refine ⟨_, rfl, ?_⟩) | (go_at_call 132; (with_reducible refine (strings_Count.calls t167 (⟨#[46]⟩ : ByteArray) t169 _ A6.out).mono ?_); rintro e w' ⟨rfl, ⟨nd, rfl⟩⟩) | (go_at_call 130; (with_reducible refine (addr_domain_1__addr_octet.calls t167 true _ ?side1 A8.out).mono ?_); (case side1 => exact Glob.below HG.out bl); rintro e w10 ⟨rfl, hb⟩; replace HB := Aside0.mk (below_step bl hb); (try clear hb); (try clear hb2); (try clear hk); (try clear hi)))
     go_ret
     exact ⟨rf, bl⟩
    ·replace c9 := Bool.eq_false_iff.mpr c9
     subst c9
     replace H : (some 5) = some r := by rw [if_neg (show ¬ (false = true) by decide)] at H; exact H
     obtain rfl := Option.some.inj H
     go_enter Tryz.func81, Tryz.ntmps81
     go_wp2_with (first | ((with_reducible refine gate_callee (f := 80) rfl ?_); refine goesL_ (some 10) rfl rfl Tryz.func80 kf rfl #[.string a0, .string (⟨#[91]⟩ : ByteArray)] rfl ml ?_; (with_reducible refine (strings_CutPrefix.calls a0 (⟨#[91]⟩ : ByteArray) t165 true _ A2.out).mono ?_); rintro e w' ⟨rfl, ⟨nd, rfl⟩⟩; refine ⟨_, rfl, ?_⟩) | ((with_reducible refine gate_callee (f := 84) rfl ?_); refine goesL_ (some 16) rfl rfl Tryz.func84 kf rfl #[.string t165, .string (⟨#[93]⟩ : ByteArray)] rfl ml ?_; (with_reducible refine (strings_CutSuffix.calls t165 (⟨#[93]⟩ : ByteArray) t167 true _ A4.out).mono ?_); rintro e w' ⟨rfl, ⟨nd, rfl⟩⟩; refine ⟨_, rfl, ?_⟩) | (go_at_call 132; (with_reducible refine (strings_Count.calls t167 (⟨#[46]⟩ : ByteArray) t169 _ A6.out).mono ?_); rintro e w' ⟨rfl, ⟨nd, rfl⟩⟩) | (go_at_call 130; (with_reducible refine (addr_domain_1__addr_octet.calls t167 false _ ?side1 A8.out).mono ?_); (case side1 => exact Glob.below HG.out bl); rintro e w11 ⟨rfl, hb⟩; replace HB := Aside0.mk (below_step bl hb); (try clear hb); (try clear hb2); (try clear hk); (try clear hi)))
     go_ret
     exact ⟨rf, bl⟩
   ·rw [if_neg c7] at H
    have c7b0 : (t169 == 3) = false := beq_eq_false_iff_ne.mpr c7
    have c7b1 : (t169 != 3) = true := bne_iff_ne.mpr c7
    obtain rfl := Option.some.inj H
    go_enter Tryz.func81, Tryz.ntmps81
    go_wp2_with (first | ((with_reducible refine gate_callee (f := 80) rfl ?_); refine goesL_ (some 10) rfl rfl Tryz.func80 kf rfl #[.string a0, .string (⟨#[91]⟩ : ByteArray)] rfl ml ?_; (with_reducible refine (strings_CutPrefix.calls a0 (⟨#[91]⟩ : ByteArray) t165 true _ A2.out).mono ?_); rintro e w' ⟨rfl, ⟨nd, rfl⟩⟩; refine ⟨_, rfl, ?_⟩) | ((with_reducible refine gate_callee (f := 84) rfl ?_); refine goesL_ (some 16) rfl rfl Tryz.func84 kf rfl #[.string t165, .string (⟨#[93]⟩ : ByteArray)] rfl ml ?_; (with_reducible refine (strings_CutSuffix.calls t165 (⟨#[93]⟩ : ByteArray) t167 true _ A4.out).mono ?_); rintro e w' ⟨rfl, ⟨nd, rfl⟩⟩; refine ⟨_, rfl, ?_⟩) | (go_at_call 132; (with_reducible refine (strings_Count.calls t167 (⟨#[46]⟩ : ByteArray) t169 _ A6.out).mono ?_); rintro e w' ⟨rfl, ⟨nd, rfl⟩⟩))
    go_ret
    exact ⟨rf, bl⟩
  ·replace c5 := Bool.eq_false_iff.mpr c5
   subst c5
   replace H : (some 5) = some r := by rw [if_neg (show ¬ (false = true) by decide)] at H; exact H
   obtain rfl := Option.some.inj H
   go_enter Tryz.func81, Tryz.ntmps81
   go_wp2_with (first | ((with_reducible refine gate_callee (f := 80) rfl ?_); refine goesL_ (some 10) rfl rfl Tryz.func80 kf rfl #[.string a0, .string (⟨#[91]⟩ : ByteArray)] rfl ml ?_; (with_reducible refine (strings_CutPrefix.calls a0 (⟨#[91]⟩ : ByteArray) t165 true _ A2.out).mono ?_); rintro e w' ⟨rfl, ⟨nd, rfl⟩⟩; refine ⟨_, rfl, ?_⟩) | ((with_reducible refine gate_callee (f := 84) rfl ?_); refine goesL_ (some 16) rfl rfl Tryz.func84 kf rfl #[.string t165, .string (⟨#[93]⟩ : ByteArray)] rfl ml ?_; (with_reducible refine (strings_CutSuffix.calls t165 (⟨#[93]⟩ : ByteArray) t167 false _ A4.out).mono ?_); rintro e w' ⟨rfl, ⟨nd, rfl⟩⟩; refine ⟨_, rfl, ?_⟩))
   go_ret
   exact ⟨rf, bl⟩
 ·replace c3 := Bool.eq_false_iff.mpr c3
  subst c3
  replace H : ((addr_domain_1__addr_label.f a0).bind fun t171 => (if t171 = true then (if (a0.size : Int) > 255 then (some 3) else ((addr_domain_1__addr_domain_2.f a0).bind fun t172 => (if t172 = true then (some 0) else (some 3)))) else (some 5))) = some r := by rw [if_neg (show ¬ (false = true) by decide)] at H; exact H
  obtain ⟨t171, A120, H⟩ := Option.bind_eq_some_iff.mp H
  replace H : (if t171 = true then (if (a0.size : Int) > 255 then (some 3) else ((addr_domain_1__addr_domain_2.f a0).bind fun t172 => (if t172 = true then (some 0) else (some 3)))) else (some 5)) = some r := H
  have A12 := Aside0.mk A120
  clear A120
  by_cases c13 : t171 = true
  ·subst c13
   replace H : (if (a0.size : Int) > 255 then (some 3) else ((addr_domain_1__addr_domain_2.f a0).bind fun t172 => (if t172 = true then (some 0) else (some 3)))) = some r := by rw [if_pos rfl] at H; exact H
   by_cases c14 : (a0.size : Int) > 255
   ·rw [if_pos c14] at H
    have c14b0 : decide (255 < (a0.size : Int)) = true := decide_eq_true c14
    have c14b1 : decide (255 < a0.size) = true := decide_eq_true (by omega)
    clear c14
    obtain rfl := Option.some.inj H
    go_enter Tryz.func81, Tryz.ntmps81
    go_wp2_with (first | ((with_reducible refine gate_callee (f := 80) rfl ?_); refine goesL_ (some 10) rfl rfl Tryz.func80 kf rfl #[.string a0, .string (⟨#[91]⟩ : ByteArray)] rfl ml ?_; (with_reducible refine (strings_CutPrefix.calls a0 (⟨#[91]⟩ : ByteArray) t165 false _ A2.out).mono ?_); rintro e w' ⟨rfl, ⟨nd, rfl⟩⟩; refine ⟨_, rfl, ?_⟩) | (go_at_call 130; (with_reducible refine (addr_domain_1__addr_label.calls a0 true _ ?side1 A12.out).mono ?_); (case side1 => exact Glob.below HG.out bl); rintro e w15 ⟨rfl, hb⟩; replace HB := Aside0.mk (below_step bl hb); (try clear hb); (try clear hb2); (try clear hk); (try clear hi)))
    go_ret
    exact ⟨rf, bl⟩
   ·rw [if_neg c14] at H
    have c14b0 : decide (255 < (a0.size : Int)) = false := decide_eq_false c14
    have c14b1 : decide (255 < a0.size) = false := decide_eq_false (by omega)
    clear c14
    obtain ⟨t172, A160, H⟩ := Option.bind_eq_some_iff.mp H
    replace H : (if t172 = true then (some 0) else (some 3)) = some r := H
    have A16 := Aside0.mk A160
    clear A160
    by_cases c17 : t172 = true
    ·subst c17
     replace H : (some 0) = some r := by rw [if_pos rfl] at H; exact H
     obtain rfl := Option.some.inj H
     go_enter Tryz.func81, Tryz.ntmps81
     go_wp2_with (first | ((with_reducible refine gate_callee (f := 80) rfl ?_); refine goesL_ (some 10) rfl rfl Tryz.func80 kf rfl #[.string a0, .string (⟨#[91]⟩ : ByteArray)] rfl ml ?_; (with_reducible refine (strings_CutPrefix.calls a0 (⟨#[91]⟩ : ByteArray) t165 false _ A2.out).mono ?_); rintro e w' ⟨rfl, ⟨nd, rfl⟩⟩; refine ⟨_, rfl, ?_⟩) | (go_at_call 130; (with_reducible refine (addr_domain_1__addr_label.calls a0 true _ ?side1 A12.out).mono ?_); (case side1 => exact Glob.below HG.out bl); rintro e w18 ⟨rfl, hb⟩; replace HB := Aside0.mk (below_step bl hb); (try clear hb); (try clear hb2); (try clear hk); (try clear hi)) | (go_at_call 130; (with_reducible refine (addr_domain_1__addr_domain_2.calls a0 true _ ?side1 A16.out).mono ?_); (case side1 => exact Glob.below HG.out bl); rintro e w19 ⟨rfl, hb⟩; replace HB := Aside0.mk (below_step bl hb); (try clear hb); (try clear hb2); (try clear hk); (try clear hi)))
     go_ret
     exact ⟨rf, bl⟩
    ·replace c17 := Bool.eq_false_iff.mpr c17
     subst c17
     replace H : (some 3) = some r := by rw [if_neg (show ¬ (false = true) by decide)] at H; exact H
     obtain rfl := Option.some.inj H
     go_enter Tryz.func81, Tryz.ntmps81
     go_wp2_with (first | ((with_reducible refine gate_callee (f := 80) rfl ?_); refine goesL_ (some 10) rfl rfl Tryz.func80 kf rfl #[.string a0, .string (⟨#[91]⟩ : ByteArray)] rfl ml ?_; (with_reducible refine (strings_CutPrefix.calls a0 (⟨#[91]⟩ : ByteArray) t165 false _ A2.out).mono ?_); rintro e w' ⟨rfl, ⟨nd, rfl⟩⟩; refine ⟨_, rfl, ?_⟩) | (go_at_call 130; (with_reducible refine (addr_domain_1__addr_label.calls a0 true _ ?side1 A12.out).mono ?_); (case side1 => exact Glob.below HG.out bl); rintro e w20 ⟨rfl, hb⟩; replace HB := Aside0.mk (below_step bl hb); (try clear hb); (try clear hb2); (try clear hk); (try clear hi)) | (go_at_call 130; (with_reducible refine (addr_domain_1__addr_domain_2.calls a0 false _ ?side1 A16.out).mono ?_); (case side1 => exact Glob.below HG.out bl); rintro e w21 ⟨rfl, hb⟩; replace HB := Aside0.mk (below_step bl hb); (try clear hb); (try clear hb2); (try clear hk); (try clear hi)))
     go_ret
     exact ⟨rf, bl⟩
  ·replace c13 := Bool.eq_false_iff.mpr c13
   subst c13
   replace H : (some 5) = some r := by rw [if_neg (show ¬ (false = true) by decide)] at H; exact H
   obtain rfl := Option.some.inj H
   go_enter Tryz.func81, Tryz.ntmps81
   go_wp2_with (first | ((with_reducible refine gate_callee (f := 80) rfl ?_); refine goesL_ (some 10) rfl rfl Tryz.func80 kf rfl #[.string a0, .string (⟨#[91]⟩ : ByteArray)] rfl ml ?_; (with_reducible refine (strings_CutPrefix.calls a0 (⟨#[91]⟩ : ByteArray) t165 false _ A2.out).mono ?_); rintro e w' ⟨rfl, ⟨nd, rfl⟩⟩; refine ⟨_, rfl, ?_⟩) | (go_at_call 130; (with_reducible refine (addr_domain_1__addr_label.calls a0 false _ ?side1 A12.out).mono ?_); (case side1 => exact Glob.below HG.out bl); rintro e w22 ⟨rfl, hb⟩; replace HB := Aside0.mk (below_step bl hb); (try clear hb); (try clear hb2); (try clear hk); (try clear hi)))
   go_ret
   exact ⟨rf, bl⟩

/-! ### addr_Parse: function 45 -/
def addr_Parse.j0 : Nat → ByteArray → ByteArray → Int → Bool → Option (ByteArray × ByteArray × Int)
 | 0, _, _, _, _ => none
 | k + 1, x4, x7, x9, x23 => if x23 = true then (some ((⟨#[]⟩ : ByteArray), (⟨#[]⟩ : ByteArray), 5)) else (if x9 = 0 then (if (x4.size : Int) > 64 then (some ((⟨#[]⟩ : ByteArray), (⟨#[]⟩ : ByteArray), 3)) else (some (x4, x7, 0))) else (some ((⟨#[]⟩ : ByteArray), (⟨#[]⟩ : ByteArray), 3)))
def addr_Parse.f (k : Nat) (a0 : ByteArray) : Option (ByteArray × ByteArray × Int) := (addr_local.f k a0).bind fun bt174 => ((strings_CutPrefix.f bt174.2.1 (⟨#[64]⟩ : ByteArray)).bind fun bt177 => ((addr_domain.f bt177.1).bind fun t179 => (if bt174.2.2 = true then (if bt177.2 = true then (addr_Parse.j0 k bt174.1 bt177.1 t179 (t179 == 5)) else (addr_Parse.j0 k bt174.1 bt177.1 t179 true)) else (addr_Parse.j0 k bt174.1 bt177.1 t179 true))))
theorem addr_Parse.mono_l : ∀ k, (∀ y0 y1 y2 y3, LeO (addr_Parse.j0 k y0 y1 y2 y3) (addr_Parse.j0 (k + 1) y0 y1 y2 y3))
 | 0 => fun _ _ _ _ r h => by simp [addr_Parse.j0] at h
 | k + 1 => by
  have ih0 := addr_Parse.mono_l k
  ·intro y0 y1 y2 y3
   unfold addr_Parse.j0
   repeat' first
   | (with_reducible first | exact ih0 _ _ _ _ | exact addr_local.mono _ _ | exact LeO.refl _ | exact LeO.none _ | refine LeO.ite ?_ ?_ | refine LeO.bind ?_ (fun _ => ?_))
theorem addr_Parse.mono : ∀ a0 k, LeO (addr_Parse.f k a0) (addr_Parse.f (k + 1) a0) := by
 intro a0 k
 have ih0 := addr_Parse.mono_l k
 unfold addr_Parse.f
 repeat' first
   | (with_reducible first | exact ih0 _ _ _ _ | exact addr_local.mono _ _ | exact LeO.refl _ | exact LeO.none _ | refine LeO.ite ?_ ?_ | refine LeO.bind ?_ (fun _ => ?_))
theorem addr_Parse.calls (k : Nat) (a0 : ByteArray) (r1 : ByteArray) (r2 : ByteArray) (r3 : Int) (w : World) (hG : Glob w) (h : addr_Parse.f k a0 = some (r1, r2, r3)) :
  Calls Tryz.prog 45 #[.string a0] w fun e w' => e = .returned (.tuple #[.agg #[.string r1, .string r2], .int .i64 r3]) ∧ Below w.heap.size w w' := by
 have hu50 := Tryz.underlying50
 have HB := Aside0.mk (Below.refl w.heap.size w)
 have HG := Aside0.mk hG
 clear hG
 have H : ((addr_local.f k a0).bind fun bt174 => ((strings_CutPrefix.f bt174.2.1 (⟨#[64]⟩ : ByteArray)).bind fun bt177 => ((addr_domain.f bt177.1).bind fun t179 => (if bt174.2.2 = true then (if bt177.2 = true then (addr_Parse.j0 k bt174.1 bt177.1 t179 (t179 == 5)) else (addr_Parse.j0 k bt174.1 bt177.1 t179 true)) else (addr_Parse.j0 k bt174.1 bt177.1 t179 true))))) = some (r1, r2, r3) := h
 clear h
 obtain ⟨⟨t174, t175, t176⟩, A20, H⟩ := Option.bind_eq_some_iff.mp H
 replace H : ((strings_CutPrefix.f t175 (⟨#[64]⟩ : ByteArray)).bind fun bt177 => ((addr_domain.f bt177.1).bind fun t179 => (if t176 = true then (if bt177.2 = true then (addr_Parse.j0 k t174 bt177.1 t179 (t179 == 5)) else (addr_Parse.j0 k t174 bt177.1 t179 true)) else (addr_Parse.j0 k t174 bt177.1 t179 true)))) = some (r1, r2, r3) := H
 have A2 := Aside0.mk A20
 clear A20
 obtain ⟨⟨t177, t178⟩, A30, H⟩ := Option.bind_eq_some_iff.mp H
 replace H : ((addr_domain.f t177).bind fun t179 => (if t176 = true then (if t178 = true then (addr_Parse.j0 k t174 t177 t179 (t179 == 5)) else (addr_Parse.j0 k t174 t177 t179 true)) else (addr_Parse.j0 k t174 t177 t179 true))) = some (r1, r2, r3) := H
 have A3 := Aside0.mk A30
 clear A30
 obtain ⟨t179, A40, H⟩ := Option.bind_eq_some_iff.mp H
 replace H : (if t176 = true then (if t178 = true then (addr_Parse.j0 k t174 t177 t179 (t179 == 5)) else (addr_Parse.j0 k t174 t177 t179 true)) else (addr_Parse.j0 k t174 t177 t179 true)) = some (r1, r2, r3) := H
 have A4 := Aside0.mk A40
 clear A40
 have HC5 := Aside0.mk H
 clear H
 go_enter Tryz.func45, Tryz.ntmps45
 go_upto_region 4 with (first | ((with_reducible refine gate_dst (N := 2) rfl ?_); (try (refine gate_guard (by rfl) ?_; dsimp only)); refine box_event ?hg (N := 2) ?hd (cs := #[.string (⟨#[]⟩ : ByteArray), .string (⟨#[]⟩ : ByteArray)]) (t := 50) ?hr ?_; (case hd => rfl); (case hg => rfl); (case hr => first | (go_simp; done) | (go_simp; rfl)); intro gb173 hg w6 hbox hb; have BK173 := Aside0.mk (hbox); have GW173 := Aside0.mk (gz hg : w.heap.size ≤ gb173); have GE173 := Aside0.mk (gz hg : w.heap.size ≤ gb173); replace HB := Aside0.mk (below_step bl hb); clear hb hbox hg) | ((with_reducible refine gate_callee (f := 79) rfl ?_); refine goesL_ (some 12) rfl rfl Tryz.func79 kf rfl #[.string a0] rfl ml ?_; (with_reducible refine (addr_local.calls k a0 t174 t175 t176 _ ?side1 A2.out).mono ?_); (case side1 => exact Glob.below HG.out bl); rintro e w7 ⟨rfl, hb⟩; refine ⟨_, rfl, ?_⟩; replace BK173 := Aside0.mk (kb BK173.out hb); replace HB := Aside0.mk (below_step bl hb); (try clear hb); (try clear hb2); (try clear hk); (try clear hi)) | ((with_reducible refine gate_callee (f := 80) rfl ?_); refine goesL_ (some 18) rfl rfl Tryz.func80 kf rfl #[.string t175, .string (⟨#[64]⟩ : ByteArray)] rfl ml ?_; (with_reducible refine (strings_CutPrefix.calls t175 (⟨#[64]⟩ : ByteArray) t177 t178 _ A3.out).mono ?_); rintro e w' ⟨rfl, ⟨nd, rfl⟩⟩; refine ⟨_, rfl, ?_⟩) | ((with_reducible refine gate_callee (f := 81) rfl ?_); refine goesL_ (some 22) rfl rfl Tryz.func81 kf rfl #[.string t177] rfl ml ?_; (with_reducible refine (addr_domain.calls t177 t179 _ ?side1 A4.out).mono ?_); (case side1 => exact Glob.below HG.out bl); rintro e w8 ⟨rfl, hb⟩; refine ⟨_, rfl, ?_⟩; replace BK173 := Aside0.mk (kb BK173.out hb); replace HB := Aside0.mk (below_step bl hb); (try clear hb); (try clear hb2); (try clear hk); (try clear hi)))
 (try simp only [Act.put, sA, sB, sC])
 go_cut [23] (fun v23 wc => ∃ (kq : Nat) (x23_4 : Bool), v23 = .bool x23_4 ∧ Aside0 (addr_Parse.j0 kq t174 t177 t179 x23_4 = some (r1, r2, r3)) ∧ Aside0 (kq ≤ k) ∧ Aside0 (wc.heap[gb173]? = some (.cells #[.string (⟨#[]⟩ : ByteArray), .string (⟨#[]⟩ : ByteArray)] 50 (0, 0))) ∧ Aside0 (Below w.heap.size w wc))
 case first =>
  have H := HC5.out
  clear HC5
  by_cases c9 : t176 = true
  ·subst c9
   replace H : (if t178 = true then (addr_Parse.j0 k t174 t177 t179 (t179 == 5)) else (addr_Parse.j0 k t174 t177 t179 true)) = some (r1, r2, r3) := by rw [if_pos rfl] at H; exact H
   by_cases c10 : t178 = true
   ·subst c10
    replace H : (addr_Parse.j0 k t174 t177 t179 (t179 == 5)) = some (r1, r2, r3) := by rw [if_pos rfl] at H; exact H
    have H' := Aside0.mk H
    clear H
    go_wp2
    go_meet
    case rel => exact ⟨_, ((t179 == 5)), rs, H', ⟨by first | omega | exact Nat.le_refl _⟩, ⟨bk BK173.out⟩, ⟨bl⟩⟩
   ·replace c10 := Bool.eq_false_iff.mpr c10
    subst c10
    replace H : (addr_Parse.j0 k t174 t177 t179 true) = some (r1, r2, r3) := by rw [if_neg (show ¬ (false = true) by decide)] at H; exact H
    have H' := Aside0.mk H
    clear H
    go_wp2
    go_meet
    case rel => exact ⟨_, (true), rs, H', ⟨by first | omega | exact Nat.le_refl _⟩, ⟨bk BK173.out⟩, ⟨bl⟩⟩
  ·replace c9 := Bool.eq_false_iff.mpr c9
   subst c9
   replace H : (addr_Parse.j0 k t174 t177 t179 true) = some (r1, r2, r3) := by rw [if_neg (show ¬ (false = true) by decide)] at H; exact H
   have H' := Aside0.mk H
   clear H
   go_wp2
   go_meet
   case rel => exact ⟨_, (true), rs, H', ⟨by first | omega | exact Nat.le_refl _⟩, ⟨bk BK173.out⟩, ⟨bl⟩⟩
 case rest =>
  clear HC5
  try clear c1
  try clear p2
  try clear c4
  try clear c7
  try clear c8
  try clear c9
  try clear c10
  obtain ⟨kq, x23_4, rfl, HA, HJ4, BK173, HB⟩ := hcut
  cases kq with
  | zero => exact absurd HA.out (by simp [addr_Parse.j0])
  | succ kj4 =>
   have H := HA.out
   clear HA
   simp only [addr_Parse.j0] at H
   by_cases c11 : x23_4 = true
   ·subst c11
    replace H : (some ((⟨#[]⟩ : ByteArray), (⟨#[]⟩ : ByteArray), 5)) = some (r1, r2, r3) := by rw [if_pos rfl] at H; exact H
    simp only [Option.some.injEq, Prod.mk.injEq] at H
    obtain ⟨rfl, rfl, rfl⟩ := H
    have hcz12_0 := cz BK173.out 0 (.string (⟨#[]⟩ : ByteArray))
    have hcz12_1 := cz BK173.out 1 (.string (⟨#[]⟩ : ByteArray))
    have hfz12_0 := blk_frozen BK173.out 0
    have hfz12_1 := blk_frozen BK173.out 1
    go_wp2
    refine bodyPost_ret (results_ct rfl _ _ gb173 50 #[.string (⟨#[]⟩ : ByteArray), .string (⟨#[]⟩ : ByteArray)] (0, 0) _ rfl (by (with_reducible repeat (first | refine blk_drewN ?_ _ | refine blk_drew ?_ | refine blk_alloc ?_ _)); refine blk_put (cs := #[.string (⟨#[]⟩ : ByteArray), .string (⟨#[]⟩ : ByteArray)]) ?_ 1 _ rfl; (with_reducible repeat (first | refine blk_drewN ?_ _ | refine blk_drew ?_ | refine blk_alloc ?_ _)); refine blk_put (cs := #[.string (⟨#[]⟩ : ByteArray), .string (⟨#[]⟩ : ByteArray)]) ?_ 0 _ rfl; (with_reducible repeat (first | refine blk_drewN ?_ _ | refine blk_drew ?_ | refine blk_alloc ?_ _)); exact BK173.out) Tryz.underlying50 rfl kf) rfl ?_
    exact ⟨rf, bl⟩
   ·replace c11 := Bool.eq_false_iff.mpr c11
    subst c11
    replace H : (if t179 = 0 then (if (t174.size : Int) > 64 then (some ((⟨#[]⟩ : ByteArray), (⟨#[]⟩ : ByteArray), 3)) else (some (t174, t177, 0))) else (some ((⟨#[]⟩ : ByteArray), (⟨#[]⟩ : ByteArray), 3))) = some (r1, r2, r3) := by rw [if_neg (show ¬ (false = true) by decide)] at H; exact H
    by_cases c13 : t179 = 0
    ·rw [if_pos c13] at H
     have c13b0 : (t179 == 0) = true := beq_iff_eq.mpr c13
     have c13b1 : (t179 != 0) = false := bne_eq_false_iff_eq.mpr c13
     clear c13
     by_cases c14 : (t174.size : Int) > 64
     ·rw [if_pos c14] at H
      have c14b0 : decide (64 < (t174.size : Int)) = true := decide_eq_true c14
      have c14b1 : decide (64 < t174.size) = true := decide_eq_true (by omega)
      clear c14
      simp only [Option.some.injEq, Prod.mk.injEq] at H
      obtain ⟨rfl, rfl, rfl⟩ := H
      have hcz15_0 := cz BK173.out 0 (.string (⟨#[]⟩ : ByteArray))
      have hcz15_1 := cz BK173.out 1 (.string (⟨#[]⟩ : ByteArray))
      have hfz15_0 := blk_frozen BK173.out 0
      have hfz15_1 := blk_frozen BK173.out 1
      go_wp2
      refine bodyPost_ret (results_ct rfl _ _ gb173 50 #[.string (⟨#[]⟩ : ByteArray), .string (⟨#[]⟩ : ByteArray)] (0, 0) _ rfl (by (with_reducible repeat (first | refine blk_drewN ?_ _ | refine blk_drew ?_ | refine blk_alloc ?_ _)); refine blk_put (cs := #[.string (⟨#[]⟩ : ByteArray), .string (⟨#[]⟩ : ByteArray)]) ?_ 1 _ rfl; (with_reducible repeat (first | refine blk_drewN ?_ _ | refine blk_drew ?_ | refine blk_alloc ?_ _)); refine blk_put (cs := #[.string (⟨#[]⟩ : ByteArray), .string (⟨#[]⟩ : ByteArray)]) ?_ 0 _ rfl; (with_reducible repeat (first | refine blk_drewN ?_ _ | refine blk_drew ?_ | refine blk_alloc ?_ _)); exact BK173.out) Tryz.underlying50 rfl kf) rfl ?_
      exact ⟨rf, bl⟩
     ·rw [if_neg c14] at H
      have c14b0 : decide (64 < (t174.size : Int)) = false := decide_eq_false c14
      have c14b1 : decide (64 < t174.size) = false := decide_eq_false (by omega)
      clear c14
      simp only [Option.some.injEq, Prod.mk.injEq] at H
      obtain ⟨rfl, rfl, rfl⟩ := H
      have hcz16_0 := cz BK173.out 0 (.string (⟨#[]⟩ : ByteArray))
      have hcz16_1 := cz BK173.out 1 (.string (⟨#[]⟩ : ByteArray))
      have hfz16_0 := blk_frozen BK173.out 0
      have hfz16_1 := blk_frozen BK173.out 1
      go_wp2
      refine bodyPost_ret (results_ct rfl _ _ gb173 50 #[.string t174, .string t177] (0, 0) _ rfl (by (with_reducible repeat (first | refine blk_drewN ?_ _ | refine blk_drew ?_ | refine blk_alloc ?_ _)); refine blk_put (cs := #[.string t174, .string (⟨#[]⟩ : ByteArray)]) ?_ 1 _ rfl; (with_reducible repeat (first | refine blk_drewN ?_ _ | refine blk_drew ?_ | refine blk_alloc ?_ _)); refine blk_put (cs := #[.string (⟨#[]⟩ : ByteArray), .string (⟨#[]⟩ : ByteArray)]) ?_ 0 _ rfl; (with_reducible repeat (first | refine blk_drewN ?_ _ | refine blk_drew ?_ | refine blk_alloc ?_ _)); exact BK173.out) Tryz.underlying50 rfl kf) rfl ?_
      exact ⟨rf, bl⟩
    ·rw [if_neg c13] at H
     have c13b0 : (t179 == 0) = false := beq_eq_false_iff_ne.mpr c13
     have c13b1 : (t179 != 0) = true := bne_iff_ne.mpr c13
     simp only [Option.some.injEq, Prod.mk.injEq] at H
     obtain ⟨rfl, rfl, rfl⟩ := H
     have hcz17_0 := cz BK173.out 0 (.string (⟨#[]⟩ : ByteArray))
     have hcz17_1 := cz BK173.out 1 (.string (⟨#[]⟩ : ByteArray))
     have hfz17_0 := blk_frozen BK173.out 0
     have hfz17_1 := blk_frozen BK173.out 1
     go_wp2
     refine bodyPost_ret (results_ct rfl _ _ gb173 50 #[.string (⟨#[]⟩ : ByteArray), .string (⟨#[]⟩ : ByteArray)] (0, 0) _ rfl (by (with_reducible repeat (first | refine blk_drewN ?_ _ | refine blk_drew ?_ | refine blk_alloc ?_ _)); refine blk_put (cs := #[.string (⟨#[]⟩ : ByteArray), .string (⟨#[]⟩ : ByteArray)]) ?_ 1 _ rfl; (with_reducible repeat (first | refine blk_drewN ?_ _ | refine blk_drew ?_ | refine blk_alloc ?_ _)); refine blk_put (cs := #[.string (⟨#[]⟩ : ByteArray), .string (⟨#[]⟩ : ByteArray)]) ?_ 0 _ rfl; (with_reducible repeat (first | refine blk_drewN ?_ _ | refine blk_drew ?_ | refine blk_alloc ?_ _)); exact BK173.out) Tryz.underlying50 rfl kf) rfl ?_
     exact ⟨rf, bl⟩

end Go.Proofs.YtacjnapgdikhbaaGreatDoor.Q
end
section
namespace Go.Proofs.YtacjnapgdikhbaaGreatDoor.Q

attribute [local go_sem high] eqA50
/-! ### guard_Marks: function 17 -/
def guard_Marks.l0 : Nat → List (S50) → List ByteArray → Int → Int → Option ((List (S50)))
 | 0, _, _, _, _ => none
 | k + 1, x3, x9, x10, x11 => if x11 < x10 then (if 0 ≤ x11 then (if x11 < (x9.length : Int) then ((addr_Parse.f k (rdOf ByteArray.empty x9 x11)).bind fun bt185 => (if bt185.2.2 = 0 then ((addr_Normal.f bt185.1 bt185.2.1).bind fun bt189 => (if x3.length < 4398046511104 then (guard_Marks.l0 k (x3 ++ [(⟨bt189.1, bt189.2⟩ : S50)]) x9 x10 (wrap64 (x11 + 1))) else (none))) else (guard_Marks.l0 k x3 x9 x10 (wrap64 (x11 + 1))))) else (none)) else (none)) else (some x3)
def guard_Marks.f (k : Nat) (l0_0 : List (S72)) (a0_1 : ByteArray) (a0_2 : Bool) : Option ((List (S50))) := (head_Message_Find.f l0_0 a0_1 a0_2 (⟨#[68, 101, 108, 105, 118, 101, 114, 101, 100, 45, 84, 111]⟩ : ByteArray)).bind fun t181 => (guard_Marks.l0 k ([] : List (S50)) t181 (t181.length : Int) 0)
theorem guard_Marks.mono_l : ∀ k, (∀ y0 y1 y2 y3, LeO (guard_Marks.l0 k y0 y1 y2 y3) (guard_Marks.l0 (k + 1) y0 y1 y2 y3))
 | 0 => fun _ _ _ _ r h => by simp [guard_Marks.l0] at h
 | k + 1 => by
  have ih0 := guard_Marks.mono_l k
  ·intro y0 y1 y2 y3
   unfold guard_Marks.l0
   repeat' first
   | (with_reducible first | exact ih0 _ _ _ _ | exact addr_Parse.mono _ _ | exact LeO.refl _ | exact LeO.none _ | refine LeO.ite ?_ ?_ | refine LeO.bind ?_ (fun _ => ?_))
theorem guard_Marks.mono : ∀ a0 a1 a2 k, LeO (guard_Marks.f k a0 a1 a2) (guard_Marks.f (k + 1) a0 a1 a2) := by
 intro a0 a1 a2 k
 have ih0 := guard_Marks.mono_l k
 unfold guard_Marks.f
 repeat' first
   | (with_reducible first | exact ih0 _ _ _ _ | exact addr_Parse.mono _ _ | exact LeO.refl _ | exact LeO.none _ | refine LeO.ite ?_ ?_ | refine LeO.bind ?_ (fun _ => ?_))
theorem guard_Marks.calls (k : Nat) (A0_0 : Option Addr) (c0_0 : Nat) (l0_0 : List (S72)) (a0_1 : ByteArray) (a0_2 : Bool) (r : List (S50)) (w : World) (hr0_0 : Kd.C k72 w A0_0 l0_0.length l0_0) (hc0_0 : l0_0.length ≤ c0_0) (hG : Glob w) (h : guard_Marks.f k l0_0 a0_1 a0_2 = some r) :
  Calls Tryz.prog 17 #[.agg #[.slice A0_0 l0_0.length c0_0, .string a0_1, .bool a0_2]] w fun e w' => ∃ v0_ : Value, e = .returned (v0_) ∧ Kd.R k50 50 w' w.heap.size (fun _ => True) v0_ r ∧ Below w.heap.size w w' := by
 have hu24 := Tryz.underlying24
 have hu50 := Tryz.underlying50
 have HR0_0 := Aside0.mk hr0_0
 have HC0_0 := Aside0.mk hc0_0
 clear hr0_0 hc0_0
 have HB := Aside0.mk (Below.refl w.heap.size w)
 have HG := Aside0.mk hG
 clear hG
 have H : ((head_Message_Find.f l0_0 a0_1 a0_2 (⟨#[68, 101, 108, 105, 118, 101, 114, 101, 100, 45, 84, 111]⟩ : ByteArray)).bind fun t181 => (guard_Marks.l0 k ([] : List (S50)) t181 (t181.length : Int) 0)) = some r := h
 clear h
 obtain ⟨t181, A20, H⟩ := Option.bind_eq_some_iff.mp H
 replace H : (guard_Marks.l0 k ([] : List (S50)) t181 (t181.length : Int) 0) = some r := H
 have A2 := Aside0.mk A20
 clear A20
 have H' := Aside0.mk H
 clear H
 go_enter Tryz.func17, Tryz.ntmps17
 go_wp2_with (first | ((with_reducible refine gate_dst (N := 1) rfl ?_); refine box_event ?hg (N := 1) ?hd (cs := #[.slice A0_0 l0_0.length c0_0, .string a0_1, .bool a0_2]) (t := 24) ?hr ?_; (case hd => rfl); (case hg => rfl); (case hr => first | (go_simp; done) | (go_simp; rfl)); intro gb180 hg w3 hbox hb; have BK180 := Aside0.mk (hbox); have GW180 := Aside0.mk (gz hg : w.heap.size ≤ gb180); have GE180 := Aside0.mk (gz hg : w.heap.size ≤ gb180); replace HB := Aside0.mk (below_step bl hb); clear hb hbox hg; have hcz4_0 := cz BK180.out 0 (.slice A0_0 l0_0.length c0_0); have hcz4_1 := cz BK180.out 1 (.string a0_1); have hcz4_2 := cz BK180.out 2 (.bool a0_2); have hfz4_0 := blk_frozen BK180.out 0; have hfz4_1 := blk_frozen BK180.out 1; have hfz4_2 := blk_frozen BK180.out 2) | ((with_reducible refine gate_callee (f := 44) rfl ?_); refine goesL_ (some 9) rfl rfl Tryz.func44 kf rfl #[.agg #[.slice A0_0 l0_0.length c0_0, .string a0_1, .bool a0_2], .string (⟨#[68, 101, 108, 105, 118, 101, 114, 101, 100, 45, 84, 111]⟩ : ByteArray)] rfl ml ?_; (with_reducible refine (head_Message_Find.calls _ _ l0_0 a0_1 a0_2 (⟨#[68, 101, 108, 105, 118, 101, 114, 101, 100, 45, 84, 111]⟩ : ByteArray) t181 _ ?side1 ?side2 A2.out).mono ?_); (case side1 => repeat (first | exact (Kd.C_below HR0_0.out HB.out) | (with_reducible refine Kd.C_alloc ?_ _) | (with_reducible refine Kd.C_drewN ?_ _) | (with_reducible refine Kd.C_drew ?_))); (case side2 => exact HC0_0.out); rintro e w5 ⟨v182, rfl, ho0, hb⟩; refine ⟨_, rfl, ?_⟩; have HO183 := Aside0.mk (Kd.R_lower ho0 (below_size bl)); replace BK180 := Aside0.mk (kb BK180.out hb); replace HB := Aside0.mk (below_step bl hb); (try clear hb); (try clear hb2); (try clear hk); (try clear hi); (try clear ho0); obtain ⟨Ao6, co6, eo6⟩ := Kd.R_slice HO183.out; subst eo6))
 go_loopg [3, 11] k (fun kq v3 v11 w' => ∃ (x3_1 : List (S50)) (x11_1 : Int), v11 = .int .i64 x11_1 ∧ Aside0 (guard_Marks.l0 kq x3_1 t181 (t181.length : Int) x11_1 = some r) ∧ Aside0 (kq ≤ k) ∧ Aside0 (Kd.R k50 50 w' w.heap.size (fun _ => True) v3 x3_1) ∧ Aside0 (Kd.R Kd.string 9 w' w.heap.size (fun _ => True) (.slice Ao6 t181.length co6) t181) ∧ Aside0 (w'.heap[gb180]? = some (.cells #[(.slice A0_0 l0_0.length c0_0), .string a0_1, .bool a0_2] 24 (0, 0))) ∧ Aside0 (Below w.heap.size w w'))
 case atStart => exact ⟨(([] : List (S50))), (0), rs, H', ⟨Nat.le_refl _⟩, ⟨by first | exact Kd.R_nil _ _ _ _ _ | exact Kd.N_nil _ _ _ _ _ | exact Kd.V_nil _ _ _ _ _ | exact Kd.Q_nil _ _ _ _ _ | exact Kd.S_nil _ _ _ _ _⟩, ⟨kr HO183.out⟩, ⟨bk BK180.out⟩, ⟨bl⟩⟩
 case round =>
  clear H'
  try clear c1
  try clear p2
  try clear c4
  try clear hcz4_0
  try clear hcz4_1
  try clear hcz4_2
  try clear hfz4_0
  try clear hfz4_1
  try clear hfz4_2
  obtain ⟨x3_1, x11_1, rfl, HA, HK1, HO_3, HO_9, BK180, HB⟩ := hrel
  cases gk with
  | zero => exact absurd HA.out (by simp [guard_Marks.l0])
  | succ k1 =>
   have H := HA.out
   clear HA
   simp only [guard_Marks.l0] at H
   by_cases c7 : x11_1 < (t181.length : Int)
   ·rw [if_pos c7] at H
    have c7b0 : decide (x11_1 < (t181.length : Int)) = true := decide_eq_true c7
    clear c7
    by_cases c8 : 0 ≤ x11_1
    rotate_left
    ·rw [if_neg c8] at H
     exact ab H
    rw [if_pos c8] at H
    have c8b0 : decide (0 ≤ x11_1) = true := decide_eq_true c8
    clear c8
    by_cases c9 : x11_1 < (t181.length : Int)
    rotate_left
    ·rw [if_neg c9] at H
     exact ab H
    rw [if_pos c9] at H
    have c9b0 : decide (x11_1 < (t181.length : Int)) = true := decide_eq_true c9
    clear c9
    obtain ⟨⟨t185, t186, t187⟩, A100, H⟩ := Option.bind_eq_some_iff.mp H
    replace H : (if t187 = 0 then ((addr_Normal.f t185 t186).bind fun bt189 => (if x3_1.length < 4398046511104 then (guard_Marks.l0 k1 (x3_1 ++ [(⟨bt189.1, bt189.2⟩ : S50)]) t181 (t181.length : Int) (wrap64 (x11_1 + 1))) else (none))) else (guard_Marks.l0 k1 x3_1 t181 (t181.length : Int) (wrap64 (x11_1 + 1)))) = some r := H
    have A10 := Aside0.mk A100
    clear A100
    by_cases c11 : t187 = 0
    ·rw [if_pos c11] at H
     have c11b0 : (t187 == 0) = true := beq_iff_eq.mpr c11
     have c11b1 : (t187 != 0) = false := bne_eq_false_iff_eq.mpr c11
     clear c11
     obtain ⟨⟨t189, t190⟩, A120, H⟩ := Option.bind_eq_some_iff.mp H
     replace H : (if x3_1.length < 4398046511104 then (guard_Marks.l0 k1 (x3_1 ++ [(⟨t189, t190⟩ : S50)]) t181 (t181.length : Int) (wrap64 (x11_1 + 1))) else (none)) = some r := H
     have A12 := Aside0.mk A120
     clear A120
     by_cases c13 : x3_1.length < 4398046511104
     rotate_left
     ·rw [if_neg c13] at H
      exact ab H
     rw [if_pos c13] at H
     have LMc13 := Aside0.mk c13
     clear c13
     obtain ⟨y191, hy191⟩ : ∃ y_ : List (S50), y_ = (x3_1 ++ [(⟨t189, t190⟩ : S50)]) := ⟨_, rfl⟩
     replace H : (guard_Marks.l0 k1 y191 t181 (t181.length : Int) (wrap64 (x11_1 + 1))) = some r := by first | (rw [hy191]; with_reducible exact H) | (have H2_ := (Option.bind_some _ _).symm.trans H; rw [hy191]; with_reducible exact H2_) | (have H2_ := (Option.bind_some _ _).symm.trans H; with_reducible exact H2_) | with_reducible exact H | (rw [hy191]; exact H) | exact H
     have Ny191 := Aside0.mk hy191
     clear hy191
     have H' := Aside0.mk H
     clear H
     have p184 : 0 ≤ (x11_1 : Int) := od
     have q184 : x11_1 < (t181.length : Int) := od
     obtain ⟨ad184, e184, hx184_0⟩ := Kd.at_string (Kd.R_reads' HO_9.out).2.2 x11_1 p184 q184
     cases e184
     replace p184 := eq_true p184
     replace q184 := eq_true q184
     go_wp2_with (first | ((with_reducible refine gate_callee (f := 45) rfl ?_); refine goesL_ (some 17) rfl rfl Tryz.func45 kf rfl #[.string (rdOf ByteArray.empty t181 x11_1)] rfl ml ?_; (with_reducible refine (addr_Parse.calls k1 (rdOf ByteArray.empty t181 x11_1) t185 t186 t187 _ ?side1 A10.out).mono ?_); (case side1 => exact Glob.below HG.out bl); rintro e w14 ⟨rfl, hb⟩; refine ⟨_, rfl, ?_⟩; replace HO_3 := Aside0.mk (Kd.R_below (kr HO_3.out) hb); replace HO_9 := Aside0.mk (Kd.R_below (kr HO_9.out) hb); replace BK180 := Aside0.mk (kb BK180.out hb); replace HB := Aside0.mk (below_step bl hb); (try clear hb); (try clear hb2); (try clear hk); (try clear hi)) | ((with_reducible refine gate_dst (N := 6) rfl ?_); refine box_event ?hg (N := 6) ?hd (cs := #[.string (⟨#[]⟩ : ByteArray), .string (⟨#[]⟩ : ByteArray)]) (t := 50) ?hr ?_; (case hd => rfl); (case hg => rfl); (case hr => first | (go_simp; done) | (go_simp; rfl)); intro gb188 hg w15 hbox hb; replace HO_3 := Aside0.mk (Kd.R_below (Kd.R_elderB (kr HO_3.out) gb188 (Nat.le_of_eq hg.symm)) hb); replace HO_9 := Aside0.mk (Kd.R_below (kr HO_9.out) hb); have BK188 := Aside0.mk (hbox); have GW188 := Aside0.mk (gz hg : w.heap.size ≤ gb188); have GE188 := Aside0.mk (gz hg : w.heap.size ≤ gb188); replace HB := Aside0.mk (below_step bl hb); have NB180_188 := Aside0.mk (nl hg BK180.out : gb180 ≠ gb188); have NB188_180 := Aside0.mk (ng hg BK180.out : gb188 ≠ gb180); replace BK180 := Aside0.mk (kb BK180.out hb); clear hb hbox hg; have hnb16 := NB188_180.out; have hnc16 := NB180_188.out; have hcz17_0 := cz BK188.out 0 (.string (⟨#[]⟩ : ByteArray)); have hcz17_1 := cz BK188.out 1 (.string (⟨#[]⟩ : ByteArray)); have hfz17_0 := blk_frozen BK188.out 0; have hfz17_1 := blk_frozen BK188.out 1) | ((with_reducible refine gate_callee (f := 33) rfl ?_); refine goesL_ (some 24) rfl rfl Tryz.func33 kf rfl #[.agg #[.string t185, .string t186]] rfl ml ?_; (with_reducible refine (addr_Normal.calls t185 t186 t189 t190 _ A12.out).mono ?_); rintro e w18 ⟨rfl, hb⟩; refine ⟨_, rfl, ?_⟩; replace HO_3 := Aside0.mk (Kd.R_below (by (with_reducible repeat (first | apply Kd.R_alloc | apply Kd.R_drewN | apply Kd.R_drew)); exact (Kd.R_mono (Kd.R_far (p := ⟨gb188, 1, none⟩) (Kd.R_far (p := ⟨gb188, 0, none⟩) (Kd.R_mono HO_3.out (fun k_ hk => (⟨hk, hk.2⟩ : _ ∧ k_ ≠ gb188))) (fun _ hk => hk.2) (.string t185)) (fun _ hk => hk.2) (.string t186)) (fun _ h_ => h_.1))) hb); replace HO_9 := Aside0.mk (Kd.R_below (by (with_reducible repeat (first | apply Kd.R_alloc | apply Kd.R_drewN | apply Kd.R_drew)); exact (Kd.R_mono (Kd.R_far (p := ⟨gb188, 1, none⟩) (Kd.R_far (p := ⟨gb188, 0, none⟩) (Kd.R_types HO_9.out BK188.out (by decide)) (fun _ hk => hk.2) (.string t185)) (fun _ hk => hk.2) (.string t186)) (fun _ h_ => h_.1))) hb); replace BK180 := Aside0.mk (kb BK180.out hb); replace BK188 := Aside0.mk (blk_below (g := gb188) (o := .cells #[.string t185, .string t186] 50 (0, 0)) (by (with_reducible repeat (first | refine blk_drewN ?_ _ | refine blk_drew ?_ | refine blk_alloc ?_ _)); refine blk_put (cs := #[.string t185, .string (⟨#[]⟩ : ByteArray)]) ?_ 1 _ rfl; (with_reducible repeat (first | refine blk_drewN ?_ _ | refine blk_drew ?_ | refine blk_alloc ?_ _)); refine blk_put (cs := #[.string (⟨#[]⟩ : ByteArray), .string (⟨#[]⟩ : ByteArray)]) ?_ 0 _ rfl; (with_reducible repeat (first | refine blk_drewN ?_ _ | refine blk_drew ?_ | refine blk_alloc ?_ _)); exact BK188.out) hb); replace HB := Aside0.mk (below_step bl hb); (try clear hb); (try clear hb2); (try clear hk); (try clear hi)) | ((with_reducible refine gate_builtin (b := .append) (xs := #[.tmp 22, .tmp 25]) rfl ?_); at_builtin; refine Kd.R_append k50 (w0 := w) w.heap.size rfl (.tmp 22) (.tmp 25) 25 50 (.agg #[(.string ⟨#[]⟩), (.string ⟨#[]⟩)]) 32 rfl Tryz.underlying25 info50 rfl (by decide) (by omega) u3 x3_1 (⟨t189, t190⟩ : S50) [.string t189, .string t190] (fun k_ => k_ ≠ gb188) (fun _ => False) rfl rfl ?aP (fun _ hk => hk.elim) ?aF ?aO ?aB ?aS ?aL ?_; (case aP => exact k50_mkM _ _ _ (⟨t189, t190⟩ : S50)); (case aB => exact bl); (case aF => exact (fun k_ hk => Kd.freshB (g := gb188) (o := .cells #[.string t185, .string t186] 50 (0, 0)) (bk BK188.out) k_ hk)); (case aO => exact (by (with_reducible repeat (first | apply Kd.R_alloc | apply Kd.R_drewN | apply Kd.R_drew)); exact Kd.R_mono HO_3.out (fun _ hk => hk.2))); (case aS => exact (below_size bl)); (case aL => have := LMc13.out; omega); intro v192 w19 ho hb hg hat; rw [← Ny191.out] at ho; replace HO_9 := Aside0.mk (Kd.R_over' (kr HO_9.out) (Kd.R_typed (kr HO_3.out)) (by decide) hg); replace BK180 := Aside0.mk (blk_grown (g := gb180) (o := .cells #[.slice A0_0 l0_0.length c0_0, .string a0_1, .bool a0_2] 24 (0, 0)) (bk BK180.out) hg (Kd.R_ne HO_3.out BK180.out (by decide))); replace BK188 := Aside0.mk (blk_grown (g := gb188) (o := .cells #[.string t185, .string t186] 50 (0, 0)) (bk BK188.out) hg (Kd.R_away HO_3.out (fun _ hk => hk.2))); replace HB := Aside0.mk (hb); have HO193 := Aside0.mk (ho); clear HO_3 ho hb hg hat))
     go_roundg k1
     case measure => have := HK1.out; omega
     case rel => exact ⟨(y191), (wrap64 (x11_1 + 1)), rs, H', ⟨by have := HK1.out; omega⟩, ⟨by (with_reducible repeat (first | apply Kd.R_alloc | apply Kd.R_drewN | apply Kd.R_drew)); exact Kd.R_mono HO193.out (fun _ hk => trivial)⟩, ⟨kr HO_9.out⟩, ⟨bk BK180.out⟩, ⟨bl⟩⟩
    ·rw [if_neg c11] at H
     have c11b0 : (t187 == 0) = false := beq_eq_false_iff_ne.mpr c11
     have c11b1 : (t187 != 0) = true := bne_iff_ne.mpr c11
     have H' := Aside0.mk H
     clear H
     have p184 : 0 ≤ (x11_1 : Int) := od
     have q184 : x11_1 < (t181.length : Int) := od
     obtain ⟨ad184, e184, hx184_0⟩ := Kd.at_string (Kd.R_reads' HO_9.out).2.2 x11_1 p184 q184
     cases e184
     replace p184 := eq_true p184
     replace q184 := eq_true q184
     go_wp2_with (first | ((with_reducible refine gate_callee (f := 45) rfl ?_); refine goesL_ (some 17) rfl rfl Tryz.func45 kf rfl #[.string (rdOf ByteArray.empty t181 x11_1)] rfl ml ?_; (with_reducible refine (addr_Parse.calls k1 (rdOf ByteArray.empty t181 x11_1) t185 t186 t187 _ ?side1 A10.out).mono ?_); (case side1 => exact Glob.below HG.out bl); rintro e w20 ⟨rfl, hb⟩; refine ⟨_, rfl, ?_⟩; replace HO_3 := Aside0.mk (Kd.R_below (kr HO_3.out) hb); replace HO_9 := Aside0.mk (Kd.R_below (kr HO_9.out) hb); replace BK180 := Aside0.mk (kb BK180.out hb); replace HB := Aside0.mk (below_step bl hb); (try clear hb); (try clear hb2); (try clear hk); (try clear hi)) | ((with_reducible refine gate_dst (N := 6) rfl ?_); refine box_event ?hg (N := 6) ?hd (cs := #[.string (⟨#[]⟩ : ByteArray), .string (⟨#[]⟩ : ByteArray)]) (t := 50) ?hr ?_; (case hd => rfl); (case hg => rfl); (case hr => first | (go_simp; done) | (go_simp; rfl)); intro gb188 hg w21 hbox hb; replace HO_3 := Aside0.mk (Kd.R_below (Kd.R_elderB (kr HO_3.out) gb188 (Nat.le_of_eq hg.symm)) hb); replace HO_9 := Aside0.mk (Kd.R_below (kr HO_9.out) hb); have BK188 := Aside0.mk (hbox); have GW188 := Aside0.mk (gz hg : w.heap.size ≤ gb188); have GE188 := Aside0.mk (gz hg : w.heap.size ≤ gb188); replace HB := Aside0.mk (below_step bl hb); have NB180_188 := Aside0.mk (nl hg BK180.out : gb180 ≠ gb188); have NB188_180 := Aside0.mk (ng hg BK180.out : gb188 ≠ gb180); replace BK180 := Aside0.mk (kb BK180.out hb); clear hb hbox hg; have hnb22 := NB188_180.out; have hnc22 := NB180_188.out; have hcz23_0 := cz BK188.out 0 (.string (⟨#[]⟩ : ByteArray)); have hcz23_1 := cz BK188.out 1 (.string (⟨#[]⟩ : ByteArray)); have hfz23_0 := blk_frozen BK188.out 0; have hfz23_1 := blk_frozen BK188.out 1))
     go_roundg k1
     case measure => have := HK1.out; omega
     case rel => exact ⟨(x3_1), (wrap64 (x11_1 + 1)), rs, H', ⟨by have := HK1.out; omega⟩, ⟨by (with_reducible repeat (first | apply Kd.R_alloc | apply Kd.R_drewN | apply Kd.R_drew)); exact Kd.R_mono (Kd.R_far (p := ⟨gb188, 1, none⟩) (Kd.R_far (p := ⟨gb188, 0, none⟩) (Kd.R_mono HO_3.out (fun k_ hk => (⟨hk, hk.2⟩ : _ ∧ k_ ≠ gb188))) (fun _ hk => hk.2) (.string t185)) (fun _ hk => hk.2) (.string t186)) (fun _ hk => trivial)⟩, ⟨by (with_reducible repeat (first | apply Kd.R_alloc | apply Kd.R_drewN | apply Kd.R_drew)); exact Kd.R_mono (Kd.R_far (p := ⟨gb188, 1, none⟩) (Kd.R_far (p := ⟨gb188, 0, none⟩) (Kd.R_types HO_9.out BK188.out (by decide)) (fun _ hk => hk.2) (.string t185)) (fun _ hk => hk.2) (.string t186)) (fun _ hk => trivial)⟩, ⟨bk BK180.out⟩, ⟨bl⟩⟩
   ·rw [if_neg c7] at H
    have c7b0 : decide (x11_1 < (t181.length : Int)) = false := decide_eq_false c7
    clear c7
    obtain rfl := Option.some.inj H
    go_wp2
    go_ret
    exact ⟨_, by first | rfl | (simp [errW_none, errW_some] <;> rfl) | (simp [*, errW_none, errW_some] <;> rfl), kr HO_3.out, bl⟩

/-! ### slices_Index_api_Addr_api_Addr: function 75 -/
def slices_Index_api_Addr_api_Addr.l0 : Nat → List (S50) → Int → Int → ByteArray → ByteArray → Option (Int)
 | 0, _, _, _, _, _ => none
 | k + 1, x0, x7, x8, x195000, x195001 => if x8 < x7 then (if 0 ≤ x8 then (if x8 < (x0.length : Int) then (if (x195000.toList == (((rd_T50 x0 x8).f0).toList) && (x195001.toList == (((rd_T50 x0 x8).f1).toList))) = true then (some x8) else (slices_Index_api_Addr_api_Addr.l0 k x0 x7 (wrap64 (x8 + 1)) x195000 x195001)) else (none)) else (none)) else (some (-1))
def slices_Index_api_Addr_api_Addr.f (k : Nat) (l0 : List (S50)) (a1_0 : ByteArray) (a1_1 : ByteArray) : Option (Int) := slices_Index_api_Addr_api_Addr.l0 k l0 (l0.length : Int) 0 a1_0 a1_1
theorem slices_Index_api_Addr_api_Addr.mono_l : ∀ k, (∀ y0 y1 y2 y3 y4, LeO (slices_Index_api_Addr_api_Addr.l0 k y0 y1 y2 y3 y4) (slices_Index_api_Addr_api_Addr.l0 (k + 1) y0 y1 y2 y3 y4))
 | 0 => fun _ _ _ _ _ r h => by simp [slices_Index_api_Addr_api_Addr.l0] at h
 | k + 1 => by
  have ih0 := slices_Index_api_Addr_api_Addr.mono_l k
  ·intro y0 y1 y2 y3 y4
   unfold slices_Index_api_Addr_api_Addr.l0
   repeat' first
   | (with_reducible first | exact ih0 _ _ _ _ _ | exact LeO.refl _ | exact LeO.none _ | refine LeO.ite ?_ ?_ | refine LeO.bind ?_ (fun _ => ?_))
theorem slices_Index_api_Addr_api_Addr.mono : ∀ a0 a1 a2 k, LeO (slices_Index_api_Addr_api_Addr.f k a0 a1 a2) (slices_Index_api_Addr_api_Addr.f (k + 1) a0 a1 a2) := by
 intro a0 a1 a2 k
 have ih0 := slices_Index_api_Addr_api_Addr.mono_l k
 unfold slices_Index_api_Addr_api_Addr.f
 repeat' first
   | (with_reducible first | exact ih0 _ _ _ _ _ | exact LeO.refl _ | exact LeO.none _ | refine LeO.ite ?_ ?_ | refine LeO.bind ?_ (fun _ => ?_))
theorem slices_Index_api_Addr_api_Addr.calls (k : Nat) (A0 : Option Addr) (c0 : Nat) (l0 : List (S50)) (a1_0 : ByteArray) (a1_1 : ByteArray) (r : Int) (w : World) (hr0 : Kd.C k50 w A0 l0.length l0) (hc0 : l0.length ≤ c0) (h : slices_Index_api_Addr_api_Addr.f k l0 a1_0 a1_1 = some r) :
  Calls Tryz.prog 75 #[.slice A0 l0.length c0, .agg #[.string a1_0, .string a1_1]] w fun e w' => e = .returned (.int .i64 r) ∧ Below w.heap.size w w' := by
 have hu50 := Tryz.underlying50
 have HR0 := Aside0.mk hr0
 have HC0 := Aside0.mk hc0
 clear hr0 hc0
 have HB := Aside0.mk (Below.refl w.heap.size w)
 have H : (slices_Index_api_Addr_api_Addr.l0 k l0 (l0.length : Int) 0 a1_0 a1_1) = some r := h
 clear h
 have H' := Aside0.mk H
 clear H
 go_enter Tryz.func75, Tryz.ntmps75
 go_wp2_with (first | ((with_reducible refine gate_dst (N := 3) rfl ?_); refine box_event ?hg (N := 3) ?hd (cs := #[.string a1_0, .string a1_1]) (t := 50) ?hr ?_; (case hd => rfl); (case hg => rfl); (case hr => first | (go_simp; done) | (go_simp; rfl)); intro gb194 hg w3 hbox hb; have BK194 := Aside0.mk (hbox); have GW194 := Aside0.mk (gz hg : w.heap.size ≤ gb194); have GE194 := Aside0.mk (gz hg : w.heap.size ≤ gb194); replace HB := Aside0.mk (below_step bl hb); clear hb hbox hg))
 repeat (go_quiet (fail); try go_wp2_with (first | ((with_reducible refine gate_dst (N := 3) rfl ?_); refine box_event ?hg (N := 3) ?hd (cs := #[.string a1_0, .string a1_1]) (t := 50) ?hr ?_; (case hd => rfl); (case hg => rfl); (case hr => first | (go_simp; done) | (go_simp; rfl)); intro gb194 hg w3 hbox hb; have BK194 := Aside0.mk (hbox); have GW194 := Aside0.mk (gz hg : w.heap.size ≤ gb194); have GE194 := Aside0.mk (gz hg : w.heap.size ≤ gb194); replace HB := Aside0.mk (below_step bl hb); clear hb hbox hg)))
 go_loopg [8] k (fun kq v8 w' => ∃ (x8_1 : Int), v8 = .int .i64 x8_1 ∧ Aside0 (slices_Index_api_Addr_api_Addr.l0 kq l0 (l0.length : Int) x8_1 a1_0 a1_1 = some r) ∧ Aside0 (kq ≤ k) ∧ Aside0 (w'.heap[gb194]? = some (.cells #[.string a1_0, .string a1_1] 50 (0, 0))) ∧ Aside0 (Below w.heap.size w w'))
 case atStart => exact ⟨(0), rs, H', ⟨Nat.le_refl _⟩, ⟨bk BK194.out⟩, ⟨bl⟩⟩
 case round =>
  clear H'
  try clear p2
  obtain ⟨x8_1, rfl, HA, HK1, BK194, HB⟩ := hrel
  cases gk with
  | zero => exact absurd HA.out (by simp [slices_Index_api_Addr_api_Addr.l0])
  | succ k1 =>
   have H := HA.out
   clear HA
   simp only [slices_Index_api_Addr_api_Addr.l0] at H
   by_cases c4 : x8_1 < (l0.length : Int)
   ·rw [if_pos c4] at H
    have c4b0 : decide (x8_1 < (l0.length : Int)) = true := decide_eq_true c4
    clear c4
    by_cases c5 : 0 ≤ x8_1
    rotate_left
    ·rw [if_neg c5] at H
     exact ab H
    rw [if_pos c5] at H
    have c5b0 : decide (0 ≤ x8_1) = true := decide_eq_true c5
    clear c5
    by_cases c6 : x8_1 < (l0.length : Int)
    rotate_left
    ·rw [if_neg c6] at H
     exact ab H
    rw [if_pos c6] at H
    have c6b0 : decide (x8_1 < (l0.length : Int)) = true := decide_eq_true c6
    clear c6
    by_cases c7 : (a1_0.toList == (((rd_T50 l0 x8_1).f0).toList) && (a1_1.toList == (((rd_T50 l0 x8_1).f1).toList))) = true
    ·rw [if_pos c7] at H
     have c7b0 : (a1_0.toList == (((rd_T50 l0 x8_1).f0).toList) && (a1_1.toList == (((rd_T50 l0 x8_1).f1).toList))) = true := c7
     (try (have c7b1 : decide (a1_0.toList = (((rd_T50 l0 x8_1).f0).toList) && (a1_1.toList == (((rd_T50 l0 x8_1).f1).toList))) = true := by simpa using c7))
     (try (have c7b2 : (a1_0.toList == (((rd_T50 l0 x8_1).f0).toList) && (a1_1.toList == (((rd_T50 l0 x8_1).f1).toList))) = true := by simpa using c7))
     clear c7
     obtain rfl := Option.some.inj H
     have hcz8_0 := cz BK194.out 0 (.string a1_0)
     have hcz8_1 := cz BK194.out 1 (.string a1_1)
     have hfz8_0 := blk_frozen BK194.out 0
     have hfz8_1 := blk_frozen BK194.out 1
     have p195 : 0 ≤ (x8_1 : Int) := od
     have q195 : x8_1 < (l0.length : Int) := od
     obtain ⟨ad195, e195, hx195_0, hx195_1⟩ := at_T50 HR0.out x8_1 p195 q195
     cases e195
     replace hx195_0 := (HB.out.cell (World.block_lt_of_cell? w _ hx195_0)).trans hx195_0
     replace hx195_1 := (HB.out.cell (World.block_lt_of_cell? w _ hx195_1)).trans hx195_1
     replace p195 := eq_true p195
     replace q195 := eq_true q195
     go_wp2
     repeat (go_quiet (fail); try go_wp2)
     go_ret
     exact ⟨rf, bl⟩
    ·rw [if_neg c7] at H
     have c7b0 : (a1_0.toList == (((rd_T50 l0 x8_1).f0).toList) && (a1_1.toList == (((rd_T50 l0 x8_1).f1).toList))) = false := by simpa using c7
     (try (have c7b1 : decide (a1_0.toList = (((rd_T50 l0 x8_1).f0).toList) && (a1_1.toList == (((rd_T50 l0 x8_1).f1).toList))) = false := by simpa using c7))
     (try (have c7b2 : (a1_0.toList == (((rd_T50 l0 x8_1).f0).toList) && (a1_1.toList == (((rd_T50 l0 x8_1).f1).toList))) = false := by simpa using c7))
     (try (have c7b3 : ¬ (a1_0.toList = (((rd_T50 l0 x8_1).f0).toList) && (a1_1.toList == (((rd_T50 l0 x8_1).f1).toList))) := by simpa using c7))
     clear c7
     have H' := Aside0.mk H
     clear H
     have hcz9_0 := cz BK194.out 0 (.string a1_0)
     have hcz9_1 := cz BK194.out 1 (.string a1_1)
     have hfz9_0 := blk_frozen BK194.out 0
     have hfz9_1 := blk_frozen BK194.out 1
     have p195 : 0 ≤ (x8_1 : Int) := od
     have q195 : x8_1 < (l0.length : Int) := od
     obtain ⟨ad195, e195, hx195_0, hx195_1⟩ := at_T50 HR0.out x8_1 p195 q195
     cases e195
     replace hx195_0 := (HB.out.cell (World.block_lt_of_cell? w _ hx195_0)).trans hx195_0
     replace hx195_1 := (HB.out.cell (World.block_lt_of_cell? w _ hx195_1)).trans hx195_1
     replace p195 := eq_true p195
     replace q195 := eq_true q195
     go_wp2
     repeat (go_quiet (fail); try go_wp2)
     go_roundg k1
     case measure => have := HK1.out; omega
     case rel => exact ⟨(wrap64 (x8_1 + 1)), rs, H', ⟨by have := HK1.out; omega⟩, ⟨bk BK194.out⟩, ⟨bl⟩⟩
   ·rw [if_neg c4] at H
    have c4b0 : decide (x8_1 < (l0.length : Int)) = false := decide_eq_false c4
    clear c4
    obtain rfl := Option.some.inj H
    go_wp2
    repeat (go_quiet (fail); try go_wp2)
    go_ret
    exact ⟨rf, bl⟩

/-! ### slices_Contains_api_Addr_api_Addr: function 40 -/
def slices_Contains_api_Addr_api_Addr.f (k : Nat) (l0 : List (S50)) (a1_0 : ByteArray) (a1_1 : ByteArray) : Option (Bool) := (slices_Index_api_Addr_api_Addr.f k l0 a1_0 a1_1).bind fun t197 => (some (decide (t197 ≥ 0)))
theorem slices_Contains_api_Addr_api_Addr.mono : ∀ a0 a1 a2 k, LeO (slices_Contains_api_Addr_api_Addr.f k a0 a1 a2) (slices_Contains_api_Addr_api_Addr.f (k + 1) a0 a1 a2) := by
 intro a0 a1 a2 k
 unfold slices_Contains_api_Addr_api_Addr.f
 repeat' first
   | (with_reducible first | exact slices_Index_api_Addr_api_Addr.mono _ _ _ _ | exact LeO.refl _ | exact LeO.none _ | refine LeO.ite ?_ ?_ | refine LeO.bind ?_ (fun _ => ?_))
theorem slices_Contains_api_Addr_api_Addr.calls (k : Nat) (A0 : Option Addr) (c0 : Nat) (l0 : List (S50)) (a1_0 : ByteArray) (a1_1 : ByteArray) (r : Bool) (w : World) (hr0 : Kd.C k50 w A0 l0.length l0) (hc0 : l0.length ≤ c0) (h : slices_Contains_api_Addr_api_Addr.f k l0 a1_0 a1_1 = some r) :
  Calls Tryz.prog 40 #[.slice A0 l0.length c0, .agg #[.string a1_0, .string a1_1]] w fun e w' => e = .returned (.bool r) ∧ Below w.heap.size w w' := by
 have hu50 := Tryz.underlying50
 have HR0 := Aside0.mk hr0
 have HC0 := Aside0.mk hc0
 clear hr0 hc0
 have HB := Aside0.mk (Below.refl w.heap.size w)
 have H : ((slices_Index_api_Addr_api_Addr.f k l0 a1_0 a1_1).bind fun t197 => (some (decide (t197 ≥ 0)))) = some r := h
 clear h
 obtain ⟨t197, A30, H⟩ := Option.bind_eq_some_iff.mp H
 replace H : (some (decide (t197 ≥ 0))) = some r := H
 have A3 := Aside0.mk A30
 clear A30
 obtain rfl := Option.some.inj H
 go_enter Tryz.func40, Tryz.ntmps40
 go_wp2_with (first | ((with_reducible refine gate_dst (N := 3) rfl ?_); refine box_event ?hg (N := 3) ?hd (cs := #[.string a1_0, .string a1_1]) (t := 50) ?hr ?_; (case hd => rfl); (case hg => rfl); (case hr => first | (go_simp; done) | (go_simp; rfl)); intro gb196 hg w4 hbox hb; have BK196 := Aside0.mk (hbox); have GW196 := Aside0.mk (gz hg : w.heap.size ≤ gb196); have GE196 := Aside0.mk (gz hg : w.heap.size ≤ gb196); replace HB := Aside0.mk (below_step bl hb); clear hb hbox hg; have hcz5_0 := cz BK196.out 0 (.string a1_0); have hcz5_1 := cz BK196.out 1 (.string a1_1); have hfz5_0 := blk_frozen BK196.out 0; have hfz5_1 := blk_frozen BK196.out 1) | ((with_reducible refine gate_callee (f := 75) rfl ?_); refine goesL_ (some 7) rfl rfl Tryz.func75 kf rfl #[.slice A0 l0.length c0, .agg #[.string a1_0, .string a1_1]] rfl ml ?_; (with_reducible refine (slices_Index_api_Addr_api_Addr.calls k _ _ l0 a1_0 a1_1 t197 _ ?side1 ?side2 A3.out).mono ?_); (case side1 => repeat (first | exact (Kd.C_below HR0.out HB.out) | (with_reducible refine Kd.C_alloc ?_ _) | (with_reducible refine Kd.C_drewN ?_ _) | (with_reducible refine Kd.C_drew ?_))); (case side2 => exact HC0.out); rintro e w6 ⟨rfl, hb⟩; refine ⟨_, rfl, ?_⟩; replace BK196 := Aside0.mk (kb BK196.out hb); replace HB := Aside0.mk (below_step bl hb); (try clear hb); (try clear hb2); (try clear hk); (try clear hi)))
 go_ret
 exact ⟨rf, bl⟩

/-! ### guard_Check_1: function 39 (by hand) -/
def guard_Check_1.f (k : Nat) (a0_0 a0_1 : ByteArray) (hops : Int) (marks : List S50) : Option ByteArray :=
  if hops > 25 then some (⟨#[116, 111, 111, 32, 109, 97, 110, 121, 32, 104, 111, 112, 115]⟩ : ByteArray)
  else (addr_Normal.f a0_0 a0_1).bind fun n => (slices_Contains_api_Addr_api_Addr.f k marks n.1 n.2).bind fun b => if b = true then some (⟨#[109, 97, 105, 108, 32, 108, 111, 111, 112]⟩ : ByteArray) else some (⟨#[]⟩ : ByteArray)
theorem guard_Check_1.mono : ∀ a0 a1 a2 a3 k, LeO (guard_Check_1.f k a0 a1 a2 a3) (guard_Check_1.f (k + 1) a0 a1 a2 a3) := by
  intro a0 a1 a2 a3 k
  unfold guard_Check_1.f
  exact LeO.ite (LeO.refl _) (LeO.bind (LeO.refl _) (fun _ => LeO.bind (slices_Contains_api_Addr_api_Addr.mono _ _ _ _) (fun _ => LeO.refl _)))
def guard_Check_1.T3 : Bool × List (List Nat × List Nat) := (true, [([], []), ([], []), ([1], [1]), ([0, 2, 2], [0, 2]), ([3, 3], [3])])
def guard_Check_1.B3 : List Nat := [0, 0, 2, 7, 15]
theorem guard_Check_1.tab3 : rtab .any (opsOf Tryz.f39 3) = guard_Check_1.T3 := by kernel_rfl
theorem guard_Check_1.bits3 : waitsOk guard_Check_1.T3.2 guard_Check_1.B3 = true := by kernel_rfl
theorem guard_Check_1.calls (k : Nat) (a0_0 a0_1 : ByteArray) (hops : Int) (A : Option Addr) (c : Nat) (marks : List S50) (r : ByteArray) (w : World) (hC : Kd.C k50 w A marks.length marks) (hc : marks.length ≤ c)
    {Bh Bm : Nat} (hh : w.heap[Bh]? = some (.cells #[.int .i64 hops] 3 (0, 0))) (hm : w.heap[Bm]? = some (.cells #[.slice A marks.length c] 25 (0, 0))) (h : guard_Check_1.f k a0_0 a0_1 hops marks = some r) :
    Calls Tryz.prog 39 #[.agg #[.string a0_0, .string a0_1], .pointer (some ⟨Bh, 0, none⟩), .pointer (some ⟨Bm, 0, none⟩)] w fun e w' => e = .returned (.string r) ∧ Below w.heap.size w w' := by
  have hu := Tryz.underlying50
  have HC := Aside0.mk hC
  have Hc := Aside0.mk hc
  have HB := Aside0.mk (Below.refl w.heap.size w)
  have HH := Aside0.mk hh
  have HM := Aside0.mk hm
  clear hC hc hh hm
  unfold guard_Check_1.f at h
  by_cases hg : hops > 25
  · rw [if_pos hg] at h
    obtain rfl := Option.some.inj h
    have hd : decide (25 < hops) = true := decide_eq_true hg
    clear h hg
    go_enter Tryz.func39, Tryz.ntmps39
    go_wp2_with (first | ((with_reducible refine gate_dst (N := 3) rfl ?_); refine box_event ?hg (N := 3) ?hd (cs := #[.string a0_0, .string a0_1]) (t := 50) ?hr ?_; (case hd => rfl); (case hg => rfl); (case hr => first | (go_simp; done) | (go_simp; rfl)); intro g3 hg w3 hbox hb; have n0_ := Aside0.mk (below_step bl hb); have hc0 : w3.cell? ⟨Bh, 0, none⟩ = some (.int .i64 hops) := (blk_cell (blk_below HH.out hb) 0).trans rfl; clear HB; have HB := n0_))
    go_ret
    exact ⟨rfl, HB.out⟩
  · rw [if_neg hg] at h
    obtain ⟨n, h1, h2⟩ := Option.bind_eq_some_iff.mp h
    obtain ⟨b, h3, h4⟩ := Option.bind_eq_some_iff.mp h2
    obtain ⟨n1, n2⟩ := n
    have hd : decide (25 < hops) = false := decide_eq_false hg
    have H1 := Aside0.mk h1
    have H3 := Aside0.mk h3
    have H4 := Aside0.mk h4
    clear h h1 h2 h3 h4 hg
    go_enter Tryz.func39, Tryz.ntmps39
    go_wp2_with (first | ((with_reducible refine gate_dst (N := 3) rfl ?_); refine box_event ?hg (N := 3) ?hd (cs := #[.string a0_0, .string a0_1]) (t := 50) ?hr ?_; (case hd => rfl); (case hg => rfl); (case hr => first | (go_simp; done) | (go_simp; rfl)); intro g3 hg w3 hbox hb; have n0_ := Aside0.mk (below_step bl hb); have hc0 : w3.cell? ⟨Bh, 0, none⟩ = some (.int .i64 hops) := (blk_cell (blk_below HH.out hb) 0).trans rfl; clear HB; have HB := n0_; have BK3 := Aside0.mk hbox; clear hbox n0_; have n1_ := Aside0.mk (blk_below HM.out hb); clear HM; have HM := n1_; clear n1_))
    have n0_ := Aside0.mk (blk_drew BK3.out)
    have n1_ := Aside0.mk (blk_drew HM.out)
    have n2_ := Aside0.mk (below_drew1 HB.out)
    clear BK3 HM HB hc0 hb
    have BK3 := n0_
    have HM := n1_
    have HB := n2_
    clear n0_ n1_ n2_
    rw [← hg]
    clear hg
    refine start_ (n := 5) (S := fun w' => w'.cell? ⟨Bm, 0, none⟩ = some (.slice A marks.length c) ∧ w'.cell? ⟨g3, 0, none⟩ = some (.string a0_0) ∧ w'.cell? ⟨g3, 1, none⟩ = some (.string a0_1)) (ds := []) #[false, false, false, false, false] kf rfl rfl ⟨(blk_cell HM.out 0).trans rfl, (blk_cell BK3.out 0).trans rfl, (blk_cell BK3.out 1).trans rfl⟩ (fun hHeld => ?_); refine with_tabW guard_Check_1.tab3 guard_Check_1.bits3 (fun HT_ HW_ => ?_)
    generalize w3.drew = w6 at BK3 HB HM hHeld ⊢
    refine take_ (i := 0) (N := some 9) (v := ?_) (a' := ?_) #[true, false, false, false, false] rfl rfl (take_ofW HT_.out HW_.out kf) (fun _ _ _ h => h) (Or.inl ⟨by rfl, ?_⟩) hHeld ?_ ?_
    rotate_left
    ·rintro w' ⟨s0, s1, s2⟩
     go_simp
     with_reducible rfl
    rotate_left
    ·simp only [Act.put, List.setIfInBounds_toArray, List.set_cons_zero, List.set_cons_succ, i64_w, i32_w]
     rfl
    refine take_ (i := 1) (N := some 10) (v := ?_) (a' := ?_) #[true, true, false, false, false] rfl rfl (take_ofW HT_.out HW_.out kf) (fun _ _ _ h => h) (Or.inl ⟨by rfl, ?_⟩) hHeld ?_ ?_
    rotate_left
    ·rintro w' ⟨s0, s1, s2⟩
     go_simp
     with_reducible rfl
    rotate_left
    ·simp only [Act.put, List.setIfInBounds_toArray, List.set_cons_zero, List.set_cons_succ, i64_w, i32_w]
     rfl
    refine one_ (i := 2) (N := some 11) #[true, true, true, false, false] rfl rfl (one_of HT_.out kf) (by decide) (fun K hK => ?_)
    refine goes_ Tryz.func33 kf rfl #[.agg #[.string a0_0, .string a0_1]] (by rfl) rfl rfl ml ?_
    with_reducible refine (addr_Normal.calls a0_0 a0_1 n1 n2 _ H1.out).mono ?_
    rintro e w7 ⟨rfl, hb⟩
    refine ⟨_, rfl, ?_⟩
    have n0_ := Aside0.mk (blk_below BK3.out hb)
    have n1_ := Aside0.mk (blk_below HM.out hb)
    have n2_ := Aside0.mk (below_step bl hb)
    clear BK3 HM HB hb
    have BK3 := n0_
    have HM := n1_
    have HB := n2_
    clear n0_ n1_ n2_
    refine hK.out _ _ ⟨(blk_cell HM.out 0).trans rfl, (blk_cell BK3.out 0).trans rfl, (blk_cell BK3.out 1).trans rfl⟩ (fun hHeld => ?_)
    clear hK K
    refine norm_ (a' := ?_) ?_ ?_
    rotate_left
    ·show Act.put _ (some 11) _ = _
     simp only [Act.put, List.setIfInBounds_toArray, List.set_cons_zero, List.set_cons_succ, i64_w, i32_w]
     rfl
    refine one_ (i := 3) (N := some 12) #[true, true, true, true, false] rfl rfl (one_of HT_.out kf) (by decide) (fun K hK => ?_)
    refine goes_ Tryz.func40 kf rfl #[.slice A marks.length c, .agg #[.string n1, .string n2]] (by rfl) rfl rfl ml ?_
    with_reducible refine (slices_Contains_api_Addr_api_Addr.calls k _ _ marks n1 n2 b _ ?side1 ?side2 H3.out).mono ?_
    (case side1 => exact Kd.C_below HC.out HB.out)
    (case side2 => exact Hc.out)
    rintro e w8 ⟨rfl, hb⟩
    refine ⟨_, rfl, ?_⟩
    have n0_ := Aside0.mk (blk_below BK3.out hb)
    have n1_ := Aside0.mk (blk_below HM.out hb)
    have n2_ := Aside0.mk (below_step bl hb)
    clear BK3 HM HB hb
    have BK3 := n0_
    have HM := n1_
    have HB := n2_
    clear n0_ n1_ n2_
    refine hK.out _ _ ⟨(blk_cell HM.out 0).trans rfl, (blk_cell BK3.out 0).trans rfl, (blk_cell BK3.out 1).trans rfl⟩ (fun hHeld => ?_)
    clear hK K
    refine norm_ (a' := ?_) ?_ ?_
    rotate_left
    ·show Act.put _ (some 12) _ = _
     simp only [Act.put, List.setIfInBounds_toArray, List.set_cons_zero, List.set_cons_succ, i64_w, i32_w]
     rfl
    refine take_ (i := 4) (N := some 8) (v := ?_) (a' := ?_) #[true, true, true, true, true] rfl rfl (take_ofW HT_.out HW_.out kf) (fun _ _ _ h => h) (Or.inl ⟨by rfl, ?_⟩) hHeld ?_ ?_
    rotate_left
    ·rintro w' ⟨s0, s1, s2⟩
     go_simp
     with_reducible rfl
    rotate_left
    ·simp only [Act.put, List.setIfInBounds_toArray, List.set_cons_zero, List.set_cons_succ, i64_w, i32_w]
     rfl
    refine done_ (done_of HT_.out kf) ?_
    cases b with
    | true =>
      obtain rfl := Option.some.inj H4.out
      try go_wp2
      go_ret
      exact ⟨rfl, HB.out⟩
    | false =>
      obtain rfl := Option.some.inj H4.out
      try go_wp2
      go_ret
      exact ⟨rfl, HB.out⟩


end Go.Proofs.YtacjnapgdikhbaaGreatDoor.Q
end
section
namespace Go.Proofs.YtacjnapgdikhbaaGreatDoor.Q

/-! ### guard_Check: function 11 -/
def guard_Check.l0 : Nat → List (S50) → List (S52) → List (S50) → Int → Int → List (S50) → Int → Option ((List (S50)) × (List (S52)))
 | 0, _, _, _, _, _, _, _ => none
 | k + 1, x4, x5, x17, x18, x19, x204000, x205000 => if x19 < x18 then (if 0 ≤ x19 then (if x19 < (x17.length : Int) then ((guard_Check_1.f k ((rd_T50 x17 x19).f0) ((rd_T50 x17 x19).f1) x205000 x204000).bind fun t207 => (if t207.toList = ([] : List UInt8) then (if x4.length < 4398046511104 then (guard_Check.l0 k (x4 ++ [(⟨(rd_T50 x17 x19).f0, (rd_T50 x17 x19).f1⟩ : S50)]) x5 x17 x18 (wrap64 (x19 + 1)) x204000 x205000) else (none)) else (if x5.length < 2513169434916 then (guard_Check.l0 k x4 (x5 ++ [(⟨(⟨(rd_T50 x17 x19).f0, (rd_T50 x17 x19).f1⟩ : S50), 554, t207⟩ : S52)]) x17 x18 (wrap64 (x19 + 1)) x204000 x205000) else (none)))) else (none)) else (none)) else (some (x4, x5))
def guard_Check.f (k : Nat) (l0_0 : List (S72)) (a0_1 : ByteArray) (a0_2 : Bool) (l1 : List (S50)) : Option ((List (S50)) × (List (S52))) := (guard_Marks.f k l0_0 a0_1 a0_2).bind fun t199 => ((guard_Hops.f l0_0 a0_1 a0_2).bind fun t202 => (guard_Check.l0 k ([] : List (S50)) ([] : List (S52)) l1 (l1.length : Int) 0 t199 t202))
theorem guard_Check.mono_l : ∀ k, (∀ y0 y1 y2 y3 y4 y5 y6, LeO (guard_Check.l0 k y0 y1 y2 y3 y4 y5 y6) (guard_Check.l0 (k + 1) y0 y1 y2 y3 y4 y5 y6))
 | 0 => fun _ _ _ _ _ _ _ r h => by simp [guard_Check.l0] at h
 | k + 1 => by
  have ih0 := guard_Check.mono_l k
  ·intro y0 y1 y2 y3 y4 y5 y6
   unfold guard_Check.l0
   repeat' first
   | (with_reducible first | exact ih0 _ _ _ _ _ _ _ | exact guard_Check_1.mono _ _ _ _ _ | exact guard_Marks.mono _ _ _ _ | exact LeO.refl _ | exact LeO.none _ | refine LeO.ite ?_ ?_ | refine LeO.bind ?_ (fun _ => ?_))
theorem guard_Check.mono : ∀ a0 a1 a2 a3 k, LeO (guard_Check.f k a0 a1 a2 a3) (guard_Check.f (k + 1) a0 a1 a2 a3) := by
 intro a0 a1 a2 a3 k
 have ih0 := guard_Check.mono_l k
 unfold guard_Check.f
 repeat' first
   | (with_reducible first | exact ih0 _ _ _ _ _ _ _ | exact guard_Check_1.mono _ _ _ _ _ | exact guard_Marks.mono _ _ _ _ | exact LeO.refl _ | exact LeO.none _ | refine LeO.ite ?_ ?_ | refine LeO.bind ?_ (fun _ => ?_))
def guard_Check.T1 : Bool × List (List Nat × List Nat) := (true, [([], []), ([0], [0]), ([], []), ([2, 1], [2]), ([], []), ([], []), ([4, 1, 3, 0, 1, 4, 5], [1, 4]), ([5, 3, 6, 0, 1, 2, 3, 4, 5, 6], [3, 5])])
def guard_Check.B1 : List Nat := [0, 1, 0, 7, 0, 0, 63, 127]
theorem guard_Check.tab1 : rtab .any (opsOf Tryz.f11 1) = guard_Check.T1 := by kernel_rfl
theorem guard_Check.bits1 : waitsOk guard_Check.T1.2 guard_Check.B1 = true := by kernel_rfl
theorem guard_Check.calls (k : Nat) (A0_0 : Option Addr) (c0_0 : Nat) (l0_0 : List (S72)) (a0_1 : ByteArray) (a0_2 : Bool) (A1 : Option Addr) (c1 : Nat) (l1 : List (S50)) (r1 : List (S50)) (r2 : List (S52)) (w : World) (hr0_0 : Kd.C k72 w A0_0 l0_0.length l0_0) (hc0_0 : l0_0.length ≤ c0_0) (hr1 : Kd.C k50 w A1 l1.length l1) (hc1 : l1.length ≤ c1) (hG : Glob w) (h : guard_Check.f k l0_0 a0_1 a0_2 l1 = some (r1, r2)) :
  Calls Tryz.prog 11 #[.agg #[.slice A0_0 l0_0.length c0_0, .string a0_1, .bool a0_2], .slice A1 l1.length c1] w fun e w' => ∃ v0_ v1_ : Value, e = .returned (.tuple #[v0_, v1_]) ∧ Kd.R k50 50 w' w.heap.size (fun _ => True) v0_ r1 ∧ Kd.R k52 52 w' w.heap.size (fun _ => True) v1_ r2 ∧ Below w.heap.size w w' := by
 have hu24 := Tryz.underlying24
 have hu50 := Tryz.underlying50
 have hu52 := Tryz.underlying52
 have HR0_0 := Aside0.mk hr0_0
 have HC0_0 := Aside0.mk hc0_0
 clear hr0_0 hc0_0
 have HR1 := Aside0.mk hr1
 have HC1 := Aside0.mk hc1
 clear hr1 hc1
 have HB := Aside0.mk (Below.refl w.heap.size w)
 have HG := Aside0.mk hG
 clear hG
 have H : ((guard_Marks.f k l0_0 a0_1 a0_2).bind fun t199 => ((guard_Hops.f l0_0 a0_1 a0_2).bind fun t202 => (guard_Check.l0 k ([] : List (S50)) ([] : List (S52)) l1 (l1.length : Int) 0 t199 t202))) = some (r1, r2) := h
 clear h
 obtain ⟨t199, A30, H⟩ := Option.bind_eq_some_iff.mp H
 replace H : ((guard_Hops.f l0_0 a0_1 a0_2).bind fun t202 => (guard_Check.l0 k ([] : List (S50)) ([] : List (S52)) l1 (l1.length : Int) 0 t199 t202)) = some (r1, r2) := H
 have A3 := Aside0.mk A30
 clear A30
 obtain ⟨t202, A40, H⟩ := Option.bind_eq_some_iff.mp H
 replace H : (guard_Check.l0 k ([] : List (S50)) ([] : List (S52)) l1 (l1.length : Int) 0 t199 t202) = some (r1, r2) := H
 have A4 := Aside0.mk A40
 clear A40
 have H' := Aside0.mk H
 clear H
 go_enter Tryz.func11, Tryz.ntmps11
 try go_wp2_with (first | ((with_reducible refine gate_dst (N := 2) rfl ?_); refine box_event ?hg (N := 2) ?hd (cs := #[.slice A0_0 l0_0.length c0_0, .string a0_1, .bool a0_2]) (t := 24) ?hr ?_; (case hd => rfl); (case hg => rfl); (case hr => first | (go_simp; done) | (go_simp; rfl)); intro gb198 hg w5 hbox hb; have BK198 := Aside0.mk (hbox); have GW198 := Aside0.mk (gz hg : w.heap.size ≤ gb198); have GE198 := Aside0.mk (gz hg : w.heap.size ≤ gb198); replace HB := Aside0.mk (below_step bl hb); clear hb hbox hg))
 replace BK198 := Aside0.mk (blk_drew BK198.out)
 replace HB := Aside0.mk (below_drew1 HB.out)
 refine start_ (n := 8) (S := fun w' => w'.cell? ⟨gb198, 0, none⟩ = some (.slice A0_0 l0_0.length c0_0) ∧ w'.cell? ⟨gb198, 1, none⟩ = some (.string a0_1) ∧ w'.cell? ⟨gb198, 2, none⟩ = some (.bool a0_2)) (ds := []) #[false, false, false, false, false, false, false, false] kf rfl rfl ⟨(blk_cell BK198.out 0).trans rfl, (blk_cell BK198.out 1).trans rfl, (blk_cell BK198.out 2).trans rfl⟩ (fun hHeld => ?_); refine with_tabW guard_Check.tab1 guard_Check.bits1 (fun HT_ HW_ => ?_)
 generalize w5.drew = w6 at BK198 HB hHeld ⊢
 refine take_ (i := 0) (N := some 12) (v := ?_) (a' := ?_) #[true, false, false, false, false, false, false, false] rfl rfl (take_ofW HT_.out HW_.out kf) (fun _ _ _ h => h) (Or.inl ⟨by rfl, ?_⟩) hHeld ?_ ?_
 rotate_left
 ·rintro w' ⟨s0, s1, s2⟩
  go_simp
  with_reducible rfl
 rotate_left
 ·simp only [Act.put, sA, sB, sC, i64_w, i32_w]
  rfl
 refine take_ (i := 2) (N := some 14) (v := ?_) (a' := ?_) #[true, false, true, false, false, false, false, false] rfl rfl (take_ofW HT_.out HW_.out kf) (fun _ _ _ h => h) (Or.inl ⟨by rfl, ?_⟩) hHeld ?_ ?_
 rotate_left
 ·rintro w' ⟨s0, s1, s2⟩
  go_simp
  with_reducible rfl
 rotate_left
 ·simp only [Act.put, sA, sB, sC, i64_w, i32_w]
  rfl
 refine join_ (σ := Value × Nat × Nat) 2 #[true, true, true, true, true, true, false, false] (fun s_ => [(13, s_.1), (15, .int .i64 t202), (6, .pointer (some ⟨s_.2.1, 0, none⟩)), (7, .pointer (some ⟨s_.2.2, 0, none⟩))]) (fun s_ w' => (w'.cell? ⟨gb198, 0, none⟩ = some (.slice A0_0 l0_0.length c0_0) ∧ w'.cell? ⟨gb198, 1, none⟩ = some (.string a0_1) ∧ w'.cell? ⟨gb198, 2, none⟩ = some (.bool a0_2)) ∧ (Kd.R k50 50 w' w.heap.size (fun _ => True) s_.1 t199) ∧ (w'.heap[gb198]? = some (.cells #[.slice A0_0 l0_0.length c0_0, .string a0_1, .bool a0_2] 24 (0, 0))) ∧ (w'.heap[s_.2.1]? = some (.cells #[.slice none 0 0] 25 (0, 0))) ∧ (w'.heap[s_.2.2]? = some (.cells #[.int .i64 0] 3 (0, 0))) ∧ (w.heap.size ≤ s_.2.1) ∧ (w.heap.size ≤ s_.2.1) ∧ (gb198 ≠ s_.2.1) ∧ (s_.2.1 ≠ gb198) ∧ (s_.2.2 ≠ s_.2.1) ∧ (s_.2.1 ≠ s_.2.2) ∧ (w.heap.size ≤ s_.2.2) ∧ (w.heap.size ≤ s_.2.2) ∧ (gb198 ≠ s_.2.2) ∧ (s_.2.2 ≠ gb198) ∧ (Below w.heap.size w w')) ?_ ?_
 rotate_left
 ·intro hJ1_3_4_5
  refine join_ (σ := Value × Nat) 3 #[true, true, true, true, true, false, false, false] (fun s_ => [(13, s_.1), (15, .int .i64 t202), (6, .pointer (some ⟨s_.2, 0, none⟩))]) (fun s_ w' => (w'.cell? ⟨gb198, 0, none⟩ = some (.slice A0_0 l0_0.length c0_0) ∧ w'.cell? ⟨gb198, 1, none⟩ = some (.string a0_1) ∧ w'.cell? ⟨gb198, 2, none⟩ = some (.bool a0_2)) ∧ (Kd.R k50 50 w' w.heap.size (fun _ => True) s_.1 t199) ∧ (w'.heap[gb198]? = some (.cells #[.slice A0_0 l0_0.length c0_0, .string a0_1, .bool a0_2] 24 (0, 0))) ∧ (w'.heap[s_.2]? = some (.cells #[.slice none 0 0] 25 (0, 0))) ∧ (w.heap.size ≤ s_.2) ∧ (w.heap.size ≤ s_.2) ∧ (gb198 ≠ s_.2) ∧ (s_.2 ≠ gb198) ∧ (Below w.heap.size w w')) ?_ ?_
  rotate_left
  ·intro hJ1_3_4
   refine join_ (σ := Value × Nat) 3 #[true, true, true, true, false, true, false, false] (fun s_ => [(13, s_.1), (15, .int .i64 t202), (7, .pointer (some ⟨s_.2, 0, none⟩))]) (fun s_ w' => (w'.cell? ⟨gb198, 0, none⟩ = some (.slice A0_0 l0_0.length c0_0) ∧ w'.cell? ⟨gb198, 1, none⟩ = some (.string a0_1) ∧ w'.cell? ⟨gb198, 2, none⟩ = some (.bool a0_2)) ∧ (Kd.R k50 50 w' w.heap.size (fun _ => True) s_.1 t199) ∧ (w'.heap[gb198]? = some (.cells #[.slice A0_0 l0_0.length c0_0, .string a0_1, .bool a0_2] 24 (0, 0))) ∧ (w'.heap[s_.2]? = some (.cells #[.int .i64 0] 3 (0, 0))) ∧ (w.heap.size ≤ s_.2) ∧ (w.heap.size ≤ s_.2) ∧ (gb198 ≠ s_.2) ∧ (s_.2 ≠ gb198) ∧ (Below w.heap.size w w')) ?_ ?_
   rotate_left
   ·intro hJ1_3_5
    refine join_ (σ := Value × Nat × Nat) 3 #[true, true, true, false, true, true, false, false] (fun s_ => [(13, s_.1), (6, .pointer (some ⟨s_.2.1, 0, none⟩)), (7, .pointer (some ⟨s_.2.2, 0, none⟩))]) (fun s_ w' => (w'.cell? ⟨gb198, 0, none⟩ = some (.slice A0_0 l0_0.length c0_0) ∧ w'.cell? ⟨gb198, 1, none⟩ = some (.string a0_1) ∧ w'.cell? ⟨gb198, 2, none⟩ = some (.bool a0_2)) ∧ (Kd.R k50 50 w' w.heap.size (fun _ => True) s_.1 t199) ∧ (w'.heap[gb198]? = some (.cells #[.slice A0_0 l0_0.length c0_0, .string a0_1, .bool a0_2] 24 (0, 0))) ∧ (w'.heap[s_.2.1]? = some (.cells #[.slice none 0 0] 25 (0, 0))) ∧ (w'.heap[s_.2.2]? = some (.cells #[.int .i64 0] 3 (0, 0))) ∧ (w.heap.size ≤ s_.2.1) ∧ (w.heap.size ≤ s_.2.1) ∧ (gb198 ≠ s_.2.1) ∧ (s_.2.1 ≠ gb198) ∧ (s_.2.2 ≠ s_.2.1) ∧ (s_.2.1 ≠ s_.2.2) ∧ (w.heap.size ≤ s_.2.2) ∧ (w.heap.size ≤ s_.2.2) ∧ (gb198 ≠ s_.2.2) ∧ (s_.2.2 ≠ gb198) ∧ (Below w.heap.size w w')) ?_ ?_
    rotate_left
    ·intro hJ1_4_5
     refine join_ (σ := Value) 4 #[true, true, true, true, false, false, false, false] (fun s_ => [(13, s_), (15, .int .i64 t202)]) (fun s_ w' => (w'.cell? ⟨gb198, 0, none⟩ = some (.slice A0_0 l0_0.length c0_0) ∧ w'.cell? ⟨gb198, 1, none⟩ = some (.string a0_1) ∧ w'.cell? ⟨gb198, 2, none⟩ = some (.bool a0_2)) ∧ (Kd.R k50 50 w' w.heap.size (fun _ => True) s_ t199) ∧ (w'.heap[gb198]? = some (.cells #[.slice A0_0 l0_0.length c0_0, .string a0_1, .bool a0_2] 24 (0, 0))) ∧ (Below w.heap.size w w')) ?_ ?_
     rotate_left
     ·intro hJ1_3
      refine join_ (σ := Value × Nat) 4 #[true, true, true, false, true, false, false, false] (fun s_ => [(13, s_.1), (6, .pointer (some ⟨s_.2, 0, none⟩))]) (fun s_ w' => (w'.cell? ⟨gb198, 0, none⟩ = some (.slice A0_0 l0_0.length c0_0) ∧ w'.cell? ⟨gb198, 1, none⟩ = some (.string a0_1) ∧ w'.cell? ⟨gb198, 2, none⟩ = some (.bool a0_2)) ∧ (Kd.R k50 50 w' w.heap.size (fun _ => True) s_.1 t199) ∧ (w'.heap[gb198]? = some (.cells #[.slice A0_0 l0_0.length c0_0, .string a0_1, .bool a0_2] 24 (0, 0))) ∧ (w'.heap[s_.2]? = some (.cells #[.slice none 0 0] 25 (0, 0))) ∧ (w.heap.size ≤ s_.2) ∧ (w.heap.size ≤ s_.2) ∧ (gb198 ≠ s_.2) ∧ (s_.2 ≠ gb198) ∧ (Below w.heap.size w w')) ?_ ?_
      rotate_left
      ·intro hJ1_4
       refine join_ (σ := Value × Nat) 4 #[true, true, true, false, false, true, false, false] (fun s_ => [(13, s_.1), (7, .pointer (some ⟨s_.2, 0, none⟩))]) (fun s_ w' => (w'.cell? ⟨gb198, 0, none⟩ = some (.slice A0_0 l0_0.length c0_0) ∧ w'.cell? ⟨gb198, 1, none⟩ = some (.string a0_1) ∧ w'.cell? ⟨gb198, 2, none⟩ = some (.bool a0_2)) ∧ (Kd.R k50 50 w' w.heap.size (fun _ => True) s_.1 t199) ∧ (w'.heap[gb198]? = some (.cells #[.slice A0_0 l0_0.length c0_0, .string a0_1, .bool a0_2] 24 (0, 0))) ∧ (w'.heap[s_.2]? = some (.cells #[.int .i64 0] 3 (0, 0))) ∧ (w.heap.size ≤ s_.2) ∧ (w.heap.size ≤ s_.2) ∧ (gb198 ≠ s_.2) ∧ (s_.2 ≠ gb198) ∧ (Below w.heap.size w w')) ?_ ?_
       rotate_left
       ·intro hJ1_5
        refine join_ (σ := Nat × Nat) 4 #[true, false, true, false, true, true, false, false] (fun s_ => [(6, .pointer (some ⟨s_.1, 0, none⟩)), (7, .pointer (some ⟨s_.2, 0, none⟩))]) (fun s_ w' => (w'.cell? ⟨gb198, 0, none⟩ = some (.slice A0_0 l0_0.length c0_0) ∧ w'.cell? ⟨gb198, 1, none⟩ = some (.string a0_1) ∧ w'.cell? ⟨gb198, 2, none⟩ = some (.bool a0_2)) ∧ (w'.heap[gb198]? = some (.cells #[.slice A0_0 l0_0.length c0_0, .string a0_1, .bool a0_2] 24 (0, 0))) ∧ (w'.heap[s_.1]? = some (.cells #[.slice none 0 0] 25 (0, 0))) ∧ (w'.heap[s_.2]? = some (.cells #[.int .i64 0] 3 (0, 0))) ∧ (w.heap.size ≤ s_.1) ∧ (w.heap.size ≤ s_.1) ∧ (gb198 ≠ s_.1) ∧ (s_.1 ≠ gb198) ∧ (s_.2 ≠ s_.1) ∧ (s_.1 ≠ s_.2) ∧ (w.heap.size ≤ s_.2) ∧ (w.heap.size ≤ s_.2) ∧ (gb198 ≠ s_.2) ∧ (s_.2 ≠ gb198) ∧ (Below w.heap.size w w')) ?_ ?_
        rotate_left
        ·intro hJ4_5
         refine join_ (σ := Value) 5 #[true, true, true, false, false, false, false, false] (fun s_ => [(13, s_)]) (fun s_ w' => (w'.cell? ⟨gb198, 0, none⟩ = some (.slice A0_0 l0_0.length c0_0) ∧ w'.cell? ⟨gb198, 1, none⟩ = some (.string a0_1) ∧ w'.cell? ⟨gb198, 2, none⟩ = some (.bool a0_2)) ∧ (Kd.R k50 50 w' w.heap.size (fun _ => True) s_ t199) ∧ (w'.heap[gb198]? = some (.cells #[.slice A0_0 l0_0.length c0_0, .string a0_1, .bool a0_2] 24 (0, 0))) ∧ (Below w.heap.size w w')) ?_ ?_
         rotate_left
         ·intro hJ1
          refine join_ (σ := Nat) 5 #[true, false, true, false, true, false, false, false] (fun s_ => [(6, .pointer (some ⟨s_, 0, none⟩))]) (fun s_ w' => (w'.cell? ⟨gb198, 0, none⟩ = some (.slice A0_0 l0_0.length c0_0) ∧ w'.cell? ⟨gb198, 1, none⟩ = some (.string a0_1) ∧ w'.cell? ⟨gb198, 2, none⟩ = some (.bool a0_2)) ∧ (w'.heap[gb198]? = some (.cells #[.slice A0_0 l0_0.length c0_0, .string a0_1, .bool a0_2] 24 (0, 0))) ∧ (w'.heap[s_]? = some (.cells #[.slice none 0 0] 25 (0, 0))) ∧ (w.heap.size ≤ s_) ∧ (w.heap.size ≤ s_) ∧ (gb198 ≠ s_) ∧ (s_ ≠ gb198) ∧ (Below w.heap.size w w')) ?_ ?_
          rotate_left
          ·intro hJ4
           refine join_ (σ := Nat) 5 #[true, false, true, false, false, true, false, false] (fun s_ => [(7, .pointer (some ⟨s_, 0, none⟩))]) (fun s_ w' => (w'.cell? ⟨gb198, 0, none⟩ = some (.slice A0_0 l0_0.length c0_0) ∧ w'.cell? ⟨gb198, 1, none⟩ = some (.string a0_1) ∧ w'.cell? ⟨gb198, 2, none⟩ = some (.bool a0_2)) ∧ (w'.heap[gb198]? = some (.cells #[.slice A0_0 l0_0.length c0_0, .string a0_1, .bool a0_2] 24 (0, 0))) ∧ (w'.heap[s_]? = some (.cells #[.int .i64 0] 3 (0, 0))) ∧ (w.heap.size ≤ s_) ∧ (w.heap.size ≤ s_) ∧ (gb198 ≠ s_) ∧ (s_ ≠ gb198) ∧ (Below w.heap.size w w')) ?_ ?_
           rotate_left
           ·intro hJ5
            refine three_ (i := 1) (j := 4) (k := 5) (Ni := some 13) (Nj := some 6) (Nk := some 7) #[true, true, true, false, false, false, false, false] #[true, false, true, false, true, false, false, false] #[true, false, true, false, false, true, false, false] rfl rfl rfl rfl rfl rfl (three_of HT_.out kf) (by decide) (by decide) (by decide) (fun K hK => ?_) (fun K hK => ?_) (fun K hK => ?_)
            ·skip
             refine goes_ Tryz.func17 kf rfl #[.agg #[.slice A0_0 l0_0.length c0_0, .string a0_1, .bool a0_2]] (by rfl) rfl rfl ml ?_
             with_reducible refine (guard_Marks.calls k _ _ l0_0 a0_1 a0_2 t199 _ ?side1 ?side2 ?side3 A3.out).mono ?_
             (case side1 => repeat (first | exact (Kd.C_below HR0_0.out HB.out) | (with_reducible refine Kd.C_alloc ?_ _) | (with_reducible refine Kd.C_drewN ?_ _) | (with_reducible refine Kd.C_drew ?_)))
             (case side2 => exact HC0_0.out)
             (case side3 => exact Glob.below HG.out bl)
             rintro e w7 ⟨v200, rfl, ho0, hb⟩
             refine ⟨_, rfl, ?_⟩
             have HO201 := Aside0.mk (Kd.R_lower ho0 (below_size bl))
             replace BK198 := Aside0.mk (kb BK198.out hb)
             replace HB := Aside0.mk (below_step bl hb)
             (try clear hb)
             (try clear hb2)
             (try clear hk)
             (try clear hi)
             (try clear ho0)
             refine hK.out _ _ ⟨(blk_cell BK198.out 0).trans rfl, (blk_cell BK198.out 1).trans rfl, (blk_cell BK198.out 2).trans rfl⟩ (fun hHeld => ?_)
             clear hK K
             refine norm_ (a' := ?_) ?_ ?_
             rotate_left
             ·show Act.put _ (some 13) _ = _
              simp only [Act.put, sA, sB, sC, i64_w, i32_w]
              rfl
             exact norm_ (by first | (simp only [putAll, Act.put, sA, sB, sC]; done) | (simp only [putAll, Act.put, sA, sB, sC]; rfl)) (hJ1 (v200) _ ⟨hHeld, (kr HO201.out), (bk BK198.out), bl⟩)
            ·skip
             refine box_step ?hg (N := 6) ?hd (cs := #[.slice none 0 0]) (t := 25) ?hr ?_; (case hd => rfl); (case hg => rfl); (case hr => first | (go_simp; done) | (go_simp; rfl))
             intro gb203 hg w7 hbox hb
             have BK203 := Aside0.mk (hbox)
             have GW203 := Aside0.mk (gz hg : w.heap.size ≤ gb203)
             have GE203 := Aside0.mk (gz hg : w.heap.size ≤ gb203)
             replace HB := Aside0.mk (below_step bl hb)
             have NB198_203 := Aside0.mk (nl hg BK198.out : gb198 ≠ gb203)
             have NB203_198 := Aside0.mk (ng hg BK198.out : gb203 ≠ gb198)
             replace BK198 := Aside0.mk (kb BK198.out hb)
             clear hb hbox hg
             refine hK.out _ _ ⟨(blk_cell BK198.out 0).trans rfl, (blk_cell BK198.out 1).trans rfl, (blk_cell BK198.out 2).trans rfl⟩ (fun hHeld => ?_)
             clear hK K
             refine norm_ (a' := ?_) ?_ ?_
             rotate_left
             ·show Act.put _ (some 6) _ = _
              simp only [Act.put, sA, sB, sC, i64_w, i32_w]
              rfl
             exact norm_ (by first | (simp only [putAll, Act.put, sA, sB, sC]; done) | (simp only [putAll, Act.put, sA, sB, sC]; rfl)) (hJ4 (gb203) _ ⟨hHeld, (bk BK198.out), (bk BK203.out), GW203.out, GE203.out, NB198_203.out, NB203_198.out, bl⟩)
            ·skip
             refine box_step ?hg (N := 7) ?hd (cs := #[.int .i64 0]) (t := 3) ?hr ?_; (case hd => rfl); (case hg => rfl); (case hr => first | (go_simp; done) | (go_simp; rfl))
             intro gb204 hg w7 hbox hb
             have BK204 := Aside0.mk (hbox)
             have GW204 := Aside0.mk (gz hg : w.heap.size ≤ gb204)
             have GE204 := Aside0.mk (gz hg : w.heap.size ≤ gb204)
             replace HB := Aside0.mk (below_step bl hb)
             have NB198_204 := Aside0.mk (nl hg BK198.out : gb198 ≠ gb204)
             have NB204_198 := Aside0.mk (ng hg BK198.out : gb204 ≠ gb198)
             replace BK198 := Aside0.mk (kb BK198.out hb)
             clear hb hbox hg
             refine hK.out _ _ ⟨(blk_cell BK198.out 0).trans rfl, (blk_cell BK198.out 1).trans rfl, (blk_cell BK198.out 2).trans rfl⟩ (fun hHeld => ?_)
             clear hK K
             refine norm_ (a' := ?_) ?_ ?_
             rotate_left
             ·show Act.put _ (some 7) _ = _
              simp only [Act.put, sA, sB, sC, i64_w, i32_w]
              rfl
             exact norm_ (by first | (simp only [putAll, Act.put, sA, sB, sC]; done) | (simp only [putAll, Act.put, sA, sB, sC]; rfl)) (hJ5 (gb204) _ ⟨hHeld, (bk BK198.out), (bk BK204.out), GW204.out, GE204.out, NB198_204.out, NB204_198.out, bl⟩)
           ·skip
            rintro gb204 w8 ⟨hS_, h0_, h1_, h2_, h3_, h4_, h5_, h6_⟩
            have n0_ : Aside0 (w8.heap[gb198]? = some (.cells #[.slice A0_0 l0_0.length c0_0, .string a0_1, .bool a0_2] 24 (0, 0))) := ⟨h0_⟩
            have n1_ : Aside0 (w8.heap[gb204]? = some (.cells #[.int .i64 0] 3 (0, 0))) := ⟨h1_⟩
            have n2_ : Aside0 (w.heap.size ≤ gb204) := ⟨h2_⟩
            have n3_ : Aside0 (w.heap.size ≤ gb204) := ⟨h3_⟩
            have n4_ : Aside0 (gb198 ≠ gb204) := ⟨h4_⟩
            have n5_ : Aside0 (gb204 ≠ gb198) := ⟨h5_⟩
            have n6_ : Aside0 (Below w.heap.size w w8) := ⟨h6_⟩
            clear BK198 HB h0_ h1_ h2_ h3_ h4_ h5_ h6_
            have BK198 := n0_
            have BK204 := n1_
            have GW204 := n2_
            have GE204 := n3_
            have NB198_204 := n4_
            have NB204_198 := n5_
            have HB := n6_
            clear n0_ n1_ n2_ n3_ n4_ n5_ n6_
            have hHeld : w8.cell? ⟨gb198, 0, none⟩ = some (.slice A0_0 l0_0.length c0_0) ∧ w8.cell? ⟨gb198, 1, none⟩ = some (.string a0_1) ∧ w8.cell? ⟨gb198, 2, none⟩ = some (.bool a0_2) := hS_
            refine norm_ (a' := ?_) ?_ ?_
            rotate_left
            ·simp only [putAll, Act.put, sA, sB, sC]
             rfl
            refine two_ (i := 1) (j := 4) (Ni := some 13) (Nj := some 6) #[true, true, true, false, false, true, false, false] #[true, false, true, false, true, true, false, false] rfl rfl rfl rfl (two_of HT_.out kf) (by decide) (by decide) (fun K hK => ?_) (fun K hK => ?_)
            ·skip
             refine goes_ Tryz.func17 kf rfl #[.agg #[.slice A0_0 l0_0.length c0_0, .string a0_1, .bool a0_2]] (by rfl) rfl rfl ml ?_
             with_reducible refine (guard_Marks.calls k _ _ l0_0 a0_1 a0_2 t199 _ ?side1 ?side2 ?side3 A3.out).mono ?_
             (case side1 => repeat (first | exact (Kd.C_below HR0_0.out HB.out) | (with_reducible refine Kd.C_alloc ?_ _) | (with_reducible refine Kd.C_drewN ?_ _) | (with_reducible refine Kd.C_drew ?_)))
             (case side2 => exact HC0_0.out)
             (case side3 => exact Glob.below HG.out bl)
             rintro e w9 ⟨v200, rfl, ho0, hb⟩
             refine ⟨_, rfl, ?_⟩
             have HO201 := Aside0.mk (Kd.R_lower ho0 (below_size bl))
             replace BK198 := Aside0.mk (kb BK198.out hb)
             replace BK204 := Aside0.mk (kb BK204.out hb)
             replace HB := Aside0.mk (below_step bl hb)
             (try clear hb)
             (try clear hb2)
             (try clear hk)
             (try clear hi)
             (try clear ho0)
             refine hK.out _ _ ⟨(blk_cell BK198.out 0).trans rfl, (blk_cell BK198.out 1).trans rfl, (blk_cell BK198.out 2).trans rfl⟩ (fun hHeld => ?_)
             clear hK K
             refine norm_ (a' := ?_) ?_ ?_
             rotate_left
             ·show Act.put _ (some 13) _ = _
              simp only [Act.put, sA, sB, sC, i64_w, i32_w]
              rfl
             exact norm_ (by first | (simp only [putAll, Act.put, sA, sB, sC]; done) | (simp only [putAll, Act.put, sA, sB, sC]; rfl)) (hJ1_5 (v200, gb204) _ ⟨hHeld, (kr HO201.out), (bk BK198.out), (bk BK204.out), GW204.out, GE204.out, NB198_204.out, NB204_198.out, bl⟩)
            ·skip
             refine box_step ?hg (N := 6) ?hd (cs := #[.slice none 0 0]) (t := 25) ?hr ?_; (case hd => rfl); (case hg => rfl); (case hr => first | (go_simp; done) | (go_simp; rfl))
             intro gb203 hg w9 hbox hb
             have BK203 := Aside0.mk (hbox)
             have GW203 := Aside0.mk (gz hg : w.heap.size ≤ gb203)
             have GE203 := Aside0.mk (gz hg : w.heap.size ≤ gb203)
             replace HB := Aside0.mk (below_step bl hb)
             have NB198_203 := Aside0.mk (nl hg BK198.out : gb198 ≠ gb203)
             have NB203_198 := Aside0.mk (ng hg BK198.out : gb203 ≠ gb198)
             replace BK198 := Aside0.mk (kb BK198.out hb)
             have NB204_203 := Aside0.mk (nl hg BK204.out : gb204 ≠ gb203)
             have NB203_204 := Aside0.mk (ng hg BK204.out : gb203 ≠ gb204)
             replace BK204 := Aside0.mk (kb BK204.out hb)
             clear hb hbox hg
             refine hK.out _ _ ⟨(blk_cell BK198.out 0).trans rfl, (blk_cell BK198.out 1).trans rfl, (blk_cell BK198.out 2).trans rfl⟩ (fun hHeld => ?_)
             clear hK K
             refine norm_ (a' := ?_) ?_ ?_
             rotate_left
             ·show Act.put _ (some 6) _ = _
              simp only [Act.put, sA, sB, sC, i64_w, i32_w]
              rfl
             exact norm_ (by first | (simp only [putAll, Act.put, sA, sB, sC]; done) | (simp only [putAll, Act.put, sA, sB, sC]; rfl)) (hJ4_5 (gb203, gb204) _ ⟨hHeld, (bk BK198.out), (bk BK203.out), (bk BK204.out), GW203.out, GE203.out, NB198_203.out, NB203_198.out, NB204_203.out, NB203_204.out, GW204.out, GE204.out, NB198_204.out, NB204_198.out, bl⟩)
          ·skip
           rintro gb203 w8 ⟨hS_, h0_, h1_, h2_, h3_, h4_, h5_, h6_⟩
           have n0_ : Aside0 (w8.heap[gb198]? = some (.cells #[.slice A0_0 l0_0.length c0_0, .string a0_1, .bool a0_2] 24 (0, 0))) := ⟨h0_⟩
           have n1_ : Aside0 (w8.heap[gb203]? = some (.cells #[.slice none 0 0] 25 (0, 0))) := ⟨h1_⟩
           have n2_ : Aside0 (w.heap.size ≤ gb203) := ⟨h2_⟩
           have n3_ : Aside0 (w.heap.size ≤ gb203) := ⟨h3_⟩
           have n4_ : Aside0 (gb198 ≠ gb203) := ⟨h4_⟩
           have n5_ : Aside0 (gb203 ≠ gb198) := ⟨h5_⟩
           have n6_ : Aside0 (Below w.heap.size w w8) := ⟨h6_⟩
           clear BK198 HB h0_ h1_ h2_ h3_ h4_ h5_ h6_
           have BK198 := n0_
           have BK203 := n1_
           have GW203 := n2_
           have GE203 := n3_
           have NB198_203 := n4_
           have NB203_198 := n5_
           have HB := n6_
           clear n0_ n1_ n2_ n3_ n4_ n5_ n6_
           have hHeld : w8.cell? ⟨gb198, 0, none⟩ = some (.slice A0_0 l0_0.length c0_0) ∧ w8.cell? ⟨gb198, 1, none⟩ = some (.string a0_1) ∧ w8.cell? ⟨gb198, 2, none⟩ = some (.bool a0_2) := hS_
           refine norm_ (a' := ?_) ?_ ?_
           rotate_left
           ·simp only [putAll, Act.put, sA, sB, sC]
            rfl
           refine two_ (i := 1) (j := 5) (Ni := some 13) (Nj := some 7) #[true, true, true, false, true, false, false, false] #[true, false, true, false, true, true, false, false] rfl rfl rfl rfl (two_of HT_.out kf) (by decide) (by decide) (fun K hK => ?_) (fun K hK => ?_)
           ·skip
            refine goes_ Tryz.func17 kf rfl #[.agg #[.slice A0_0 l0_0.length c0_0, .string a0_1, .bool a0_2]] (by rfl) rfl rfl ml ?_
            with_reducible refine (guard_Marks.calls k _ _ l0_0 a0_1 a0_2 t199 _ ?side1 ?side2 ?side3 A3.out).mono ?_
            (case side1 => repeat (first | exact (Kd.C_below HR0_0.out HB.out) | (with_reducible refine Kd.C_alloc ?_ _) | (with_reducible refine Kd.C_drewN ?_ _) | (with_reducible refine Kd.C_drew ?_)))
            (case side2 => exact HC0_0.out)
            (case side3 => exact Glob.below HG.out bl)
            rintro e w9 ⟨v200, rfl, ho0, hb⟩
            refine ⟨_, rfl, ?_⟩
            have HO201 := Aside0.mk (Kd.R_lower ho0 (below_size bl))
            replace BK198 := Aside0.mk (kb BK198.out hb)
            replace BK203 := Aside0.mk (kb BK203.out hb)
            replace HB := Aside0.mk (below_step bl hb)
            (try clear hb)
            (try clear hb2)
            (try clear hk)
            (try clear hi)
            (try clear ho0)
            refine hK.out _ _ ⟨(blk_cell BK198.out 0).trans rfl, (blk_cell BK198.out 1).trans rfl, (blk_cell BK198.out 2).trans rfl⟩ (fun hHeld => ?_)
            clear hK K
            refine norm_ (a' := ?_) ?_ ?_
            rotate_left
            ·show Act.put _ (some 13) _ = _
             simp only [Act.put, sA, sB, sC, i64_w, i32_w]
             rfl
            exact norm_ (by first | (simp only [putAll, Act.put, sA, sB, sC]; done) | (simp only [putAll, Act.put, sA, sB, sC]; rfl)) (hJ1_4 (v200, gb203) _ ⟨hHeld, (kr HO201.out), (bk BK198.out), (bk BK203.out), GW203.out, GE203.out, NB198_203.out, NB203_198.out, bl⟩)
           ·skip
            refine box_step ?hg (N := 7) ?hd (cs := #[.int .i64 0]) (t := 3) ?hr ?_; (case hd => rfl); (case hg => rfl); (case hr => first | (go_simp; done) | (go_simp; rfl))
            intro gb204 hg w9 hbox hb
            have BK204 := Aside0.mk (hbox)
            have GW204 := Aside0.mk (gz hg : w.heap.size ≤ gb204)
            have GE204 := Aside0.mk (gz hg : w.heap.size ≤ gb204)
            replace HB := Aside0.mk (below_step bl hb)
            have NB198_204 := Aside0.mk (nl hg BK198.out : gb198 ≠ gb204)
            have NB204_198 := Aside0.mk (ng hg BK198.out : gb204 ≠ gb198)
            replace BK198 := Aside0.mk (kb BK198.out hb)
            have NB203_204 := Aside0.mk (nl hg BK203.out : gb203 ≠ gb204)
            have NB204_203 := Aside0.mk (ng hg BK203.out : gb204 ≠ gb203)
            replace BK203 := Aside0.mk (kb BK203.out hb)
            clear hb hbox hg
            refine hK.out _ _ ⟨(blk_cell BK198.out 0).trans rfl, (blk_cell BK198.out 1).trans rfl, (blk_cell BK198.out 2).trans rfl⟩ (fun hHeld => ?_)
            clear hK K
            refine norm_ (a' := ?_) ?_ ?_
            rotate_left
            ·show Act.put _ (some 7) _ = _
             simp only [Act.put, sA, sB, sC, i64_w, i32_w]
             rfl
            exact norm_ (by first | (simp only [putAll, Act.put, sA, sB, sC]; done) | (simp only [putAll, Act.put, sA, sB, sC]; rfl)) (hJ4_5 (gb203, gb204) _ ⟨hHeld, (bk BK198.out), (bk BK203.out), (bk BK204.out), GW203.out, GE203.out, NB198_203.out, NB203_198.out, NB204_203.out, NB203_204.out, GW204.out, GE204.out, NB198_204.out, NB204_198.out, bl⟩)
         ·skip
          rintro v200 w8 ⟨hS_, h0_, h1_, h2_⟩
          have n0_ : Aside0 (Kd.R k50 50 w8 w.heap.size (fun _ => True) v200 t199) := ⟨h0_⟩
          have n1_ : Aside0 (w8.heap[gb198]? = some (.cells #[.slice A0_0 l0_0.length c0_0, .string a0_1, .bool a0_2] 24 (0, 0))) := ⟨h1_⟩
          have n2_ : Aside0 (Below w.heap.size w w8) := ⟨h2_⟩
          clear BK198 HB h0_ h1_ h2_
          have HO201 := n0_
          have BK198 := n1_
          have HB := n2_
          clear n0_ n1_ n2_
          have hHeld : w8.cell? ⟨gb198, 0, none⟩ = some (.slice A0_0 l0_0.length c0_0) ∧ w8.cell? ⟨gb198, 1, none⟩ = some (.string a0_1) ∧ w8.cell? ⟨gb198, 2, none⟩ = some (.bool a0_2) := hS_
          refine norm_ (a' := ?_) ?_ ?_
          rotate_left
          ·simp only [putAll, Act.put, sA, sB, sC]
           rfl
          refine three_ (i := 3) (j := 4) (k := 5) (Ni := some 15) (Nj := some 6) (Nk := some 7) #[true, true, true, true, false, false, false, false] #[true, true, true, false, true, false, false, false] #[true, true, true, false, false, true, false, false] rfl rfl rfl rfl rfl rfl (three_of HT_.out kf) (by decide) (by decide) (by decide) (fun K hK => ?_) (fun K hK => ?_) (fun K hK => ?_)
          ·skip
           refine goes_ Tryz.func15 kf rfl #[.agg #[.slice A0_0 l0_0.length c0_0, .string a0_1, .bool a0_2]] (by rfl) rfl rfl ml ?_
           with_reducible refine (guard_Hops.calls _ _ l0_0 a0_1 a0_2 t202 _ ?side1 ?side2 A4.out).mono ?_
           (case side1 => repeat (first | exact (Kd.C_below HR0_0.out HB.out) | (with_reducible refine Kd.C_alloc ?_ _) | (with_reducible refine Kd.C_drewN ?_ _) | (with_reducible refine Kd.C_drew ?_)))
           (case side2 => exact HC0_0.out)
           rintro e w9 ⟨rfl, hb⟩
           refine ⟨_, rfl, ?_⟩
           replace HO201 := Aside0.mk (Kd.R_below (kr HO201.out) hb)
           replace BK198 := Aside0.mk (kb BK198.out hb)
           replace HB := Aside0.mk (below_step bl hb)
           (try clear hb)
           (try clear hb2)
           (try clear hk)
           (try clear hi)
           refine hK.out _ _ ⟨(blk_cell BK198.out 0).trans rfl, (blk_cell BK198.out 1).trans rfl, (blk_cell BK198.out 2).trans rfl⟩ (fun hHeld => ?_)
           clear hK K
           refine norm_ (a' := ?_) ?_ ?_
           rotate_left
           ·show Act.put _ (some 15) _ = _
            simp only [Act.put, sA, sB, sC, i64_w, i32_w]
            rfl
           exact norm_ (by first | (simp only [putAll, Act.put, sA, sB, sC]; done) | (simp only [putAll, Act.put, sA, sB, sC]; rfl)) (hJ1_3 (v200) _ ⟨hHeld, (kr HO201.out), (bk BK198.out), bl⟩)
          ·skip
           refine box_step ?hg (N := 6) ?hd (cs := #[.slice none 0 0]) (t := 25) ?hr ?_; (case hd => rfl); (case hg => rfl); (case hr => first | (go_simp; done) | (go_simp; rfl))
           intro gb203 hg w9 hbox hb
           replace HO201 := Aside0.mk (Kd.R_below (kr HO201.out) hb)
           have BK203 := Aside0.mk (hbox)
           have GW203 := Aside0.mk (gz hg : w.heap.size ≤ gb203)
           have GE203 := Aside0.mk (gz hg : w.heap.size ≤ gb203)
           replace HB := Aside0.mk (below_step bl hb)
           have NB198_203 := Aside0.mk (nl hg BK198.out : gb198 ≠ gb203)
           have NB203_198 := Aside0.mk (ng hg BK198.out : gb203 ≠ gb198)
           replace BK198 := Aside0.mk (kb BK198.out hb)
           clear hb hbox hg
           refine hK.out _ _ ⟨(blk_cell BK198.out 0).trans rfl, (blk_cell BK198.out 1).trans rfl, (blk_cell BK198.out 2).trans rfl⟩ (fun hHeld => ?_)
           clear hK K
           refine norm_ (a' := ?_) ?_ ?_
           rotate_left
           ·show Act.put _ (some 6) _ = _
            simp only [Act.put, sA, sB, sC, i64_w, i32_w]
            rfl
           exact norm_ (by first | (simp only [putAll, Act.put, sA, sB, sC]; done) | (simp only [putAll, Act.put, sA, sB, sC]; rfl)) (hJ1_4 (v200, gb203) _ ⟨hHeld, (kr HO201.out), (bk BK198.out), (bk BK203.out), GW203.out, GE203.out, NB198_203.out, NB203_198.out, bl⟩)
          ·skip
           refine box_step ?hg (N := 7) ?hd (cs := #[.int .i64 0]) (t := 3) ?hr ?_; (case hd => rfl); (case hg => rfl); (case hr => first | (go_simp; done) | (go_simp; rfl))
           intro gb204 hg w9 hbox hb
           replace HO201 := Aside0.mk (Kd.R_below (kr HO201.out) hb)
           have BK204 := Aside0.mk (hbox)
           have GW204 := Aside0.mk (gz hg : w.heap.size ≤ gb204)
           have GE204 := Aside0.mk (gz hg : w.heap.size ≤ gb204)
           replace HB := Aside0.mk (below_step bl hb)
           have NB198_204 := Aside0.mk (nl hg BK198.out : gb198 ≠ gb204)
           have NB204_198 := Aside0.mk (ng hg BK198.out : gb204 ≠ gb198)
           replace BK198 := Aside0.mk (kb BK198.out hb)
           clear hb hbox hg
           refine hK.out _ _ ⟨(blk_cell BK198.out 0).trans rfl, (blk_cell BK198.out 1).trans rfl, (blk_cell BK198.out 2).trans rfl⟩ (fun hHeld => ?_)
           clear hK K
           refine norm_ (a' := ?_) ?_ ?_
           rotate_left
           ·show Act.put _ (some 7) _ = _
            simp only [Act.put, sA, sB, sC, i64_w, i32_w]
            rfl
           exact norm_ (by first | (simp only [putAll, Act.put, sA, sB, sC]; done) | (simp only [putAll, Act.put, sA, sB, sC]; rfl)) (hJ1_5 (v200, gb204) _ ⟨hHeld, (kr HO201.out), (bk BK198.out), (bk BK204.out), GW204.out, GE204.out, NB198_204.out, NB204_198.out, bl⟩)
        ·skip
         rintro ⟨gb203, gb204⟩ w9 ⟨hS_, h0_, h1_, h2_, h3_, h4_, h5_, h6_, h7_, h8_, h9_, h10_, h11_, h12_, h13_⟩
         have n0_ : Aside0 (w9.heap[gb198]? = some (.cells #[.slice A0_0 l0_0.length c0_0, .string a0_1, .bool a0_2] 24 (0, 0))) := ⟨h0_⟩
         have n1_ : Aside0 (w9.heap[gb203]? = some (.cells #[.slice none 0 0] 25 (0, 0))) := ⟨h1_⟩
         have n2_ : Aside0 (w9.heap[gb204]? = some (.cells #[.int .i64 0] 3 (0, 0))) := ⟨h2_⟩
         have n3_ : Aside0 (w.heap.size ≤ gb203) := ⟨h3_⟩
         have n4_ : Aside0 (w.heap.size ≤ gb203) := ⟨h4_⟩
         have n5_ : Aside0 (gb198 ≠ gb203) := ⟨h5_⟩
         have n6_ : Aside0 (gb203 ≠ gb198) := ⟨h6_⟩
         have n7_ : Aside0 (gb204 ≠ gb203) := ⟨h7_⟩
         have n8_ : Aside0 (gb203 ≠ gb204) := ⟨h8_⟩
         have n9_ : Aside0 (w.heap.size ≤ gb204) := ⟨h9_⟩
         have n10_ : Aside0 (w.heap.size ≤ gb204) := ⟨h10_⟩
         have n11_ : Aside0 (gb198 ≠ gb204) := ⟨h11_⟩
         have n12_ : Aside0 (gb204 ≠ gb198) := ⟨h12_⟩
         have n13_ : Aside0 (Below w.heap.size w w9) := ⟨h13_⟩
         clear BK198 HB h0_ h1_ h2_ h3_ h4_ h5_ h6_ h7_ h8_ h9_ h10_ h11_ h12_ h13_
         have BK198 := n0_
         have BK203 := n1_
         have BK204 := n2_
         have GW203 := n3_
         have GE203 := n4_
         have NB198_203 := n5_
         have NB203_198 := n6_
         have NB204_203 := n7_
         have NB203_204 := n8_
         have GW204 := n9_
         have GE204 := n10_
         have NB198_204 := n11_
         have NB204_198 := n12_
         have HB := n13_
         clear n0_ n1_ n2_ n3_ n4_ n5_ n6_ n7_ n8_ n9_ n10_ n11_ n12_ n13_
         have hHeld : w9.cell? ⟨gb198, 0, none⟩ = some (.slice A0_0 l0_0.length c0_0) ∧ w9.cell? ⟨gb198, 1, none⟩ = some (.string a0_1) ∧ w9.cell? ⟨gb198, 2, none⟩ = some (.bool a0_2) := hS_
         refine norm_ (a' := ?_) ?_ ?_
         rotate_left
         ·simp only [putAll, Act.put, sA, sB, sC]
          rfl
         refine one_ (i := 1) (N := some 13) #[true, true, true, false, true, true, false, false] rfl rfl (one_of HT_.out kf) (by decide) (fun K hK => ?_)
         refine goes_ Tryz.func17 kf rfl #[.agg #[.slice A0_0 l0_0.length c0_0, .string a0_1, .bool a0_2]] (by rfl) rfl rfl ml ?_
         with_reducible refine (guard_Marks.calls k _ _ l0_0 a0_1 a0_2 t199 _ ?side1 ?side2 ?side3 A3.out).mono ?_
         (case side1 => repeat (first | exact (Kd.C_below HR0_0.out HB.out) | (with_reducible refine Kd.C_alloc ?_ _) | (with_reducible refine Kd.C_drewN ?_ _) | (with_reducible refine Kd.C_drew ?_)))
         (case side2 => exact HC0_0.out)
         (case side3 => exact Glob.below HG.out bl)
         rintro e w10 ⟨v200, rfl, ho0, hb⟩
         refine ⟨_, rfl, ?_⟩
         have HO201 := Aside0.mk (Kd.R_lower ho0 (below_size bl))
         replace BK198 := Aside0.mk (kb BK198.out hb)
         replace BK203 := Aside0.mk (kb BK203.out hb)
         replace BK204 := Aside0.mk (kb BK204.out hb)
         replace HB := Aside0.mk (below_step bl hb)
         (try clear hb)
         (try clear hb2)
         (try clear hk)
         (try clear hi)
         (try clear ho0)
         refine hK.out _ _ ⟨(blk_cell BK198.out 0).trans rfl, (blk_cell BK198.out 1).trans rfl, (blk_cell BK198.out 2).trans rfl⟩ (fun hHeld => ?_)
         clear hK K
         refine norm_ (a' := ?_) ?_ ?_
         rotate_left
         ·show Act.put _ (some 13) _ = _
          simp only [Act.put, sA, sB, sC, i64_w, i32_w]
          rfl
         exact norm_ (by first | (simp only [putAll, Act.put, sA, sB, sC]; done) | (simp only [putAll, Act.put, sA, sB, sC]; rfl)) (hJ1_4_5 (v200, gb203, gb204) _ ⟨hHeld, (kr HO201.out), (bk BK198.out), (bk BK203.out), (bk BK204.out), GW203.out, GE203.out, NB198_203.out, NB203_198.out, NB204_203.out, NB203_204.out, GW204.out, GE204.out, NB198_204.out, NB204_198.out, bl⟩)
       ·skip
        rintro ⟨v200, gb204⟩ w9 ⟨hS_, h0_, h1_, h2_, h3_, h4_, h5_, h6_, h7_⟩
        have n0_ : Aside0 (Kd.R k50 50 w9 w.heap.size (fun _ => True) v200 t199) := ⟨h0_⟩
        have n1_ : Aside0 (w9.heap[gb198]? = some (.cells #[.slice A0_0 l0_0.length c0_0, .string a0_1, .bool a0_2] 24 (0, 0))) := ⟨h1_⟩
        have n2_ : Aside0 (w9.heap[gb204]? = some (.cells #[.int .i64 0] 3 (0, 0))) := ⟨h2_⟩
        have n3_ : Aside0 (w.heap.size ≤ gb204) := ⟨h3_⟩
        have n4_ : Aside0 (w.heap.size ≤ gb204) := ⟨h4_⟩
        have n5_ : Aside0 (gb198 ≠ gb204) := ⟨h5_⟩
        have n6_ : Aside0 (gb204 ≠ gb198) := ⟨h6_⟩
        have n7_ : Aside0 (Below w.heap.size w w9) := ⟨h7_⟩
        clear BK198 HB h0_ h1_ h2_ h3_ h4_ h5_ h6_ h7_
        have HO201 := n0_
        have BK198 := n1_
        have BK204 := n2_
        have GW204 := n3_
        have GE204 := n4_
        have NB198_204 := n5_
        have NB204_198 := n6_
        have HB := n7_
        clear n0_ n1_ n2_ n3_ n4_ n5_ n6_ n7_
        have hHeld : w9.cell? ⟨gb198, 0, none⟩ = some (.slice A0_0 l0_0.length c0_0) ∧ w9.cell? ⟨gb198, 1, none⟩ = some (.string a0_1) ∧ w9.cell? ⟨gb198, 2, none⟩ = some (.bool a0_2) := hS_
        refine norm_ (a' := ?_) ?_ ?_
        rotate_left
        ·simp only [putAll, Act.put, sA, sB, sC]
         rfl
        refine two_ (i := 3) (j := 4) (Ni := some 15) (Nj := some 6) #[true, true, true, true, false, true, false, false] #[true, true, true, false, true, true, false, false] rfl rfl rfl rfl (two_of HT_.out kf) (by decide) (by decide) (fun K hK => ?_) (fun K hK => ?_)
        ·skip
         refine goes_ Tryz.func15 kf rfl #[.agg #[.slice A0_0 l0_0.length c0_0, .string a0_1, .bool a0_2]] (by rfl) rfl rfl ml ?_
         with_reducible refine (guard_Hops.calls _ _ l0_0 a0_1 a0_2 t202 _ ?side1 ?side2 A4.out).mono ?_
         (case side1 => repeat (first | exact (Kd.C_below HR0_0.out HB.out) | (with_reducible refine Kd.C_alloc ?_ _) | (with_reducible refine Kd.C_drewN ?_ _) | (with_reducible refine Kd.C_drew ?_)))
         (case side2 => exact HC0_0.out)
         rintro e w10 ⟨rfl, hb⟩
         refine ⟨_, rfl, ?_⟩
         replace HO201 := Aside0.mk (Kd.R_below (kr HO201.out) hb)
         replace BK198 := Aside0.mk (kb BK198.out hb)
         replace BK204 := Aside0.mk (kb BK204.out hb)
         replace HB := Aside0.mk (below_step bl hb)
         (try clear hb)
         (try clear hb2)
         (try clear hk)
         (try clear hi)
         refine hK.out _ _ ⟨(blk_cell BK198.out 0).trans rfl, (blk_cell BK198.out 1).trans rfl, (blk_cell BK198.out 2).trans rfl⟩ (fun hHeld => ?_)
         clear hK K
         refine norm_ (a' := ?_) ?_ ?_
         rotate_left
         ·show Act.put _ (some 15) _ = _
          simp only [Act.put, sA, sB, sC, i64_w, i32_w]
          rfl
         exact norm_ (by first | (simp only [putAll, Act.put, sA, sB, sC]; done) | (simp only [putAll, Act.put, sA, sB, sC]; rfl)) (hJ1_3_5 (v200, gb204) _ ⟨hHeld, (kr HO201.out), (bk BK198.out), (bk BK204.out), GW204.out, GE204.out, NB198_204.out, NB204_198.out, bl⟩)
        ·skip
         refine box_step ?hg (N := 6) ?hd (cs := #[.slice none 0 0]) (t := 25) ?hr ?_; (case hd => rfl); (case hg => rfl); (case hr => first | (go_simp; done) | (go_simp; rfl))
         intro gb203 hg w10 hbox hb
         replace HO201 := Aside0.mk (Kd.R_below (kr HO201.out) hb)
         have BK203 := Aside0.mk (hbox)
         have GW203 := Aside0.mk (gz hg : w.heap.size ≤ gb203)
         have GE203 := Aside0.mk (gz hg : w.heap.size ≤ gb203)
         replace HB := Aside0.mk (below_step bl hb)
         have NB198_203 := Aside0.mk (nl hg BK198.out : gb198 ≠ gb203)
         have NB203_198 := Aside0.mk (ng hg BK198.out : gb203 ≠ gb198)
         replace BK198 := Aside0.mk (kb BK198.out hb)
         have NB204_203 := Aside0.mk (nl hg BK204.out : gb204 ≠ gb203)
         have NB203_204 := Aside0.mk (ng hg BK204.out : gb203 ≠ gb204)
         replace BK204 := Aside0.mk (kb BK204.out hb)
         clear hb hbox hg
         refine hK.out _ _ ⟨(blk_cell BK198.out 0).trans rfl, (blk_cell BK198.out 1).trans rfl, (blk_cell BK198.out 2).trans rfl⟩ (fun hHeld => ?_)
         clear hK K
         refine norm_ (a' := ?_) ?_ ?_
         rotate_left
         ·show Act.put _ (some 6) _ = _
          simp only [Act.put, sA, sB, sC, i64_w, i32_w]
          rfl
         exact norm_ (by first | (simp only [putAll, Act.put, sA, sB, sC]; done) | (simp only [putAll, Act.put, sA, sB, sC]; rfl)) (hJ1_4_5 (v200, gb203, gb204) _ ⟨hHeld, (kr HO201.out), (bk BK198.out), (bk BK203.out), (bk BK204.out), GW203.out, GE203.out, NB198_203.out, NB203_198.out, NB204_203.out, NB203_204.out, GW204.out, GE204.out, NB198_204.out, NB204_198.out, bl⟩)
      ·skip
       rintro ⟨v200, gb203⟩ w9 ⟨hS_, h0_, h1_, h2_, h3_, h4_, h5_, h6_, h7_⟩
       have n0_ : Aside0 (Kd.R k50 50 w9 w.heap.size (fun _ => True) v200 t199) := ⟨h0_⟩
       have n1_ : Aside0 (w9.heap[gb198]? = some (.cells #[.slice A0_0 l0_0.length c0_0, .string a0_1, .bool a0_2] 24 (0, 0))) := ⟨h1_⟩
       have n2_ : Aside0 (w9.heap[gb203]? = some (.cells #[.slice none 0 0] 25 (0, 0))) := ⟨h2_⟩
       have n3_ : Aside0 (w.heap.size ≤ gb203) := ⟨h3_⟩
       have n4_ : Aside0 (w.heap.size ≤ gb203) := ⟨h4_⟩
       have n5_ : Aside0 (gb198 ≠ gb203) := ⟨h5_⟩
       have n6_ : Aside0 (gb203 ≠ gb198) := ⟨h6_⟩
       have n7_ : Aside0 (Below w.heap.size w w9) := ⟨h7_⟩
       clear BK198 HB h0_ h1_ h2_ h3_ h4_ h5_ h6_ h7_
       have HO201 := n0_
       have BK198 := n1_
       have BK203 := n2_
       have GW203 := n3_
       have GE203 := n4_
       have NB198_203 := n5_
       have NB203_198 := n6_
       have HB := n7_
       clear n0_ n1_ n2_ n3_ n4_ n5_ n6_ n7_
       have hHeld : w9.cell? ⟨gb198, 0, none⟩ = some (.slice A0_0 l0_0.length c0_0) ∧ w9.cell? ⟨gb198, 1, none⟩ = some (.string a0_1) ∧ w9.cell? ⟨gb198, 2, none⟩ = some (.bool a0_2) := hS_
       refine norm_ (a' := ?_) ?_ ?_
       rotate_left
       ·simp only [putAll, Act.put, sA, sB, sC]
        rfl
       refine two_ (i := 3) (j := 5) (Ni := some 15) (Nj := some 7) #[true, true, true, true, true, false, false, false] #[true, true, true, false, true, true, false, false] rfl rfl rfl rfl (two_of HT_.out kf) (by decide) (by decide) (fun K hK => ?_) (fun K hK => ?_)
       ·skip
        refine goes_ Tryz.func15 kf rfl #[.agg #[.slice A0_0 l0_0.length c0_0, .string a0_1, .bool a0_2]] (by rfl) rfl rfl ml ?_
        with_reducible refine (guard_Hops.calls _ _ l0_0 a0_1 a0_2 t202 _ ?side1 ?side2 A4.out).mono ?_
        (case side1 => repeat (first | exact (Kd.C_below HR0_0.out HB.out) | (with_reducible refine Kd.C_alloc ?_ _) | (with_reducible refine Kd.C_drewN ?_ _) | (with_reducible refine Kd.C_drew ?_)))
        (case side2 => exact HC0_0.out)
        rintro e w10 ⟨rfl, hb⟩
        refine ⟨_, rfl, ?_⟩
        replace HO201 := Aside0.mk (Kd.R_below (kr HO201.out) hb)
        replace BK198 := Aside0.mk (kb BK198.out hb)
        replace BK203 := Aside0.mk (kb BK203.out hb)
        replace HB := Aside0.mk (below_step bl hb)
        (try clear hb)
        (try clear hb2)
        (try clear hk)
        (try clear hi)
        refine hK.out _ _ ⟨(blk_cell BK198.out 0).trans rfl, (blk_cell BK198.out 1).trans rfl, (blk_cell BK198.out 2).trans rfl⟩ (fun hHeld => ?_)
        clear hK K
        refine norm_ (a' := ?_) ?_ ?_
        rotate_left
        ·show Act.put _ (some 15) _ = _
         simp only [Act.put, sA, sB, sC, i64_w, i32_w]
         rfl
        exact norm_ (by first | (simp only [putAll, Act.put, sA, sB, sC]; done) | (simp only [putAll, Act.put, sA, sB, sC]; rfl)) (hJ1_3_4 (v200, gb203) _ ⟨hHeld, (kr HO201.out), (bk BK198.out), (bk BK203.out), GW203.out, GE203.out, NB198_203.out, NB203_198.out, bl⟩)
       ·skip
        refine box_step ?hg (N := 7) ?hd (cs := #[.int .i64 0]) (t := 3) ?hr ?_; (case hd => rfl); (case hg => rfl); (case hr => first | (go_simp; done) | (go_simp; rfl))
        intro gb204 hg w10 hbox hb
        replace HO201 := Aside0.mk (Kd.R_below (kr HO201.out) hb)
        have BK204 := Aside0.mk (hbox)
        have GW204 := Aside0.mk (gz hg : w.heap.size ≤ gb204)
        have GE204 := Aside0.mk (gz hg : w.heap.size ≤ gb204)
        replace HB := Aside0.mk (below_step bl hb)
        have NB198_204 := Aside0.mk (nl hg BK198.out : gb198 ≠ gb204)
        have NB204_198 := Aside0.mk (ng hg BK198.out : gb204 ≠ gb198)
        replace BK198 := Aside0.mk (kb BK198.out hb)
        have NB203_204 := Aside0.mk (nl hg BK203.out : gb203 ≠ gb204)
        have NB204_203 := Aside0.mk (ng hg BK203.out : gb204 ≠ gb203)
        replace BK203 := Aside0.mk (kb BK203.out hb)
        clear hb hbox hg
        refine hK.out _ _ ⟨(blk_cell BK198.out 0).trans rfl, (blk_cell BK198.out 1).trans rfl, (blk_cell BK198.out 2).trans rfl⟩ (fun hHeld => ?_)
        clear hK K
        refine norm_ (a' := ?_) ?_ ?_
        rotate_left
        ·show Act.put _ (some 7) _ = _
         simp only [Act.put, sA, sB, sC, i64_w, i32_w]
         rfl
        exact norm_ (by first | (simp only [putAll, Act.put, sA, sB, sC]; done) | (simp only [putAll, Act.put, sA, sB, sC]; rfl)) (hJ1_4_5 (v200, gb203, gb204) _ ⟨hHeld, (kr HO201.out), (bk BK198.out), (bk BK203.out), (bk BK204.out), GW203.out, GE203.out, NB198_203.out, NB203_198.out, NB204_203.out, NB203_204.out, GW204.out, GE204.out, NB198_204.out, NB204_198.out, bl⟩)
     ·skip
      rintro v200 w9 ⟨hS_, h0_, h1_, h2_⟩
      have n0_ : Aside0 (Kd.R k50 50 w9 w.heap.size (fun _ => True) v200 t199) := ⟨h0_⟩
      have n1_ : Aside0 (w9.heap[gb198]? = some (.cells #[.slice A0_0 l0_0.length c0_0, .string a0_1, .bool a0_2] 24 (0, 0))) := ⟨h1_⟩
      have n2_ : Aside0 (Below w.heap.size w w9) := ⟨h2_⟩
      clear BK198 HB h0_ h1_ h2_
      have HO201 := n0_
      have BK198 := n1_
      have HB := n2_
      clear n0_ n1_ n2_
      have hHeld : w9.cell? ⟨gb198, 0, none⟩ = some (.slice A0_0 l0_0.length c0_0) ∧ w9.cell? ⟨gb198, 1, none⟩ = some (.string a0_1) ∧ w9.cell? ⟨gb198, 2, none⟩ = some (.bool a0_2) := hS_
      refine norm_ (a' := ?_) ?_ ?_
      rotate_left
      ·simp only [putAll, Act.put, sA, sB, sC]
       rfl
      refine two_ (i := 4) (j := 5) (Ni := some 6) (Nj := some 7) #[true, true, true, true, true, false, false, false] #[true, true, true, true, false, true, false, false] rfl rfl rfl rfl (two_of HT_.out kf) (by decide) (by decide) (fun K hK => ?_) (fun K hK => ?_)
      ·skip
       refine box_step ?hg (N := 6) ?hd (cs := #[.slice none 0 0]) (t := 25) ?hr ?_; (case hd => rfl); (case hg => rfl); (case hr => first | (go_simp; done) | (go_simp; rfl))
       intro gb203 hg w10 hbox hb
       replace HO201 := Aside0.mk (Kd.R_below (kr HO201.out) hb)
       have BK203 := Aside0.mk (hbox)
       have GW203 := Aside0.mk (gz hg : w.heap.size ≤ gb203)
       have GE203 := Aside0.mk (gz hg : w.heap.size ≤ gb203)
       replace HB := Aside0.mk (below_step bl hb)
       have NB198_203 := Aside0.mk (nl hg BK198.out : gb198 ≠ gb203)
       have NB203_198 := Aside0.mk (ng hg BK198.out : gb203 ≠ gb198)
       replace BK198 := Aside0.mk (kb BK198.out hb)
       clear hb hbox hg
       refine hK.out _ _ ⟨(blk_cell BK198.out 0).trans rfl, (blk_cell BK198.out 1).trans rfl, (blk_cell BK198.out 2).trans rfl⟩ (fun hHeld => ?_)
       clear hK K
       refine norm_ (a' := ?_) ?_ ?_
       rotate_left
       ·show Act.put _ (some 6) _ = _
        simp only [Act.put, sA, sB, sC, i64_w, i32_w]
        rfl
       exact norm_ (by first | (simp only [putAll, Act.put, sA, sB, sC]; done) | (simp only [putAll, Act.put, sA, sB, sC]; rfl)) (hJ1_3_4 (v200, gb203) _ ⟨hHeld, (kr HO201.out), (bk BK198.out), (bk BK203.out), GW203.out, GE203.out, NB198_203.out, NB203_198.out, bl⟩)
      ·skip
       refine box_step ?hg (N := 7) ?hd (cs := #[.int .i64 0]) (t := 3) ?hr ?_; (case hd => rfl); (case hg => rfl); (case hr => first | (go_simp; done) | (go_simp; rfl))
       intro gb204 hg w10 hbox hb
       replace HO201 := Aside0.mk (Kd.R_below (kr HO201.out) hb)
       have BK204 := Aside0.mk (hbox)
       have GW204 := Aside0.mk (gz hg : w.heap.size ≤ gb204)
       have GE204 := Aside0.mk (gz hg : w.heap.size ≤ gb204)
       replace HB := Aside0.mk (below_step bl hb)
       have NB198_204 := Aside0.mk (nl hg BK198.out : gb198 ≠ gb204)
       have NB204_198 := Aside0.mk (ng hg BK198.out : gb204 ≠ gb198)
       replace BK198 := Aside0.mk (kb BK198.out hb)
       clear hb hbox hg
       refine hK.out _ _ ⟨(blk_cell BK198.out 0).trans rfl, (blk_cell BK198.out 1).trans rfl, (blk_cell BK198.out 2).trans rfl⟩ (fun hHeld => ?_)
       clear hK K
       refine norm_ (a' := ?_) ?_ ?_
       rotate_left
       ·show Act.put _ (some 7) _ = _
        simp only [Act.put, sA, sB, sC, i64_w, i32_w]
        rfl
       exact norm_ (by first | (simp only [putAll, Act.put, sA, sB, sC]; done) | (simp only [putAll, Act.put, sA, sB, sC]; rfl)) (hJ1_3_5 (v200, gb204) _ ⟨hHeld, (kr HO201.out), (bk BK198.out), (bk BK204.out), GW204.out, GE204.out, NB198_204.out, NB204_198.out, bl⟩)
    ·skip
     rintro ⟨v200, gb203, gb204⟩ w10 ⟨hS_, h0_, h1_, h2_, h3_, h4_, h5_, h6_, h7_, h8_, h9_, h10_, h11_, h12_, h13_, h14_⟩
     have n0_ : Aside0 (Kd.R k50 50 w10 w.heap.size (fun _ => True) v200 t199) := ⟨h0_⟩
     have n1_ : Aside0 (w10.heap[gb198]? = some (.cells #[.slice A0_0 l0_0.length c0_0, .string a0_1, .bool a0_2] 24 (0, 0))) := ⟨h1_⟩
     have n2_ : Aside0 (w10.heap[gb203]? = some (.cells #[.slice none 0 0] 25 (0, 0))) := ⟨h2_⟩
     have n3_ : Aside0 (w10.heap[gb204]? = some (.cells #[.int .i64 0] 3 (0, 0))) := ⟨h3_⟩
     have n4_ : Aside0 (w.heap.size ≤ gb203) := ⟨h4_⟩
     have n5_ : Aside0 (w.heap.size ≤ gb203) := ⟨h5_⟩
     have n6_ : Aside0 (gb198 ≠ gb203) := ⟨h6_⟩
     have n7_ : Aside0 (gb203 ≠ gb198) := ⟨h7_⟩
     have n8_ : Aside0 (gb204 ≠ gb203) := ⟨h8_⟩
     have n9_ : Aside0 (gb203 ≠ gb204) := ⟨h9_⟩
     have n10_ : Aside0 (w.heap.size ≤ gb204) := ⟨h10_⟩
     have n11_ : Aside0 (w.heap.size ≤ gb204) := ⟨h11_⟩
     have n12_ : Aside0 (gb198 ≠ gb204) := ⟨h12_⟩
     have n13_ : Aside0 (gb204 ≠ gb198) := ⟨h13_⟩
     have n14_ : Aside0 (Below w.heap.size w w10) := ⟨h14_⟩
     clear BK198 HB h0_ h1_ h2_ h3_ h4_ h5_ h6_ h7_ h8_ h9_ h10_ h11_ h12_ h13_ h14_
     have HO201 := n0_
     have BK198 := n1_
     have BK203 := n2_
     have BK204 := n3_
     have GW203 := n4_
     have GE203 := n5_
     have NB198_203 := n6_
     have NB203_198 := n7_
     have NB204_203 := n8_
     have NB203_204 := n9_
     have GW204 := n10_
     have GE204 := n11_
     have NB198_204 := n12_
     have NB204_198 := n13_
     have HB := n14_
     clear n0_ n1_ n2_ n3_ n4_ n5_ n6_ n7_ n8_ n9_ n10_ n11_ n12_ n13_ n14_
     have hHeld : w10.cell? ⟨gb198, 0, none⟩ = some (.slice A0_0 l0_0.length c0_0) ∧ w10.cell? ⟨gb198, 1, none⟩ = some (.string a0_1) ∧ w10.cell? ⟨gb198, 2, none⟩ = some (.bool a0_2) := hS_
     refine norm_ (a' := ?_) ?_ ?_
     rotate_left
     ·simp only [putAll, Act.put, sA, sB, sC]
      rfl
     refine one_ (i := 3) (N := some 15) #[true, true, true, true, true, true, false, false] rfl rfl (one_of HT_.out kf) (by decide) (fun K hK => ?_)
     refine goes_ Tryz.func15 kf rfl #[.agg #[.slice A0_0 l0_0.length c0_0, .string a0_1, .bool a0_2]] (by rfl) rfl rfl ml ?_
     with_reducible refine (guard_Hops.calls _ _ l0_0 a0_1 a0_2 t202 _ ?side1 ?side2 A4.out).mono ?_
     (case side1 => repeat (first | exact (Kd.C_below HR0_0.out HB.out) | (with_reducible refine Kd.C_alloc ?_ _) | (with_reducible refine Kd.C_drewN ?_ _) | (with_reducible refine Kd.C_drew ?_)))
     (case side2 => exact HC0_0.out)
     rintro e w11 ⟨rfl, hb⟩
     refine ⟨_, rfl, ?_⟩
     replace HO201 := Aside0.mk (Kd.R_below (kr HO201.out) hb)
     replace BK198 := Aside0.mk (kb BK198.out hb)
     replace BK203 := Aside0.mk (kb BK203.out hb)
     replace BK204 := Aside0.mk (kb BK204.out hb)
     replace HB := Aside0.mk (below_step bl hb)
     (try clear hb)
     (try clear hb2)
     (try clear hk)
     (try clear hi)
     refine hK.out _ _ ⟨(blk_cell BK198.out 0).trans rfl, (blk_cell BK198.out 1).trans rfl, (blk_cell BK198.out 2).trans rfl⟩ (fun hHeld => ?_)
     clear hK K
     refine norm_ (a' := ?_) ?_ ?_
     rotate_left
     ·show Act.put _ (some 15) _ = _
      simp only [Act.put, sA, sB, sC, i64_w, i32_w]
      rfl
     exact norm_ (by first | (simp only [putAll, Act.put, sA, sB, sC]; done) | (simp only [putAll, Act.put, sA, sB, sC]; rfl)) (hJ1_3_4_5 (v200, gb203, gb204) _ ⟨hHeld, (kr HO201.out), (bk BK198.out), (bk BK203.out), (bk BK204.out), GW203.out, GE203.out, NB198_203.out, NB203_198.out, NB204_203.out, NB203_204.out, GW204.out, GE204.out, NB198_204.out, NB204_198.out, bl⟩)
   ·skip
    rintro ⟨v200, gb204⟩ w10 ⟨hS_, h0_, h1_, h2_, h3_, h4_, h5_, h6_, h7_⟩
    have n0_ : Aside0 (Kd.R k50 50 w10 w.heap.size (fun _ => True) v200 t199) := ⟨h0_⟩
    have n1_ : Aside0 (w10.heap[gb198]? = some (.cells #[.slice A0_0 l0_0.length c0_0, .string a0_1, .bool a0_2] 24 (0, 0))) := ⟨h1_⟩
    have n2_ : Aside0 (w10.heap[gb204]? = some (.cells #[.int .i64 0] 3 (0, 0))) := ⟨h2_⟩
    have n3_ : Aside0 (w.heap.size ≤ gb204) := ⟨h3_⟩
    have n4_ : Aside0 (w.heap.size ≤ gb204) := ⟨h4_⟩
    have n5_ : Aside0 (gb198 ≠ gb204) := ⟨h5_⟩
    have n6_ : Aside0 (gb204 ≠ gb198) := ⟨h6_⟩
    have n7_ : Aside0 (Below w.heap.size w w10) := ⟨h7_⟩
    clear BK198 HB h0_ h1_ h2_ h3_ h4_ h5_ h6_ h7_
    have HO201 := n0_
    have BK198 := n1_
    have BK204 := n2_
    have GW204 := n3_
    have GE204 := n4_
    have NB198_204 := n5_
    have NB204_198 := n6_
    have HB := n7_
    clear n0_ n1_ n2_ n3_ n4_ n5_ n6_ n7_
    have hHeld : w10.cell? ⟨gb198, 0, none⟩ = some (.slice A0_0 l0_0.length c0_0) ∧ w10.cell? ⟨gb198, 1, none⟩ = some (.string a0_1) ∧ w10.cell? ⟨gb198, 2, none⟩ = some (.bool a0_2) := hS_
    refine norm_ (a' := ?_) ?_ ?_
    rotate_left
    ·simp only [putAll, Act.put, sA, sB, sC]
     rfl
    refine one_ (i := 4) (N := some 6) #[true, true, true, true, true, true, false, false] rfl rfl (one_of HT_.out kf) (by decide) (fun K hK => ?_)
    refine box_step ?hg (N := 6) ?hd (cs := #[.slice none 0 0]) (t := 25) ?hr ?_; (case hd => rfl); (case hg => rfl); (case hr => first | (go_simp; done) | (go_simp; rfl))
    intro gb203 hg w11 hbox hb
    replace HO201 := Aside0.mk (Kd.R_below (kr HO201.out) hb)
    have BK203 := Aside0.mk (hbox)
    have GW203 := Aside0.mk (gz hg : w.heap.size ≤ gb203)
    have GE203 := Aside0.mk (gz hg : w.heap.size ≤ gb203)
    replace HB := Aside0.mk (below_step bl hb)
    have NB198_203 := Aside0.mk (nl hg BK198.out : gb198 ≠ gb203)
    have NB203_198 := Aside0.mk (ng hg BK198.out : gb203 ≠ gb198)
    replace BK198 := Aside0.mk (kb BK198.out hb)
    have NB204_203 := Aside0.mk (nl hg BK204.out : gb204 ≠ gb203)
    have NB203_204 := Aside0.mk (ng hg BK204.out : gb203 ≠ gb204)
    replace BK204 := Aside0.mk (kb BK204.out hb)
    clear hb hbox hg
    refine hK.out _ _ ⟨(blk_cell BK198.out 0).trans rfl, (blk_cell BK198.out 1).trans rfl, (blk_cell BK198.out 2).trans rfl⟩ (fun hHeld => ?_)
    clear hK K
    refine norm_ (a' := ?_) ?_ ?_
    rotate_left
    ·show Act.put _ (some 6) _ = _
     simp only [Act.put, sA, sB, sC, i64_w, i32_w]
     rfl
    exact norm_ (by first | (simp only [putAll, Act.put, sA, sB, sC]; done) | (simp only [putAll, Act.put, sA, sB, sC]; rfl)) (hJ1_3_4_5 (v200, gb203, gb204) _ ⟨hHeld, (kr HO201.out), (bk BK198.out), (bk BK203.out), (bk BK204.out), GW203.out, GE203.out, NB198_203.out, NB203_198.out, NB204_203.out, NB203_204.out, GW204.out, GE204.out, NB198_204.out, NB204_198.out, bl⟩)
  ·skip
   rintro ⟨v200, gb203⟩ w10 ⟨hS_, h0_, h1_, h2_, h3_, h4_, h5_, h6_, h7_⟩
   have n0_ : Aside0 (Kd.R k50 50 w10 w.heap.size (fun _ => True) v200 t199) := ⟨h0_⟩
   have n1_ : Aside0 (w10.heap[gb198]? = some (.cells #[.slice A0_0 l0_0.length c0_0, .string a0_1, .bool a0_2] 24 (0, 0))) := ⟨h1_⟩
   have n2_ : Aside0 (w10.heap[gb203]? = some (.cells #[.slice none 0 0] 25 (0, 0))) := ⟨h2_⟩
   have n3_ : Aside0 (w.heap.size ≤ gb203) := ⟨h3_⟩
   have n4_ : Aside0 (w.heap.size ≤ gb203) := ⟨h4_⟩
   have n5_ : Aside0 (gb198 ≠ gb203) := ⟨h5_⟩
   have n6_ : Aside0 (gb203 ≠ gb198) := ⟨h6_⟩
   have n7_ : Aside0 (Below w.heap.size w w10) := ⟨h7_⟩
   clear BK198 HB h0_ h1_ h2_ h3_ h4_ h5_ h6_ h7_
   have HO201 := n0_
   have BK198 := n1_
   have BK203 := n2_
   have GW203 := n3_
   have GE203 := n4_
   have NB198_203 := n5_
   have NB203_198 := n6_
   have HB := n7_
   clear n0_ n1_ n2_ n3_ n4_ n5_ n6_ n7_
   have hHeld : w10.cell? ⟨gb198, 0, none⟩ = some (.slice A0_0 l0_0.length c0_0) ∧ w10.cell? ⟨gb198, 1, none⟩ = some (.string a0_1) ∧ w10.cell? ⟨gb198, 2, none⟩ = some (.bool a0_2) := hS_
   refine norm_ (a' := ?_) ?_ ?_
   rotate_left
   ·simp only [putAll, Act.put, sA, sB, sC]
    rfl
   refine one_ (i := 5) (N := some 7) #[true, true, true, true, true, true, false, false] rfl rfl (one_of HT_.out kf) (by decide) (fun K hK => ?_)
   refine box_step ?hg (N := 7) ?hd (cs := #[.int .i64 0]) (t := 3) ?hr ?_; (case hd => rfl); (case hg => rfl); (case hr => first | (go_simp; done) | (go_simp; rfl))
   intro gb204 hg w11 hbox hb
   replace HO201 := Aside0.mk (Kd.R_below (kr HO201.out) hb)
   have BK204 := Aside0.mk (hbox)
   have GW204 := Aside0.mk (gz hg : w.heap.size ≤ gb204)
   have GE204 := Aside0.mk (gz hg : w.heap.size ≤ gb204)
   replace HB := Aside0.mk (below_step bl hb)
   have NB198_204 := Aside0.mk (nl hg BK198.out : gb198 ≠ gb204)
   have NB204_198 := Aside0.mk (ng hg BK198.out : gb204 ≠ gb198)
   replace BK198 := Aside0.mk (kb BK198.out hb)
   have NB203_204 := Aside0.mk (nl hg BK203.out : gb203 ≠ gb204)
   have NB204_203 := Aside0.mk (ng hg BK203.out : gb204 ≠ gb203)
   replace BK203 := Aside0.mk (kb BK203.out hb)
   clear hb hbox hg
   refine hK.out _ _ ⟨(blk_cell BK198.out 0).trans rfl, (blk_cell BK198.out 1).trans rfl, (blk_cell BK198.out 2).trans rfl⟩ (fun hHeld => ?_)
   clear hK K
   refine norm_ (a' := ?_) ?_ ?_
   rotate_left
   ·show Act.put _ (some 7) _ = _
    simp only [Act.put, sA, sB, sC, i64_w, i32_w]
    rfl
   exact norm_ (by first | (simp only [putAll, Act.put, sA, sB, sC]; done) | (simp only [putAll, Act.put, sA, sB, sC]; rfl)) (hJ1_3_4_5 (v200, gb203, gb204) _ ⟨hHeld, (kr HO201.out), (bk BK198.out), (bk BK203.out), (bk BK204.out), GW203.out, GE203.out, NB198_203.out, NB203_198.out, NB204_203.out, NB203_204.out, GW204.out, GE204.out, NB198_204.out, NB204_198.out, bl⟩)
 rintro ⟨v200, gb203, gb204⟩ w11 ⟨hS_, h0_, h1_, h2_, h3_, h4_, h5_, h6_, h7_, h8_, h9_, h10_, h11_, h12_, h13_, h14_⟩
 have n0_ : Aside0 (Kd.R k50 50 w11 w.heap.size (fun _ => True) v200 t199) := ⟨h0_⟩
 have n1_ : Aside0 (w11.heap[gb198]? = some (.cells #[.slice A0_0 l0_0.length c0_0, .string a0_1, .bool a0_2] 24 (0, 0))) := ⟨h1_⟩
 have n2_ : Aside0 (w11.heap[gb203]? = some (.cells #[.slice none 0 0] 25 (0, 0))) := ⟨h2_⟩
 have n3_ : Aside0 (w11.heap[gb204]? = some (.cells #[.int .i64 0] 3 (0, 0))) := ⟨h3_⟩
 have n4_ : Aside0 (w.heap.size ≤ gb203) := ⟨h4_⟩
 have n5_ : Aside0 (w.heap.size ≤ gb203) := ⟨h5_⟩
 have n6_ : Aside0 (gb198 ≠ gb203) := ⟨h6_⟩
 have n7_ : Aside0 (gb203 ≠ gb198) := ⟨h7_⟩
 have n8_ : Aside0 (gb204 ≠ gb203) := ⟨h8_⟩
 have n9_ : Aside0 (gb203 ≠ gb204) := ⟨h9_⟩
 have n10_ : Aside0 (w.heap.size ≤ gb204) := ⟨h10_⟩
 have n11_ : Aside0 (w.heap.size ≤ gb204) := ⟨h11_⟩
 have n12_ : Aside0 (gb198 ≠ gb204) := ⟨h12_⟩
 have n13_ : Aside0 (gb204 ≠ gb198) := ⟨h13_⟩
 have n14_ : Aside0 (Below w.heap.size w w11) := ⟨h14_⟩
 clear BK198 HB h0_ h1_ h2_ h3_ h4_ h5_ h6_ h7_ h8_ h9_ h10_ h11_ h12_ h13_ h14_
 have HO201 := n0_
 have BK198 := n1_
 have BK203 := n2_
 have BK204 := n3_
 have GW203 := n4_
 have GE203 := n5_
 have NB198_203 := n6_
 have NB203_198 := n7_
 have NB204_203 := n8_
 have NB203_204 := n9_
 have GW204 := n10_
 have GE204 := n11_
 have NB198_204 := n12_
 have NB204_198 := n13_
 have HB := n14_
 clear n0_ n1_ n2_ n3_ n4_ n5_ n6_ n7_ n8_ n9_ n10_ n11_ n12_ n13_ n14_
 have hHeld : w11.cell? ⟨gb198, 0, none⟩ = some (.slice A0_0 l0_0.length c0_0) ∧ w11.cell? ⟨gb198, 1, none⟩ = some (.string a0_1) ∧ w11.cell? ⟨gb198, 2, none⟩ = some (.bool a0_2) := hS_
 obtain ⟨Ao12, co12, eo12⟩ := Kd.R_slice HO201.out
 (first | subst eo12 | (injection eo12 with f1_ f2_ f3_; have f4_ := f1_.symm; have f5_ := f3_.symm; clear f1_ f2_ f3_; subst f4_; subst f5_))
 refine norm_ (a' := ?_) ?_ ?_
 rotate_left
 ·simp only [putAll, Act.put, sA, sB, sC]
  rfl
 refine one_ (i := 6) (N := none) #[true, true, true, true, true, true, true, false] rfl rfl (one_of HT_.out kf) (by decide) (fun K hK => ?_)
 have hs13 : w11.cell? ⟨gb203, 0, none⟩ = some (.slice none 0 0) := (blk_cell BK203.out 0).trans rfl
 have hfs13 := blk_frozen BK203.out 0
 have hns13_0 := NB198_203.out
 have hns13_2 := NB204_203.out
 have hms13_0 := NB203_198.out
 have hms13_2 := NB203_204.out
 refine skip_ (w1 := ?_) (by rfl) rfl ?_ ?_
 rotate_left
 ·go_simp
  rfl
 refine hK.out _ _ ⟨((cell_far (p := ⟨gb203, _, none⟩) NB198_203.out _).trans (hHeld.1)), ((cell_far (p := ⟨gb203, _, none⟩) NB198_203.out _).trans (hHeld.2.1)), ((cell_far (p := ⟨gb203, _, none⟩) NB198_203.out _).trans (hHeld.2.2))⟩ (fun hHeld => ?_)
 clear hK K
 refine one_ (i := 7) (N := none) #[true, true, true, true, true, true, true, true] rfl rfl (one_of HT_.out kf) (by decide) (fun K hK => ?_)
 have hs14 : w11.cell? ⟨gb204, 0, none⟩ = some (.int .i64 0) := (blk_cell BK204.out 0).trans rfl
 have hfs14 := blk_frozen BK204.out 0
 have hns14_0 := NB198_204.out
 have hns14_1 := NB203_204.out
 have hms14_0 := NB204_198.out
 have hms14_1 := NB204_203.out
 refine skip_ (w1 := ?_) (by rfl) rfl ?_ ?_
 rotate_left
 ·go_simp
  rfl
 refine hK.out _ _ ⟨((cell_far (p := ⟨gb204, _, none⟩) NB198_204.out _).trans (hHeld.1)), ((cell_far (p := ⟨gb204, _, none⟩) NB198_204.out _).trans (hHeld.2.1)), ((cell_far (p := ⟨gb204, _, none⟩) NB198_204.out _).trans (hHeld.2.2))⟩ (fun hHeld => ?_)
 clear hK K
 refine done_ (done_of HT_.out kf) ?_
 try go_wp2
 go_loopg [4, 5, 19] k (fun kq v4 v5 v19 w' => ∃ (x4_1 : List (S50)) (x5_1 : List (S52)) (x19_1 : Int), v19 = .int .i64 x19_1 ∧ Aside0 (guard_Check.l0 kq x4_1 x5_1 l1 (l1.length : Int) x19_1 t199 t202 = some (r1, r2)) ∧ Aside0 (kq ≤ k) ∧ Aside0 (Kd.R k50 50 w' w.heap.size (fun k_ => some k_ ≠ ((.slice Ao12 t199.length co12) : Value).ownBlock) v4 x4_1) ∧ Aside0 (Kd.R k52 52 w' w.heap.size (fun _ => True) v5 x5_1) ∧ Aside0 (Kd.R k50 50 w' w.heap.size (fun k_ => some k_ ≠ (v4 : Value).ownBlock) (.slice Ao12 t199.length co12) t199) ∧ Aside0 (w'.heap[gb198]? = some (.cells #[(.slice A0_0 l0_0.length c0_0), .string a0_1, .bool a0_2] 24 (0, 0))) ∧ Aside0 (w'.heap[gb203]? = some (.cells #[(.slice Ao12 t199.length co12)] 25 (0, 0))) ∧ Aside0 (w'.heap[gb204]? = some (.cells #[.int .i64 t202] 3 (0, 0))) ∧ Aside0 (Below w.heap.size w w'))
 case atStart => exact ⟨(([] : List (S50))), (([] : List (S52))), (0), rs, H', ⟨Nat.le_refl _⟩, ⟨by first | exact Kd.R_nil _ _ _ _ _ | exact Kd.N_nil _ _ _ _ _ | exact Kd.V_nil _ _ _ _ _ | exact Kd.Q_nil _ _ _ _ _ | exact Kd.S_nil _ _ _ _ _⟩, ⟨by first | exact Kd.R_nil _ _ _ _ _ | exact Kd.N_nil _ _ _ _ _ | exact Kd.V_nil _ _ _ _ _ | exact Kd.Q_nil _ _ _ _ _ | exact Kd.S_nil _ _ _ _ _⟩, ⟨by (with_reducible repeat (first | apply Kd.R_alloc | apply Kd.R_drewN | apply Kd.R_drew)); exact Kd.R_mono (Kd.R_far (p := ⟨gb204, 0, none⟩) (Kd.R_far (p := ⟨gb203, 0, none⟩) (Kd.R_types (Kd.R_types HO201.out BK203.out (by decide)) BK204.out (by decide)) (fun _ hk => hk.1.2) (.slice Ao12 t199.length co12)) (fun _ hk => hk.2) (.int .i64 t202)) (fun _ hk => (by simp [Value.ownBlock]))⟩, ⟨bk BK198.out⟩, ⟨by (with_reducible repeat (first | refine blk_drewN ?_ _ | refine blk_drew ?_ | refine blk_alloc ?_ _)); refine blk_far ?_ NB203_204.out _; (with_reducible repeat (first | refine blk_drewN ?_ _ | refine blk_drew ?_ | refine blk_alloc ?_ _)); refine blk_put (cs := #[.slice none 0 0]) ?_ 0 _ rfl; (with_reducible repeat (first | refine blk_drewN ?_ _ | refine blk_drew ?_ | refine blk_alloc ?_ _)); exact BK203.out⟩, ⟨by (with_reducible repeat (first | refine blk_drewN ?_ _ | refine blk_drew ?_ | refine blk_alloc ?_ _)); refine blk_put (cs := #[.int .i64 0]) ?_ 0 _ rfl; (with_reducible repeat (first | refine blk_drewN ?_ _ | refine blk_drew ?_ | refine blk_alloc ?_ _)); refine blk_far ?_ NB204_203.out _; (with_reducible repeat (first | refine blk_drewN ?_ _ | refine blk_drew ?_ | refine blk_alloc ?_ _)); exact BK204.out⟩, ⟨bl⟩⟩
 case round =>
  clear H'
  try clear c1
  try clear p2
  obtain ⟨x4_1, x5_1, x19_1, rfl, HA, HK1, HO_4, HO_5, HO_204000, BK198, BK203, BK204, HB⟩ := hrel
  cases gk with
  | zero => exact absurd HA.out (by simp [guard_Check.l0])
  | succ k1 =>
   have H := HA.out
   clear HA
   simp only [guard_Check.l0] at H
   by_cases c15 : x19_1 < (l1.length : Int)
   ·rw [if_pos c15] at H
    have c15b0 : decide (x19_1 < (l1.length : Int)) = true := decide_eq_true c15
    clear c15
    by_cases c16 : 0 ≤ x19_1
    rotate_left
    ·rw [if_neg c16] at H
     exact ab H
    rw [if_pos c16] at H
    have c16b0 : decide (0 ≤ x19_1) = true := decide_eq_true c16
    clear c16
    by_cases c17 : x19_1 < (l1.length : Int)
    rotate_left
    ·rw [if_neg c17] at H
     exact ab H
    rw [if_pos c17] at H
    have c17b0 : decide (x19_1 < (l1.length : Int)) = true := decide_eq_true c17
    clear c17
    obtain ⟨t207, A180, H⟩ := Option.bind_eq_some_iff.mp H
    replace H : (if t207.toList = ([] : List UInt8) then (if x4_1.length < 4398046511104 then (guard_Check.l0 k1 (x4_1 ++ [(⟨(rd_T50 l1 x19_1).f0, (rd_T50 l1 x19_1).f1⟩ : S50)]) x5_1 l1 (l1.length : Int) (wrap64 (x19_1 + 1)) t199 t202) else (none)) else (if x5_1.length < 2513169434916 then (guard_Check.l0 k1 x4_1 (x5_1 ++ [(⟨(⟨(rd_T50 l1 x19_1).f0, (rd_T50 l1 x19_1).f1⟩ : S50), 554, t207⟩ : S52)]) l1 (l1.length : Int) (wrap64 (x19_1 + 1)) t199 t202) else (none))) = some (r1, r2) := H
    have A18 := Aside0.mk A180
    clear A180
    by_cases c19 : t207.toList = ([] : List UInt8)
    ·rw [if_pos c19] at H
     have c19b0 : (t207.toList == ([] : List UInt8)) = true := beq_iff_eq.mpr c19
     have c19b1 : (t207.toList != ([] : List UInt8)) = false := bne_eq_false_iff_eq.mpr c19
     clear c19
     by_cases c20 : x4_1.length < 4398046511104
     rotate_left
     ·rw [if_neg c20] at H
      exact ab H
     rw [if_pos c20] at H
     have LMc20 := Aside0.mk c20
     clear c20
     obtain ⟨y208, hy208⟩ : ∃ y_ : List (S50), y_ = (x4_1 ++ [(⟨(rd_T50 l1 x19_1).f0, (rd_T50 l1 x19_1).f1⟩ : S50)]) := ⟨_, rfl⟩
     replace H : (guard_Check.l0 k1 y208 x5_1 l1 (l1.length : Int) (wrap64 (x19_1 + 1)) t199 t202) = some (r1, r2) := by first | (rw [hy208]; with_reducible exact H) | (have H2_ := (Option.bind_some _ _).symm.trans H; rw [hy208]; with_reducible exact H2_) | (have H2_ := (Option.bind_some _ _).symm.trans H; with_reducible exact H2_) | with_reducible exact H | (rw [hy208]; exact H) | exact H
     have Ny208 := Aside0.mk hy208
     clear hy208
     have H' := Aside0.mk H
     clear H
     have p205 : 0 ≤ (x19_1 : Int) := od
     have q205 : x19_1 < (l1.length : Int) := od
     obtain ⟨ad205, e205, hx205_0, hx205_1⟩ := at_T50 HR1.out x19_1 p205 q205
     cases e205
     replace hx205_0 := (HB.out.cell (World.block_lt_of_cell? w _ hx205_0)).trans hx205_0
     replace hx205_1 := (HB.out.cell (World.block_lt_of_cell? w _ hx205_1)).trans hx205_1
     replace p205 := eq_true p205
     replace q205 := eq_true q205
     go_wp2_with (first | ((with_reducible refine gate_dst (N := 10) rfl ?_); refine box_event ?hg (N := 10) ?hd (cs := #[.string (⟨#[]⟩ : ByteArray), .string (⟨#[]⟩ : ByteArray)]) (t := 50) ?hr ?_; (case hd => rfl); (case hg => rfl); (case hr => first | (go_simp; done) | (go_simp; rfl)); intro gb206 hg w21 hbox hb; replace HO_4 := Aside0.mk (Kd.R_below (Kd.R_elderB (kr HO_4.out) gb206 (Nat.le_of_eq hg.symm)) hb); replace HO_5 := Aside0.mk (Kd.R_below (kr HO_5.out) hb); replace HO_204000 := Aside0.mk (Kd.R_below (Kd.R_elderB (kr HO_204000.out) gb206 (Nat.le_of_eq hg.symm)) hb); have BK206 := Aside0.mk (hbox); have GW206 := Aside0.mk (gz hg : w.heap.size ≤ gb206); have GE206 := Aside0.mk (gz hg : w.heap.size ≤ gb206); replace HB := Aside0.mk (below_step bl hb); have NB198_206 := Aside0.mk (nl hg BK198.out : gb198 ≠ gb206); have NB206_198 := Aside0.mk (ng hg BK198.out : gb206 ≠ gb198); replace BK198 := Aside0.mk (kb BK198.out hb); have NB203_206 := Aside0.mk (nl hg BK203.out : gb203 ≠ gb206); have NB206_203 := Aside0.mk (ng hg BK203.out : gb206 ≠ gb203); replace BK203 := Aside0.mk (kb BK203.out hb); have NB204_206 := Aside0.mk (nl hg BK204.out : gb204 ≠ gb206); have NB206_204 := Aside0.mk (ng hg BK204.out : gb206 ≠ gb204); replace BK204 := Aside0.mk (kb BK204.out hb); clear hb hbox hg; have hnb22 := NB206_198.out; have hnc22 := NB198_206.out; have hnb23 := NB206_203.out; have hnc23 := NB203_206.out; have hnb24 := NB206_204.out; have hnc24 := NB204_206.out; have hcz25_0 := cz BK206.out 0 (.string (⟨#[]⟩ : ByteArray)); have hcz25_1 := cz BK206.out 1 (.string (⟨#[]⟩ : ByteArray)); have hfz25_0 := blk_frozen BK206.out 0; have hfz25_1 := blk_frozen BK206.out 1) | (go_at_call 39; (with_reducible refine (guard_Check_1.calls k1 ((rd_T50 l1 x19_1).f0) ((rd_T50 l1 x19_1).f1) t202 Ao12 co12 t199 t207 _ ?side1 ?side2 ?side3 ?side4 A18.out).mono ?_); (case side1 => refine (Kd.R_reads' (e := 50) (base := w.heap.size) (ok := fun k_ => (some k_ ≠ (u4 : Value).ownBlock ∧ k_ ≠ gb206)) (n := t199.length) (c := co12) ?_).2.2; exact (by (with_reducible repeat (first | apply Kd.R_alloc | apply Kd.R_drewN | apply Kd.R_drew)); exact (Kd.R_mono (Kd.R_far (p := ⟨gb206, 1, none⟩) (Kd.R_far (p := ⟨gb206, 0, none⟩) (Kd.R_mono HO_204000.out (fun k_ hk => (⟨hk, hk.2⟩ : _ ∧ k_ ≠ gb206))) (fun _ hk => hk.2) (.string ((rd_T50 l1 x19_1).f0))) (fun _ hk => hk.2) (.string ((rd_T50 l1 x19_1).f1))) (fun _ h_ => h_.1)))); (case side2 => exact (Kd.R_reads' HO_204000.out).2.1); (case side3 => exact by (with_reducible repeat (first | refine blk_drewN ?_ _ | refine blk_drew ?_ | refine blk_alloc ?_ _)); refine blk_far ?_ NB204_206.out _; (with_reducible repeat (first | refine blk_drewN ?_ _ | refine blk_drew ?_ | refine blk_alloc ?_ _)); refine blk_far ?_ NB204_206.out _; (with_reducible repeat (first | refine blk_drewN ?_ _ | refine blk_drew ?_ | refine blk_alloc ?_ _)); exact BK204.out); (case side4 => exact by (with_reducible repeat (first | refine blk_drewN ?_ _ | refine blk_drew ?_ | refine blk_alloc ?_ _)); refine blk_far ?_ NB203_206.out _; (with_reducible repeat (first | refine blk_drewN ?_ _ | refine blk_drew ?_ | refine blk_alloc ?_ _)); refine blk_far ?_ NB203_206.out _; (with_reducible repeat (first | refine blk_drewN ?_ _ | refine blk_drew ?_ | refine blk_alloc ?_ _)); exact BK203.out); rintro e w26 ⟨rfl, hb⟩; replace HO_4 := Aside0.mk (Kd.R_below (by (with_reducible repeat (first | apply Kd.R_alloc | apply Kd.R_drewN | apply Kd.R_drew)); exact (Kd.R_mono (Kd.R_far (p := ⟨gb206, 1, none⟩) (Kd.R_far (p := ⟨gb206, 0, none⟩) (Kd.R_mono HO_4.out (fun k_ hk => (⟨hk, hk.2⟩ : _ ∧ k_ ≠ gb206))) (fun _ hk => hk.2) (.string ((rd_T50 l1 x19_1).f0))) (fun _ hk => hk.2) (.string ((rd_T50 l1 x19_1).f1))) (fun _ h_ => h_.1))) hb); replace HO_5 := Aside0.mk (Kd.R_below (by (with_reducible repeat (first | apply Kd.R_alloc | apply Kd.R_drewN | apply Kd.R_drew)); exact (Kd.R_mono (Kd.R_far (p := ⟨gb206, 1, none⟩) (Kd.R_far (p := ⟨gb206, 0, none⟩) (Kd.R_types HO_5.out BK206.out (by decide)) (fun _ hk => hk.2) (.string ((rd_T50 l1 x19_1).f0))) (fun _ hk => hk.2) (.string ((rd_T50 l1 x19_1).f1))) (fun _ h_ => h_.1))) hb); replace HO_204000 := Aside0.mk (Kd.R_below (by (with_reducible repeat (first | apply Kd.R_alloc | apply Kd.R_drewN | apply Kd.R_drew)); exact (Kd.R_mono (Kd.R_far (p := ⟨gb206, 1, none⟩) (Kd.R_far (p := ⟨gb206, 0, none⟩) (Kd.R_mono HO_204000.out (fun k_ hk => (⟨hk, hk.2⟩ : _ ∧ k_ ≠ gb206))) (fun _ hk => hk.2) (.string ((rd_T50 l1 x19_1).f0))) (fun _ hk => hk.2) (.string ((rd_T50 l1 x19_1).f1))) (fun _ h_ => h_.1))) hb); replace BK198 := Aside0.mk (kb BK198.out hb); replace BK203 := Aside0.mk (kb BK203.out hb); replace BK204 := Aside0.mk (kb BK204.out hb); replace BK206 := Aside0.mk (blk_below (g := gb206) (o := .cells #[.string ((rd_T50 l1 x19_1).f0), .string ((rd_T50 l1 x19_1).f1)] 50 (0, 0)) (by (with_reducible repeat (first | refine blk_drewN ?_ _ | refine blk_drew ?_ | refine blk_alloc ?_ _)); refine blk_put (cs := #[.string ((rd_T50 l1 x19_1).f0), .string (⟨#[]⟩ : ByteArray)]) ?_ 1 _ rfl; (with_reducible repeat (first | refine blk_drewN ?_ _ | refine blk_drew ?_ | refine blk_alloc ?_ _)); refine blk_put (cs := #[.string (⟨#[]⟩ : ByteArray), .string (⟨#[]⟩ : ByteArray)]) ?_ 0 _ rfl; (with_reducible repeat (first | refine blk_drewN ?_ _ | refine blk_drew ?_ | refine blk_alloc ?_ _)); exact BK206.out) hb); replace HB := Aside0.mk (below_step bl hb); (try clear hb); (try clear hb2); (try clear hk); (try clear hi); have hcz27_0 := cz BK206.out 0 (.string ((rd_T50 l1 x19_1).f0)); have hcz27_1 := cz BK206.out 1 (.string ((rd_T50 l1 x19_1).f1)); have hfz27_0 := blk_frozen BK206.out 0; have hfz27_1 := blk_frozen BK206.out 1) | ((with_reducible refine gate_builtin (b := .append) (xs := #[.tmp 34, .tmp 36]) rfl ?_); at_builtin; refine Kd.R_append k50 (w0 := w) w.heap.size rfl (.tmp 34) (.tmp 36) 25 50 (.agg #[(.string ⟨#[]⟩), (.string ⟨#[]⟩)]) 32 rfl Tryz.underlying25 info50 rfl (by decide) (by omega) u4 x4_1 (⟨(rd_T50 l1 x19_1).f0, (rd_T50 l1 x19_1).f1⟩ : S50) [.string ((rd_T50 l1 x19_1).f0), .string ((rd_T50 l1 x19_1).f1)] (fun k_ => some k_ ≠ (.slice Ao12 t199.length co12 : Value).ownBlock ∧ k_ ≠ gb206) (fun _ => False) rfl rfl ?aP (fun _ hk => hk.elim) ?aF ?aO ?aB ?aS ?aL ?_; (case aP => exact k50_mkM _ _ _ (⟨(rd_T50 l1 x19_1).f0, (rd_T50 l1 x19_1).f1⟩ : S50)); (case aB => exact bl); (case aF => exact (fun k_ hk => ⟨Kd.fresh' (Kd.R_lt (kr HO_204000.out)) k_ hk, Kd.freshB (g := gb206) (o := .cells #[.string ((rd_T50 l1 x19_1).f0), .string ((rd_T50 l1 x19_1).f1)] 50 (0, 0)) (bk BK206.out) k_ hk⟩)); (case aO => exact (kr HO_4.out)); (case aS => exact (below_size bl)); (case aL => have := LMc20.out; omega); intro v209 w28 ho hb hg hat; rw [← Ny208.out] at ho; replace HO_5 := Aside0.mk (Kd.R_over' (kr HO_5.out) (Kd.R_typed (kr HO_4.out)) (by decide) hg); replace HO_204000 := Aside0.mk (Kd.R_after (ok := (fun k_ => k_ ≠ gb206)) (by (with_reducible repeat (first | apply Kd.R_alloc | apply Kd.R_drewN | apply Kd.R_drew)); exact Kd.R_mono HO_204000.out (fun _ hk => ⟨hk.2, hk.1⟩)) hg hat); replace BK198 := Aside0.mk (blk_grown (g := gb198) (o := .cells #[.slice A0_0 l0_0.length c0_0, .string a0_1, .bool a0_2] 24 (0, 0)) (bk BK198.out) hg (Kd.R_ne HO_4.out BK198.out (by decide))); replace BK203 := Aside0.mk (blk_grown (g := gb203) (o := .cells #[.slice Ao12 t199.length co12] 25 (0, 0)) (bk BK203.out) hg (Kd.R_ne HO_4.out BK203.out (by decide))); replace BK204 := Aside0.mk (blk_grown (g := gb204) (o := .cells #[.int .i64 t202] 3 (0, 0)) (bk BK204.out) hg (Kd.R_ne HO_4.out BK204.out (by decide))); replace BK206 := Aside0.mk (blk_grown (g := gb206) (o := .cells #[.string ((rd_T50 l1 x19_1).f0), .string ((rd_T50 l1 x19_1).f1)] 50 (0, 0)) (bk BK206.out) hg (Kd.R_away HO_4.out (fun _ hk => hk.2))); replace HB := Aside0.mk (hb); have HO210 := Aside0.mk (ho); clear HO_4 ho hb hg hat))
     go_roundg k1
     case measure => have := HK1.out; omega
     case rel => exact ⟨(y208), (x5_1), (wrap64 (x19_1 + 1)), rs, H', ⟨by have := HK1.out; omega⟩, ⟨by (with_reducible repeat (first | apply Kd.R_alloc | apply Kd.R_drewN | apply Kd.R_drew)); exact Kd.R_mono HO210.out (fun _ hk => hk.1)⟩, ⟨kr HO_5.out⟩, ⟨by (with_reducible repeat (first | apply Kd.R_alloc | apply Kd.R_drewN | apply Kd.R_drew)); exact Kd.R_mono HO_204000.out (fun _ hk => hk.2)⟩, ⟨bk BK198.out⟩, ⟨bk BK203.out⟩, ⟨bk BK204.out⟩, ⟨bl⟩⟩
    ·rw [if_neg c19] at H
     have c19b0 : (t207.toList == ([] : List UInt8)) = false := beq_eq_false_iff_ne.mpr c19
     have c19b1 : (t207.toList != ([] : List UInt8)) = true := bne_iff_ne.mpr c19
     by_cases c29 : x5_1.length < 2513169434916
     rotate_left
     ·rw [if_neg c29] at H
      exact ab H
     rw [if_pos c29] at H
     have LMc29 := Aside0.mk c29
     clear c29
     obtain ⟨y211, hy211⟩ : ∃ y_ : List (S52), y_ = (x5_1 ++ [(⟨(⟨(rd_T50 l1 x19_1).f0, (rd_T50 l1 x19_1).f1⟩ : S50), 554, t207⟩ : S52)]) := ⟨_, rfl⟩
     replace H : (guard_Check.l0 k1 x4_1 y211 l1 (l1.length : Int) (wrap64 (x19_1 + 1)) t199 t202) = some (r1, r2) := by first | (rw [hy211]; with_reducible exact H) | (have H2_ := (Option.bind_some _ _).symm.trans H; rw [hy211]; with_reducible exact H2_) | (have H2_ := (Option.bind_some _ _).symm.trans H; with_reducible exact H2_) | with_reducible exact H | (rw [hy211]; exact H) | exact H
     have Ny211 := Aside0.mk hy211
     clear hy211
     have H' := Aside0.mk H
     clear H
     have p205 : 0 ≤ (x19_1 : Int) := od
     have q205 : x19_1 < (l1.length : Int) := od
     obtain ⟨ad205, e205, hx205_0, hx205_1⟩ := at_T50 HR1.out x19_1 p205 q205
     cases e205
     replace hx205_0 := (HB.out.cell (World.block_lt_of_cell? w _ hx205_0)).trans hx205_0
     replace hx205_1 := (HB.out.cell (World.block_lt_of_cell? w _ hx205_1)).trans hx205_1
     replace p205 := eq_true p205
     replace q205 := eq_true q205
     go_wp2_with (first | ((with_reducible refine gate_dst (N := 10) rfl ?_); refine box_event ?hg (N := 10) ?hd (cs := #[.string (⟨#[]⟩ : ByteArray), .string (⟨#[]⟩ : ByteArray)]) (t := 50) ?hr ?_; (case hd => rfl); (case hg => rfl); (case hr => first | (go_simp; done) | (go_simp; rfl)); intro gb206 hg w30 hbox hb; replace HO_4 := Aside0.mk (Kd.R_below (Kd.R_elderB (kr HO_4.out) gb206 (Nat.le_of_eq hg.symm)) hb); replace HO_5 := Aside0.mk (Kd.R_below (kr HO_5.out) hb); replace HO_204000 := Aside0.mk (Kd.R_below (Kd.R_elderB (kr HO_204000.out) gb206 (Nat.le_of_eq hg.symm)) hb); have BK206 := Aside0.mk (hbox); have GW206 := Aside0.mk (gz hg : w.heap.size ≤ gb206); have GE206 := Aside0.mk (gz hg : w.heap.size ≤ gb206); replace HB := Aside0.mk (below_step bl hb); have NB198_206 := Aside0.mk (nl hg BK198.out : gb198 ≠ gb206); have NB206_198 := Aside0.mk (ng hg BK198.out : gb206 ≠ gb198); replace BK198 := Aside0.mk (kb BK198.out hb); have NB203_206 := Aside0.mk (nl hg BK203.out : gb203 ≠ gb206); have NB206_203 := Aside0.mk (ng hg BK203.out : gb206 ≠ gb203); replace BK203 := Aside0.mk (kb BK203.out hb); have NB204_206 := Aside0.mk (nl hg BK204.out : gb204 ≠ gb206); have NB206_204 := Aside0.mk (ng hg BK204.out : gb206 ≠ gb204); replace BK204 := Aside0.mk (kb BK204.out hb); clear hb hbox hg; have hnb31 := NB206_198.out; have hnc31 := NB198_206.out; have hnb32 := NB206_203.out; have hnc32 := NB203_206.out; have hnb33 := NB206_204.out; have hnc33 := NB204_206.out; have hcz34_0 := cz BK206.out 0 (.string (⟨#[]⟩ : ByteArray)); have hcz34_1 := cz BK206.out 1 (.string (⟨#[]⟩ : ByteArray)); have hfz34_0 := blk_frozen BK206.out 0; have hfz34_1 := blk_frozen BK206.out 1) | (go_at_call 39; (with_reducible refine (guard_Check_1.calls k1 ((rd_T50 l1 x19_1).f0) ((rd_T50 l1 x19_1).f1) t202 Ao12 co12 t199 t207 _ ?side1 ?side2 ?side3 ?side4 A18.out).mono ?_); (case side1 => refine (Kd.R_reads' (e := 50) (base := w.heap.size) (ok := fun k_ => (some k_ ≠ (u4 : Value).ownBlock ∧ k_ ≠ gb206)) (n := t199.length) (c := co12) ?_).2.2; exact (by (with_reducible repeat (first | apply Kd.R_alloc | apply Kd.R_drewN | apply Kd.R_drew)); exact (Kd.R_mono (Kd.R_far (p := ⟨gb206, 1, none⟩) (Kd.R_far (p := ⟨gb206, 0, none⟩) (Kd.R_mono HO_204000.out (fun k_ hk => (⟨hk, hk.2⟩ : _ ∧ k_ ≠ gb206))) (fun _ hk => hk.2) (.string ((rd_T50 l1 x19_1).f0))) (fun _ hk => hk.2) (.string ((rd_T50 l1 x19_1).f1))) (fun _ h_ => h_.1)))); (case side2 => exact (Kd.R_reads' HO_204000.out).2.1); (case side3 => exact by (with_reducible repeat (first | refine blk_drewN ?_ _ | refine blk_drew ?_ | refine blk_alloc ?_ _)); refine blk_far ?_ NB204_206.out _; (with_reducible repeat (first | refine blk_drewN ?_ _ | refine blk_drew ?_ | refine blk_alloc ?_ _)); refine blk_far ?_ NB204_206.out _; (with_reducible repeat (first | refine blk_drewN ?_ _ | refine blk_drew ?_ | refine blk_alloc ?_ _)); exact BK204.out); (case side4 => exact by (with_reducible repeat (first | refine blk_drewN ?_ _ | refine blk_drew ?_ | refine blk_alloc ?_ _)); refine blk_far ?_ NB203_206.out _; (with_reducible repeat (first | refine blk_drewN ?_ _ | refine blk_drew ?_ | refine blk_alloc ?_ _)); refine blk_far ?_ NB203_206.out _; (with_reducible repeat (first | refine blk_drewN ?_ _ | refine blk_drew ?_ | refine blk_alloc ?_ _)); exact BK203.out); rintro e w35 ⟨rfl, hb⟩; replace HO_4 := Aside0.mk (Kd.R_below (by (with_reducible repeat (first | apply Kd.R_alloc | apply Kd.R_drewN | apply Kd.R_drew)); exact (Kd.R_mono (Kd.R_far (p := ⟨gb206, 1, none⟩) (Kd.R_far (p := ⟨gb206, 0, none⟩) (Kd.R_mono HO_4.out (fun k_ hk => (⟨hk, hk.2⟩ : _ ∧ k_ ≠ gb206))) (fun _ hk => hk.2) (.string ((rd_T50 l1 x19_1).f0))) (fun _ hk => hk.2) (.string ((rd_T50 l1 x19_1).f1))) (fun _ h_ => h_.1))) hb); replace HO_5 := Aside0.mk (Kd.R_below (by (with_reducible repeat (first | apply Kd.R_alloc | apply Kd.R_drewN | apply Kd.R_drew)); exact (Kd.R_mono (Kd.R_far (p := ⟨gb206, 1, none⟩) (Kd.R_far (p := ⟨gb206, 0, none⟩) (Kd.R_types HO_5.out BK206.out (by decide)) (fun _ hk => hk.2) (.string ((rd_T50 l1 x19_1).f0))) (fun _ hk => hk.2) (.string ((rd_T50 l1 x19_1).f1))) (fun _ h_ => h_.1))) hb); replace HO_204000 := Aside0.mk (Kd.R_below (by (with_reducible repeat (first | apply Kd.R_alloc | apply Kd.R_drewN | apply Kd.R_drew)); exact (Kd.R_mono (Kd.R_far (p := ⟨gb206, 1, none⟩) (Kd.R_far (p := ⟨gb206, 0, none⟩) (Kd.R_mono HO_204000.out (fun k_ hk => (⟨hk, hk.2⟩ : _ ∧ k_ ≠ gb206))) (fun _ hk => hk.2) (.string ((rd_T50 l1 x19_1).f0))) (fun _ hk => hk.2) (.string ((rd_T50 l1 x19_1).f1))) (fun _ h_ => h_.1))) hb); replace BK198 := Aside0.mk (kb BK198.out hb); replace BK203 := Aside0.mk (kb BK203.out hb); replace BK204 := Aside0.mk (kb BK204.out hb); replace BK206 := Aside0.mk (blk_below (g := gb206) (o := .cells #[.string ((rd_T50 l1 x19_1).f0), .string ((rd_T50 l1 x19_1).f1)] 50 (0, 0)) (by (with_reducible repeat (first | refine blk_drewN ?_ _ | refine blk_drew ?_ | refine blk_alloc ?_ _)); refine blk_put (cs := #[.string ((rd_T50 l1 x19_1).f0), .string (⟨#[]⟩ : ByteArray)]) ?_ 1 _ rfl; (with_reducible repeat (first | refine blk_drewN ?_ _ | refine blk_drew ?_ | refine blk_alloc ?_ _)); refine blk_put (cs := #[.string (⟨#[]⟩ : ByteArray), .string (⟨#[]⟩ : ByteArray)]) ?_ 0 _ rfl; (with_reducible repeat (first | refine blk_drewN ?_ _ | refine blk_drew ?_ | refine blk_alloc ?_ _)); exact BK206.out) hb); replace HB := Aside0.mk (below_step bl hb); (try clear hb); (try clear hb2); (try clear hk); (try clear hi); have hcz36_0 := cz BK206.out 0 (.string ((rd_T50 l1 x19_1).f0)); have hcz36_1 := cz BK206.out 1 (.string ((rd_T50 l1 x19_1).f1)); have hfz36_0 := blk_frozen BK206.out 0; have hfz36_1 := blk_frozen BK206.out 1) | ((with_reducible refine gate_builtin (b := .append) (xs := #[.tmp 28, .tmp 32]) rfl ?_); at_builtin; refine Kd.R_append k52 (w0 := w) w.heap.size rfl (.tmp 28) (.tmp 32) 32 52 (.agg #[(.string ⟨#[]⟩), (.string ⟨#[]⟩), (.int .i64 0), (.string ⟨#[]⟩)]) 56 rfl Tryz.underlying32 info52 rfl (by decide) (by omega) u5 x5_1 (⟨(⟨(rd_T50 l1 x19_1).f0, (rd_T50 l1 x19_1).f1⟩ : S50), 554, t207⟩ : S52) [.string ((rd_T50 l1 x19_1).f0), .string ((rd_T50 l1 x19_1).f1), .int .i64 554, .string t207] (fun _ => True) (fun _ => False) rfl rfl ?aP (fun _ hk => hk.elim) ?aF ?aO ?aB ?aS ?aL ?_; (case aP => exact k52_mkM _ _ _ (⟨(⟨(rd_T50 l1 x19_1).f0, (rd_T50 l1 x19_1).f1⟩ : S50), 554, t207⟩ : S52)); (case aB => exact bl); (case aF => exact (fun _ _ => trivial)); (case aO => exact (kr HO_5.out)); (case aS => exact (below_size bl)); (case aL => have := LMc29.out; omega); intro v212 w37 ho hb hg hat; rw [← Ny211.out] at ho; replace HO_4 := Aside0.mk (Kd.R_over' (kr HO_4.out) (Kd.R_typed (kr HO_5.out)) (by decide) hg); replace HO_204000 := Aside0.mk (Kd.R_over' (kr HO_204000.out) (Kd.R_typed (kr HO_5.out)) (by decide) hg); replace BK198 := Aside0.mk (blk_grown (g := gb198) (o := .cells #[.slice A0_0 l0_0.length c0_0, .string a0_1, .bool a0_2] 24 (0, 0)) (bk BK198.out) hg (Kd.R_ne HO_5.out BK198.out (by decide))); replace BK203 := Aside0.mk (blk_grown (g := gb203) (o := .cells #[.slice Ao12 t199.length co12] 25 (0, 0)) (bk BK203.out) hg (Kd.R_ne HO_5.out BK203.out (by decide))); replace BK204 := Aside0.mk (blk_grown (g := gb204) (o := .cells #[.int .i64 t202] 3 (0, 0)) (bk BK204.out) hg (Kd.R_ne HO_5.out BK204.out (by decide))); replace BK206 := Aside0.mk (blk_grown (g := gb206) (o := .cells #[.string ((rd_T50 l1 x19_1).f0), .string ((rd_T50 l1 x19_1).f1)] 50 (0, 0)) (bk BK206.out) hg (Kd.R_ne HO_5.out BK206.out (by decide))); replace HB := Aside0.mk (hb); have HO213 := Aside0.mk (ho); clear HO_5 ho hb hg hat))
     go_roundg k1
     case measure => have := HK1.out; omega
     case rel => exact ⟨(x4_1), (y211), (wrap64 (x19_1 + 1)), rs, H', ⟨by have := HK1.out; omega⟩, ⟨by (with_reducible repeat (first | apply Kd.R_alloc | apply Kd.R_drewN | apply Kd.R_drew)); exact Kd.R_mono HO_4.out (fun _ hk => hk.1)⟩, ⟨kr HO213.out⟩, ⟨by (with_reducible repeat (first | apply Kd.R_alloc | apply Kd.R_drewN | apply Kd.R_drew)); exact Kd.R_mono HO_204000.out (fun _ hk => hk.1)⟩, ⟨bk BK198.out⟩, ⟨bk BK203.out⟩, ⟨bk BK204.out⟩, ⟨bl⟩⟩
   ·rw [if_neg c15] at H
    have c15b0 : decide (x19_1 < (l1.length : Int)) = false := decide_eq_false c15
    clear c15
    simp only [Option.some.injEq, Prod.mk.injEq] at H
    obtain ⟨rfl, rfl⟩ := H
    go_wp2
    go_ret2
    exact ⟨_, _, by first | rfl | (simp [errW_none, errW_some] <;> rfl) | (simp [*, errW_none, errW_some] <;> rfl), by (with_reducible repeat (first | apply Kd.R_alloc | apply Kd.R_drewN | apply Kd.R_drew)); exact Kd.R_mono HO_4.out (fun _ hk => trivial), kr HO_5.out, bl⟩

end Go.Proofs.YtacjnapgdikhbaaGreatDoor.Q
end
