-- Written by this session's own program (wip/tools: a patched run of the printer) out of the translation.
import Derived.Test.YtoigafnaoaafeaaDoorQx0
import Derived.Test.YtoigafnaoaafeaaDoorQx1
import Derived.Test.YtoigafnaoaafeaaDoorQx2
import Derived.Test.YtoigafnaoaafeaaDoorQx3
namespace Go.Proofs.YtoigafnaoaafeaaDoor.Q
open Go.RowKit Go.Proofs.YtoigafnaoaafeaaDoorW.PrintWords Go.Proofs.YtoigafnaoaafeaaDoorW.PrintLast Go.Proofs.YtoigafnaoaafeaaDoorW.PrintMore
attribute [local go_sem] max2_int min2_int max_two min_two max_three min_three max_four min_four   -- for this text's walks alone
set_option linter.unusedVariables false
set_option linter.unusedSimpArgs false

/-! ### postriderref09_Date: function 15 -/
def postriderref09_Date.l0 : Nat → Int → List ByteArray → List ByteArray → Int → Int → Int → Int → Option (ByteArray)
  | 0, _, _, _, _, _, _, _ => none
  | k + 1, x0, x3, x4, x5, x6, x7, x8 => (postriderref09_length.f x6 x8).bind fun t170 => (if x7 ≥ t170 then ((postriderref09_length.f x6 x8).bind fun t171 => (postriderref09_Date.l0 k x0 x3 x4 x5 x6 (wrap64 (x7 - t171)) (wrap64 (x8 + 1)))) else (if 0 ≤ (Int.tmod (wrap64 (x5 + 4)) 7) then (if (Int.tmod (wrap64 (x5 + 4)) 7) < (x3.length : Int) then (if (rdOf ByteArray.empty x3 (Int.tmod (wrap64 (x5 + 4)) 7)).size + 2 ≤ 9223372036854775807 then ((postriderref09_digits.f k (wrap64 (x7 + 1)) 2).bind fun t173 => (if ((rdOf ByteArray.empty x3 (Int.tmod (wrap64 (x5 + 4)) 7)) ++ (⟨#[44, 32]⟩ : ByteArray)).size + t173.size ≤ 9223372036854775807 then (if (((rdOf ByteArray.empty x3 (Int.tmod (wrap64 (x5 + 4)) 7)) ++ (⟨#[44, 32]⟩ : ByteArray)) ++ t173).size + 1 ≤ 9223372036854775807 then (if 0 ≤ x8 then (if x8 < (x4.length : Int) then (if ((((rdOf ByteArray.empty x3 (Int.tmod (wrap64 (x5 + 4)) 7)) ++ (⟨#[44, 32]⟩ : ByteArray)) ++ t173) ++ (⟨#[32]⟩ : ByteArray)).size + (rdOf ByteArray.empty x4 x8).size ≤ 9223372036854775807 then (if (((((rdOf ByteArray.empty x3 (Int.tmod (wrap64 (x5 + 4)) 7)) ++ (⟨#[44, 32]⟩ : ByteArray)) ++ t173) ++ (⟨#[32]⟩ : ByteArray)) ++ (rdOf ByteArray.empty x4 x8)).size + 1 ≤ 9223372036854775807 then ((postriderref09_digits.f k x6 4).bind fun t175 => (if ((((((rdOf ByteArray.empty x3 (Int.tmod (wrap64 (x5 + 4)) 7)) ++ (⟨#[44, 32]⟩ : ByteArray)) ++ t173) ++ (⟨#[32]⟩ : ByteArray)) ++ (rdOf ByteArray.empty x4 x8)) ++ (⟨#[32]⟩ : ByteArray)).size + t175.size ≤ 9223372036854775807 then (if (((((((rdOf ByteArray.empty x3 (Int.tmod (wrap64 (x5 + 4)) 7)) ++ (⟨#[44, 32]⟩ : ByteArray)) ++ t173) ++ (⟨#[32]⟩ : ByteArray)) ++ (rdOf ByteArray.empty x4 x8)) ++ (⟨#[32]⟩ : ByteArray)) ++ t175).size + 1 ≤ 9223372036854775807 then ((postriderref09_digits.f k (wrap64 (Int.tdiv (Int.tmod x0 86400) 3600)) 2).bind fun t176 => (if ((((((((rdOf ByteArray.empty x3 (Int.tmod (wrap64 (x5 + 4)) 7)) ++ (⟨#[44, 32]⟩ : ByteArray)) ++ t173) ++ (⟨#[32]⟩ : ByteArray)) ++ (rdOf ByteArray.empty x4 x8)) ++ (⟨#[32]⟩ : ByteArray)) ++ t175) ++ (⟨#[32]⟩ : ByteArray)).size + t176.size ≤ 9223372036854775807 then (if (((((((((rdOf ByteArray.empty x3 (Int.tmod (wrap64 (x5 + 4)) 7)) ++ (⟨#[44, 32]⟩ : ByteArray)) ++ t173) ++ (⟨#[32]⟩ : ByteArray)) ++ (rdOf ByteArray.empty x4 x8)) ++ (⟨#[32]⟩ : ByteArray)) ++ t175) ++ (⟨#[32]⟩ : ByteArray)) ++ t176).size + 1 ≤ 9223372036854775807 then ((postriderref09_digits.f k (Int.tmod (wrap64 (Int.tdiv (Int.tmod x0 86400) 60)) 60) 2).bind fun t177 => (if ((((((((((rdOf ByteArray.empty x3 (Int.tmod (wrap64 (x5 + 4)) 7)) ++ (⟨#[44, 32]⟩ : ByteArray)) ++ t173) ++ (⟨#[32]⟩ : ByteArray)) ++ (rdOf ByteArray.empty x4 x8)) ++ (⟨#[32]⟩ : ByteArray)) ++ t175) ++ (⟨#[32]⟩ : ByteArray)) ++ t176) ++ (⟨#[58]⟩ : ByteArray)).size + t177.size ≤ 9223372036854775807 then (if (((((((((((rdOf ByteArray.empty x3 (Int.tmod (wrap64 (x5 + 4)) 7)) ++ (⟨#[44, 32]⟩ : ByteArray)) ++ t173) ++ (⟨#[32]⟩ : ByteArray)) ++ (rdOf ByteArray.empty x4 x8)) ++ (⟨#[32]⟩ : ByteArray)) ++ t175) ++ (⟨#[32]⟩ : ByteArray)) ++ t176) ++ (⟨#[58]⟩ : ByteArray)) ++ t177).size + 1 ≤ 9223372036854775807 then ((postriderref09_digits.f k (Int.tmod (Int.tmod x0 86400) 60) 2).bind fun t178 => (if ((((((((((((rdOf ByteArray.empty x3 (Int.tmod (wrap64 (x5 + 4)) 7)) ++ (⟨#[44, 32]⟩ : ByteArray)) ++ t173) ++ (⟨#[32]⟩ : ByteArray)) ++ (rdOf ByteArray.empty x4 x8)) ++ (⟨#[32]⟩ : ByteArray)) ++ t175) ++ (⟨#[32]⟩ : ByteArray)) ++ t176) ++ (⟨#[58]⟩ : ByteArray)) ++ t177) ++ (⟨#[58]⟩ : ByteArray)).size + t178.size ≤ 9223372036854775807 then (if (((((((((((((rdOf ByteArray.empty x3 (Int.tmod (wrap64 (x5 + 4)) 7)) ++ (⟨#[44, 32]⟩ : ByteArray)) ++ t173) ++ (⟨#[32]⟩ : ByteArray)) ++ (rdOf ByteArray.empty x4 x8)) ++ (⟨#[32]⟩ : ByteArray)) ++ t175) ++ (⟨#[32]⟩ : ByteArray)) ++ t176) ++ (⟨#[58]⟩ : ByteArray)) ++ t177) ++ (⟨#[58]⟩ : ByteArray)) ++ t178).size + 6 ≤ 9223372036854775807 then (some ((((((((((((((rdOf ByteArray.empty x3 (Int.tmod (wrap64 (x5 + 4)) 7)) ++ (⟨#[44, 32]⟩ : ByteArray)) ++ t173) ++ (⟨#[32]⟩ : ByteArray)) ++ (rdOf ByteArray.empty x4 x8)) ++ (⟨#[32]⟩ : ByteArray)) ++ t175) ++ (⟨#[32]⟩ : ByteArray)) ++ t176) ++ (⟨#[58]⟩ : ByteArray)) ++ t177) ++ (⟨#[58]⟩ : ByteArray)) ++ t178) ++ (⟨#[32, 43, 48, 48, 48, 48]⟩ : ByteArray))) else (none)) else (none))) else (none)) else (none))) else (none)) else (none))) else (none)) else (none))) else (none)) else (none)) else (none)) else (none)) else (none)) else (none))) else (none)) else (none)) else (none)))
def postriderref09_Date.f (k : Nat) (a0 : Int) : Option (ByteArray) := (postriderref09_names.f).bind fun bt161 => ((postriderref09_clean.f a0).bind fun t167 => ((postriderref09_begin.f k (wrap64 (Int.tdiv t167 86400))).bind fun bt168 => (postriderref09_Date.l0 k t167 bt161.1 bt161.2 (wrap64 (Int.tdiv t167 86400)) bt168.1 bt168.2 0)))
theorem postriderref09_Date.mono_l : ∀ k, (∀ y0 y1 y2 y3 y4 y5 y6, LeO (postriderref09_Date.l0 k y0 y1 y2 y3 y4 y5 y6) (postriderref09_Date.l0 (k + 1) y0 y1 y2 y3 y4 y5 y6))
  | 0 => fun _ _ _ _ _ _ _ r h => by simp [postriderref09_Date.l0] at h
  | k + 1 => by
    have ih0 := postriderref09_Date.mono_l k
    · intro y0 y1 y2 y3 y4 y5 y6
      unfold postriderref09_Date.l0
      repeat' first
      | (with_reducible exact ih0 _ _ _ _ _ _ _)
      | (with_reducible exact postriderref09_begin.mono _ _)
      | (with_reducible exact postriderref09_digits.mono _ _ _)
      | (with_reducible exact LeO.refl _)
      | (with_reducible exact LeO.none _)
      | (with_reducible refine LeO.ite ?_ ?_)
      | (with_reducible refine LeO.bind ?_ (fun _ => ?_))
      | exact ih0 _ _ _ _ _ _ _
      | exact postriderref09_begin.mono _ _
      | exact postriderref09_digits.mono _ _ _
      | exact LeO.none _
      | refine LeO.ite ?_ ?_
      | refine LeO.bind ?_ (fun _ => ?_)
theorem postriderref09_Date.mono : ∀ a0 k, LeO (postriderref09_Date.f k a0) (postriderref09_Date.f (k + 1) a0) := by
  intro a0 k
  have ih0 := postriderref09_Date.mono_l k
  unfold postriderref09_Date.f
  repeat' first
      | (with_reducible exact ih0 _ _ _ _ _ _ _)
      | (with_reducible exact postriderref09_begin.mono _ _)
      | (with_reducible exact postriderref09_digits.mono _ _ _)
      | (with_reducible exact LeO.refl _)
      | (with_reducible exact LeO.none _)
      | (with_reducible refine LeO.ite ?_ ?_)
      | (with_reducible refine LeO.bind ?_ (fun _ => ?_))
      | exact ih0 _ _ _ _ _ _ _
      | exact postriderref09_begin.mono _ _
      | exact postriderref09_digits.mono _ _ _
      | exact LeO.none _
      | refine LeO.ite ?_ ?_
      | refine LeO.bind ?_ (fun _ => ?_)
def postriderref09_Date.T10 : Bool × List (List Nat × List Nat) := (true, [([], []), ([], []), ([1], [1]), ([2], [2]), ([0, 3], [0, 3]), ([4], [4]), ([5], [5]), ([], []), ([7], [7]), ([8], [8]), ([6, 9], [6, 9]), ([10], [10]), ([], []), ([], []), ([12, 13], [12, 13]), ([14], [14]), ([11, 15], [11, 15]), ([16], [16]), ([], []), ([18, 9], [18]), ([17, 19], [17, 19]), ([20], [20]), ([], []), ([22], [22]), ([23, 19], [23]), ([21, 24], [21, 24]), ([25], [25]), ([], []), ([27], [27]), ([28], [28]), ([29, 24], [29]), ([26, 30], [26, 30]), ([31], [31]), ([], []), ([33], [33]), ([34, 30], [34]), ([32, 35], [32, 35]), ([36], [36]), ([37, 35, 0, 1, 2, 3, 4, 5, 6, 7, 8, 9, 10, 11, 12, 13, 14, 15, 16, 17, 18, 19, 20, 21, 22, 23, 24, 25, 26, 27, 28, 29, 30, 31, 32, 33, 34, 35, 36, 37], [37])])
def postriderref09_Date.B10 : List Nat := [0, 0, 2, 6, 15, 31, 63, 0, 128, 384, 1023, 2047, 0, 0, 12288, 28672, 65535, 131071, 0, 263040, 1048575, 2097151, 0, 4194304, 13370240, 33554431, 67108863, 0, 134217728, 402653184, 969671552, 2147483647, 4294967295, 0, 8589934592, 27813217152, 68719476735, 137438953471, 274877906943]
theorem postriderref09_Date.tab10 : rtab .any (opsOf Tryd.f15 10) = postriderref09_Date.T10 := by kernel_rfl
theorem postriderref09_Date.bits10 : waitsOk postriderref09_Date.T10.2 postriderref09_Date.B10 = true := by kernel_rfl
set_option maxHeartbeats 8000000 in
set_option maxRecDepth 100000 in
theorem postriderref09_Date.calls (k : Nat) (a0 : Int) (r : ByteArray) (w : World) (h : postriderref09_Date.f k a0 = some r) :
    Calls Tryd.prog 15 #[.int .i64 a0] w fun e w' => e = .returned (.string r) ∧ Below w.heap.size w w' := by
  have HB := Aside0.mk (Below.refl w.heap.size w)
  have H : ((postriderref09_names.f).bind fun bt161 => ((postriderref09_clean.f a0).bind fun t167 => ((postriderref09_begin.f k (wrap64 (Int.tdiv t167 86400))).bind fun bt168 => (postriderref09_Date.l0 k t167 bt161.1 bt161.2 (wrap64 (Int.tdiv t167 86400)) bt168.1 bt168.2 0)))) = some r := h
  clear h
  replace H := Option.bind_eq_some_iff.mp H
  obtain ⟨⟨t161, t162⟩, A20, H⟩ := H
  replace H : ((postriderref09_clean.f a0).bind fun t167 => ((postriderref09_begin.f k (wrap64 (Int.tdiv t167 86400))).bind fun bt168 => (postriderref09_Date.l0 k t167 t161 t162 (wrap64 (Int.tdiv t167 86400)) bt168.1 bt168.2 0))) = some r := H
  have A2 := Aside0.mk A20
  clear A20
  replace H := Option.bind_eq_some_iff.mp H
  obtain ⟨t167, A30, H⟩ := H
  replace H : ((postriderref09_begin.f k (wrap64 (Int.tdiv t167 86400))).bind fun bt168 => (postriderref09_Date.l0 k t167 t161 t162 (wrap64 (Int.tdiv t167 86400)) bt168.1 bt168.2 0)) = some r := H
  have A3 := Aside0.mk A30
  clear A30
  replace H := Option.bind_eq_some_iff.mp H
  obtain ⟨⟨t168, t169⟩, A40, H⟩ := H
  replace H : (postriderref09_Date.l0 k t167 t161 t162 (wrap64 (Int.tdiv t167 86400)) t168 t169 0) = some r := H
  have A4 := Aside0.mk A40
  clear A40
  have H' := Aside0.mk H
  clear H
  obtain ⟨rs_, hrs_⟩ : ∃ j_ : Int, (Int.tmod t167 86400) = j_ := ⟨_, rfl⟩
  go_enter Tryd.func15, Tryd.ntmps15
  go_wp2_with (first | ((with_reducible refine gate_callee (f := 31) rfl ?_); refine goesL_ (some 11) rfl rfl Tryd.func31 (by kernel_rfl) rfl #[] rfl (by (try simp only [List.map_toArray, List.map_cons, List.map_nil]); first | done | rfl | (simp only [List.length_drop, List.length_take]; rfl)) ?_; (with_reducible refine (postriderref09_names.calls  t161 t162 _ A2.out).mono ?_); rintro e w5 ⟨v163, v165, rfl, ho0, ho1, hb⟩; refine ⟨_, rfl, ?_⟩; have n0_ := Aside0.mk (Kd.R_lower ho0 (below_size (by repeat (first | (with_reducible first | exact HB.out | apply below_alloc | apply pw_below_drewN | apply below_drew1) | exact HB.out)))); have n1_ := Aside0.mk (Kd.R_lower ho1 (below_size (by repeat (first | (with_reducible first | exact HB.out | apply below_alloc | apply pw_below_drewN | apply below_drew1) | exact HB.out)))); have n2_ := Aside0.mk (below_step (by repeat (first | (with_reducible first | exact HB.out | apply below_alloc | apply pw_below_drewN | apply below_drew1) | exact HB.out)) hb); clear HB; have HO164 := n0_; have HO166 := n1_; have HB := n2_; clear n0_ n1_ n2_; (try clear hb); (try clear hb2); (try clear hk); (try clear hi); (try clear ho0); (try clear ho1)) | ((with_reducible refine gate_callee (f := 24) rfl ?_); refine goesL_ (some 15) rfl rfl Tryd.func24 (by kernel_rfl) rfl #[.int .i64 a0] rfl (by (try simp only [List.map_toArray, List.map_cons, List.map_nil]); first | done | rfl | (simp only [List.length_drop, List.length_take]; rfl)) ?_; (with_reducible refine (postriderref09_clean.calls a0 t167 _ A3.out).mono ?_); rintro e w' ⟨rfl, ⟨nd, rfl⟩⟩; refine ⟨_, rfl, ?_⟩) | ((with_reducible refine gate_callee (f := 32) rfl ?_); refine goesL_ (some 20) rfl rfl Tryd.func32 (by kernel_rfl) rfl #[.int .i64 (wrap64 (Int.tdiv t167 86400))] rfl (by (try simp only [List.map_toArray, List.map_cons, List.map_nil]); first | done | rfl | (simp only [List.length_drop, List.length_take]; rfl)) ?_; (with_reducible refine (postriderref09_begin.calls k (wrap64 (Int.tdiv t167 86400)) t168 t169 _ A4.out).mono ?_); rintro e w' ⟨rfl, ⟨nd, rfl⟩⟩; refine ⟨_, rfl, ?_⟩))
  go_loopg [7, 8] k (fun kq v7 v8 w' => ∃ (x7_1 : Int) (x8_1 : Int), v7 = .int .i64 x7_1 ∧ v8 = .int .i64 x8_1 ∧ Aside0 (postriderref09_Date.l0 kq t167 t161 t162 (wrap64 (Int.tdiv t167 86400)) t168 x7_1 x8_1 = some r) ∧ Aside0 (kq ≤ k) ∧ Aside0 (Kd.R Kd.string 9 w' w.heap.size (fun k_ => some k_ ≠ (v165 : Value).ownBlock) v163 t161) ∧ Aside0 (Kd.R Kd.string 9 w' w.heap.size (fun k_ => some k_ ≠ (v163 : Value).ownBlock) v165 t162) ∧ Aside0 (Below w.heap.size w w'))
  case atStart => exact ⟨(t169), (0), (by first | rfl | (simp; done) | (simp [*]; done)), (by first | rfl | (simp; done) | (simp [*]; done)), H', ⟨Nat.le_refl _⟩, ⟨by (with_reducible repeat (first | apply Kd.R_alloc | apply Kd.R_drewN | apply Kd.R_drew)); exact HO164.out⟩, ⟨by (with_reducible repeat (first | apply Kd.R_alloc | apply Kd.R_drewN | apply Kd.R_drew)); exact HO166.out⟩, ⟨by repeat (first | (with_reducible first | exact HB.out | apply below_alloc | apply pw_below_drewN | apply below_drew1) | exact HB.out)⟩⟩
  case round =>
    clear H'
    try clear c1
    try clear c2
    try clear p2
    try clear c3
    obtain ⟨x7_1, x8_1, rfl, rfl, HA, HK1, HO_3, HO_4, HB⟩ := hrel
    cases gk with
    | zero => exact absurd HA.out (by simp [postriderref09_Date.l0])
    | succ k1 =>
      have H := HA.out
      clear HA
      simp only [postriderref09_Date.l0] at H
      (try rw [hrs_] at H)
      replace H := Option.bind_eq_some_iff.mp H
      obtain ⟨t170, A60, H⟩ := H
      replace H : (if x7_1 ≥ t170 then ((postriderref09_length.f t168 x8_1).bind fun t171 => (postriderref09_Date.l0 k1 t167 t161 t162 (wrap64 (Int.tdiv t167 86400)) t168 (wrap64 (x7_1 - t171)) (wrap64 (x8_1 + 1)))) else (if 0 ≤ (Int.tmod (wrap64 ((wrap64 (Int.tdiv t167 86400)) + 4)) 7) then (if (Int.tmod (wrap64 ((wrap64 (Int.tdiv t167 86400)) + 4)) 7) < (t161.length : Int) then (if (rdOf ByteArray.empty t161 (Int.tmod (wrap64 ((wrap64 (Int.tdiv t167 86400)) + 4)) 7)).size + 2 ≤ 9223372036854775807 then ((postriderref09_digits.f k1 (wrap64 (x7_1 + 1)) 2).bind fun t173 => (if ((rdOf ByteArray.empty t161 (Int.tmod (wrap64 ((wrap64 (Int.tdiv t167 86400)) + 4)) 7)) ++ (⟨#[44, 32]⟩ : ByteArray)).size + t173.size ≤ 9223372036854775807 then (if (((rdOf ByteArray.empty t161 (Int.tmod (wrap64 ((wrap64 (Int.tdiv t167 86400)) + 4)) 7)) ++ (⟨#[44, 32]⟩ : ByteArray)) ++ t173).size + 1 ≤ 9223372036854775807 then (if 0 ≤ x8_1 then (if x8_1 < (t162.length : Int) then (if ((((rdOf ByteArray.empty t161 (Int.tmod (wrap64 ((wrap64 (Int.tdiv t167 86400)) + 4)) 7)) ++ (⟨#[44, 32]⟩ : ByteArray)) ++ t173) ++ (⟨#[32]⟩ : ByteArray)).size + (rdOf ByteArray.empty t162 x8_1).size ≤ 9223372036854775807 then (if (((((rdOf ByteArray.empty t161 (Int.tmod (wrap64 ((wrap64 (Int.tdiv t167 86400)) + 4)) 7)) ++ (⟨#[44, 32]⟩ : ByteArray)) ++ t173) ++ (⟨#[32]⟩ : ByteArray)) ++ (rdOf ByteArray.empty t162 x8_1)).size + 1 ≤ 9223372036854775807 then ((postriderref09_digits.f k1 t168 4).bind fun t175 => (if ((((((rdOf ByteArray.empty t161 (Int.tmod (wrap64 ((wrap64 (Int.tdiv t167 86400)) + 4)) 7)) ++ (⟨#[44, 32]⟩ : ByteArray)) ++ t173) ++ (⟨#[32]⟩ : ByteArray)) ++ (rdOf ByteArray.empty t162 x8_1)) ++ (⟨#[32]⟩ : ByteArray)).size + t175.size ≤ 9223372036854775807 then (if (((((((rdOf ByteArray.empty t161 (Int.tmod (wrap64 ((wrap64 (Int.tdiv t167 86400)) + 4)) 7)) ++ (⟨#[44, 32]⟩ : ByteArray)) ++ t173) ++ (⟨#[32]⟩ : ByteArray)) ++ (rdOf ByteArray.empty t162 x8_1)) ++ (⟨#[32]⟩ : ByteArray)) ++ t175).size + 1 ≤ 9223372036854775807 then ((postriderref09_digits.f k1 (wrap64 (Int.tdiv rs_ 3600)) 2).bind fun t176 => (if ((((((((rdOf ByteArray.empty t161 (Int.tmod (wrap64 ((wrap64 (Int.tdiv t167 86400)) + 4)) 7)) ++ (⟨#[44, 32]⟩ : ByteArray)) ++ t173) ++ (⟨#[32]⟩ : ByteArray)) ++ (rdOf ByteArray.empty t162 x8_1)) ++ (⟨#[32]⟩ : ByteArray)) ++ t175) ++ (⟨#[32]⟩ : ByteArray)).size + t176.size ≤ 9223372036854775807 then (if (((((((((rdOf ByteArray.empty t161 (Int.tmod (wrap64 ((wrap64 (Int.tdiv t167 86400)) + 4)) 7)) ++ (⟨#[44, 32]⟩ : ByteArray)) ++ t173) ++ (⟨#[32]⟩ : ByteArray)) ++ (rdOf ByteArray.empty t162 x8_1)) ++ (⟨#[32]⟩ : ByteArray)) ++ t175) ++ (⟨#[32]⟩ : ByteArray)) ++ t176).size + 1 ≤ 9223372036854775807 then ((postriderref09_digits.f k1 (Int.tmod (wrap64 (Int.tdiv rs_ 60)) 60) 2).bind fun t177 => (if ((((((((((rdOf ByteArray.empty t161 (Int.tmod (wrap64 ((wrap64 (Int.tdiv t167 86400)) + 4)) 7)) ++ (⟨#[44, 32]⟩ : ByteArray)) ++ t173) ++ (⟨#[32]⟩ : ByteArray)) ++ (rdOf ByteArray.empty t162 x8_1)) ++ (⟨#[32]⟩ : ByteArray)) ++ t175) ++ (⟨#[32]⟩ : ByteArray)) ++ t176) ++ (⟨#[58]⟩ : ByteArray)).size + t177.size ≤ 9223372036854775807 then (if (((((((((((rdOf ByteArray.empty t161 (Int.tmod (wrap64 ((wrap64 (Int.tdiv t167 86400)) + 4)) 7)) ++ (⟨#[44, 32]⟩ : ByteArray)) ++ t173) ++ (⟨#[32]⟩ : ByteArray)) ++ (rdOf ByteArray.empty t162 x8_1)) ++ (⟨#[32]⟩ : ByteArray)) ++ t175) ++ (⟨#[32]⟩ : ByteArray)) ++ t176) ++ (⟨#[58]⟩ : ByteArray)) ++ t177).size + 1 ≤ 9223372036854775807 then ((postriderref09_digits.f k1 (Int.tmod rs_ 60) 2).bind fun t178 => (if ((((((((((((rdOf ByteArray.empty t161 (Int.tmod (wrap64 ((wrap64 (Int.tdiv t167 86400)) + 4)) 7)) ++ (⟨#[44, 32]⟩ : ByteArray)) ++ t173) ++ (⟨#[32]⟩ : ByteArray)) ++ (rdOf ByteArray.empty t162 x8_1)) ++ (⟨#[32]⟩ : ByteArray)) ++ t175) ++ (⟨#[32]⟩ : ByteArray)) ++ t176) ++ (⟨#[58]⟩ : ByteArray)) ++ t177) ++ (⟨#[58]⟩ : ByteArray)).size + t178.size ≤ 9223372036854775807 then (if (((((((((((((rdOf ByteArray.empty t161 (Int.tmod (wrap64 ((wrap64 (Int.tdiv t167 86400)) + 4)) 7)) ++ (⟨#[44, 32]⟩ : ByteArray)) ++ t173) ++ (⟨#[32]⟩ : ByteArray)) ++ (rdOf ByteArray.empty t162 x8_1)) ++ (⟨#[32]⟩ : ByteArray)) ++ t175) ++ (⟨#[32]⟩ : ByteArray)) ++ t176) ++ (⟨#[58]⟩ : ByteArray)) ++ t177) ++ (⟨#[58]⟩ : ByteArray)) ++ t178).size + 6 ≤ 9223372036854775807 then (some ((((((((((((((rdOf ByteArray.empty t161 (Int.tmod (wrap64 ((wrap64 (Int.tdiv t167 86400)) + 4)) 7)) ++ (⟨#[44, 32]⟩ : ByteArray)) ++ t173) ++ (⟨#[32]⟩ : ByteArray)) ++ (rdOf ByteArray.empty t162 x8_1)) ++ (⟨#[32]⟩ : ByteArray)) ++ t175) ++ (⟨#[32]⟩ : ByteArray)) ++ t176) ++ (⟨#[58]⟩ : ByteArray)) ++ t177) ++ (⟨#[58]⟩ : ByteArray)) ++ t178) ++ (⟨#[32, 43, 48, 48, 48, 48]⟩ : ByteArray))) else (none)) else (none))) else (none)) else (none))) else (none)) else (none))) else (none)) else (none))) else (none)) else (none)) else (none)) else (none)) else (none)) else (none))) else (none)) else (none)) else (none))) = some r := H
      have A6 := Aside0.mk A60
      clear A60
      by_cases c7 : x7_1 ≥ t170
      · rw [if_pos c7] at H
        have c7b0 : decide (t170 ≤ x7_1) = true := decide_eq_true c7
        clear c7
        replace H := Option.bind_eq_some_iff.mp H
        obtain ⟨t171, A80, H⟩ := H
        replace H : (postriderref09_Date.l0 k1 t167 t161 t162 (wrap64 (Int.tdiv t167 86400)) t168 (wrap64 (x7_1 - t171)) (wrap64 (x8_1 + 1))) = some r := H
        have A8 := Aside0.mk A80
        clear A80
        have E_ : t170 = t171 := Option.some.inj (A6.out.symm.trans A8.out)
        subst E_
        have H' := Aside0.mk H
        clear H
        go_wp2_with (first | ((with_reducible refine gate_callee (f := 33) rfl ?_); refine goesL_ (some 26) rfl rfl Tryd.func33 (by kernel_rfl) rfl #[.int .i64 t168, .int .i64 x8_1] rfl (by (try simp only [List.map_toArray, List.map_cons, List.map_nil]); first | done | rfl | (simp only [List.length_drop, List.length_take]; rfl)) ?_; (with_reducible refine (postriderref09_length.calls t168 x8_1 t170 _ A6.out).mono ?_); rintro e w' ⟨rfl, ⟨nd, rfl⟩⟩; refine ⟨_, rfl, ?_⟩) | ((with_reducible refine gate_callee (f := 33) rfl ?_); refine goesL_ (some 31) rfl rfl Tryd.func33 (by kernel_rfl) rfl #[.int .i64 t168, .int .i64 x8_1] rfl (by (try simp only [List.map_toArray, List.map_cons, List.map_nil]); first | done | rfl | (simp only [List.length_drop, List.length_take]; rfl)) ?_; (with_reducible refine (postriderref09_length.calls t168 x8_1 t170 _ A8.out).mono ?_); rintro e w' ⟨rfl, ⟨nd, rfl⟩⟩; refine ⟨_, rfl, ?_⟩))
        go_roundg k1
        case measure => have := HK1.out; omega
        case rel => exact ⟨(wrap64 (x7_1 - t170)), (wrap64 (x8_1 + 1)), (by first | rfl | (simp; done) | (simp [*]; done)), (by first | rfl | (simp; done) | (simp [*]; done)), H', ⟨by have := HK1.out; omega⟩, ⟨by (with_reducible repeat (first | apply Kd.R_alloc | apply Kd.R_drewN | apply Kd.R_drew)); exact HO_3.out⟩, ⟨by (with_reducible repeat (first | apply Kd.R_alloc | apply Kd.R_drewN | apply Kd.R_drew)); exact HO_4.out⟩, ⟨by repeat (first | (with_reducible first | exact HB.out | apply below_alloc | apply pw_below_drewN | apply below_drew1) | exact HB.out)⟩⟩
      · rw [if_neg c7] at H
        have c7b0 : decide (t170 ≤ x7_1) = false := decide_eq_false c7
        clear c7
        obtain ⟨ji9, hji9⟩ : ∃ j_ : Int, (Int.tmod (wrap64 ((wrap64 (Int.tdiv t167 86400)) + 4)) 7) = j_ := ⟨_, rfl⟩
        replace H : (if 0 ≤ (ji9) then (if (ji9) < (t161.length : Int) then (if (rdOf ByteArray.empty t161 (ji9)).size + 2 ≤ 9223372036854775807 then ((postriderref09_digits.f k1 (wrap64 (x7_1 + 1)) 2).bind fun t173 => (if ((rdOf ByteArray.empty t161 (ji9)) ++ (⟨#[44, 32]⟩ : ByteArray)).size + t173.size ≤ 9223372036854775807 then (if (((rdOf ByteArray.empty t161 (ji9)) ++ (⟨#[44, 32]⟩ : ByteArray)) ++ t173).size + 1 ≤ 9223372036854775807 then (if 0 ≤ x8_1 then (if x8_1 < (t162.length : Int) then (if ((((rdOf ByteArray.empty t161 (ji9)) ++ (⟨#[44, 32]⟩ : ByteArray)) ++ t173) ++ (⟨#[32]⟩ : ByteArray)).size + (rdOf ByteArray.empty t162 x8_1).size ≤ 9223372036854775807 then (if (((((rdOf ByteArray.empty t161 (ji9)) ++ (⟨#[44, 32]⟩ : ByteArray)) ++ t173) ++ (⟨#[32]⟩ : ByteArray)) ++ (rdOf ByteArray.empty t162 x8_1)).size + 1 ≤ 9223372036854775807 then ((postriderref09_digits.f k1 t168 4).bind fun t175 => (if ((((((rdOf ByteArray.empty t161 (ji9)) ++ (⟨#[44, 32]⟩ : ByteArray)) ++ t173) ++ (⟨#[32]⟩ : ByteArray)) ++ (rdOf ByteArray.empty t162 x8_1)) ++ (⟨#[32]⟩ : ByteArray)).size + t175.size ≤ 9223372036854775807 then (if (((((((rdOf ByteArray.empty t161 (ji9)) ++ (⟨#[44, 32]⟩ : ByteArray)) ++ t173) ++ (⟨#[32]⟩ : ByteArray)) ++ (rdOf ByteArray.empty t162 x8_1)) ++ (⟨#[32]⟩ : ByteArray)) ++ t175).size + 1 ≤ 9223372036854775807 then ((postriderref09_digits.f k1 (wrap64 (Int.tdiv rs_ 3600)) 2).bind fun t176 => (if ((((((((rdOf ByteArray.empty t161 (ji9)) ++ (⟨#[44, 32]⟩ : ByteArray)) ++ t173) ++ (⟨#[32]⟩ : ByteArray)) ++ (rdOf ByteArray.empty t162 x8_1)) ++ (⟨#[32]⟩ : ByteArray)) ++ t175) ++ (⟨#[32]⟩ : ByteArray)).size + t176.size ≤ 9223372036854775807 then (if (((((((((rdOf ByteArray.empty t161 (ji9)) ++ (⟨#[44, 32]⟩ : ByteArray)) ++ t173) ++ (⟨#[32]⟩ : ByteArray)) ++ (rdOf ByteArray.empty t162 x8_1)) ++ (⟨#[32]⟩ : ByteArray)) ++ t175) ++ (⟨#[32]⟩ : ByteArray)) ++ t176).size + 1 ≤ 9223372036854775807 then ((postriderref09_digits.f k1 (Int.tmod (wrap64 (Int.tdiv rs_ 60)) 60) 2).bind fun t177 => (if ((((((((((rdOf ByteArray.empty t161 (ji9)) ++ (⟨#[44, 32]⟩ : ByteArray)) ++ t173) ++ (⟨#[32]⟩ : ByteArray)) ++ (rdOf ByteArray.empty t162 x8_1)) ++ (⟨#[32]⟩ : ByteArray)) ++ t175) ++ (⟨#[32]⟩ : ByteArray)) ++ t176) ++ (⟨#[58]⟩ : ByteArray)).size + t177.size ≤ 9223372036854775807 then (if (((((((((((rdOf ByteArray.empty t161 (ji9)) ++ (⟨#[44, 32]⟩ : ByteArray)) ++ t173) ++ (⟨#[32]⟩ : ByteArray)) ++ (rdOf ByteArray.empty t162 x8_1)) ++ (⟨#[32]⟩ : ByteArray)) ++ t175) ++ (⟨#[32]⟩ : ByteArray)) ++ t176) ++ (⟨#[58]⟩ : ByteArray)) ++ t177).size + 1 ≤ 9223372036854775807 then ((postriderref09_digits.f k1 (Int.tmod rs_ 60) 2).bind fun t178 => (if ((((((((((((rdOf ByteArray.empty t161 (ji9)) ++ (⟨#[44, 32]⟩ : ByteArray)) ++ t173) ++ (⟨#[32]⟩ : ByteArray)) ++ (rdOf ByteArray.empty t162 x8_1)) ++ (⟨#[32]⟩ : ByteArray)) ++ t175) ++ (⟨#[32]⟩ : ByteArray)) ++ t176) ++ (⟨#[58]⟩ : ByteArray)) ++ t177) ++ (⟨#[58]⟩ : ByteArray)).size + t178.size ≤ 9223372036854775807 then (if (((((((((((((rdOf ByteArray.empty t161 (ji9)) ++ (⟨#[44, 32]⟩ : ByteArray)) ++ t173) ++ (⟨#[32]⟩ : ByteArray)) ++ (rdOf ByteArray.empty t162 x8_1)) ++ (⟨#[32]⟩ : ByteArray)) ++ t175) ++ (⟨#[32]⟩ : ByteArray)) ++ t176) ++ (⟨#[58]⟩ : ByteArray)) ++ t177) ++ (⟨#[58]⟩ : ByteArray)) ++ t178).size + 6 ≤ 9223372036854775807 then (some ((((((((((((((rdOf ByteArray.empty t161 (ji9)) ++ (⟨#[44, 32]⟩ : ByteArray)) ++ t173) ++ (⟨#[32]⟩ : ByteArray)) ++ (rdOf ByteArray.empty t162 x8_1)) ++ (⟨#[32]⟩ : ByteArray)) ++ t175) ++ (⟨#[32]⟩ : ByteArray)) ++ t176) ++ (⟨#[58]⟩ : ByteArray)) ++ t177) ++ (⟨#[58]⟩ : ByteArray)) ++ t178) ++ (⟨#[32, 43, 48, 48, 48, 48]⟩ : ByteArray))) else (none)) else (none))) else (none)) else (none))) else (none)) else (none))) else (none)) else (none))) else (none)) else (none)) else (none)) else (none)) else (none)) else (none))) else (none)) else (none)) else (none)) = some r := by first | (rw [hji9] at H; exact H) | (simp only [hji9] at H ⊢; exact H)
        (try rw [hji9] at A6)
        by_cases c10 : 0 ≤ (ji9)
        · rw [if_pos c10] at H
          have c10b0 : decide (0 ≤ (ji9)) = true := decide_eq_true c10
          clear c10
          by_cases c11 : (ji9) < (t161.length : Int)
          · rw [if_pos c11] at H
            have c11b0 : decide ((ji9) < (t161.length : Int)) = true := decide_eq_true c11
            clear c11
            by_cases c12 : (rdOf ByteArray.empty t161 (ji9)).size + 2 ≤ 9223372036854775807
            · rw [if_pos c12] at H
              have c12b0 := eq_true c12
              have c12b1 : decide ((rdOf ByteArray.empty t161 (ji9)).size + 2 ≤ 9223372036854775807) = true := decide_eq_true c12
              try have c12b2 : (9223372036854775807 < (rdOf ByteArray.empty t161 (ji9)).size + 2) = False := eq_false (Nat.not_lt.2 c12)
              replace H := Option.bind_eq_some_iff.mp H
              obtain ⟨t173, A130, H⟩ := H
              replace H : (if ((rdOf ByteArray.empty t161 (ji9)) ++ (⟨#[44, 32]⟩ : ByteArray)).size + t173.size ≤ 9223372036854775807 then (if (((rdOf ByteArray.empty t161 (ji9)) ++ (⟨#[44, 32]⟩ : ByteArray)) ++ t173).size + 1 ≤ 9223372036854775807 then (if 0 ≤ x8_1 then (if x8_1 < (t162.length : Int) then (if ((((rdOf ByteArray.empty t161 (ji9)) ++ (⟨#[44, 32]⟩ : ByteArray)) ++ t173) ++ (⟨#[32]⟩ : ByteArray)).size + (rdOf ByteArray.empty t162 x8_1).size ≤ 9223372036854775807 then (if (((((rdOf ByteArray.empty t161 (ji9)) ++ (⟨#[44, 32]⟩ : ByteArray)) ++ t173) ++ (⟨#[32]⟩ : ByteArray)) ++ (rdOf ByteArray.empty t162 x8_1)).size + 1 ≤ 9223372036854775807 then ((postriderref09_digits.f k1 t168 4).bind fun t175 => (if ((((((rdOf ByteArray.empty t161 (ji9)) ++ (⟨#[44, 32]⟩ : ByteArray)) ++ t173) ++ (⟨#[32]⟩ : ByteArray)) ++ (rdOf ByteArray.empty t162 x8_1)) ++ (⟨#[32]⟩ : ByteArray)).size + t175.size ≤ 9223372036854775807 then (if (((((((rdOf ByteArray.empty t161 (ji9)) ++ (⟨#[44, 32]⟩ : ByteArray)) ++ t173) ++ (⟨#[32]⟩ : ByteArray)) ++ (rdOf ByteArray.empty t162 x8_1)) ++ (⟨#[32]⟩ : ByteArray)) ++ t175).size + 1 ≤ 9223372036854775807 then ((postriderref09_digits.f k1 (wrap64 (Int.tdiv rs_ 3600)) 2).bind fun t176 => (if ((((((((rdOf ByteArray.empty t161 (ji9)) ++ (⟨#[44, 32]⟩ : ByteArray)) ++ t173) ++ (⟨#[32]⟩ : ByteArray)) ++ (rdOf ByteArray.empty t162 x8_1)) ++ (⟨#[32]⟩ : ByteArray)) ++ t175) ++ (⟨#[32]⟩ : ByteArray)).size + t176.size ≤ 9223372036854775807 then (if (((((((((rdOf ByteArray.empty t161 (ji9)) ++ (⟨#[44, 32]⟩ : ByteArray)) ++ t173) ++ (⟨#[32]⟩ : ByteArray)) ++ (rdOf ByteArray.empty t162 x8_1)) ++ (⟨#[32]⟩ : ByteArray)) ++ t175) ++ (⟨#[32]⟩ : ByteArray)) ++ t176).size + 1 ≤ 9223372036854775807 then ((postriderref09_digits.f k1 (Int.tmod (wrap64 (Int.tdiv rs_ 60)) 60) 2).bind fun t177 => (if ((((((((((rdOf ByteArray.empty t161 (ji9)) ++ (⟨#[44, 32]⟩ : ByteArray)) ++ t173) ++ (⟨#[32]⟩ : ByteArray)) ++ (rdOf ByteArray.empty t162 x8_1)) ++ (⟨#[32]⟩ : ByteArray)) ++ t175) ++ (⟨#[32]⟩ : ByteArray)) ++ t176) ++ (⟨#[58]⟩ : ByteArray)).size + t177.size ≤ 9223372036854775807 then (if (((((((((((rdOf ByteArray.empty t161 (ji9)) ++ (⟨#[44, 32]⟩ : ByteArray)) ++ t173) ++ (⟨#[32]⟩ : ByteArray)) ++ (rdOf ByteArray.empty t162 x8_1)) ++ (⟨#[32]⟩ : ByteArray)) ++ t175) ++ (⟨#[32]⟩ : ByteArray)) ++ t176) ++ (⟨#[58]⟩ : ByteArray)) ++ t177).size + 1 ≤ 9223372036854775807 then ((postriderref09_digits.f k1 (Int.tmod rs_ 60) 2).bind fun t178 => (if ((((((((((((rdOf ByteArray.empty t161 (ji9)) ++ (⟨#[44, 32]⟩ : ByteArray)) ++ t173) ++ (⟨#[32]⟩ : ByteArray)) ++ (rdOf ByteArray.empty t162 x8_1)) ++ (⟨#[32]⟩ : ByteArray)) ++ t175) ++ (⟨#[32]⟩ : ByteArray)) ++ t176) ++ (⟨#[58]⟩ : ByteArray)) ++ t177) ++ (⟨#[58]⟩ : ByteArray)).size + t178.size ≤ 9223372036854775807 then (if (((((((((((((rdOf ByteArray.empty t161 (ji9)) ++ (⟨#[44, 32]⟩ : ByteArray)) ++ t173) ++ (⟨#[32]⟩ : ByteArray)) ++ (rdOf ByteArray.empty t162 x8_1)) ++ (⟨#[32]⟩ : ByteArray)) ++ t175) ++ (⟨#[32]⟩ : ByteArray)) ++ t176) ++ (⟨#[58]⟩ : ByteArray)) ++ t177) ++ (⟨#[58]⟩ : ByteArray)) ++ t178).size + 6 ≤ 9223372036854775807 then (some ((((((((((((((rdOf ByteArray.empty t161 (ji9)) ++ (⟨#[44, 32]⟩ : ByteArray)) ++ t173) ++ (⟨#[32]⟩ : ByteArray)) ++ (rdOf ByteArray.empty t162 x8_1)) ++ (⟨#[32]⟩ : ByteArray)) ++ t175) ++ (⟨#[32]⟩ : ByteArray)) ++ t176) ++ (⟨#[58]⟩ : ByteArray)) ++ t177) ++ (⟨#[58]⟩ : ByteArray)) ++ t178) ++ (⟨#[32, 43, 48, 48, 48, 48]⟩ : ByteArray))) else (none)) else (none))) else (none)) else (none))) else (none)) else (none))) else (none)) else (none))) else (none)) else (none)) else (none)) else (none)) else (none)) else (none)) = some r := H
              have A13 := Aside0.mk A130
              clear A130
              by_cases c14 : ((rdOf ByteArray.empty t161 (ji9)) ++ (⟨#[44, 32]⟩ : ByteArray)).size + t173.size ≤ 9223372036854775807
              · rw [if_pos c14] at H
                have c14b0 := eq_true c14
                have c14b1 : decide (((rdOf ByteArray.empty t161 (ji9)) ++ (⟨#[44, 32]⟩ : ByteArray)).size + t173.size ≤ 9223372036854775807) = true := decide_eq_true c14
                try have c14b2 : (9223372036854775807 < ((rdOf ByteArray.empty t161 (ji9)) ++ (⟨#[44, 32]⟩ : ByteArray)).size + t173.size) = False := eq_false (Nat.not_lt.2 c14)
                try (have c14b2y := c14b2; rw [ByteArray.size_append] at c14b2y)
                try have c14b2z : (9223372036854775807 < (rdOf ByteArray.empty t161 (ji9)).size + 2 + t173.size) = False := eq_false (fun h_ => by have g_ := c14; simp only [ByteArray.size_append, show (⟨#[44, 32]⟩ : ByteArray).size = 2 from rfl] at g_; omega)
                by_cases c15 : (((rdOf ByteArray.empty t161 (ji9)) ++ (⟨#[44, 32]⟩ : ByteArray)) ++ t173).size + 1 ≤ 9223372036854775807
                · rw [if_pos c15] at H
                  have c15b0 := eq_true c15
                  have c15b1 : decide ((((rdOf ByteArray.empty t161 (ji9)) ++ (⟨#[44, 32]⟩ : ByteArray)) ++ t173).size + 1 ≤ 9223372036854775807) = true := decide_eq_true c15
                  try have c15b2 : (9223372036854775807 < (((rdOf ByteArray.empty t161 (ji9)) ++ (⟨#[44, 32]⟩ : ByteArray)) ++ t173).size + 1) = False := eq_false (Nat.not_lt.2 c15)
                  try (have c15b2y := c15b2; rw [ByteArray.size_append] at c15b2y)
                  try have c15b2z : (9223372036854775807 < (rdOf ByteArray.empty t161 (ji9)).size + 2 + t173.size + 1) = False := eq_false (fun h_ => by have g_ := c15; simp only [ByteArray.size_append, show (⟨#[44, 32]⟩ : ByteArray).size = 2 from rfl] at g_; omega)
                  by_cases c16 : 0 ≤ x8_1
                  · rw [if_pos c16] at H
                    have c16b0 : decide (0 ≤ x8_1) = true := decide_eq_true c16
                    clear c16
                    by_cases c17 : x8_1 < (t162.length : Int)
                    · rw [if_pos c17] at H
                      have c17b0 : decide (x8_1 < (t162.length : Int)) = true := decide_eq_true c17
                      clear c17
                      by_cases c18 : ((((rdOf ByteArray.empty t161 (ji9)) ++ (⟨#[44, 32]⟩ : ByteArray)) ++ t173) ++ (⟨#[32]⟩ : ByteArray)).size + (rdOf ByteArray.empty t162 x8_1).size ≤ 9223372036854775807
                      · rw [if_pos c18] at H
                        have c18b0 := eq_true c18
                        have c18b1 : decide (((((rdOf ByteArray.empty t161 (ji9)) ++ (⟨#[44, 32]⟩ : ByteArray)) ++ t173) ++ (⟨#[32]⟩ : ByteArray)).size + (rdOf ByteArray.empty t162 x8_1).size ≤ 9223372036854775807) = true := decide_eq_true c18
                        try have c18b2 : (9223372036854775807 < ((((rdOf ByteArray.empty t161 (ji9)) ++ (⟨#[44, 32]⟩ : ByteArray)) ++ t173) ++ (⟨#[32]⟩ : ByteArray)).size + (rdOf ByteArray.empty t162 x8_1).size) = False := eq_false (Nat.not_lt.2 c18)
                        try (have c18b2y := c18b2; rw [ByteArray.size_append] at c18b2y)
                        try have c18b2z : (9223372036854775807 < (rdOf ByteArray.empty t161 (ji9)).size + 2 + t173.size + 1 + (rdOf ByteArray.empty t162 x8_1).size) = False := eq_false (fun h_ => by have g_ := c18; simp only [ByteArray.size_append, show (⟨#[32]⟩ : ByteArray).size = 1 from rfl, show (⟨#[44, 32]⟩ : ByteArray).size = 2 from rfl] at g_; omega)
                        by_cases c19 : (((((rdOf ByteArray.empty t161 (ji9)) ++ (⟨#[44, 32]⟩ : ByteArray)) ++ t173) ++ (⟨#[32]⟩ : ByteArray)) ++ (rdOf ByteArray.empty t162 x8_1)).size + 1 ≤ 9223372036854775807
                        · rw [if_pos c19] at H
                          have c19b0 := eq_true c19
                          have c19b1 : decide ((((((rdOf ByteArray.empty t161 (ji9)) ++ (⟨#[44, 32]⟩ : ByteArray)) ++ t173) ++ (⟨#[32]⟩ : ByteArray)) ++ (rdOf ByteArray.empty t162 x8_1)).size + 1 ≤ 9223372036854775807) = true := decide_eq_true c19
                          try have c19b2 : (9223372036854775807 < (((((rdOf ByteArray.empty t161 (ji9)) ++ (⟨#[44, 32]⟩ : ByteArray)) ++ t173) ++ (⟨#[32]⟩ : ByteArray)) ++ (rdOf ByteArray.empty t162 x8_1)).size + 1) = False := eq_false (Nat.not_lt.2 c19)
                          try (have c19b2y := c19b2; rw [ByteArray.size_append] at c19b2y)
                          try have c19b2z : (9223372036854775807 < (rdOf ByteArray.empty t161 (ji9)).size + 2 + t173.size + 1 + (rdOf ByteArray.empty t162 x8_1).size + 1) = False := eq_false (fun h_ => by have g_ := c19; simp only [ByteArray.size_append, show (⟨#[32]⟩ : ByteArray).size = 1 from rfl, show (⟨#[44, 32]⟩ : ByteArray).size = 2 from rfl] at g_; omega)
                          replace H := Option.bind_eq_some_iff.mp H
                          obtain ⟨t175, A200, H⟩ := H
                          replace H : (if ((((((rdOf ByteArray.empty t161 (ji9)) ++ (⟨#[44, 32]⟩ : ByteArray)) ++ t173) ++ (⟨#[32]⟩ : ByteArray)) ++ (rdOf ByteArray.empty t162 x8_1)) ++ (⟨#[32]⟩ : ByteArray)).size + t175.size ≤ 9223372036854775807 then (if (((((((rdOf ByteArray.empty t161 (ji9)) ++ (⟨#[44, 32]⟩ : ByteArray)) ++ t173) ++ (⟨#[32]⟩ : ByteArray)) ++ (rdOf ByteArray.empty t162 x8_1)) ++ (⟨#[32]⟩ : ByteArray)) ++ t175).size + 1 ≤ 9223372036854775807 then ((postriderref09_digits.f k1 (wrap64 (Int.tdiv rs_ 3600)) 2).bind fun t176 => (if ((((((((rdOf ByteArray.empty t161 (ji9)) ++ (⟨#[44, 32]⟩ : ByteArray)) ++ t173) ++ (⟨#[32]⟩ : ByteArray)) ++ (rdOf ByteArray.empty t162 x8_1)) ++ (⟨#[32]⟩ : ByteArray)) ++ t175) ++ (⟨#[32]⟩ : ByteArray)).size + t176.size ≤ 9223372036854775807 then (if (((((((((rdOf ByteArray.empty t161 (ji9)) ++ (⟨#[44, 32]⟩ : ByteArray)) ++ t173) ++ (⟨#[32]⟩ : ByteArray)) ++ (rdOf ByteArray.empty t162 x8_1)) ++ (⟨#[32]⟩ : ByteArray)) ++ t175) ++ (⟨#[32]⟩ : ByteArray)) ++ t176).size + 1 ≤ 9223372036854775807 then ((postriderref09_digits.f k1 (Int.tmod (wrap64 (Int.tdiv rs_ 60)) 60) 2).bind fun t177 => (if ((((((((((rdOf ByteArray.empty t161 (ji9)) ++ (⟨#[44, 32]⟩ : ByteArray)) ++ t173) ++ (⟨#[32]⟩ : ByteArray)) ++ (rdOf ByteArray.empty t162 x8_1)) ++ (⟨#[32]⟩ : ByteArray)) ++ t175) ++ (⟨#[32]⟩ : ByteArray)) ++ t176) ++ (⟨#[58]⟩ : ByteArray)).size + t177.size ≤ 9223372036854775807 then (if (((((((((((rdOf ByteArray.empty t161 (ji9)) ++ (⟨#[44, 32]⟩ : ByteArray)) ++ t173) ++ (⟨#[32]⟩ : ByteArray)) ++ (rdOf ByteArray.empty t162 x8_1)) ++ (⟨#[32]⟩ : ByteArray)) ++ t175) ++ (⟨#[32]⟩ : ByteArray)) ++ t176) ++ (⟨#[58]⟩ : ByteArray)) ++ t177).size + 1 ≤ 9223372036854775807 then ((postriderref09_digits.f k1 (Int.tmod rs_ 60) 2).bind fun t178 => (if ((((((((((((rdOf ByteArray.empty t161 (ji9)) ++ (⟨#[44, 32]⟩ : ByteArray)) ++ t173) ++ (⟨#[32]⟩ : ByteArray)) ++ (rdOf ByteArray.empty t162 x8_1)) ++ (⟨#[32]⟩ : ByteArray)) ++ t175) ++ (⟨#[32]⟩ : ByteArray)) ++ t176) ++ (⟨#[58]⟩ : ByteArray)) ++ t177) ++ (⟨#[58]⟩ : ByteArray)).size + t178.size ≤ 9223372036854775807 then (if (((((((((((((rdOf ByteArray.empty t161 (ji9)) ++ (⟨#[44, 32]⟩ : ByteArray)) ++ t173) ++ (⟨#[32]⟩ : ByteArray)) ++ (rdOf ByteArray.empty t162 x8_1)) ++ (⟨#[32]⟩ : ByteArray)) ++ t175) ++ (⟨#[32]⟩ : ByteArray)) ++ t176) ++ (⟨#[58]⟩ : ByteArray)) ++ t177) ++ (⟨#[58]⟩ : ByteArray)) ++ t178).size + 6 ≤ 9223372036854775807 then (some ((((((((((((((rdOf ByteArray.empty t161 (ji9)) ++ (⟨#[44, 32]⟩ : ByteArray)) ++ t173) ++ (⟨#[32]⟩ : ByteArray)) ++ (rdOf ByteArray.empty t162 x8_1)) ++ (⟨#[32]⟩ : ByteArray)) ++ t175) ++ (⟨#[32]⟩ : ByteArray)) ++ t176) ++ (⟨#[58]⟩ : ByteArray)) ++ t177) ++ (⟨#[58]⟩ : ByteArray)) ++ t178) ++ (⟨#[32, 43, 48, 48, 48, 48]⟩ : ByteArray))) else (none)) else (none))) else (none)) else (none))) else (none)) else (none))) else (none)) else (none)) = some r := H
                          have A20 := Aside0.mk A200
                          clear A200
                          by_cases c21 : ((((((rdOf ByteArray.empty t161 (ji9)) ++ (⟨#[44, 32]⟩ : ByteArray)) ++ t173) ++ (⟨#[32]⟩ : ByteArray)) ++ (rdOf ByteArray.empty t162 x8_1)) ++ (⟨#[32]⟩ : ByteArray)).size + t175.size ≤ 9223372036854775807
                          · rw [if_pos c21] at H
                            have c21b0 := eq_true c21
                            have c21b1 : decide (((((((rdOf ByteArray.empty t161 (ji9)) ++ (⟨#[44, 32]⟩ : ByteArray)) ++ t173) ++ (⟨#[32]⟩ : ByteArray)) ++ (rdOf ByteArray.empty t162 x8_1)) ++ (⟨#[32]⟩ : ByteArray)).size + t175.size ≤ 9223372036854775807) = true := decide_eq_true c21
                            try have c21b2 : (9223372036854775807 < ((((((rdOf ByteArray.empty t161 (ji9)) ++ (⟨#[44, 32]⟩ : ByteArray)) ++ t173) ++ (⟨#[32]⟩ : ByteArray)) ++ (rdOf ByteArray.empty t162 x8_1)) ++ (⟨#[32]⟩ : ByteArray)).size + t175.size) = False := eq_false (Nat.not_lt.2 c21)
                            try (have c21b2y := c21b2; rw [ByteArray.size_append] at c21b2y)
                            try have c21b2z : (9223372036854775807 < (rdOf ByteArray.empty t161 (ji9)).size + 2 + t173.size + 1 + (rdOf ByteArray.empty t162 x8_1).size + 1 + t175.size) = False := eq_false (fun h_ => by have g_ := c21; simp only [ByteArray.size_append, show (⟨#[32]⟩ : ByteArray).size = 1 from rfl, show (⟨#[44, 32]⟩ : ByteArray).size = 2 from rfl] at g_; omega)
                            by_cases c22 : (((((((rdOf ByteArray.empty t161 (ji9)) ++ (⟨#[44, 32]⟩ : ByteArray)) ++ t173) ++ (⟨#[32]⟩ : ByteArray)) ++ (rdOf ByteArray.empty t162 x8_1)) ++ (⟨#[32]⟩ : ByteArray)) ++ t175).size + 1 ≤ 9223372036854775807
                            · rw [if_pos c22] at H
                              have c22b0 := eq_true c22
                              have c22b1 : decide ((((((((rdOf ByteArray.empty t161 (ji9)) ++ (⟨#[44, 32]⟩ : ByteArray)) ++ t173) ++ (⟨#[32]⟩ : ByteArray)) ++ (rdOf ByteArray.empty t162 x8_1)) ++ (⟨#[32]⟩ : ByteArray)) ++ t175).size + 1 ≤ 9223372036854775807) = true := decide_eq_true c22
                              try have c22b2 : (9223372036854775807 < (((((((rdOf ByteArray.empty t161 (ji9)) ++ (⟨#[44, 32]⟩ : ByteArray)) ++ t173) ++ (⟨#[32]⟩ : ByteArray)) ++ (rdOf ByteArray.empty t162 x8_1)) ++ (⟨#[32]⟩ : ByteArray)) ++ t175).size + 1) = False := eq_false (Nat.not_lt.2 c22)
                              try (have c22b2y := c22b2; rw [ByteArray.size_append] at c22b2y)
                              try have c22b2z : (9223372036854775807 < (rdOf ByteArray.empty t161 (ji9)).size + 2 + t173.size + 1 + (rdOf ByteArray.empty t162 x8_1).size + 1 + t175.size + 1) = False := eq_false (fun h_ => by have g_ := c22; simp only [ByteArray.size_append, show (⟨#[32]⟩ : ByteArray).size = 1 from rfl, show (⟨#[44, 32]⟩ : ByteArray).size = 2 from rfl] at g_; omega)
                              replace H := Option.bind_eq_some_iff.mp H
                              obtain ⟨t176, A230, H⟩ := H
                              replace H : (if ((((((((rdOf ByteArray.empty t161 (ji9)) ++ (⟨#[44, 32]⟩ : ByteArray)) ++ t173) ++ (⟨#[32]⟩ : ByteArray)) ++ (rdOf ByteArray.empty t162 x8_1)) ++ (⟨#[32]⟩ : ByteArray)) ++ t175) ++ (⟨#[32]⟩ : ByteArray)).size + t176.size ≤ 9223372036854775807 then (if (((((((((rdOf ByteArray.empty t161 (ji9)) ++ (⟨#[44, 32]⟩ : ByteArray)) ++ t173) ++ (⟨#[32]⟩ : ByteArray)) ++ (rdOf ByteArray.empty t162 x8_1)) ++ (⟨#[32]⟩ : ByteArray)) ++ t175) ++ (⟨#[32]⟩ : ByteArray)) ++ t176).size + 1 ≤ 9223372036854775807 then ((postriderref09_digits.f k1 (Int.tmod (wrap64 (Int.tdiv rs_ 60)) 60) 2).bind fun t177 => (if ((((((((((rdOf ByteArray.empty t161 (ji9)) ++ (⟨#[44, 32]⟩ : ByteArray)) ++ t173) ++ (⟨#[32]⟩ : ByteArray)) ++ (rdOf ByteArray.empty t162 x8_1)) ++ (⟨#[32]⟩ : ByteArray)) ++ t175) ++ (⟨#[32]⟩ : ByteArray)) ++ t176) ++ (⟨#[58]⟩ : ByteArray)).size + t177.size ≤ 9223372036854775807 then (if (((((((((((rdOf ByteArray.empty t161 (ji9)) ++ (⟨#[44, 32]⟩ : ByteArray)) ++ t173) ++ (⟨#[32]⟩ : ByteArray)) ++ (rdOf ByteArray.empty t162 x8_1)) ++ (⟨#[32]⟩ : ByteArray)) ++ t175) ++ (⟨#[32]⟩ : ByteArray)) ++ t176) ++ (⟨#[58]⟩ : ByteArray)) ++ t177).size + 1 ≤ 9223372036854775807 then ((postriderref09_digits.f k1 (Int.tmod rs_ 60) 2).bind fun t178 => (if ((((((((((((rdOf ByteArray.empty t161 (ji9)) ++ (⟨#[44, 32]⟩ : ByteArray)) ++ t173) ++ (⟨#[32]⟩ : ByteArray)) ++ (rdOf ByteArray.empty t162 x8_1)) ++ (⟨#[32]⟩ : ByteArray)) ++ t175) ++ (⟨#[32]⟩ : ByteArray)) ++ t176) ++ (⟨#[58]⟩ : ByteArray)) ++ t177) ++ (⟨#[58]⟩ : ByteArray)).size + t178.size ≤ 9223372036854775807 then (if (((((((((((((rdOf ByteArray.empty t161 (ji9)) ++ (⟨#[44, 32]⟩ : ByteArray)) ++ t173) ++ (⟨#[32]⟩ : ByteArray)) ++ (rdOf ByteArray.empty t162 x8_1)) ++ (⟨#[32]⟩ : ByteArray)) ++ t175) ++ (⟨#[32]⟩ : ByteArray)) ++ t176) ++ (⟨#[58]⟩ : ByteArray)) ++ t177) ++ (⟨#[58]⟩ : ByteArray)) ++ t178).size + 6 ≤ 9223372036854775807 then (some ((((((((((((((rdOf ByteArray.empty t161 (ji9)) ++ (⟨#[44, 32]⟩ : ByteArray)) ++ t173) ++ (⟨#[32]⟩ : ByteArray)) ++ (rdOf ByteArray.empty t162 x8_1)) ++ (⟨#[32]⟩ : ByteArray)) ++ t175) ++ (⟨#[32]⟩ : ByteArray)) ++ t176) ++ (⟨#[58]⟩ : ByteArray)) ++ t177) ++ (⟨#[58]⟩ : ByteArray)) ++ t178) ++ (⟨#[32, 43, 48, 48, 48, 48]⟩ : ByteArray))) else (none)) else (none))) else (none)) else (none))) else (none)) else (none)) = some r := H
                              have A23 := Aside0.mk A230
                              clear A230
                              by_cases c24 : ((((((((rdOf ByteArray.empty t161 (ji9)) ++ (⟨#[44, 32]⟩ : ByteArray)) ++ t173) ++ (⟨#[32]⟩ : ByteArray)) ++ (rdOf ByteArray.empty t162 x8_1)) ++ (⟨#[32]⟩ : ByteArray)) ++ t175) ++ (⟨#[32]⟩ : ByteArray)).size + t176.size ≤ 9223372036854775807
                              · rw [if_pos c24] at H
                                have c24b0 := eq_true c24
                                have c24b1 : decide (((((((((rdOf ByteArray.empty t161 (ji9)) ++ (⟨#[44, 32]⟩ : ByteArray)) ++ t173) ++ (⟨#[32]⟩ : ByteArray)) ++ (rdOf ByteArray.empty t162 x8_1)) ++ (⟨#[32]⟩ : ByteArray)) ++ t175) ++ (⟨#[32]⟩ : ByteArray)).size + t176.size ≤ 9223372036854775807) = true := decide_eq_true c24
                                try have c24b2 : (9223372036854775807 < ((((((((rdOf ByteArray.empty t161 (ji9)) ++ (⟨#[44, 32]⟩ : ByteArray)) ++ t173) ++ (⟨#[32]⟩ : ByteArray)) ++ (rdOf ByteArray.empty t162 x8_1)) ++ (⟨#[32]⟩ : ByteArray)) ++ t175) ++ (⟨#[32]⟩ : ByteArray)).size + t176.size) = False := eq_false (Nat.not_lt.2 c24)
                                try (have c24b2y := c24b2; rw [ByteArray.size_append] at c24b2y)
                                try have c24b2z : (9223372036854775807 < (rdOf ByteArray.empty t161 (ji9)).size + 2 + t173.size + 1 + (rdOf ByteArray.empty t162 x8_1).size + 1 + t175.size + 1 + t176.size) = False := eq_false (fun h_ => by have g_ := c24; simp only [ByteArray.size_append, show (⟨#[32]⟩ : ByteArray).size = 1 from rfl, show (⟨#[44, 32]⟩ : ByteArray).size = 2 from rfl] at g_; omega)
                                by_cases c25 : (((((((((rdOf ByteArray.empty t161 (ji9)) ++ (⟨#[44, 32]⟩ : ByteArray)) ++ t173) ++ (⟨#[32]⟩ : ByteArray)) ++ (rdOf ByteArray.empty t162 x8_1)) ++ (⟨#[32]⟩ : ByteArray)) ++ t175) ++ (⟨#[32]⟩ : ByteArray)) ++ t176).size + 1 ≤ 9223372036854775807
                                · rw [if_pos c25] at H
                                  have c25b0 := eq_true c25
                                  have c25b1 : decide ((((((((((rdOf ByteArray.empty t161 (ji9)) ++ (⟨#[44, 32]⟩ : ByteArray)) ++ t173) ++ (⟨#[32]⟩ : ByteArray)) ++ (rdOf ByteArray.empty t162 x8_1)) ++ (⟨#[32]⟩ : ByteArray)) ++ t175) ++ (⟨#[32]⟩ : ByteArray)) ++ t176).size + 1 ≤ 9223372036854775807) = true := decide_eq_true c25
                                  try have c25b2 : (9223372036854775807 < (((((((((rdOf ByteArray.empty t161 (ji9)) ++ (⟨#[44, 32]⟩ : ByteArray)) ++ t173) ++ (⟨#[32]⟩ : ByteArray)) ++ (rdOf ByteArray.empty t162 x8_1)) ++ (⟨#[32]⟩ : ByteArray)) ++ t175) ++ (⟨#[32]⟩ : ByteArray)) ++ t176).size + 1) = False := eq_false (Nat.not_lt.2 c25)
                                  try (have c25b2y := c25b2; rw [ByteArray.size_append] at c25b2y)
                                  try have c25b2z : (9223372036854775807 < (rdOf ByteArray.empty t161 (ji9)).size + 2 + t173.size + 1 + (rdOf ByteArray.empty t162 x8_1).size + 1 + t175.size + 1 + t176.size + 1) = False := eq_false (fun h_ => by have g_ := c25; simp only [ByteArray.size_append, show (⟨#[32]⟩ : ByteArray).size = 1 from rfl, show (⟨#[44, 32]⟩ : ByteArray).size = 2 from rfl] at g_; omega)
                                  replace H := Option.bind_eq_some_iff.mp H
                                  obtain ⟨t177, A260, H⟩ := H
                                  replace H : (if ((((((((((rdOf ByteArray.empty t161 (ji9)) ++ (⟨#[44, 32]⟩ : ByteArray)) ++ t173) ++ (⟨#[32]⟩ : ByteArray)) ++ (rdOf ByteArray.empty t162 x8_1)) ++ (⟨#[32]⟩ : ByteArray)) ++ t175) ++ (⟨#[32]⟩ : ByteArray)) ++ t176) ++ (⟨#[58]⟩ : ByteArray)).size + t177.size ≤ 9223372036854775807 then (if (((((((((((rdOf ByteArray.empty t161 (ji9)) ++ (⟨#[44, 32]⟩ : ByteArray)) ++ t173) ++ (⟨#[32]⟩ : ByteArray)) ++ (rdOf ByteArray.empty t162 x8_1)) ++ (⟨#[32]⟩ : ByteArray)) ++ t175) ++ (⟨#[32]⟩ : ByteArray)) ++ t176) ++ (⟨#[58]⟩ : ByteArray)) ++ t177).size + 1 ≤ 9223372036854775807 then ((postriderref09_digits.f k1 (Int.tmod rs_ 60) 2).bind fun t178 => (if ((((((((((((rdOf ByteArray.empty t161 (ji9)) ++ (⟨#[44, 32]⟩ : ByteArray)) ++ t173) ++ (⟨#[32]⟩ : ByteArray)) ++ (rdOf ByteArray.empty t162 x8_1)) ++ (⟨#[32]⟩ : ByteArray)) ++ t175) ++ (⟨#[32]⟩ : ByteArray)) ++ t176) ++ (⟨#[58]⟩ : ByteArray)) ++ t177) ++ (⟨#[58]⟩ : ByteArray)).size + t178.size ≤ 9223372036854775807 then (if (((((((((((((rdOf ByteArray.empty t161 (ji9)) ++ (⟨#[44, 32]⟩ : ByteArray)) ++ t173) ++ (⟨#[32]⟩ : ByteArray)) ++ (rdOf ByteArray.empty t162 x8_1)) ++ (⟨#[32]⟩ : ByteArray)) ++ t175) ++ (⟨#[32]⟩ : ByteArray)) ++ t176) ++ (⟨#[58]⟩ : ByteArray)) ++ t177) ++ (⟨#[58]⟩ : ByteArray)) ++ t178).size + 6 ≤ 9223372036854775807 then (some ((((((((((((((rdOf ByteArray.empty t161 (ji9)) ++ (⟨#[44, 32]⟩ : ByteArray)) ++ t173) ++ (⟨#[32]⟩ : ByteArray)) ++ (rdOf ByteArray.empty t162 x8_1)) ++ (⟨#[32]⟩ : ByteArray)) ++ t175) ++ (⟨#[32]⟩ : ByteArray)) ++ t176) ++ (⟨#[58]⟩ : ByteArray)) ++ t177) ++ (⟨#[58]⟩ : ByteArray)) ++ t178) ++ (⟨#[32, 43, 48, 48, 48, 48]⟩ : ByteArray))) else (none)) else (none))) else (none)) else (none)) = some r := H
                                  have A26 := Aside0.mk A260
                                  clear A260
                                  by_cases c27 : ((((((((((rdOf ByteArray.empty t161 (ji9)) ++ (⟨#[44, 32]⟩ : ByteArray)) ++ t173) ++ (⟨#[32]⟩ : ByteArray)) ++ (rdOf ByteArray.empty t162 x8_1)) ++ (⟨#[32]⟩ : ByteArray)) ++ t175) ++ (⟨#[32]⟩ : ByteArray)) ++ t176) ++ (⟨#[58]⟩ : ByteArray)).size + t177.size ≤ 9223372036854775807
                                  · rw [if_pos c27] at H
                                    have c27b0 := eq_true c27
                                    have c27b1 : decide (((((((((((rdOf ByteArray.empty t161 (ji9)) ++ (⟨#[44, 32]⟩ : ByteArray)) ++ t173) ++ (⟨#[32]⟩ : ByteArray)) ++ (rdOf ByteArray.empty t162 x8_1)) ++ (⟨#[32]⟩ : ByteArray)) ++ t175) ++ (⟨#[32]⟩ : ByteArray)) ++ t176) ++ (⟨#[58]⟩ : ByteArray)).size + t177.size ≤ 9223372036854775807) = true := decide_eq_true c27
                                    try have c27b2 : (9223372036854775807 < ((((((((((rdOf ByteArray.empty t161 (ji9)) ++ (⟨#[44, 32]⟩ : ByteArray)) ++ t173) ++ (⟨#[32]⟩ : ByteArray)) ++ (rdOf ByteArray.empty t162 x8_1)) ++ (⟨#[32]⟩ : ByteArray)) ++ t175) ++ (⟨#[32]⟩ : ByteArray)) ++ t176) ++ (⟨#[58]⟩ : ByteArray)).size + t177.size) = False := eq_false (Nat.not_lt.2 c27)
                                    try (have c27b2y := c27b2; rw [ByteArray.size_append] at c27b2y)
                                    try have c27b2z : (9223372036854775807 < (rdOf ByteArray.empty t161 (ji9)).size + 2 + t173.size + 1 + (rdOf ByteArray.empty t162 x8_1).size + 1 + t175.size + 1 + t176.size + 1 + t177.size) = False := eq_false (fun h_ => by have g_ := c27; simp only [ByteArray.size_append, show (⟨#[32]⟩ : ByteArray).size = 1 from rfl, show (⟨#[44, 32]⟩ : ByteArray).size = 2 from rfl, show (⟨#[58]⟩ : ByteArray).size = 1 from rfl] at g_; omega)
                                    by_cases c28 : (((((((((((rdOf ByteArray.empty t161 (ji9)) ++ (⟨#[44, 32]⟩ : ByteArray)) ++ t173) ++ (⟨#[32]⟩ : ByteArray)) ++ (rdOf ByteArray.empty t162 x8_1)) ++ (⟨#[32]⟩ : ByteArray)) ++ t175) ++ (⟨#[32]⟩ : ByteArray)) ++ t176) ++ (⟨#[58]⟩ : ByteArray)) ++ t177).size + 1 ≤ 9223372036854775807
                                    · rw [if_pos c28] at H
                                      have c28b0 := eq_true c28
                                      have c28b1 : decide ((((((((((((rdOf ByteArray.empty t161 (ji9)) ++ (⟨#[44, 32]⟩ : ByteArray)) ++ t173) ++ (⟨#[32]⟩ : ByteArray)) ++ (rdOf ByteArray.empty t162 x8_1)) ++ (⟨#[32]⟩ : ByteArray)) ++ t175) ++ (⟨#[32]⟩ : ByteArray)) ++ t176) ++ (⟨#[58]⟩ : ByteArray)) ++ t177).size + 1 ≤ 9223372036854775807) = true := decide_eq_true c28
                                      try have c28b2 : (9223372036854775807 < (((((((((((rdOf ByteArray.empty t161 (ji9)) ++ (⟨#[44, 32]⟩ : ByteArray)) ++ t173) ++ (⟨#[32]⟩ : ByteArray)) ++ (rdOf ByteArray.empty t162 x8_1)) ++ (⟨#[32]⟩ : ByteArray)) ++ t175) ++ (⟨#[32]⟩ : ByteArray)) ++ t176) ++ (⟨#[58]⟩ : ByteArray)) ++ t177).size + 1) = False := eq_false (Nat.not_lt.2 c28)
                                      try (have c28b2y := c28b2; rw [ByteArray.size_append] at c28b2y)
                                      try have c28b2z : (9223372036854775807 < (rdOf ByteArray.empty t161 (ji9)).size + 2 + t173.size + 1 + (rdOf ByteArray.empty t162 x8_1).size + 1 + t175.size + 1 + t176.size + 1 + t177.size + 1) = False := eq_false (fun h_ => by have g_ := c28; simp only [ByteArray.size_append, show (⟨#[32]⟩ : ByteArray).size = 1 from rfl, show (⟨#[44, 32]⟩ : ByteArray).size = 2 from rfl, show (⟨#[58]⟩ : ByteArray).size = 1 from rfl] at g_; omega)
                                      replace H := Option.bind_eq_some_iff.mp H
                                      obtain ⟨t178, A290, H⟩ := H
                                      replace H : (if ((((((((((((rdOf ByteArray.empty t161 (ji9)) ++ (⟨#[44, 32]⟩ : ByteArray)) ++ t173) ++ (⟨#[32]⟩ : ByteArray)) ++ (rdOf ByteArray.empty t162 x8_1)) ++ (⟨#[32]⟩ : ByteArray)) ++ t175) ++ (⟨#[32]⟩ : ByteArray)) ++ t176) ++ (⟨#[58]⟩ : ByteArray)) ++ t177) ++ (⟨#[58]⟩ : ByteArray)).size + t178.size ≤ 9223372036854775807 then (if (((((((((((((rdOf ByteArray.empty t161 (ji9)) ++ (⟨#[44, 32]⟩ : ByteArray)) ++ t173) ++ (⟨#[32]⟩ : ByteArray)) ++ (rdOf ByteArray.empty t162 x8_1)) ++ (⟨#[32]⟩ : ByteArray)) ++ t175) ++ (⟨#[32]⟩ : ByteArray)) ++ t176) ++ (⟨#[58]⟩ : ByteArray)) ++ t177) ++ (⟨#[58]⟩ : ByteArray)) ++ t178).size + 6 ≤ 9223372036854775807 then (some ((((((((((((((rdOf ByteArray.empty t161 (ji9)) ++ (⟨#[44, 32]⟩ : ByteArray)) ++ t173) ++ (⟨#[32]⟩ : ByteArray)) ++ (rdOf ByteArray.empty t162 x8_1)) ++ (⟨#[32]⟩ : ByteArray)) ++ t175) ++ (⟨#[32]⟩ : ByteArray)) ++ t176) ++ (⟨#[58]⟩ : ByteArray)) ++ t177) ++ (⟨#[58]⟩ : ByteArray)) ++ t178) ++ (⟨#[32, 43, 48, 48, 48, 48]⟩ : ByteArray))) else (none)) else (none)) = some r := H
                                      have A29 := Aside0.mk A290
                                      clear A290
                                      by_cases c30 : ((((((((((((rdOf ByteArray.empty t161 (ji9)) ++ (⟨#[44, 32]⟩ : ByteArray)) ++ t173) ++ (⟨#[32]⟩ : ByteArray)) ++ (rdOf ByteArray.empty t162 x8_1)) ++ (⟨#[32]⟩ : ByteArray)) ++ t175) ++ (⟨#[32]⟩ : ByteArray)) ++ t176) ++ (⟨#[58]⟩ : ByteArray)) ++ t177) ++ (⟨#[58]⟩ : ByteArray)).size + t178.size ≤ 9223372036854775807
                                      · rw [if_pos c30] at H
                                        have c30b0 := eq_true c30
                                        have c30b1 : decide (((((((((((((rdOf ByteArray.empty t161 (ji9)) ++ (⟨#[44, 32]⟩ : ByteArray)) ++ t173) ++ (⟨#[32]⟩ : ByteArray)) ++ (rdOf ByteArray.empty t162 x8_1)) ++ (⟨#[32]⟩ : ByteArray)) ++ t175) ++ (⟨#[32]⟩ : ByteArray)) ++ t176) ++ (⟨#[58]⟩ : ByteArray)) ++ t177) ++ (⟨#[58]⟩ : ByteArray)).size + t178.size ≤ 9223372036854775807) = true := decide_eq_true c30
                                        try have c30b2 : (9223372036854775807 < ((((((((((((rdOf ByteArray.empty t161 (ji9)) ++ (⟨#[44, 32]⟩ : ByteArray)) ++ t173) ++ (⟨#[32]⟩ : ByteArray)) ++ (rdOf ByteArray.empty t162 x8_1)) ++ (⟨#[32]⟩ : ByteArray)) ++ t175) ++ (⟨#[32]⟩ : ByteArray)) ++ t176) ++ (⟨#[58]⟩ : ByteArray)) ++ t177) ++ (⟨#[58]⟩ : ByteArray)).size + t178.size) = False := eq_false (Nat.not_lt.2 c30)
                                        try (have c30b2y := c30b2; rw [ByteArray.size_append] at c30b2y)
                                        try have c30b2z : (9223372036854775807 < (rdOf ByteArray.empty t161 (ji9)).size + 2 + t173.size + 1 + (rdOf ByteArray.empty t162 x8_1).size + 1 + t175.size + 1 + t176.size + 1 + t177.size + 1 + t178.size) = False := eq_false (fun h_ => by have g_ := c30; simp only [ByteArray.size_append, show (⟨#[32]⟩ : ByteArray).size = 1 from rfl, show (⟨#[44, 32]⟩ : ByteArray).size = 2 from rfl, show (⟨#[58]⟩ : ByteArray).size = 1 from rfl] at g_; omega)
                                        by_cases c31 : (((((((((((((rdOf ByteArray.empty t161 (ji9)) ++ (⟨#[44, 32]⟩ : ByteArray)) ++ t173) ++ (⟨#[32]⟩ : ByteArray)) ++ (rdOf ByteArray.empty t162 x8_1)) ++ (⟨#[32]⟩ : ByteArray)) ++ t175) ++ (⟨#[32]⟩ : ByteArray)) ++ t176) ++ (⟨#[58]⟩ : ByteArray)) ++ t177) ++ (⟨#[58]⟩ : ByteArray)) ++ t178).size + 6 ≤ 9223372036854775807
                                        · rw [if_pos c31] at H
                                          have c31b0 := eq_true c31
                                          have c31b1 : decide ((((((((((((((rdOf ByteArray.empty t161 (ji9)) ++ (⟨#[44, 32]⟩ : ByteArray)) ++ t173) ++ (⟨#[32]⟩ : ByteArray)) ++ (rdOf ByteArray.empty t162 x8_1)) ++ (⟨#[32]⟩ : ByteArray)) ++ t175) ++ (⟨#[32]⟩ : ByteArray)) ++ t176) ++ (⟨#[58]⟩ : ByteArray)) ++ t177) ++ (⟨#[58]⟩ : ByteArray)) ++ t178).size + 6 ≤ 9223372036854775807) = true := decide_eq_true c31
                                          try have c31b2 : (9223372036854775807 < (((((((((((((rdOf ByteArray.empty t161 (ji9)) ++ (⟨#[44, 32]⟩ : ByteArray)) ++ t173) ++ (⟨#[32]⟩ : ByteArray)) ++ (rdOf ByteArray.empty t162 x8_1)) ++ (⟨#[32]⟩ : ByteArray)) ++ t175) ++ (⟨#[32]⟩ : ByteArray)) ++ t176) ++ (⟨#[58]⟩ : ByteArray)) ++ t177) ++ (⟨#[58]⟩ : ByteArray)) ++ t178).size + 6) = False := eq_false (Nat.not_lt.2 c31)
                                          try (have c31b2y := c31b2; rw [ByteArray.size_append] at c31b2y)
                                          try have c31b2z : (9223372036854775807 < (rdOf ByteArray.empty t161 (ji9)).size + 2 + t173.size + 1 + (rdOf ByteArray.empty t162 x8_1).size + 1 + t175.size + 1 + t176.size + 1 + t177.size + 1 + t178.size + 6) = False := eq_false (fun h_ => by have g_ := c31; simp only [ByteArray.size_append, show (⟨#[32]⟩ : ByteArray).size = 1 from rfl, show (⟨#[44, 32]⟩ : ByteArray).size = 2 from rfl, show (⟨#[58]⟩ : ByteArray).size = 1 from rfl] at g_; omega)
                                          obtain rfl := Option.some.inj H
                                          try go_wp2_with (first | ((with_reducible refine gate_callee (f := 33) rfl ?_); refine goesL_ (some 26) rfl rfl Tryd.func33 (by kernel_rfl) rfl #[.int .i64 t168, .int .i64 x8_1] rfl (by (try simp only [List.map_toArray, List.map_cons, List.map_nil]); first | done | rfl | (simp only [List.length_drop, List.length_take]; rfl)) ?_; (with_reducible refine (postriderref09_length.calls t168 x8_1 t170 _ A6.out).mono ?_); rintro e w' ⟨rfl, ⟨nd, rfl⟩⟩; refine ⟨_, rfl, ?_⟩))
                                          (try (rw [drewN_self wr]; generalize hq_ : World.drewN wr _ = wr; have n0_ : Aside0 (Kd.R Kd.string 9 wr w.heap.size (fun k_ => some k_ ≠ (v165 : Value).ownBlock) v163 t161) := ⟨by rw [← hq_]; exact (by (with_reducible repeat (first | apply Kd.R_alloc | apply Kd.R_drewN | apply Kd.R_drew)); exact HO_3.out)⟩; have n1_ : Aside0 (Kd.R Kd.string 9 wr w.heap.size (fun k_ => some k_ ≠ (v163 : Value).ownBlock) v165 t162) := ⟨by rw [← hq_]; exact (by (with_reducible repeat (first | apply Kd.R_alloc | apply Kd.R_drewN | apply Kd.R_drew)); exact HO_4.out)⟩; have n2_ : Aside0 (Below w.heap.size w wr) := ⟨by rw [← hq_]; exact (by repeat (first | (with_reducible first | exact HB.out | apply below_alloc | apply pw_below_drewN | apply below_drew1) | exact HB.out))⟩; clear HO_3 HO_4 HB hq_; have HO_3 := n0_; have HO_4 := n1_; have HB := n2_; clear n0_ n1_ n2_))
                                          have n0_ := Aside0.mk (Kd.R_drew HO_3.out)
                                          have n1_ := Aside0.mk (Kd.R_drew HO_4.out)
                                          have n2_ := Aside0.mk (below_drew1 HB.out)
                                          clear HO_3
                                          clear HO_4
                                          clear HB
                                          have HO_3 := n0_
                                          have HO_4 := n1_
                                          have HB := n2_
                                          clear n0_ n1_ n2_
                                          obtain ⟨Ao33, co33, eo33⟩ := Kd.R_slice HO_3.out
                                          (first | subst eo33 | (injection eo33 with f1_ f2_ f3_; have f4_ := f1_.symm; have f5_ := f3_.symm; clear f1_ f2_ f3_; subst f4_; subst f5_))
                                          have p172 : 0 ≤ ((ji9) : Int) := of_decide_eq_true (by first | (with_reducible assumption) | assumption)
                                          have q172 : (ji9) < (t161.length : Int) := of_decide_eq_true (by first | (with_reducible assumption) | assumption)
                                          obtain ⟨ad172, e172, hx172_0⟩ := Kd.at_string (Kd.R_reads' HO_3.out).2.2 (ji9) p172 q172
                                          cases e172
                                          replace p172 := eq_true p172
                                          replace q172 := eq_true q172
                                          obtain ⟨Ao34, co34, eo34⟩ := Kd.R_slice HO_4.out
                                          (first | subst eo34 | (injection eo34 with f1_ f2_ f3_; have f4_ := f1_.symm; have f5_ := f3_.symm; clear f1_ f2_ f3_; subst f4_; subst f5_))
                                          have p174 : 0 ≤ (x8_1 : Int) := of_decide_eq_true (by first | (with_reducible assumption) | assumption)
                                          have q174 : x8_1 < (t162.length : Int) := of_decide_eq_true (by first | (with_reducible assumption) | assumption)
                                          obtain ⟨ad174, e174, hx174_0⟩ := Kd.at_string (Kd.R_reads' HO_4.out).2.2 x8_1 p174 q174
                                          cases e174
                                          replace p174 := eq_true p174
                                          replace q174 := eq_true q174
                                          refine start_ (n := 39) (S := fun w' => w'.cell? (ad172.add ((ji9)).toNat) = some (.string (rdOf ByteArray.empty t161 (ji9))) ∧ w'.cell? (ad174.add (x8_1).toNat) = some (.string (rdOf ByteArray.empty t162 x8_1))) (ds := []) #[false, false, false, false, false, false, false, false, false, false, false, false, false, false, false, false, false, false, false, false, false, false, false, false, false, false, false, false, false, false, false, false, false, false, false, false, false, false, false] (by kernel_rfl) rfl rfl ⟨hx172_0, hx174_0⟩ (fun hHeld => ?_); refine with_tabW postriderref09_Date.tab10 postriderref09_Date.bits10 (fun HT_ HW_ => ?_)
                                          generalize wr.drew = w32 at HO_3 HO_4 HB hx172_0 hx174_0 hHeld ⊢
                                          refine pure_ (i := 0) (N := some 37) (v := ?_) (a' := ?_) #[true, false, false, false, false, false, false, false, false, false, false, false, false, false, false, false, false, false, false, false, false, false, false, false, false, false, false, false, false, false, false, false, false, false, false, false, false, false, false] rfl rfl (any_of HT_.out (by kernel_rfl)) (fun _ _ _ h => h) (Or.inl ⟨by rfl, ?_⟩) ?_ ?_
                                          rotate_left
                                          · intro w'
                                            go_simp
                                            with_reducible rfl
                                          rotate_left
                                          · simp only [Act.put, List.setIfInBounds_toArray, List.set_cons_zero, List.set_cons_succ, i64_w, i32_w]
                                            rfl
                                          refine pure_ (i := 1) (N := some 38) (v := ?_) (a' := ?_) #[true, true, false, false, false, false, false, false, false, false, false, false, false, false, false, false, false, false, false, false, false, false, false, false, false, false, false, false, false, false, false, false, false, false, false, false, false, false, false] rfl rfl (any_of HT_.out (by kernel_rfl)) (fun _ _ _ h => h) (Or.inl ⟨by rfl, ?_⟩) ?_ ?_
                                          rotate_left
                                          · intro w'
                                            go_simp
                                            with_reducible rfl
                                          rotate_left
                                          · simp only [Act.put, List.setIfInBounds_toArray, List.set_cons_zero, List.set_cons_succ, i64_w, i32_w]
                                            rfl
                                          refine pure_ (i := 2) (N := some 39) (v := ?_) (a' := ?_) #[true, true, true, false, false, false, false, false, false, false, false, false, false, false, false, false, false, false, false, false, false, false, false, false, false, false, false, false, false, false, false, false, false, false, false, false, false, false, false] rfl rfl (any_of HT_.out (by kernel_rfl)) (fun _ _ _ h => h) (Or.inl ⟨by rfl, ?_⟩) ?_ ?_
                                          rotate_left
                                          · intro w'
                                            go_simp
                                            with_reducible rfl
                                          rotate_left
                                          · simp only [Act.put, List.setIfInBounds_toArray, List.set_cons_zero, List.set_cons_succ, i64_w, i32_w]
                                            rfl
                                          refine pure_ (i := 3) (N := some 40) (v := ?_) (a' := ?_) #[true, true, true, true, false, false, false, false, false, false, false, false, false, false, false, false, false, false, false, false, false, false, false, false, false, false, false, false, false, false, false, false, false, false, false, false, false, false, false] rfl rfl (any_of HT_.out (by kernel_rfl)) (fun _ _ _ h => h) (Or.inl ⟨by rfl, ?_⟩) ?_ ?_
                                          rotate_left
                                          · intro w'
                                            go_simp
                                            with_reducible rfl
                                          rotate_left
                                          · simp only [Act.put, List.setIfInBounds_toArray, List.set_cons_zero, List.set_cons_succ, i64_w, i32_w]
                                            rfl
                                          refine pure_ (i := 4) (N := some 41) (v := ?_) (a' := ?_) #[true, true, true, true, true, false, false, false, false, false, false, false, false, false, false, false, false, false, false, false, false, false, false, false, false, false, false, false, false, false, false, false, false, false, false, false, false, false, false] rfl rfl (any_of HT_.out (by kernel_rfl)) (fun _ _ _ h => h) (Or.inl ⟨by rfl, ?_⟩) ?_ ?_
                                          rotate_left
                                          · intro w'
                                            go_simp
                                            with_reducible rfl
                                          rotate_left
                                          · simp only [Act.put, List.setIfInBounds_toArray, List.set_cons_zero, List.set_cons_succ, i64_w, i32_w]
                                            rfl
                                          refine pure_ (i := 7) (N := some 44) (v := ?_) (a' := ?_) #[true, true, true, true, true, false, false, true, false, false, false, false, false, false, false, false, false, false, false, false, false, false, false, false, false, false, false, false, false, false, false, false, false, false, false, false, false, false, false] rfl rfl (any_of HT_.out (by kernel_rfl)) (fun _ _ _ h => h) (Or.inl ⟨by rfl, ?_⟩) ?_ ?_
                                          rotate_left
                                          · intro w'
                                            go_simp
                                            with_reducible rfl
                                          rotate_left
                                          · simp only [Act.put, List.setIfInBounds_toArray, List.set_cons_zero, List.set_cons_succ, i64_w, i32_w]
                                            rfl
                                          refine pure_ (i := 8) (N := some 45) (v := ?_) (a' := ?_) #[true, true, true, true, true, false, false, true, true, false, false, false, false, false, false, false, false, false, false, false, false, false, false, false, false, false, false, false, false, false, false, false, false, false, false, false, false, false, false] rfl rfl (any_of HT_.out (by kernel_rfl)) (fun _ _ _ h => h) (Or.inl ⟨by rfl, ?_⟩) ?_ ?_
                                          rotate_left
                                          · intro w'
                                            go_simp
                                            with_reducible rfl
                                          rotate_left
                                          · simp only [Act.put, List.setIfInBounds_toArray, List.set_cons_zero, List.set_cons_succ, i64_w, i32_w]
                                            rfl
                                          refine pure_ (i := 12) (N := some 49) (v := ?_) (a' := ?_) #[true, true, true, true, true, false, false, true, true, false, false, false, true, false, false, false, false, false, false, false, false, false, false, false, false, false, false, false, false, false, false, false, false, false, false, false, false, false, false] rfl rfl (any_of HT_.out (by kernel_rfl)) (fun _ _ _ h => h) (Or.inl ⟨by rfl, ?_⟩) ?_ ?_
                                          rotate_left
                                          · intro w'
                                            go_simp
                                            with_reducible rfl
                                          rotate_left
                                          · simp only [Act.put, List.setIfInBounds_toArray, List.set_cons_zero, List.set_cons_succ, i64_w, i32_w]
                                            rfl
                                          refine pure_ (i := 13) (N := some 50) (v := ?_) (a' := ?_) #[true, true, true, true, true, false, false, true, true, false, false, false, true, true, false, false, false, false, false, false, false, false, false, false, false, false, false, false, false, false, false, false, false, false, false, false, false, false, false] rfl rfl (any_of HT_.out (by kernel_rfl)) (fun _ _ _ h => h) (Or.inl ⟨by rfl, ?_⟩) ?_ ?_
                                          rotate_left
                                          · intro w'
                                            go_simp
                                            with_reducible rfl
                                          rotate_left
                                          · simp only [Act.put, List.setIfInBounds_toArray, List.set_cons_zero, List.set_cons_succ, i64_w, i32_w]
                                            rfl
                                          refine pure_ (i := 14) (N := some 51) (v := ?_) (a' := ?_) #[true, true, true, true, true, false, false, true, true, false, false, false, true, true, true, false, false, false, false, false, false, false, false, false, false, false, false, false, false, false, false, false, false, false, false, false, false, false, false] rfl rfl (any_of HT_.out (by kernel_rfl)) (fun _ _ _ h => h) (Or.inl ⟨by rfl, ?_⟩) ?_ ?_
                                          rotate_left
                                          · intro w'
                                            go_simp
                                            with_reducible rfl
                                          rotate_left
                                          · simp only [Act.put, List.setIfInBounds_toArray, List.set_cons_zero, List.set_cons_succ, i64_w, i32_w]
                                            rfl
                                          refine pure_ (i := 18) (N := some 55) (v := ?_) (a' := ?_) #[true, true, true, true, true, false, false, true, true, false, false, false, true, true, true, false, false, false, true, false, false, false, false, false, false, false, false, false, false, false, false, false, false, false, false, false, false, false, false] rfl rfl (any_of HT_.out (by kernel_rfl)) (fun _ _ _ h => h) (Or.inl ⟨by rfl, ?_⟩) ?_ ?_
                                          rotate_left
                                          · intro w'
                                            go_simp
                                            with_reducible rfl
                                          rotate_left
                                          · simp only [Act.put, List.setIfInBounds_toArray, List.set_cons_zero, List.set_cons_succ, i64_w, i32_w]
                                            rfl
                                          refine pure_ (i := 22) (N := some 59) (v := ?_) (a' := ?_) #[true, true, true, true, true, false, false, true, true, false, false, false, true, true, true, false, false, false, true, false, false, false, true, false, false, false, false, false, false, false, false, false, false, false, false, false, false, false, false] rfl rfl (any_of HT_.out (by kernel_rfl)) (fun _ _ _ h => h) (Or.inl ⟨by rfl, ?_⟩) ?_ ?_
                                          rotate_left
                                          · intro w'
                                            go_simp
                                            with_reducible rfl
                                          rotate_left
                                          · simp only [Act.put, List.setIfInBounds_toArray, List.set_cons_zero, List.set_cons_succ, i64_w, i32_w]
                                            rfl
                                          refine pure_ (i := 23) (N := some 60) (v := ?_) (a' := ?_) #[true, true, true, true, true, false, false, true, true, false, false, false, true, true, true, false, false, false, true, false, false, false, true, true, false, false, false, false, false, false, false, false, false, false, false, false, false, false, false] rfl rfl (any_of HT_.out (by kernel_rfl)) (fun _ _ _ h => h) (Or.inl ⟨by rfl, ?_⟩) ?_ ?_
                                          rotate_left
                                          · intro w'
                                            go_simp
                                            with_reducible rfl
                                          rotate_left
                                          · simp only [Act.put, List.setIfInBounds_toArray, List.set_cons_zero, List.set_cons_succ, i64_w, i32_w]
                                            rfl
                                          refine pure_ (i := 27) (N := some 64) (v := ?_) (a' := ?_) #[true, true, true, true, true, false, false, true, true, false, false, false, true, true, true, false, false, false, true, false, false, false, true, true, false, false, false, true, false, false, false, false, false, false, false, false, false, false, false] rfl rfl (any_of HT_.out (by kernel_rfl)) (fun _ _ _ h => h) (Or.inl ⟨by rfl, ?_⟩) ?_ ?_
                                          rotate_left
                                          · intro w'
                                            go_simp
                                            with_reducible rfl
                                          rotate_left
                                          · simp only [Act.put, List.setIfInBounds_toArray, List.set_cons_zero, List.set_cons_succ, i64_w, i32_w]
                                            rfl
                                          refine pure_ (i := 28) (N := some 65) (v := ?_) (a' := ?_) #[true, true, true, true, true, false, false, true, true, false, false, false, true, true, true, false, false, false, true, false, false, false, true, true, false, false, false, true, true, false, false, false, false, false, false, false, false, false, false] rfl rfl (any_of HT_.out (by kernel_rfl)) (fun _ _ _ h => h) (Or.inl ⟨by rfl, ?_⟩) ?_ ?_
                                          rotate_left
                                          · intro w'
                                            go_simp
                                            with_reducible rfl
                                          rotate_left
                                          · simp only [Act.put, List.setIfInBounds_toArray, List.set_cons_zero, List.set_cons_succ, i64_w, i32_w]
                                            rfl
                                          refine pure_ (i := 29) (N := some 66) (v := ?_) (a' := ?_) #[true, true, true, true, true, false, false, true, true, false, false, false, true, true, true, false, false, false, true, false, false, false, true, true, false, false, false, true, true, true, false, false, false, false, false, false, false, false, false] rfl rfl (any_of HT_.out (by kernel_rfl)) (fun _ _ _ h => h) (Or.inl ⟨by rfl, ?_⟩) ?_ ?_
                                          rotate_left
                                          · intro w'
                                            go_simp
                                            with_reducible rfl
                                          rotate_left
                                          · simp only [Act.put, List.setIfInBounds_toArray, List.set_cons_zero, List.set_cons_succ, i64_w, i32_w]
                                            rfl
                                          refine pure_ (i := 33) (N := some 70) (v := ?_) (a' := ?_) #[true, true, true, true, true, false, false, true, true, false, false, false, true, true, true, false, false, false, true, false, false, false, true, true, false, false, false, true, true, true, false, false, false, true, false, false, false, false, false] rfl rfl (any_of HT_.out (by kernel_rfl)) (fun _ _ _ h => h) (Or.inl ⟨by rfl, ?_⟩) ?_ ?_
                                          rotate_left
                                          · intro w'
                                            go_simp
                                            with_reducible rfl
                                          rotate_left
                                          · simp only [Act.put, List.setIfInBounds_toArray, List.set_cons_zero, List.set_cons_succ, i64_w, i32_w]
                                            rfl
                                          refine pure_ (i := 34) (N := some 71) (v := ?_) (a' := ?_) #[true, true, true, true, true, false, false, true, true, false, false, false, true, true, true, false, false, false, true, false, false, false, true, true, false, false, false, true, true, true, false, false, false, true, true, false, false, false, false] rfl rfl (any_of HT_.out (by kernel_rfl)) (fun _ _ _ h => h) (Or.inl ⟨by rfl, ?_⟩) ?_ ?_
                                          rotate_left
                                          · intro w'
                                            go_simp
                                            with_reducible rfl
                                          rotate_left
                                          · simp only [Act.put, List.setIfInBounds_toArray, List.set_cons_zero, List.set_cons_succ, i64_w, i32_w]
                                            rfl
                                          refine take_ (i := 5) (N := some 42) (v := ?_) (a' := ?_) #[true, true, true, true, true, true, false, true, true, false, false, false, true, true, true, false, false, false, true, false, false, false, true, true, false, false, false, true, true, true, false, false, false, true, true, false, false, false, false] rfl rfl (take_ofW HT_.out HW_.out (by kernel_rfl)) (fun _ _ _ h => h) (Or.inl ⟨by rfl, ?_⟩) hHeld ?_ ?_
                                          rotate_left
                                          · rintro w' ⟨s0, s1⟩
                                            go_simp
                                            with_reducible rfl
                                          rotate_left
                                          · simp only [Act.put, List.setIfInBounds_toArray, List.set_cons_zero, List.set_cons_succ, i64_w, i32_w]
                                            rfl
                                          refine pure_ (i := 6) (N := some 43) (v := ?_) (a' := ?_) #[true, true, true, true, true, true, true, true, true, false, false, false, true, true, true, false, false, false, true, false, false, false, true, true, false, false, false, true, true, true, false, false, false, true, true, false, false, false, false] rfl rfl (any_of HT_.out (by kernel_rfl)) (fun _ _ _ h => h) (Or.inl ⟨by rfl, ?_⟩) ?_ ?_
                                          rotate_left
                                          · intro w'
                                            go_simp
                                            with_reducible rfl
                                          rotate_left
                                          · simp only [Act.put, List.setIfInBounds_toArray, List.set_cons_zero, List.set_cons_succ, i64_w, i32_w]
                                            rfl
                                          refine take_ (i := 15) (N := some 52) (v := ?_) (a' := ?_) #[true, true, true, true, true, true, true, true, true, false, false, false, true, true, true, true, false, false, true, false, false, false, true, true, false, false, false, true, true, true, false, false, false, true, true, false, false, false, false] rfl rfl (take_ofW HT_.out HW_.out (by kernel_rfl)) (fun _ _ _ h => h) (Or.inl ⟨by rfl, ?_⟩) hHeld ?_ ?_
                                          rotate_left
                                          · rintro w' ⟨s0, s1⟩
                                            go_simp
                                            with_reducible rfl
                                          rotate_left
                                          · simp only [Act.put, List.setIfInBounds_toArray, List.set_cons_zero, List.set_cons_succ, i64_w, i32_w]
                                            rfl
                                          refine one_ (i := 9) (N := some 46) #[true, true, true, true, true, true, true, true, true, true, false, false, true, true, true, true, false, false, true, false, false, false, true, true, false, false, false, true, true, true, false, false, false, true, true, false, false, false, false] rfl rfl (one_of HT_.out (by kernel_rfl)) (by decide) (fun K hK => ?_)
                                          refine goes_ Tryd.func34 (by kernel_rfl) rfl #[.int .i64 (wrap64 (x7_1 + 1)), .int .i64 2] (by rfl) rfl rfl (by (try simp only [List.map_toArray, List.map_cons, List.map_nil]); first | done | rfl | (simp only [List.length_drop, List.length_take]; rfl)) ?_
                                          with_reducible refine (postriderref09_digits.calls k1 (wrap64 (x7_1 + 1)) 2 t173 _ A13.out).mono ?_
                                          rintro e w35 ⟨rfl, hb⟩
                                          have HS0_ := (hb.cell (World.block_lt_of_cell? _ _ (hHeld.1))).trans (hHeld.1)
                                          have HS1_ := (hb.cell (World.block_lt_of_cell? _ _ (hHeld.2))).trans (hHeld.2)
                                          refine ⟨_, rfl, ?_⟩
                                          have n0_ := Aside0.mk (Kd.R_below (by (with_reducible repeat (first | apply Kd.R_alloc | apply Kd.R_drewN | apply Kd.R_drew)); exact HO_3.out) hb)
                                          have n1_ := Aside0.mk (Kd.R_below (by (with_reducible repeat (first | apply Kd.R_alloc | apply Kd.R_drewN | apply Kd.R_drew)); exact HO_4.out) hb)
                                          have n2_ := Aside0.mk (below_step (by repeat (first | (with_reducible first | exact HB.out | apply below_alloc | apply pw_below_drewN | apply below_drew1) | exact HB.out)) hb)
                                          clear HO_3
                                          clear HO_4
                                          clear HB
                                          have HO_3 := n0_
                                          have HO_4 := n1_
                                          have HB := n2_
                                          clear n0_ n1_ n2_
                                          (try clear hb)
                                          (try clear hb2)
                                          (try clear hk)
                                          (try clear hi)
                                          refine hK.out _ _ ⟨HS0_, HS1_⟩ (fun hHeld => ?_)
                                          clear hK K
                                          refine norm_ (a' := ?_) ?_ ?_
                                          rotate_left
                                          · show Act.put _ (some 46) _ = _
                                            simp only [Act.put, List.setIfInBounds_toArray, List.set_cons_zero, List.set_cons_succ, i64_w, i32_w]
                                            rfl
                                          refine pure_ (i := 10) (N := some 47) (v := ?_) (a' := ?_) #[true, true, true, true, true, true, true, true, true, true, true, false, true, true, true, true, false, false, true, false, false, false, true, true, false, false, false, true, true, true, false, false, false, true, true, false, false, false, false] rfl rfl (any_of HT_.out (by kernel_rfl)) (fun _ _ _ h => h) (Or.inl ⟨by rfl, ?_⟩) ?_ ?_
                                          rotate_left
                                          · intro w'
                                            go_simp
                                            with_reducible rfl
                                          rotate_left
                                          · simp only [Act.put, List.setIfInBounds_toArray, List.set_cons_zero, List.set_cons_succ, i64_w, i32_w]
                                            rfl
                                          refine pure_ (i := 11) (N := some 48) (v := ?_) (a' := ?_) #[true, true, true, true, true, true, true, true, true, true, true, true, true, true, true, true, false, false, true, false, false, false, true, true, false, false, false, true, true, true, false, false, false, true, true, false, false, false, false] rfl rfl (any_of HT_.out (by kernel_rfl)) (fun _ _ _ h => h) (Or.inl ⟨by rfl, ?_⟩) ?_ ?_
                                          rotate_left
                                          · intro w'
                                            go_simp
                                            with_reducible rfl
                                          rotate_left
                                          · simp only [Act.put, List.setIfInBounds_toArray, List.set_cons_zero, List.set_cons_succ, i64_w, i32_w]
                                            rfl
                                          refine pure_ (i := 16) (N := some 53) (v := ?_) (a' := ?_) #[true, true, true, true, true, true, true, true, true, true, true, true, true, true, true, true, true, false, true, false, false, false, true, true, false, false, false, true, true, true, false, false, false, true, true, false, false, false, false] rfl rfl (any_of HT_.out (by kernel_rfl)) (fun _ _ _ h => h) (Or.inl ⟨by rfl, ?_⟩) ?_ ?_
                                          rotate_left
                                          · intro w'
                                            go_simp
                                            with_reducible rfl
                                          rotate_left
                                          · simp only [Act.put, List.setIfInBounds_toArray, List.set_cons_zero, List.set_cons_succ, i64_w, i32_w]
                                            rfl
                                          refine pure_ (i := 17) (N := some 54) (v := ?_) (a' := ?_) #[true, true, true, true, true, true, true, true, true, true, true, true, true, true, true, true, true, true, true, false, false, false, true, true, false, false, false, true, true, true, false, false, false, true, true, false, false, false, false] rfl rfl (any_of HT_.out (by kernel_rfl)) (fun _ _ _ h => h) (Or.inl ⟨by rfl, ?_⟩) ?_ ?_
                                          rotate_left
                                          · intro w'
                                            go_simp
                                            with_reducible rfl
                                          rotate_left
                                          · simp only [Act.put, List.setIfInBounds_toArray, List.set_cons_zero, List.set_cons_succ, i64_w, i32_w]
                                            rfl
                                          refine one_ (i := 19) (N := some 56) #[true, true, true, true, true, true, true, true, true, true, true, true, true, true, true, true, true, true, true, true, false, false, true, true, false, false, false, true, true, true, false, false, false, true, true, false, false, false, false] rfl rfl (one_of HT_.out (by kernel_rfl)) (by decide) (fun K hK => ?_)
                                          refine goes_ Tryd.func34 (by kernel_rfl) rfl #[.int .i64 t168, .int .i64 4] (by rfl) rfl rfl (by (try simp only [List.map_toArray, List.map_cons, List.map_nil]); first | done | rfl | (simp only [List.length_drop, List.length_take]; rfl)) ?_
                                          with_reducible refine (postriderref09_digits.calls k1 t168 4 t175 _ A20.out).mono ?_
                                          rintro e w36 ⟨rfl, hb⟩
                                          have HS0_ := (hb.cell (World.block_lt_of_cell? _ _ (hHeld.1))).trans (hHeld.1)
                                          have HS1_ := (hb.cell (World.block_lt_of_cell? _ _ (hHeld.2))).trans (hHeld.2)
                                          refine ⟨_, rfl, ?_⟩
                                          have n0_ := Aside0.mk (Kd.R_below (by (with_reducible repeat (first | apply Kd.R_alloc | apply Kd.R_drewN | apply Kd.R_drew)); exact HO_3.out) hb)
                                          have n1_ := Aside0.mk (Kd.R_below (by (with_reducible repeat (first | apply Kd.R_alloc | apply Kd.R_drewN | apply Kd.R_drew)); exact HO_4.out) hb)
                                          have n2_ := Aside0.mk (below_step (by repeat (first | (with_reducible first | exact HB.out | apply below_alloc | apply pw_below_drewN | apply below_drew1) | exact HB.out)) hb)
                                          clear HO_3
                                          clear HO_4
                                          clear HB
                                          have HO_3 := n0_
                                          have HO_4 := n1_
                                          have HB := n2_
                                          clear n0_ n1_ n2_
                                          (try clear hb)
                                          (try clear hb2)
                                          (try clear hk)
                                          (try clear hi)
                                          refine hK.out _ _ ⟨HS0_, HS1_⟩ (fun hHeld => ?_)
                                          clear hK K
                                          refine norm_ (a' := ?_) ?_ ?_
                                          rotate_left
                                          · show Act.put _ (some 56) _ = _
                                            simp only [Act.put, List.setIfInBounds_toArray, List.set_cons_zero, List.set_cons_succ, i64_w, i32_w]
                                            rfl
                                          refine pure_ (i := 20) (N := some 57) (v := ?_) (a' := ?_) #[true, true, true, true, true, true, true, true, true, true, true, true, true, true, true, true, true, true, true, true, true, false, true, true, false, false, false, true, true, true, false, false, false, true, true, false, false, false, false] rfl rfl (any_of HT_.out (by kernel_rfl)) (fun _ _ _ h => h) (Or.inl ⟨by rfl, ?_⟩) ?_ ?_
                                          rotate_left
                                          · intro w'
                                            go_simp
                                            with_reducible rfl
                                          rotate_left
                                          · simp only [Act.put, List.setIfInBounds_toArray, List.set_cons_zero, List.set_cons_succ, i64_w, i32_w]
                                            rfl
                                          refine pure_ (i := 21) (N := some 58) (v := ?_) (a' := ?_) #[true, true, true, true, true, true, true, true, true, true, true, true, true, true, true, true, true, true, true, true, true, true, true, true, false, false, false, true, true, true, false, false, false, true, true, false, false, false, false] rfl rfl (any_of HT_.out (by kernel_rfl)) (fun _ _ _ h => h) (Or.inl ⟨by rfl, ?_⟩) ?_ ?_
                                          rotate_left
                                          · intro w'
                                            go_simp
                                            with_reducible rfl
                                          rotate_left
                                          · simp only [Act.put, List.setIfInBounds_toArray, List.set_cons_zero, List.set_cons_succ, i64_w, i32_w]
                                            rfl
                                          refine one_ (i := 24) (N := some 61) #[true, true, true, true, true, true, true, true, true, true, true, true, true, true, true, true, true, true, true, true, true, true, true, true, true, false, false, true, true, true, false, false, false, true, true, false, false, false, false] rfl rfl (one_of HT_.out (by kernel_rfl)) (by decide) (fun K hK => ?_)
                                          refine goes_ Tryd.func34 (by kernel_rfl) rfl #[.int .i64 (wrap64 (Int.tdiv rs_ 3600)), .int .i64 2] (by rfl) rfl rfl (by (try simp only [List.map_toArray, List.map_cons, List.map_nil]); first | done | rfl | (simp only [List.length_drop, List.length_take]; rfl)) ?_
                                          with_reducible refine (postriderref09_digits.calls k1 (wrap64 (Int.tdiv rs_ 3600)) 2 t176 _ A23.out).mono ?_
                                          rintro e w37 ⟨rfl, hb⟩
                                          have HS0_ := (hb.cell (World.block_lt_of_cell? _ _ (hHeld.1))).trans (hHeld.1)
                                          have HS1_ := (hb.cell (World.block_lt_of_cell? _ _ (hHeld.2))).trans (hHeld.2)
                                          refine ⟨_, rfl, ?_⟩
                                          have n0_ := Aside0.mk (Kd.R_below (by (with_reducible repeat (first | apply Kd.R_alloc | apply Kd.R_drewN | apply Kd.R_drew)); exact HO_3.out) hb)
                                          have n1_ := Aside0.mk (Kd.R_below (by (with_reducible repeat (first | apply Kd.R_alloc | apply Kd.R_drewN | apply Kd.R_drew)); exact HO_4.out) hb)
                                          have n2_ := Aside0.mk (below_step (by repeat (first | (with_reducible first | exact HB.out | apply below_alloc | apply pw_below_drewN | apply below_drew1) | exact HB.out)) hb)
                                          clear HO_3
                                          clear HO_4
                                          clear HB
                                          have HO_3 := n0_
                                          have HO_4 := n1_
                                          have HB := n2_
                                          clear n0_ n1_ n2_
                                          (try clear hb)
                                          (try clear hb2)
                                          (try clear hk)
                                          (try clear hi)
                                          refine hK.out _ _ ⟨HS0_, HS1_⟩ (fun hHeld => ?_)
                                          clear hK K
                                          refine norm_ (a' := ?_) ?_ ?_
                                          rotate_left
                                          · show Act.put _ (some 61) _ = _
                                            simp only [Act.put, List.setIfInBounds_toArray, List.set_cons_zero, List.set_cons_succ, i64_w, i32_w]
                                            rfl
                                          refine pure_ (i := 25) (N := some 62) (v := ?_) (a' := ?_) #[true, true, true, true, true, true, true, true, true, true, true, true, true, true, true, true, true, true, true, true, true, true, true, true, true, true, false, true, true, true, false, false, false, true, true, false, false, false, false] rfl rfl (any_of HT_.out (by kernel_rfl)) (fun _ _ _ h => h) (Or.inl ⟨by rfl, ?_⟩) ?_ ?_
                                          rotate_left
                                          · intro w'
                                            go_simp
                                            with_reducible rfl
                                          rotate_left
                                          · simp only [Act.put, List.setIfInBounds_toArray, List.set_cons_zero, List.set_cons_succ, i64_w, i32_w]
                                            rfl
                                          refine pure_ (i := 26) (N := some 63) (v := ?_) (a' := ?_) #[true, true, true, true, true, true, true, true, true, true, true, true, true, true, true, true, true, true, true, true, true, true, true, true, true, true, true, true, true, true, false, false, false, true, true, false, false, false, false] rfl rfl (any_of HT_.out (by kernel_rfl)) (fun _ _ _ h => h) (Or.inl ⟨by rfl, ?_⟩) ?_ ?_
                                          rotate_left
                                          · intro w'
                                            go_simp
                                            with_reducible rfl
                                          rotate_left
                                          · simp only [Act.put, List.setIfInBounds_toArray, List.set_cons_zero, List.set_cons_succ, i64_w, i32_w]
                                            rfl
                                          refine one_ (i := 30) (N := some 67) #[true, true, true, true, true, true, true, true, true, true, true, true, true, true, true, true, true, true, true, true, true, true, true, true, true, true, true, true, true, true, true, false, false, true, true, false, false, false, false] rfl rfl (one_of HT_.out (by kernel_rfl)) (by decide) (fun K hK => ?_)
                                          refine goes_ Tryd.func34 (by kernel_rfl) rfl #[.int .i64 (Int.tmod (wrap64 (Int.tdiv rs_ 60)) 60), .int .i64 2] (by rfl) rfl rfl (by (try simp only [List.map_toArray, List.map_cons, List.map_nil]); first | done | rfl | (simp only [List.length_drop, List.length_take]; rfl)) ?_
                                          with_reducible refine (postriderref09_digits.calls k1 (Int.tmod (wrap64 (Int.tdiv rs_ 60)) 60) 2 t177 _ A26.out).mono ?_
                                          rintro e w38 ⟨rfl, hb⟩
                                          have HS0_ := (hb.cell (World.block_lt_of_cell? _ _ (hHeld.1))).trans (hHeld.1)
                                          have HS1_ := (hb.cell (World.block_lt_of_cell? _ _ (hHeld.2))).trans (hHeld.2)
                                          refine ⟨_, rfl, ?_⟩
                                          have n0_ := Aside0.mk (Kd.R_below (by (with_reducible repeat (first | apply Kd.R_alloc | apply Kd.R_drewN | apply Kd.R_drew)); exact HO_3.out) hb)
                                          have n1_ := Aside0.mk (Kd.R_below (by (with_reducible repeat (first | apply Kd.R_alloc | apply Kd.R_drewN | apply Kd.R_drew)); exact HO_4.out) hb)
                                          have n2_ := Aside0.mk (below_step (by repeat (first | (with_reducible first | exact HB.out | apply below_alloc | apply pw_below_drewN | apply below_drew1) | exact HB.out)) hb)
                                          clear HO_3
                                          clear HO_4
                                          clear HB
                                          have HO_3 := n0_
                                          have HO_4 := n1_
                                          have HB := n2_
                                          clear n0_ n1_ n2_
                                          (try clear hb)
                                          (try clear hb2)
                                          (try clear hk)
                                          (try clear hi)
                                          refine hK.out _ _ ⟨HS0_, HS1_⟩ (fun hHeld => ?_)
                                          clear hK K
                                          refine norm_ (a' := ?_) ?_ ?_
                                          rotate_left
                                          · show Act.put _ (some 67) _ = _
                                            simp only [Act.put, List.setIfInBounds_toArray, List.set_cons_zero, List.set_cons_succ, i64_w, i32_w]
                                            rfl
                                          refine pure_ (i := 31) (N := some 68) (v := ?_) (a' := ?_) #[true, true, true, true, true, true, true, true, true, true, true, true, true, true, true, true, true, true, true, true, true, true, true, true, true, true, true, true, true, true, true, true, false, true, true, false, false, false, false] rfl rfl (any_of HT_.out (by kernel_rfl)) (fun _ _ _ h => h) (Or.inl ⟨by rfl, ?_⟩) ?_ ?_
                                          rotate_left
                                          · intro w'
                                            go_simp
                                            with_reducible rfl
                                          rotate_left
                                          · simp only [Act.put, List.setIfInBounds_toArray, List.set_cons_zero, List.set_cons_succ, i64_w, i32_w]
                                            rfl
                                          refine pure_ (i := 32) (N := some 69) (v := ?_) (a' := ?_) #[true, true, true, true, true, true, true, true, true, true, true, true, true, true, true, true, true, true, true, true, true, true, true, true, true, true, true, true, true, true, true, true, true, true, true, false, false, false, false] rfl rfl (any_of HT_.out (by kernel_rfl)) (fun _ _ _ h => h) (Or.inl ⟨by rfl, ?_⟩) ?_ ?_
                                          rotate_left
                                          · intro w'
                                            go_simp
                                            with_reducible rfl
                                          rotate_left
                                          · simp only [Act.put, List.setIfInBounds_toArray, List.set_cons_zero, List.set_cons_succ, i64_w, i32_w]
                                            rfl
                                          refine one_ (i := 35) (N := some 72) #[true, true, true, true, true, true, true, true, true, true, true, true, true, true, true, true, true, true, true, true, true, true, true, true, true, true, true, true, true, true, true, true, true, true, true, true, false, false, false] rfl rfl (one_of HT_.out (by kernel_rfl)) (by decide) (fun K hK => ?_)
                                          refine goes_ Tryd.func34 (by kernel_rfl) rfl #[.int .i64 (Int.tmod rs_ 60), .int .i64 2] (by rfl) rfl rfl (by (try simp only [List.map_toArray, List.map_cons, List.map_nil]); first | done | rfl | (simp only [List.length_drop, List.length_take]; rfl)) ?_
                                          with_reducible refine (postriderref09_digits.calls k1 (Int.tmod rs_ 60) 2 t178 _ A29.out).mono ?_
                                          rintro e w39 ⟨rfl, hb⟩
                                          have HS0_ := (hb.cell (World.block_lt_of_cell? _ _ (hHeld.1))).trans (hHeld.1)
                                          have HS1_ := (hb.cell (World.block_lt_of_cell? _ _ (hHeld.2))).trans (hHeld.2)
                                          refine ⟨_, rfl, ?_⟩
                                          have n0_ := Aside0.mk (Kd.R_below (by (with_reducible repeat (first | apply Kd.R_alloc | apply Kd.R_drewN | apply Kd.R_drew)); exact HO_3.out) hb)
                                          have n1_ := Aside0.mk (Kd.R_below (by (with_reducible repeat (first | apply Kd.R_alloc | apply Kd.R_drewN | apply Kd.R_drew)); exact HO_4.out) hb)
                                          have n2_ := Aside0.mk (below_step (by repeat (first | (with_reducible first | exact HB.out | apply below_alloc | apply pw_below_drewN | apply below_drew1) | exact HB.out)) hb)
                                          clear HO_3
                                          clear HO_4
                                          clear HB
                                          have HO_3 := n0_
                                          have HO_4 := n1_
                                          have HB := n2_
                                          clear n0_ n1_ n2_
                                          (try clear hb)
                                          (try clear hb2)
                                          (try clear hk)
                                          (try clear hi)
                                          refine hK.out _ _ ⟨HS0_, HS1_⟩ (fun hHeld => ?_)
                                          clear hK K
                                          refine norm_ (a' := ?_) ?_ ?_
                                          rotate_left
                                          · show Act.put _ (some 72) _ = _
                                            simp only [Act.put, List.setIfInBounds_toArray, List.set_cons_zero, List.set_cons_succ, i64_w, i32_w]
                                            rfl
                                          refine pure_ (i := 36) (N := some 73) (v := ?_) (a' := ?_) #[true, true, true, true, true, true, true, true, true, true, true, true, true, true, true, true, true, true, true, true, true, true, true, true, true, true, true, true, true, true, true, true, true, true, true, true, true, false, false] rfl rfl (any_of HT_.out (by kernel_rfl)) (fun _ _ _ h => h) (Or.inl ⟨by rfl, ?_⟩) ?_ ?_
                                          rotate_left
                                          · intro w'
                                            go_simp
                                            with_reducible rfl
                                          rotate_left
                                          · simp only [Act.put, List.setIfInBounds_toArray, List.set_cons_zero, List.set_cons_succ, i64_w, i32_w]
                                            rfl
                                          refine pure_ (i := 37) (N := some 74) (v := ?_) (a' := ?_) #[true, true, true, true, true, true, true, true, true, true, true, true, true, true, true, true, true, true, true, true, true, true, true, true, true, true, true, true, true, true, true, true, true, true, true, true, true, true, false] rfl rfl (any_of HT_.out (by kernel_rfl)) (fun _ _ _ h => h) (Or.inl ⟨by rfl, ?_⟩) ?_ ?_
                                          rotate_left
                                          · intro w'
                                            go_simp
                                            with_reducible rfl
                                          rotate_left
                                          · simp only [Act.put, List.setIfInBounds_toArray, List.set_cons_zero, List.set_cons_succ, i64_w, i32_w]
                                            rfl
                                          refine pure_ (i := 38) (N := some 2) (v := ?_) (a' := ?_) #[true, true, true, true, true, true, true, true, true, true, true, true, true, true, true, true, true, true, true, true, true, true, true, true, true, true, true, true, true, true, true, true, true, true, true, true, true, true, true] rfl rfl (any_of HT_.out (by kernel_rfl)) (fun _ _ _ h => h) (Or.inl ⟨by rfl, ?_⟩) ?_ ?_
                                          rotate_left
                                          · intro w'
                                            go_simp
                                            with_reducible rfl
                                          rotate_left
                                          · simp only [Act.put, List.setIfInBounds_toArray, List.set_cons_zero, List.set_cons_succ, i64_w, i32_w]
                                            rfl
                                          refine done_ (done_of HT_.out (by kernel_rfl)) ?_
                                          try go_wp2
                                          go_ret
                                          exact ⟨by first | rfl | (simp [errW_none, errW_some] <;> rfl) | (simp only [← hji9]; first | rfl | (simp [errW_none, errW_some] <;> rfl)) | (simp [*, errW_none, errW_some] <;> rfl), by repeat (first | (with_reducible first | exact HB.out | apply below_alloc | apply pw_below_drewN | apply below_drew1) | exact HB.out)⟩
                                        · rw [if_neg c31] at H
                                          exact absurd H (by simp)
                                      · rw [if_neg c30] at H
                                        exact absurd H (by simp)
                                    · rw [if_neg c28] at H
                                      exact absurd H (by simp)
                                  · rw [if_neg c27] at H
                                    exact absurd H (by simp)
                                · rw [if_neg c25] at H
                                  exact absurd H (by simp)
                              · rw [if_neg c24] at H
                                exact absurd H (by simp)
                            · rw [if_neg c22] at H
                              exact absurd H (by simp)
                          · rw [if_neg c21] at H
                            exact absurd H (by simp)
                        · rw [if_neg c19] at H
                          exact absurd H (by simp)
                      · rw [if_neg c18] at H
                        exact absurd H (by simp)
                    · rw [if_neg c17] at H
                      exact absurd H (by simp)
                  · rw [if_neg c16] at H
                    exact absurd H (by simp)
                · rw [if_neg c15] at H
                  exact absurd H (by simp)
              · rw [if_neg c14] at H
                exact absurd H (by simp)
            · rw [if_neg c12] at H
              exact absurd H (by simp)
          · rw [if_neg c11] at H
            exact absurd H (by simp)
        · rw [if_neg c10] at H
          exact absurd H (by simp)

/-! ### postriderlaw09_StampTells: function 3 -/
def postriderlaw09_StampTells.f (k : Nat) (a0 : Int) (a1 : Int) (a2 : Int) : Option (Bool) := (stamp_Day.f a0).bind fun t179 => ((postriderref09_Day.f a0).bind fun t180 => (if t179 = t180 then ((stamp_Text.f a1).bind fun t181 => ((postriderref09_Text.f a1).bind fun t182 => (if t181.toList = t182.toList then ((stamp_Age.f a2 a1).bind fun t183 => ((postriderref09_Age.f k a2 a1).bind fun t184 => (if t183 = t184 then ((stamp_Date.f k a0).bind fun t185 => ((postriderref09_Date.f k a0).bind fun t186 => (if t185.toList = t186.toList then ((postriderlaw09_wakes.f k).bind fun t187 => (some t187)) else (some false)))) else (some false)))) else (some false)))) else (some false)))
theorem postriderlaw09_StampTells.mono : ∀ a0 a1 a2 k, LeO (postriderlaw09_StampTells.f k a0 a1 a2) (postriderlaw09_StampTells.f (k + 1) a0 a1 a2) := by
  intro a0 a1 a2 k
  unfold postriderlaw09_StampTells.f
  repeat' first
      | (with_reducible exact postriderlaw09_wakes.mono _)
      | (with_reducible exact postriderref09_Age.mono _ _ _)
      | (with_reducible exact postriderref09_Date.mono _ _)
      | (with_reducible exact stamp_Date.mono _ _)
      | (with_reducible exact LeO.refl _)
      | (with_reducible exact LeO.none _)
      | (with_reducible refine LeO.ite ?_ ?_)
      | (with_reducible refine LeO.bind ?_ (fun _ => ?_))
      | exact postriderlaw09_wakes.mono _
      | exact postriderref09_Age.mono _ _ _
      | exact postriderref09_Date.mono _ _
      | exact stamp_Date.mono _ _
      | exact LeO.none _
      | refine LeO.ite ?_ ?_
      | refine LeO.bind ?_ (fun _ => ?_)
set_option maxHeartbeats 8000000 in
set_option maxRecDepth 100000 in
theorem postriderlaw09_StampTells.calls (k : Nat) (a0 : Int) (a1 : Int) (a2 : Int) (r : Bool) (w : World) (hG : Glob w) (h : postriderlaw09_StampTells.f k a0 a1 a2 = some r) :
    Calls Tryd.prog 3 #[.int .i64 a0, .int .i64 a1, .int .i64 a2] w fun e w' => e = .returned (.bool r) ∧ Below w.heap.size w w' := by
  have HB := Aside0.mk (Below.refl w.heap.size w)
  have HG := Aside0.mk hG
  clear hG
  have H : ((stamp_Day.f a0).bind fun t179 => ((postriderref09_Day.f a0).bind fun t180 => (if t179 = t180 then ((stamp_Text.f a1).bind fun t181 => ((postriderref09_Text.f a1).bind fun t182 => (if t181.toList = t182.toList then ((stamp_Age.f a2 a1).bind fun t183 => ((postriderref09_Age.f k a2 a1).bind fun t184 => (if t183 = t184 then ((stamp_Date.f k a0).bind fun t185 => ((postriderref09_Date.f k a0).bind fun t186 => (if t185.toList = t186.toList then ((postriderlaw09_wakes.f k).bind fun t187 => (some t187)) else (some false)))) else (some false)))) else (some false)))) else (some false)))) = some r := h
  clear h
  replace H := Option.bind_eq_some_iff.mp H
  obtain ⟨t179, A40, H⟩ := H
  replace H : ((postriderref09_Day.f a0).bind fun t180 => (if t179 = t180 then ((stamp_Text.f a1).bind fun t181 => ((postriderref09_Text.f a1).bind fun t182 => (if t181.toList = t182.toList then ((stamp_Age.f a2 a1).bind fun t183 => ((postriderref09_Age.f k a2 a1).bind fun t184 => (if t183 = t184 then ((stamp_Date.f k a0).bind fun t185 => ((postriderref09_Date.f k a0).bind fun t186 => (if t185.toList = t186.toList then ((postriderlaw09_wakes.f k).bind fun t187 => (some t187)) else (some false)))) else (some false)))) else (some false)))) else (some false))) = some r := H
  have A4 := Aside0.mk A40
  clear A40
  replace H := Option.bind_eq_some_iff.mp H
  obtain ⟨t180, A50, H⟩ := H
  replace H : (if t179 = t180 then ((stamp_Text.f a1).bind fun t181 => ((postriderref09_Text.f a1).bind fun t182 => (if t181.toList = t182.toList then ((stamp_Age.f a2 a1).bind fun t183 => ((postriderref09_Age.f k a2 a1).bind fun t184 => (if t183 = t184 then ((stamp_Date.f k a0).bind fun t185 => ((postriderref09_Date.f k a0).bind fun t186 => (if t185.toList = t186.toList then ((postriderlaw09_wakes.f k).bind fun t187 => (some t187)) else (some false)))) else (some false)))) else (some false)))) else (some false)) = some r := H
  have A5 := Aside0.mk A50
  clear A50
  by_cases c6 : t179 = t180
  · rw [if_pos c6] at H
    have c6b0 : (t179 == t180) = true := beq_iff_eq.mpr c6
    have c6b1 : (t179 != t180) = false := bne_eq_false_iff_eq.mpr c6
    clear c6
    replace H := Option.bind_eq_some_iff.mp H
    obtain ⟨t181, A70, H⟩ := H
    replace H : ((postriderref09_Text.f a1).bind fun t182 => (if t181.toList = t182.toList then ((stamp_Age.f a2 a1).bind fun t183 => ((postriderref09_Age.f k a2 a1).bind fun t184 => (if t183 = t184 then ((stamp_Date.f k a0).bind fun t185 => ((postriderref09_Date.f k a0).bind fun t186 => (if t185.toList = t186.toList then ((postriderlaw09_wakes.f k).bind fun t187 => (some t187)) else (some false)))) else (some false)))) else (some false))) = some r := H
    have A7 := Aside0.mk A70
    clear A70
    replace H := Option.bind_eq_some_iff.mp H
    obtain ⟨t182, A80, H⟩ := H
    replace H : (if t181.toList = t182.toList then ((stamp_Age.f a2 a1).bind fun t183 => ((postriderref09_Age.f k a2 a1).bind fun t184 => (if t183 = t184 then ((stamp_Date.f k a0).bind fun t185 => ((postriderref09_Date.f k a0).bind fun t186 => (if t185.toList = t186.toList then ((postriderlaw09_wakes.f k).bind fun t187 => (some t187)) else (some false)))) else (some false)))) else (some false)) = some r := H
    have A8 := Aside0.mk A80
    clear A80
    by_cases c9 : t181.toList = t182.toList
    · rw [if_pos c9] at H
      have c9b0 : (t181.toList == t182.toList) = true := beq_iff_eq.mpr c9
      have c9b1 : (t181.toList != t182.toList) = false := bne_eq_false_iff_eq.mpr c9
      clear c9
      replace H := Option.bind_eq_some_iff.mp H
      obtain ⟨t183, A100, H⟩ := H
      replace H : ((postriderref09_Age.f k a2 a1).bind fun t184 => (if t183 = t184 then ((stamp_Date.f k a0).bind fun t185 => ((postriderref09_Date.f k a0).bind fun t186 => (if t185.toList = t186.toList then ((postriderlaw09_wakes.f k).bind fun t187 => (some t187)) else (some false)))) else (some false))) = some r := H
      have A10 := Aside0.mk A100
      clear A100
      replace H := Option.bind_eq_some_iff.mp H
      obtain ⟨t184, A110, H⟩ := H
      replace H : (if t183 = t184 then ((stamp_Date.f k a0).bind fun t185 => ((postriderref09_Date.f k a0).bind fun t186 => (if t185.toList = t186.toList then ((postriderlaw09_wakes.f k).bind fun t187 => (some t187)) else (some false)))) else (some false)) = some r := H
      have A11 := Aside0.mk A110
      clear A110
      by_cases c12 : t183 = t184
      · rw [if_pos c12] at H
        have c12b0 : (t183 == t184) = true := beq_iff_eq.mpr c12
        have c12b1 : (t183 != t184) = false := bne_eq_false_iff_eq.mpr c12
        clear c12
        replace H := Option.bind_eq_some_iff.mp H
        obtain ⟨t185, A130, H⟩ := H
        replace H : ((postriderref09_Date.f k a0).bind fun t186 => (if t185.toList = t186.toList then ((postriderlaw09_wakes.f k).bind fun t187 => (some t187)) else (some false))) = some r := H
        have A13 := Aside0.mk A130
        clear A130
        replace H := Option.bind_eq_some_iff.mp H
        obtain ⟨t186, A140, H⟩ := H
        replace H : (if t185.toList = t186.toList then ((postriderlaw09_wakes.f k).bind fun t187 => (some t187)) else (some false)) = some r := H
        have A14 := Aside0.mk A140
        clear A140
        by_cases c15 : t185.toList = t186.toList
        · rw [if_pos c15] at H
          have c15b0 : (t185.toList == t186.toList) = true := beq_iff_eq.mpr c15
          have c15b1 : (t185.toList != t186.toList) = false := bne_eq_false_iff_eq.mpr c15
          clear c15
          replace H := Option.bind_eq_some_iff.mp H
          obtain ⟨t187, A160, H⟩ := H
          replace H : (some t187) = some r := H
          have A16 := Aside0.mk A160
          clear A160
          obtain rfl := Option.some.inj H
          go_enter Tryd.func3, Tryd.ntmps3
          go_wp2_with (first | ((with_reducible refine gate_callee (f := 8) rfl ?_); refine goesL_ (some 8) rfl rfl Tryd.func8 (by kernel_rfl) rfl #[.int .i64 a0] rfl (by (try simp only [List.map_toArray, List.map_cons, List.map_nil]); first | done | rfl | (simp only [List.length_drop, List.length_take]; rfl)) ?_; (with_reducible refine (stamp_Day.calls a0 t179 _ A4.out).mono ?_); rintro e w17 ⟨rfl, hb⟩; refine ⟨_, rfl, ?_⟩; have n0_ := Aside0.mk (below_step (by repeat (first | (with_reducible first | exact HB.out | apply below_alloc | apply pw_below_drewN | apply below_drew1) | exact HB.out)) hb); clear HB; have HB := n0_; clear n0_; (try clear hb); (try clear hb2); (try clear hk); (try clear hi)) | ((with_reducible refine gate_callee (f := 9) rfl ?_); refine goesL_ (some 10) rfl rfl Tryd.func9 (by kernel_rfl) rfl #[.int .i64 a0] rfl (by (try simp only [List.map_toArray, List.map_cons, List.map_nil]); first | done | rfl | (simp only [List.length_drop, List.length_take]; rfl)) ?_; (with_reducible refine (postriderref09_Day.calls a0 t180 _ A5.out).mono ?_); rintro e w' ⟨rfl, ⟨nd, rfl⟩⟩; refine ⟨_, rfl, ?_⟩) | (go_at_call 10; (with_reducible refine (stamp_Text.calls a1 t181 _ A7.out).mono ?_); rintro e w18 ⟨rfl, hb⟩; have n0_ := Aside0.mk (below_step (by repeat (first | (with_reducible first | exact HB.out | apply below_alloc | apply pw_below_drewN | apply below_drew1) | exact HB.out)) hb); clear HB; have HB := n0_; clear n0_; (try clear hb); (try clear hb2); (try clear hk); (try clear hi)) | (go_at_call 11; (with_reducible refine (postriderref09_Text.calls a1 t182 _ A8.out).mono ?_); rintro e w19 ⟨rfl, hb⟩; have n0_ := Aside0.mk (below_step (by repeat (first | (with_reducible first | exact HB.out | apply below_alloc | apply pw_below_drewN | apply below_drew1) | exact HB.out)) hb); clear HB; have HB := n0_; clear n0_; (try clear hb); (try clear hb2); (try clear hk); (try clear hi)) | (go_at_call 12; (with_reducible refine (stamp_Age.calls a2 a1 t183 _ A10.out).mono ?_); rintro e w20 ⟨rfl, hb⟩; have n0_ := Aside0.mk (below_step (by repeat (first | (with_reducible first | exact HB.out | apply below_alloc | apply pw_below_drewN | apply below_drew1) | exact HB.out)) hb); clear HB; have HB := n0_; clear n0_; (try clear hb); (try clear hb2); (try clear hk); (try clear hi)) | (go_at_call 13; (with_reducible refine (postriderref09_Age.calls k a2 a1 t184 _ A11.out).mono ?_); rintro e w' ⟨rfl, ⟨nd, rfl⟩⟩) | (go_at_call 14; (with_reducible refine (stamp_Date.calls k a0 t185 _ ?side1 A13.out).mono ?_); (case side1 => exact Glob.below HG.out (by repeat (first | (with_reducible first | exact HB.out | apply below_alloc | apply pw_below_drewN | apply below_drew1) | exact HB.out))); rintro e w21 ⟨rfl, hb⟩; have n0_ := Aside0.mk (below_step (by repeat (first | (with_reducible first | exact HB.out | apply below_alloc | apply pw_below_drewN | apply below_drew1) | exact HB.out)) hb); clear HB; have HB := n0_; clear n0_; (try clear hb); (try clear hb2); (try clear hk); (try clear hi)) | (go_at_call 15; (with_reducible refine (postriderref09_Date.calls k a0 t186 _ A14.out).mono ?_); rintro e w22 ⟨rfl, hb⟩; have n0_ := Aside0.mk (below_step (by repeat (first | (with_reducible first | exact HB.out | apply below_alloc | apply pw_below_drewN | apply below_drew1) | exact HB.out)) hb); clear HB; have HB := n0_; clear n0_; (try clear hb); (try clear hb2); (try clear hk); (try clear hi)) | (go_at_call 16; (with_reducible refine (postriderlaw09_wakes.calls k  t187 _ ?side1 A16.out).mono ?_); (case side1 => exact Glob.below HG.out (by repeat (first | (with_reducible first | exact HB.out | apply below_alloc | apply pw_below_drewN | apply below_drew1) | exact HB.out))); rintro e w23 ⟨rfl, hb⟩; have n0_ := Aside0.mk (below_step (by repeat (first | (with_reducible first | exact HB.out | apply below_alloc | apply pw_below_drewN | apply below_drew1) | exact HB.out)) hb); clear HB; have HB := n0_; clear n0_; (try clear hb); (try clear hb2); (try clear hk); (try clear hi)))
          go_ret
          exact ⟨by first | rfl | (simp [errW_none, errW_some] <;> rfl) | (simp [*, errW_none, errW_some] <;> rfl), by repeat (first | (with_reducible first | exact HB.out | apply below_alloc | apply pw_below_drewN | apply below_drew1) | exact HB.out)⟩
        · rw [if_neg c15] at H
          have c15b0 : (t185.toList == t186.toList) = false := beq_eq_false_iff_ne.mpr c15
          have c15b1 : (t185.toList != t186.toList) = true := bne_iff_ne.mpr c15
          obtain rfl := Option.some.inj H
          go_enter Tryd.func3, Tryd.ntmps3
          go_wp2_with (first | ((with_reducible refine gate_callee (f := 8) rfl ?_); refine goesL_ (some 8) rfl rfl Tryd.func8 (by kernel_rfl) rfl #[.int .i64 a0] rfl (by (try simp only [List.map_toArray, List.map_cons, List.map_nil]); first | done | rfl | (simp only [List.length_drop, List.length_take]; rfl)) ?_; (with_reducible refine (stamp_Day.calls a0 t179 _ A4.out).mono ?_); rintro e w24 ⟨rfl, hb⟩; refine ⟨_, rfl, ?_⟩; have n0_ := Aside0.mk (below_step (by repeat (first | (with_reducible first | exact HB.out | apply below_alloc | apply pw_below_drewN | apply below_drew1) | exact HB.out)) hb); clear HB; have HB := n0_; clear n0_; (try clear hb); (try clear hb2); (try clear hk); (try clear hi)) | ((with_reducible refine gate_callee (f := 9) rfl ?_); refine goesL_ (some 10) rfl rfl Tryd.func9 (by kernel_rfl) rfl #[.int .i64 a0] rfl (by (try simp only [List.map_toArray, List.map_cons, List.map_nil]); first | done | rfl | (simp only [List.length_drop, List.length_take]; rfl)) ?_; (with_reducible refine (postriderref09_Day.calls a0 t180 _ A5.out).mono ?_); rintro e w' ⟨rfl, ⟨nd, rfl⟩⟩; refine ⟨_, rfl, ?_⟩) | (go_at_call 10; (with_reducible refine (stamp_Text.calls a1 t181 _ A7.out).mono ?_); rintro e w25 ⟨rfl, hb⟩; have n0_ := Aside0.mk (below_step (by repeat (first | (with_reducible first | exact HB.out | apply below_alloc | apply pw_below_drewN | apply below_drew1) | exact HB.out)) hb); clear HB; have HB := n0_; clear n0_; (try clear hb); (try clear hb2); (try clear hk); (try clear hi)) | (go_at_call 11; (with_reducible refine (postriderref09_Text.calls a1 t182 _ A8.out).mono ?_); rintro e w26 ⟨rfl, hb⟩; have n0_ := Aside0.mk (below_step (by repeat (first | (with_reducible first | exact HB.out | apply below_alloc | apply pw_below_drewN | apply below_drew1) | exact HB.out)) hb); clear HB; have HB := n0_; clear n0_; (try clear hb); (try clear hb2); (try clear hk); (try clear hi)) | (go_at_call 12; (with_reducible refine (stamp_Age.calls a2 a1 t183 _ A10.out).mono ?_); rintro e w27 ⟨rfl, hb⟩; have n0_ := Aside0.mk (below_step (by repeat (first | (with_reducible first | exact HB.out | apply below_alloc | apply pw_below_drewN | apply below_drew1) | exact HB.out)) hb); clear HB; have HB := n0_; clear n0_; (try clear hb); (try clear hb2); (try clear hk); (try clear hi)) | (go_at_call 13; (with_reducible refine (postriderref09_Age.calls k a2 a1 t184 _ A11.out).mono ?_); rintro e w' ⟨rfl, ⟨nd, rfl⟩⟩) | (go_at_call 14; (with_reducible refine (stamp_Date.calls k a0 t185 _ ?side1 A13.out).mono ?_); (case side1 => exact Glob.below HG.out (by repeat (first | (with_reducible first | exact HB.out | apply below_alloc | apply pw_below_drewN | apply below_drew1) | exact HB.out))); rintro e w28 ⟨rfl, hb⟩; have n0_ := Aside0.mk (below_step (by repeat (first | (with_reducible first | exact HB.out | apply below_alloc | apply pw_below_drewN | apply below_drew1) | exact HB.out)) hb); clear HB; have HB := n0_; clear n0_; (try clear hb); (try clear hb2); (try clear hk); (try clear hi)) | (go_at_call 15; (with_reducible refine (postriderref09_Date.calls k a0 t186 _ A14.out).mono ?_); rintro e w29 ⟨rfl, hb⟩; have n0_ := Aside0.mk (below_step (by repeat (first | (with_reducible first | exact HB.out | apply below_alloc | apply pw_below_drewN | apply below_drew1) | exact HB.out)) hb); clear HB; have HB := n0_; clear n0_; (try clear hb); (try clear hb2); (try clear hk); (try clear hi)))
          go_ret
          exact ⟨by first | rfl | (simp [errW_none, errW_some] <;> rfl) | (simp [*, errW_none, errW_some] <;> rfl), by repeat (first | (with_reducible first | exact HB.out | apply below_alloc | apply pw_below_drewN | apply below_drew1) | exact HB.out)⟩
      · rw [if_neg c12] at H
        have c12b0 : (t183 == t184) = false := beq_eq_false_iff_ne.mpr c12
        have c12b1 : (t183 != t184) = true := bne_iff_ne.mpr c12
        obtain rfl := Option.some.inj H
        go_enter Tryd.func3, Tryd.ntmps3
        go_wp2_with (first | ((with_reducible refine gate_callee (f := 8) rfl ?_); refine goesL_ (some 8) rfl rfl Tryd.func8 (by kernel_rfl) rfl #[.int .i64 a0] rfl (by (try simp only [List.map_toArray, List.map_cons, List.map_nil]); first | done | rfl | (simp only [List.length_drop, List.length_take]; rfl)) ?_; (with_reducible refine (stamp_Day.calls a0 t179 _ A4.out).mono ?_); rintro e w30 ⟨rfl, hb⟩; refine ⟨_, rfl, ?_⟩; have n0_ := Aside0.mk (below_step (by repeat (first | (with_reducible first | exact HB.out | apply below_alloc | apply pw_below_drewN | apply below_drew1) | exact HB.out)) hb); clear HB; have HB := n0_; clear n0_; (try clear hb); (try clear hb2); (try clear hk); (try clear hi)) | ((with_reducible refine gate_callee (f := 9) rfl ?_); refine goesL_ (some 10) rfl rfl Tryd.func9 (by kernel_rfl) rfl #[.int .i64 a0] rfl (by (try simp only [List.map_toArray, List.map_cons, List.map_nil]); first | done | rfl | (simp only [List.length_drop, List.length_take]; rfl)) ?_; (with_reducible refine (postriderref09_Day.calls a0 t180 _ A5.out).mono ?_); rintro e w' ⟨rfl, ⟨nd, rfl⟩⟩; refine ⟨_, rfl, ?_⟩) | (go_at_call 10; (with_reducible refine (stamp_Text.calls a1 t181 _ A7.out).mono ?_); rintro e w31 ⟨rfl, hb⟩; have n0_ := Aside0.mk (below_step (by repeat (first | (with_reducible first | exact HB.out | apply below_alloc | apply pw_below_drewN | apply below_drew1) | exact HB.out)) hb); clear HB; have HB := n0_; clear n0_; (try clear hb); (try clear hb2); (try clear hk); (try clear hi)) | (go_at_call 11; (with_reducible refine (postriderref09_Text.calls a1 t182 _ A8.out).mono ?_); rintro e w32 ⟨rfl, hb⟩; have n0_ := Aside0.mk (below_step (by repeat (first | (with_reducible first | exact HB.out | apply below_alloc | apply pw_below_drewN | apply below_drew1) | exact HB.out)) hb); clear HB; have HB := n0_; clear n0_; (try clear hb); (try clear hb2); (try clear hk); (try clear hi)) | (go_at_call 12; (with_reducible refine (stamp_Age.calls a2 a1 t183 _ A10.out).mono ?_); rintro e w33 ⟨rfl, hb⟩; have n0_ := Aside0.mk (below_step (by repeat (first | (with_reducible first | exact HB.out | apply below_alloc | apply pw_below_drewN | apply below_drew1) | exact HB.out)) hb); clear HB; have HB := n0_; clear n0_; (try clear hb); (try clear hb2); (try clear hk); (try clear hi)) | (go_at_call 13; (with_reducible refine (postriderref09_Age.calls k a2 a1 t184 _ A11.out).mono ?_); rintro e w' ⟨rfl, ⟨nd, rfl⟩⟩))
        go_ret
        exact ⟨by first | rfl | (simp [errW_none, errW_some] <;> rfl) | (simp [*, errW_none, errW_some] <;> rfl), by repeat (first | (with_reducible first | exact HB.out | apply below_alloc | apply pw_below_drewN | apply below_drew1) | exact HB.out)⟩
    · rw [if_neg c9] at H
      have c9b0 : (t181.toList == t182.toList) = false := beq_eq_false_iff_ne.mpr c9
      have c9b1 : (t181.toList != t182.toList) = true := bne_iff_ne.mpr c9
      obtain rfl := Option.some.inj H
      go_enter Tryd.func3, Tryd.ntmps3
      go_wp2_with (first | ((with_reducible refine gate_callee (f := 8) rfl ?_); refine goesL_ (some 8) rfl rfl Tryd.func8 (by kernel_rfl) rfl #[.int .i64 a0] rfl (by (try simp only [List.map_toArray, List.map_cons, List.map_nil]); first | done | rfl | (simp only [List.length_drop, List.length_take]; rfl)) ?_; (with_reducible refine (stamp_Day.calls a0 t179 _ A4.out).mono ?_); rintro e w34 ⟨rfl, hb⟩; refine ⟨_, rfl, ?_⟩; have n0_ := Aside0.mk (below_step (by repeat (first | (with_reducible first | exact HB.out | apply below_alloc | apply pw_below_drewN | apply below_drew1) | exact HB.out)) hb); clear HB; have HB := n0_; clear n0_; (try clear hb); (try clear hb2); (try clear hk); (try clear hi)) | ((with_reducible refine gate_callee (f := 9) rfl ?_); refine goesL_ (some 10) rfl rfl Tryd.func9 (by kernel_rfl) rfl #[.int .i64 a0] rfl (by (try simp only [List.map_toArray, List.map_cons, List.map_nil]); first | done | rfl | (simp only [List.length_drop, List.length_take]; rfl)) ?_; (with_reducible refine (postriderref09_Day.calls a0 t180 _ A5.out).mono ?_); rintro e w' ⟨rfl, ⟨nd, rfl⟩⟩; refine ⟨_, rfl, ?_⟩) | (go_at_call 10; (with_reducible refine (stamp_Text.calls a1 t181 _ A7.out).mono ?_); rintro e w35 ⟨rfl, hb⟩; have n0_ := Aside0.mk (below_step (by repeat (first | (with_reducible first | exact HB.out | apply below_alloc | apply pw_below_drewN | apply below_drew1) | exact HB.out)) hb); clear HB; have HB := n0_; clear n0_; (try clear hb); (try clear hb2); (try clear hk); (try clear hi)) | (go_at_call 11; (with_reducible refine (postriderref09_Text.calls a1 t182 _ A8.out).mono ?_); rintro e w36 ⟨rfl, hb⟩; have n0_ := Aside0.mk (below_step (by repeat (first | (with_reducible first | exact HB.out | apply below_alloc | apply pw_below_drewN | apply below_drew1) | exact HB.out)) hb); clear HB; have HB := n0_; clear n0_; (try clear hb); (try clear hb2); (try clear hk); (try clear hi)))
      go_ret
      exact ⟨by first | rfl | (simp [errW_none, errW_some] <;> rfl) | (simp [*, errW_none, errW_some] <;> rfl), by repeat (first | (with_reducible first | exact HB.out | apply below_alloc | apply pw_below_drewN | apply below_drew1) | exact HB.out)⟩
  · rw [if_neg c6] at H
    have c6b0 : (t179 == t180) = false := beq_eq_false_iff_ne.mpr c6
    have c6b1 : (t179 != t180) = true := bne_iff_ne.mpr c6
    obtain rfl := Option.some.inj H
    go_enter Tryd.func3, Tryd.ntmps3
    go_wp2_with (first | ((with_reducible refine gate_callee (f := 8) rfl ?_); refine goesL_ (some 8) rfl rfl Tryd.func8 (by kernel_rfl) rfl #[.int .i64 a0] rfl (by (try simp only [List.map_toArray, List.map_cons, List.map_nil]); first | done | rfl | (simp only [List.length_drop, List.length_take]; rfl)) ?_; (with_reducible refine (stamp_Day.calls a0 t179 _ A4.out).mono ?_); rintro e w37 ⟨rfl, hb⟩; refine ⟨_, rfl, ?_⟩; have n0_ := Aside0.mk (below_step (by repeat (first | (with_reducible first | exact HB.out | apply below_alloc | apply pw_below_drewN | apply below_drew1) | exact HB.out)) hb); clear HB; have HB := n0_; clear n0_; (try clear hb); (try clear hb2); (try clear hk); (try clear hi)) | ((with_reducible refine gate_callee (f := 9) rfl ?_); refine goesL_ (some 10) rfl rfl Tryd.func9 (by kernel_rfl) rfl #[.int .i64 a0] rfl (by (try simp only [List.map_toArray, List.map_cons, List.map_nil]); first | done | rfl | (simp only [List.length_drop, List.length_take]; rfl)) ?_; (with_reducible refine (postriderref09_Day.calls a0 t180 _ A5.out).mono ?_); rintro e w' ⟨rfl, ⟨nd, rfl⟩⟩; refine ⟨_, rfl, ?_⟩))
    go_ret
    exact ⟨by first | rfl | (simp [errW_none, errW_some] <;> rfl) | (simp [*, errW_none, errW_some] <;> rfl), by repeat (first | (with_reducible first | exact HB.out | apply below_alloc | apply pw_below_drewN | apply below_drew1) | exact HB.out)⟩

/-- THE ONE PURE STATEMENT of postriderlaw09_StampTells: yours. -/
def postriderlaw09_StampTells.Pure : Prop := ∀ (a0 : Int) (a1 : Int) (a2 : Int), (Lit.int .i64 a0).wf = true → (Lit.int .i64 a1).wf = true → (Lit.int .i64 a2).wf = true → ∃ k, postriderlaw09_StampTells.f k a0 a1 a2 = some true
theorem postriderlaw09_StampTells.walk (P : postriderlaw09_StampTells.Pure) (a0 : Int) (a1 : Int) (a2 : Int) (w : World) (w0 : (Lit.int .i64 a0).wf = true) (w1 : (Lit.int .i64 a1).wf = true) (w2 : (Lit.int .i64 a2).wf = true) (hG : Glob w) :
    Calls Tryd.prog 3 #[.int .i64 a0, .int .i64 a1, .int .i64 a2] w fun e w' => e = .returned (.bool true) ∧ Below w.heap.size w w' := by
  obtain ⟨k, h⟩ := P a0 a1 a2 w0 w1 w2
  refine (postriderlaw09_StampTells.calls k a0 a1 a2 true w hG h).mono ?_
  rintro e w' ⟨rfl, hd⟩
  exact ⟨rfl, hd⟩

/-! ### strings_ToLower: function 19 (by hand) -/
def strings_ToLower.f (a0 : ByteArray) : Option ByteArray := if a0.size ≤ 1000000 ∧ (a0.data.toList.all fun b => decide (b.toNat < 128)) = true then some ⟨(Lib.toLowerA a0.data.toList).toArray⟩ else none
theorem strings_ToLower.calls (a0 : ByteArray) (r : ByteArray) (w : World) (h : strings_ToLower.f a0 = some r) :
    Calls Tryd.prog 19 #[.string a0] w fun e w' => e = .returned (.string r) ∧ Below w.heap.size w w' := by
  unfold strings_ToLower.f at h
  split at h
  · rename_i hs
    obtain rfl := Option.some.inj h
    refine Tryd.strings_ToLower_ascii a0 w (by omega) (fun j b hj => ?_)
    have := List.all_eq_true.1 hs.2 b (List.mem_of_getElem? hj)
    simpa using this
  · cases h


/-! ### strings_ToUpper: function 20 (by hand) -/
def strings_ToUpper.f (a0 : ByteArray) : Option ByteArray := if a0.size ≤ 1000000 ∧ (a0.data.toList.all fun b => decide (b.toNat < 128)) = true then some ⟨(Lib.toUpperA a0.data.toList).toArray⟩ else none
theorem strings_ToUpper.calls (a0 : ByteArray) (r : ByteArray) (w : World) (h : strings_ToUpper.f a0 = some r) :
    Calls Tryd.prog 20 #[.string a0] w fun e w' => e = .returned (.string r) ∧ Below w.heap.size w w' := by
  unfold strings_ToUpper.f at h
  split at h
  · rename_i hs
    obtain rfl := Option.some.inj h
    refine Tryd.strings_ToUpper_ascii a0 w (by omega) (fun j b hj => ?_)
    have := List.all_eq_true.1 hs.2 b (List.mem_of_getElem? hj)
    simpa using this
  · cases h


end Go.Proofs.YtoigafnaoaafeaaDoor.Q
