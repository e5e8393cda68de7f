-- Written by this session's own program (wip/tools: a patched run of the printer) out of the translation.
import Derived.Test.YtoigafnaoaafeaaDoorQx0
import Derived.Test.YtoigafnaoaafeaaDoorQx1
import Derived.Test.YtoigafnaoaafeaaDoorQx2
import Derived.Test.YtoigafnaoaafeaaDoorQx4
namespace Go.Proofs.YtoigafnaoaafeaaDoor.Q
open Go.RowKit Go.Proofs.YtoigafnaoaafeaaDoorW.PrintWords Go.Proofs.YtoigafnaoaafeaaDoorW.PrintLast Go.Proofs.YtoigafnaoaafeaaDoorW.PrintMore
attribute [local go_sem] max2_int min2_int max_two min_two max_three min_three max_four min_four   -- for this text's walks alone
set_option linter.unusedVariables false
set_option linter.unusedSimpArgs false

/-! ### postriderlaw09_StampAges: function 5 -/
def postriderlaw09_StampAges.j0 : Nat → Int → Int → ByteArray → Bool → Option (Bool)
  | 0, _, _, _, _ => none
  | k + 1, x0, x1, x2, x65 => if x65 = true then (some false) else ((stamp_Text.f x0).bind fun t197 => ((stamp_Text.f (wrap64 (x0 + (wrap64 (x1))))).bind fun t198 => (if ((t197.toList == t198.toList) != ((Int.tmod x1 1024) == 0)) = true then (some false) else (if 0 ≤ (mn (x2.size : Int) 10) then (if (mn (x2.size : Int) 10) ≤ (x2.size : Int) then ((stamp_Parse.f k (x2.extract 0 ((mn (x2.size : Int) 10) : Int).toNat)).bind fun bt199 => (if bt199.2 = 0 then ((stamp_Text.f bt199.1).bind fun t201 => ((strings_ToUpper.f (x2.extract 0 ((mn (x2.size : Int) 10) : Int).toNat)).bind fun t202 => (if t201.toList = t202.toList then ((postriderlaw09_wakes.f k).bind fun t203 => (some t203)) else (some false)))) else (if bt199.1 = 0 then (if bt199.2 = 5 then ((postriderlaw09_wakes.f k).bind fun t204 => (some t204)) else (some false)) else (some false)))) else (none)) else (none)))))
def postriderlaw09_StampAges.f (k : Nat) (a0 : Int) (a1 : Int) (a2 : ByteArray) : Option (Bool) := (stamp_Text.f (wrap64 (Int.tmod (IntKind.u64.wrap (a0)) 1099511627776))).bind fun t188 => ((stamp_Parse.f k t188).bind fun bt189 => ((stamp_Text.f (wrap64 (Int.tmod (IntKind.u64.wrap (a0)) 1099511627776))).bind fun t191 => ((strings_ToLower.f t191).bind fun t192 => ((stamp_Parse.f k t192).bind fun bt193 => (if bt189.2 = 0 then (if bt193.2 = 0 then (if bt189.1 = bt193.1 then (if bt189.1 = (Int.tmod (wrap64 (Int.tmod (IntKind.u64.wrap (a0)) 1099511627776)) 1024) then ((stamp_Age.f bt189.1 (wrap64 (Int.tmod (IntKind.u64.wrap (a0)) 1099511627776))).bind fun t195 => (if t195 = 0 then ((stamp_Age.f bt189.1 (wrap64 ((wrap64 (Int.tmod (IntKind.u64.wrap (a0)) 1099511627776)) + (wrap64 (Int.tmod a1 1024))))).bind fun t196 => (postriderlaw09_StampAges.j0 k (wrap64 (Int.tmod (IntKind.u64.wrap (a0)) 1099511627776)) a1 a2 (t196 != (wrap64 (Int.tmod a1 1024))))) else (postriderlaw09_StampAges.j0 k (wrap64 (Int.tmod (IntKind.u64.wrap (a0)) 1099511627776)) a1 a2 true))) else (postriderlaw09_StampAges.j0 k (wrap64 (Int.tmod (IntKind.u64.wrap (a0)) 1099511627776)) a1 a2 true)) else (postriderlaw09_StampAges.j0 k (wrap64 (Int.tmod (IntKind.u64.wrap (a0)) 1099511627776)) a1 a2 true)) else (postriderlaw09_StampAges.j0 k (wrap64 (Int.tmod (IntKind.u64.wrap (a0)) 1099511627776)) a1 a2 true)) else (postriderlaw09_StampAges.j0 k (wrap64 (Int.tmod (IntKind.u64.wrap (a0)) 1099511627776)) a1 a2 true))))))
theorem postriderlaw09_StampAges.mono_l : ∀ k, (∀ y0 y1 y2 y3, LeO (postriderlaw09_StampAges.j0 k y0 y1 y2 y3) (postriderlaw09_StampAges.j0 (k + 1) y0 y1 y2 y3))
  | 0 => fun _ _ _ _ r h => by simp [postriderlaw09_StampAges.j0] at h
  | k + 1 => by
    have ih0 := postriderlaw09_StampAges.mono_l k
    · intro y0 y1 y2 y3
      unfold postriderlaw09_StampAges.j0
      repeat' first
      | (with_reducible exact ih0 _ _ _ _)
      | (with_reducible exact postriderlaw09_wakes.mono _)
      | (with_reducible exact stamp_Parse.mono _ _)
      | (with_reducible exact LeO.refl _)
      | (with_reducible exact LeO.none _)
      | (with_reducible refine LeO.ite ?_ ?_)
      | (with_reducible refine LeO.bind ?_ (fun _ => ?_))
      | exact ih0 _ _ _ _
      | exact postriderlaw09_wakes.mono _
      | exact stamp_Parse.mono _ _
      | exact LeO.none _
      | refine LeO.ite ?_ ?_
      | refine LeO.bind ?_ (fun _ => ?_)
theorem postriderlaw09_StampAges.mono : ∀ a0 a1 a2 k, LeO (postriderlaw09_StampAges.f k a0 a1 a2) (postriderlaw09_StampAges.f (k + 1) a0 a1 a2) := by
  intro a0 a1 a2 k
  have ih0 := postriderlaw09_StampAges.mono_l k
  unfold postriderlaw09_StampAges.f
  repeat' first
      | (with_reducible exact ih0 _ _ _ _)
      | (with_reducible exact postriderlaw09_wakes.mono _)
      | (with_reducible exact stamp_Parse.mono _ _)
      | (with_reducible exact LeO.refl _)
      | (with_reducible exact LeO.none _)
      | (with_reducible refine LeO.ite ?_ ?_)
      | (with_reducible refine LeO.bind ?_ (fun _ => ?_))
      | exact ih0 _ _ _ _
      | exact postriderlaw09_wakes.mono _
      | exact stamp_Parse.mono _ _
      | exact LeO.none _
      | refine LeO.ite ?_ ?_
      | refine LeO.bind ?_ (fun _ => ?_)
set_option maxHeartbeats 8000000 in
set_option maxRecDepth 100000 in
theorem postriderlaw09_StampAges.calls (k : Nat) (a0 : Int) (a1 : Int) (a2 : ByteArray) (r : Bool) (w : World) (hG : Glob w) (h : postriderlaw09_StampAges.f k a0 a1 a2 = some r) :
    Calls Tryd.prog 5 #[.int .i64 a0, .int .u16 a1, .string a2] w fun e w' => e = .returned (.bool r) ∧ Below w.heap.size w w' := by
  have HB := Aside0.mk (Below.refl w.heap.size w)
  have HG := Aside0.mk hG
  clear hG
  have H : ((stamp_Text.f (wrap64 (Int.tmod (IntKind.u64.wrap (a0)) 1099511627776))).bind fun t188 => ((stamp_Parse.f k t188).bind fun bt189 => ((stamp_Text.f (wrap64 (Int.tmod (IntKind.u64.wrap (a0)) 1099511627776))).bind fun t191 => ((strings_ToLower.f t191).bind fun t192 => ((stamp_Parse.f k t192).bind fun bt193 => (if bt189.2 = 0 then (if bt193.2 = 0 then (if bt189.1 = bt193.1 then (if bt189.1 = (Int.tmod (wrap64 (Int.tmod (IntKind.u64.wrap (a0)) 1099511627776)) 1024) then ((stamp_Age.f bt189.1 (wrap64 (Int.tmod (IntKind.u64.wrap (a0)) 1099511627776))).bind fun t195 => (if t195 = 0 then ((stamp_Age.f bt189.1 (wrap64 ((wrap64 (Int.tmod (IntKind.u64.wrap (a0)) 1099511627776)) + (wrap64 (Int.tmod a1 1024))))).bind fun t196 => (postriderlaw09_StampAges.j0 k (wrap64 (Int.tmod (IntKind.u64.wrap (a0)) 1099511627776)) a1 a2 (t196 != (wrap64 (Int.tmod a1 1024))))) else (postriderlaw09_StampAges.j0 k (wrap64 (Int.tmod (IntKind.u64.wrap (a0)) 1099511627776)) a1 a2 true))) else (postriderlaw09_StampAges.j0 k (wrap64 (Int.tmod (IntKind.u64.wrap (a0)) 1099511627776)) a1 a2 true)) else (postriderlaw09_StampAges.j0 k (wrap64 (Int.tmod (IntKind.u64.wrap (a0)) 1099511627776)) a1 a2 true)) else (postriderlaw09_StampAges.j0 k (wrap64 (Int.tmod (IntKind.u64.wrap (a0)) 1099511627776)) a1 a2 true)) else (postriderlaw09_StampAges.j0 k (wrap64 (Int.tmod (IntKind.u64.wrap (a0)) 1099511627776)) a1 a2 true))))))) = some r := h
  clear h
  replace H := Option.bind_eq_some_iff.mp H
  obtain ⟨t188, A40, H⟩ := H
  replace H : ((stamp_Parse.f k t188).bind fun bt189 => ((stamp_Text.f (wrap64 (Int.tmod (IntKind.u64.wrap (a0)) 1099511627776))).bind fun t191 => ((strings_ToLower.f t191).bind fun t192 => ((stamp_Parse.f k t192).bind fun bt193 => (if bt189.2 = 0 then (if bt193.2 = 0 then (if bt189.1 = bt193.1 then (if bt189.1 = (Int.tmod (wrap64 (Int.tmod (IntKind.u64.wrap (a0)) 1099511627776)) 1024) then ((stamp_Age.f bt189.1 (wrap64 (Int.tmod (IntKind.u64.wrap (a0)) 1099511627776))).bind fun t195 => (if t195 = 0 then ((stamp_Age.f bt189.1 (wrap64 ((wrap64 (Int.tmod (IntKind.u64.wrap (a0)) 1099511627776)) + (wrap64 (Int.tmod a1 1024))))).bind fun t196 => (postriderlaw09_StampAges.j0 k (wrap64 (Int.tmod (IntKind.u64.wrap (a0)) 1099511627776)) a1 a2 (t196 != (wrap64 (Int.tmod a1 1024))))) else (postriderlaw09_StampAges.j0 k (wrap64 (Int.tmod (IntKind.u64.wrap (a0)) 1099511627776)) a1 a2 true))) else (postriderlaw09_StampAges.j0 k (wrap64 (Int.tmod (IntKind.u64.wrap (a0)) 1099511627776)) a1 a2 true)) else (postriderlaw09_StampAges.j0 k (wrap64 (Int.tmod (IntKind.u64.wrap (a0)) 1099511627776)) a1 a2 true)) else (postriderlaw09_StampAges.j0 k (wrap64 (Int.tmod (IntKind.u64.wrap (a0)) 1099511627776)) a1 a2 true)) else (postriderlaw09_StampAges.j0 k (wrap64 (Int.tmod (IntKind.u64.wrap (a0)) 1099511627776)) a1 a2 true)))))) = some r := H
  have A4 := Aside0.mk A40
  clear A40
  replace H := Option.bind_eq_some_iff.mp H
  obtain ⟨⟨t189, t190⟩, A50, H⟩ := H
  replace H : ((stamp_Text.f (wrap64 (Int.tmod (IntKind.u64.wrap (a0)) 1099511627776))).bind fun t191 => ((strings_ToLower.f t191).bind fun t192 => ((stamp_Parse.f k t192).bind fun bt193 => (if t190 = 0 then (if bt193.2 = 0 then (if t189 = bt193.1 then (if t189 = (Int.tmod (wrap64 (Int.tmod (IntKind.u64.wrap (a0)) 1099511627776)) 1024) then ((stamp_Age.f t189 (wrap64 (Int.tmod (IntKind.u64.wrap (a0)) 1099511627776))).bind fun t195 => (if t195 = 0 then ((stamp_Age.f t189 (wrap64 ((wrap64 (Int.tmod (IntKind.u64.wrap (a0)) 1099511627776)) + (wrap64 (Int.tmod a1 1024))))).bind fun t196 => (postriderlaw09_StampAges.j0 k (wrap64 (Int.tmod (IntKind.u64.wrap (a0)) 1099511627776)) a1 a2 (t196 != (wrap64 (Int.tmod a1 1024))))) else (postriderlaw09_StampAges.j0 k (wrap64 (Int.tmod (IntKind.u64.wrap (a0)) 1099511627776)) a1 a2 true))) else (postriderlaw09_StampAges.j0 k (wrap64 (Int.tmod (IntKind.u64.wrap (a0)) 1099511627776)) a1 a2 true)) else (postriderlaw09_StampAges.j0 k (wrap64 (Int.tmod (IntKind.u64.wrap (a0)) 1099511627776)) a1 a2 true)) else (postriderlaw09_StampAges.j0 k (wrap64 (Int.tmod (IntKind.u64.wrap (a0)) 1099511627776)) a1 a2 true)) else (postriderlaw09_StampAges.j0 k (wrap64 (Int.tmod (IntKind.u64.wrap (a0)) 1099511627776)) a1 a2 true))))) = some r := H
  have A5 := Aside0.mk A50
  clear A50
  replace H := Option.bind_eq_some_iff.mp H
  obtain ⟨t191, A60, H⟩ := H
  replace H : ((strings_ToLower.f t191).bind fun t192 => ((stamp_Parse.f k t192).bind fun bt193 => (if t190 = 0 then (if bt193.2 = 0 then (if t189 = bt193.1 then (if t189 = (Int.tmod (wrap64 (Int.tmod (IntKind.u64.wrap (a0)) 1099511627776)) 1024) then ((stamp_Age.f t189 (wrap64 (Int.tmod (IntKind.u64.wrap (a0)) 1099511627776))).bind fun t195 => (if t195 = 0 then ((stamp_Age.f t189 (wrap64 ((wrap64 (Int.tmod (IntKind.u64.wrap (a0)) 1099511627776)) + (wrap64 (Int.tmod a1 1024))))).bind fun t196 => (postriderlaw09_StampAges.j0 k (wrap64 (Int.tmod (IntKind.u64.wrap (a0)) 1099511627776)) a1 a2 (t196 != (wrap64 (Int.tmod a1 1024))))) else (postriderlaw09_StampAges.j0 k (wrap64 (Int.tmod (IntKind.u64.wrap (a0)) 1099511627776)) a1 a2 true))) else (postriderlaw09_StampAges.j0 k (wrap64 (Int.tmod (IntKind.u64.wrap (a0)) 1099511627776)) a1 a2 true)) else (postriderlaw09_StampAges.j0 k (wrap64 (Int.tmod (IntKind.u64.wrap (a0)) 1099511627776)) a1 a2 true)) else (postriderlaw09_StampAges.j0 k (wrap64 (Int.tmod (IntKind.u64.wrap (a0)) 1099511627776)) a1 a2 true)) else (postriderlaw09_StampAges.j0 k (wrap64 (Int.tmod (IntKind.u64.wrap (a0)) 1099511627776)) a1 a2 true)))) = some r := H
  have A6 := Aside0.mk A60
  clear A60
  have E_ : t188 = t191 := Option.some.inj (A4.out.symm.trans A6.out)
  subst E_
  replace H := Option.bind_eq_some_iff.mp H
  obtain ⟨t192, A70, H⟩ := H
  replace H : ((stamp_Parse.f k t192).bind fun bt193 => (if t190 = 0 then (if bt193.2 = 0 then (if t189 = bt193.1 then (if t189 = (Int.tmod (wrap64 (Int.tmod (IntKind.u64.wrap (a0)) 1099511627776)) 1024) then ((stamp_Age.f t189 (wrap64 (Int.tmod (IntKind.u64.wrap (a0)) 1099511627776))).bind fun t195 => (if t195 = 0 then ((stamp_Age.f t189 (wrap64 ((wrap64 (Int.tmod (IntKind.u64.wrap (a0)) 1099511627776)) + (wrap64 (Int.tmod a1 1024))))).bind fun t196 => (postriderlaw09_StampAges.j0 k (wrap64 (Int.tmod (IntKind.u64.wrap (a0)) 1099511627776)) a1 a2 (t196 != (wrap64 (Int.tmod a1 1024))))) else (postriderlaw09_StampAges.j0 k (wrap64 (Int.tmod (IntKind.u64.wrap (a0)) 1099511627776)) a1 a2 true))) else (postriderlaw09_StampAges.j0 k (wrap64 (Int.tmod (IntKind.u64.wrap (a0)) 1099511627776)) a1 a2 true)) else (postriderlaw09_StampAges.j0 k (wrap64 (Int.tmod (IntKind.u64.wrap (a0)) 1099511627776)) a1 a2 true)) else (postriderlaw09_StampAges.j0 k (wrap64 (Int.tmod (IntKind.u64.wrap (a0)) 1099511627776)) a1 a2 true)) else (postriderlaw09_StampAges.j0 k (wrap64 (Int.tmod (IntKind.u64.wrap (a0)) 1099511627776)) a1 a2 true))) = some r := H
  have A7 := Aside0.mk A70
  clear A70
  replace H := Option.bind_eq_some_iff.mp H
  obtain ⟨⟨t193, t194⟩, A80, H⟩ := H
  replace H : (if t190 = 0 then (if t194 = 0 then (if t189 = t193 then (if t189 = (Int.tmod (wrap64 (Int.tmod (IntKind.u64.wrap (a0)) 1099511627776)) 1024) then ((stamp_Age.f t189 (wrap64 (Int.tmod (IntKind.u64.wrap (a0)) 1099511627776))).bind fun t195 => (if t195 = 0 then ((stamp_Age.f t189 (wrap64 ((wrap64 (Int.tmod (IntKind.u64.wrap (a0)) 1099511627776)) + (wrap64 (Int.tmod a1 1024))))).bind fun t196 => (postriderlaw09_StampAges.j0 k (wrap64 (Int.tmod (IntKind.u64.wrap (a0)) 1099511627776)) a1 a2 (t196 != (wrap64 (Int.tmod a1 1024))))) else (postriderlaw09_StampAges.j0 k (wrap64 (Int.tmod (IntKind.u64.wrap (a0)) 1099511627776)) a1 a2 true))) else (postriderlaw09_StampAges.j0 k (wrap64 (Int.tmod (IntKind.u64.wrap (a0)) 1099511627776)) a1 a2 true)) else (postriderlaw09_StampAges.j0 k (wrap64 (Int.tmod (IntKind.u64.wrap (a0)) 1099511627776)) a1 a2 true)) else (postriderlaw09_StampAges.j0 k (wrap64 (Int.tmod (IntKind.u64.wrap (a0)) 1099511627776)) a1 a2 true)) else (postriderlaw09_StampAges.j0 k (wrap64 (Int.tmod (IntKind.u64.wrap (a0)) 1099511627776)) a1 a2 true)) = some r := H
  have A8 := Aside0.mk A80
  clear A80
  have HC9 := Aside0.mk H
  clear H
  go_enter Tryd.func5, Tryd.ntmps5
  go_upto_region 5 with (first | ((with_reducible refine gate_callee (f := 10) rfl ?_); refine goesL_ (some 23) rfl rfl Tryd.func10 (by kernel_rfl) rfl #[.int .i64 (wrap64 (Int.tmod (IntKind.u64.wrap (a0)) 1099511627776))] rfl (by (try simp only [List.map_toArray, List.map_cons, List.map_nil]); first | done | rfl | (simp only [List.length_drop, List.length_take]; rfl)) ?_; (with_reducible refine (stamp_Text.calls (wrap64 (Int.tmod (IntKind.u64.wrap (a0)) 1099511627776)) t188 _ A4.out).mono ?_); rintro e w10 ⟨rfl, hb⟩; refine ⟨_, rfl, ?_⟩; have n0_ := Aside0.mk (below_step (by repeat (first | (with_reducible first | exact HB.out | apply below_alloc | apply pw_below_drewN | apply below_drew1) | exact HB.out)) hb); clear HB; have HB := n0_; clear n0_; (try clear hb); (try clear hb2); (try clear hk); (try clear hi)) | ((with_reducible refine gate_callee (f := 18) rfl ?_); refine goesL_ (some 24) rfl rfl Tryd.func18 (by kernel_rfl) rfl #[.string t188] rfl (by (try simp only [List.map_toArray, List.map_cons, List.map_nil]); first | done | rfl | (simp only [List.length_drop, List.length_take]; rfl)) ?_; (with_reducible refine (stamp_Parse.calls k t188 t189 t190 _ A5.out).mono ?_); rintro e w' ⟨rfl, ⟨nd, rfl⟩⟩; refine ⟨_, rfl, ?_⟩) | ((with_reducible refine gate_callee (f := 10) rfl ?_); refine goesL_ (some 29) rfl rfl Tryd.func10 (by kernel_rfl) rfl #[.int .i64 (wrap64 (Int.tmod (IntKind.u64.wrap (a0)) 1099511627776))] rfl (by (try simp only [List.map_toArray, List.map_cons, List.map_nil]); first | done | rfl | (simp only [List.length_drop, List.length_take]; rfl)) ?_; (with_reducible refine (stamp_Text.calls (wrap64 (Int.tmod (IntKind.u64.wrap (a0)) 1099511627776)) t188 _ A6.out).mono ?_); rintro e w11 ⟨rfl, hb⟩; refine ⟨_, rfl, ?_⟩; have n0_ := Aside0.mk (below_step (by repeat (first | (with_reducible first | exact HB.out | apply below_alloc | apply pw_below_drewN | apply below_drew1) | exact HB.out)) hb); clear HB; have HB := n0_; clear n0_; (try clear hb); (try clear hb2); (try clear hk); (try clear hi)) | ((with_reducible refine gate_callee (f := 19) rfl ?_); refine goesL_ (some 30) rfl rfl Tryd.func19 (by kernel_rfl) rfl #[.string t188] rfl (by (try simp only [List.map_toArray, List.map_cons, List.map_nil]); first | done | rfl | (simp only [List.length_drop, List.length_take]; rfl)) ?_; (with_reducible refine (strings_ToLower.calls t188 t192 _ A7.out).mono ?_); rintro e w12 ⟨rfl, hb⟩; refine ⟨_, rfl, ?_⟩; have n0_ := Aside0.mk (below_step (by repeat (first | (with_reducible first | exact HB.out | apply below_alloc | apply pw_below_drewN | apply below_drew1) | exact HB.out)) hb); clear HB; have HB := n0_; clear n0_; (try clear hb); (try clear hb2); (try clear hk); (try clear hi)) | ((with_reducible refine gate_callee (f := 18) rfl ?_); refine goesL_ (some 31) rfl rfl Tryd.func18 (by kernel_rfl) rfl #[.string t192] rfl (by (try simp only [List.map_toArray, List.map_cons, List.map_nil]); first | done | rfl | (simp only [List.length_drop, List.length_take]; rfl)) ?_; (with_reducible refine (stamp_Parse.calls k t192 t193 t194 _ A8.out).mono ?_); rintro e w' ⟨rfl, ⟨nd, rfl⟩⟩; refine ⟨_, rfl, ?_⟩))
  (try simp only [Act.put, List.setIfInBounds_toArray, List.set_cons_zero, List.set_cons_succ])
  go_cut [65] (fun v65 wc => ∃ (kq : Nat) (x65_8 : Bool), v65 = .bool x65_8 ∧ Aside0 (postriderlaw09_StampAges.j0 kq (wrap64 (Int.tmod (IntKind.u64.wrap (a0)) 1099511627776)) a1 a2 x65_8 = some r) ∧ Aside0 (kq ≤ k) ∧ Aside0 (Below w.heap.size w wc))
  case first =>
    have H := HC9.out
    clear HC9
    by_cases c13 : t190 = 0
    · rw [if_pos c13] at H
      have c13b0 : (t190 == 0) = true := beq_iff_eq.mpr c13
      have c13b1 : (t190 != 0) = false := bne_eq_false_iff_eq.mpr c13
      clear c13
      (first | rw [c13b0] | (simp only [i64_w, i32_w]; rw [c13b0]) | skip)
      by_cases c14 : t194 = 0
      · rw [if_pos c14] at H
        have c14b0 : (t194 == 0) = true := beq_iff_eq.mpr c14
        have c14b1 : (t194 != 0) = false := bne_eq_false_iff_eq.mpr c14
        clear c14
        by_cases c15 : t189 = t193
        · rw [if_pos c15] at H
          have c15b0 : (t189 == t193) = true := beq_iff_eq.mpr c15
          have c15b1 : (t189 != t193) = false := bne_eq_false_iff_eq.mpr c15
          clear c15
          by_cases c16 : t189 = (Int.tmod (wrap64 (Int.tmod (IntKind.u64.wrap (a0)) 1099511627776)) 1024)
          · rw [if_pos c16] at H
            have c16b0 : (t189 == (Int.tmod (wrap64 (Int.tmod (IntKind.u64.wrap (a0)) 1099511627776)) 1024)) = true := beq_iff_eq.mpr c16
            have c16b1 : (t189 != (Int.tmod (wrap64 (Int.tmod (IntKind.u64.wrap (a0)) 1099511627776)) 1024)) = false := bne_eq_false_iff_eq.mpr c16
            clear c16
            replace H := Option.bind_eq_some_iff.mp H
            obtain ⟨t195, A170, H⟩ := H
            replace H : (if t195 = 0 then ((stamp_Age.f t189 (wrap64 ((wrap64 (Int.tmod (IntKind.u64.wrap (a0)) 1099511627776)) + (wrap64 (Int.tmod a1 1024))))).bind fun t196 => (postriderlaw09_StampAges.j0 k (wrap64 (Int.tmod (IntKind.u64.wrap (a0)) 1099511627776)) a1 a2 (t196 != (wrap64 (Int.tmod a1 1024))))) else (postriderlaw09_StampAges.j0 k (wrap64 (Int.tmod (IntKind.u64.wrap (a0)) 1099511627776)) a1 a2 true)) = some r := H
            have A17 := Aside0.mk A170
            clear A170
            by_cases c18 : t195 = 0
            · rw [if_pos c18] at H
              have c18b0 : (t195 == 0) = true := beq_iff_eq.mpr c18
              have c18b1 : (t195 != 0) = false := bne_eq_false_iff_eq.mpr c18
              clear c18
              replace H := Option.bind_eq_some_iff.mp H
              obtain ⟨t196, A190, H⟩ := H
              replace H : (postriderlaw09_StampAges.j0 k (wrap64 (Int.tmod (IntKind.u64.wrap (a0)) 1099511627776)) a1 a2 (t196 != (wrap64 (Int.tmod a1 1024)))) = some r := H
              have A19 := Aside0.mk A190
              clear A190
              have H' := Aside0.mk H
              clear H
              go_wp2_with (first | (go_at_call 12; (with_reducible refine (stamp_Age.calls t189 (wrap64 (Int.tmod (IntKind.u64.wrap (a0)) 1099511627776)) t195 _ A17.out).mono ?_); rintro e w20 ⟨rfl, hb⟩; have n0_ := Aside0.mk (below_step (by repeat (first | (with_reducible first | exact HB.out | apply below_alloc | apply pw_below_drewN | apply below_drew1) | exact HB.out)) hb); clear HB; have HB := n0_; clear n0_; (try clear hb); (try clear hb2); (try clear hk); (try clear hi)) | (go_at_call 12; (with_reducible refine (stamp_Age.calls t189 (wrap64 ((wrap64 (Int.tmod (IntKind.u64.wrap (a0)) 1099511627776)) + (wrap64 (Int.tmod a1 1024)))) t196 _ A19.out).mono ?_); rintro e w21 ⟨rfl, hb⟩; have n0_ := Aside0.mk (below_step (by repeat (first | (with_reducible first | exact HB.out | apply below_alloc | apply pw_below_drewN | apply below_drew1) | exact HB.out)) hb); clear HB; have HB := n0_; clear n0_; (try clear hb); (try clear hb2); (try clear hk); (try clear hi)))
              go_meet
              case rel => exact ⟨_, ((t196 != (wrap64 (Int.tmod a1 1024)))), (by first | rfl | (simp; done) | (simp [*]; done)), H', ⟨by first | omega | exact Nat.le_refl _⟩, ⟨by repeat (first | (with_reducible first | exact HB.out | apply below_alloc | apply pw_below_drewN | apply below_drew1) | exact HB.out)⟩⟩
            · rw [if_neg c18] at H
              have c18b0 : (t195 == 0) = false := beq_eq_false_iff_ne.mpr c18
              have c18b1 : (t195 != 0) = true := bne_iff_ne.mpr c18
              have H' := Aside0.mk H
              clear H
              go_wp2_with (first | (go_at_call 12; (with_reducible refine (stamp_Age.calls t189 (wrap64 (Int.tmod (IntKind.u64.wrap (a0)) 1099511627776)) t195 _ A17.out).mono ?_); rintro e w22 ⟨rfl, hb⟩; have n0_ := Aside0.mk (below_step (by repeat (first | (with_reducible first | exact HB.out | apply below_alloc | apply pw_below_drewN | apply below_drew1) | exact HB.out)) hb); clear HB; have HB := n0_; clear n0_; (try clear hb); (try clear hb2); (try clear hk); (try clear hi)))
              go_meet
              case rel => exact ⟨_, (true), (by first | rfl | (simp; done) | (simp [*]; done)), H', ⟨by first | omega | exact Nat.le_refl _⟩, ⟨by repeat (first | (with_reducible first | exact HB.out | apply below_alloc | apply pw_below_drewN | apply below_drew1) | exact HB.out)⟩⟩
          · rw [if_neg c16] at H
            have c16b0 : (t189 == (Int.tmod (wrap64 (Int.tmod (IntKind.u64.wrap (a0)) 1099511627776)) 1024)) = false := beq_eq_false_iff_ne.mpr c16
            have c16b1 : (t189 != (Int.tmod (wrap64 (Int.tmod (IntKind.u64.wrap (a0)) 1099511627776)) 1024)) = true := bne_iff_ne.mpr c16
            have H' := Aside0.mk H
            clear H
            go_wp2
            go_meet
            case rel => exact ⟨_, (true), (by first | rfl | (simp; done) | (simp [*]; done)), H', ⟨by first | omega | exact Nat.le_refl _⟩, ⟨by repeat (first | (with_reducible first | exact HB.out | apply below_alloc | apply pw_below_drewN | apply below_drew1) | exact HB.out)⟩⟩
        · rw [if_neg c15] at H
          have c15b0 : (t189 == t193) = false := beq_eq_false_iff_ne.mpr c15
          have c15b1 : (t189 != t193) = true := bne_iff_ne.mpr c15
          have H' := Aside0.mk H
          clear H
          go_wp2
          go_meet
          case rel => exact ⟨_, (true), (by first | rfl | (simp; done) | (simp [*]; done)), H', ⟨by first | omega | exact Nat.le_refl _⟩, ⟨by repeat (first | (with_reducible first | exact HB.out | apply below_alloc | apply pw_below_drewN | apply below_drew1) | exact HB.out)⟩⟩
      · rw [if_neg c14] at H
        have c14b0 : (t194 == 0) = false := beq_eq_false_iff_ne.mpr c14
        have c14b1 : (t194 != 0) = true := bne_iff_ne.mpr c14
        have H' := Aside0.mk H
        clear H
        go_wp2
        go_meet
        case rel => exact ⟨_, (true), (by first | rfl | (simp; done) | (simp [*]; done)), H', ⟨by first | omega | exact Nat.le_refl _⟩, ⟨by repeat (first | (with_reducible first | exact HB.out | apply below_alloc | apply pw_below_drewN | apply below_drew1) | exact HB.out)⟩⟩
    · rw [if_neg c13] at H
      have c13b0 : (t190 == 0) = false := beq_eq_false_iff_ne.mpr c13
      have c13b1 : (t190 != 0) = true := bne_iff_ne.mpr c13
      (first | rw [c13b0] | (simp only [i64_w, i32_w]; rw [c13b0]) | skip)
      have H' := Aside0.mk H
      clear H
      go_wp2
      go_meet
      case rel => exact ⟨_, (true), (by first | rfl | (simp; done) | (simp [*]; done)), H', ⟨by first | omega | exact Nat.le_refl _⟩, ⟨by repeat (first | (with_reducible first | exact HB.out | apply below_alloc | apply pw_below_drewN | apply below_drew1) | exact HB.out)⟩⟩
  case rest =>
    clear HC9
    try clear c1
    try clear p2
    try clear c5
    try clear p6
    try clear c10
    try clear c13
    try clear c13b0
    try clear c13b1
    try clear c14
    try clear c14b0
    try clear c14b1
    try clear c15
    try clear c15b0
    try clear c15b1
    try clear c16
    try clear c16b0
    try clear c16b1
    try clear c18
    try clear c18b0
    try clear c18b1
    try clear c19
    obtain ⟨kq, x65_8, rfl, HA, HJ8, HB⟩ := hcut
    cases kq with
    | zero => exact absurd HA.out (by simp [postriderlaw09_StampAges.j0])
    | succ kj8 =>
      have H := HA.out
      clear HA
      simp only [postriderlaw09_StampAges.j0] at H
      by_cases c23 : x65_8 = true
      · subst c23
        have H1 : (some false) = some r := by rw [if_pos rfl] at H; exact H
        clear H
        have H := H1
        clear H1
        obtain rfl := Option.some.inj H
        go_wp2
        go_ret
        exact ⟨by first | rfl | (simp [errW_none, errW_some] <;> rfl) | (simp [*, errW_none, errW_some] <;> rfl), by repeat (first | (with_reducible first | exact HB.out | apply below_alloc | apply pw_below_drewN | apply below_drew1) | exact HB.out)⟩
      · replace c23 := Bool.eq_false_iff.mpr c23
        subst c23
        have H1 : ((stamp_Text.f (wrap64 (Int.tmod (IntKind.u64.wrap (a0)) 1099511627776))).bind fun t197 => ((stamp_Text.f (wrap64 ((wrap64 (Int.tmod (IntKind.u64.wrap (a0)) 1099511627776)) + (wrap64 (a1))))).bind fun t198 => (if ((t197.toList == t198.toList) != ((Int.tmod a1 1024) == 0)) = true then (some false) else (if 0 ≤ (mn (a2.size : Int) 10) then (if (mn (a2.size : Int) 10) ≤ (a2.size : Int) then ((stamp_Parse.f kj8 (a2.extract 0 ((mn (a2.size : Int) 10) : Int).toNat)).bind fun bt199 => (if bt199.2 = 0 then ((stamp_Text.f bt199.1).bind fun t201 => ((strings_ToUpper.f (a2.extract 0 ((mn (a2.size : Int) 10) : Int).toNat)).bind fun t202 => (if t201.toList = t202.toList then ((postriderlaw09_wakes.f kj8).bind fun t203 => (some t203)) else (some false)))) else (if bt199.1 = 0 then (if bt199.2 = 5 then ((postriderlaw09_wakes.f kj8).bind fun t204 => (some t204)) else (some false)) else (some false)))) else (none)) else (none))))) = some r := by rw [if_neg (show ¬ (false = true) by decide)] at H; exact H
        clear H
        have H := H1
        clear H1
        replace H := Option.bind_eq_some_iff.mp H
        obtain ⟨t197, A240, H⟩ := H
        replace H : ((stamp_Text.f (wrap64 ((wrap64 (Int.tmod (IntKind.u64.wrap (a0)) 1099511627776)) + (wrap64 (a1))))).bind fun t198 => (if ((t197.toList == t198.toList) != ((Int.tmod a1 1024) == 0)) = true then (some false) else (if 0 ≤ (mn (a2.size : Int) 10) then (if (mn (a2.size : Int) 10) ≤ (a2.size : Int) then ((stamp_Parse.f kj8 (a2.extract 0 ((mn (a2.size : Int) 10) : Int).toNat)).bind fun bt199 => (if bt199.2 = 0 then ((stamp_Text.f bt199.1).bind fun t201 => ((strings_ToUpper.f (a2.extract 0 ((mn (a2.size : Int) 10) : Int).toNat)).bind fun t202 => (if t201.toList = t202.toList then ((postriderlaw09_wakes.f kj8).bind fun t203 => (some t203)) else (some false)))) else (if bt199.1 = 0 then (if bt199.2 = 5 then ((postriderlaw09_wakes.f kj8).bind fun t204 => (some t204)) else (some false)) else (some false)))) else (none)) else (none)))) = some r := H
        have A24 := Aside0.mk A240
        clear A240
        replace H := Option.bind_eq_some_iff.mp H
        obtain ⟨t198, A250, H⟩ := H
        replace H : (if ((t197.toList == t198.toList) != ((Int.tmod a1 1024) == 0)) = true then (some false) else (if 0 ≤ (mn (a2.size : Int) 10) then (if (mn (a2.size : Int) 10) ≤ (a2.size : Int) then ((stamp_Parse.f kj8 (a2.extract 0 ((mn (a2.size : Int) 10) : Int).toNat)).bind fun bt199 => (if bt199.2 = 0 then ((stamp_Text.f bt199.1).bind fun t201 => ((strings_ToUpper.f (a2.extract 0 ((mn (a2.size : Int) 10) : Int).toNat)).bind fun t202 => (if t201.toList = t202.toList then ((postriderlaw09_wakes.f kj8).bind fun t203 => (some t203)) else (some false)))) else (if bt199.1 = 0 then (if bt199.2 = 5 then ((postriderlaw09_wakes.f kj8).bind fun t204 => (some t204)) else (some false)) else (some false)))) else (none)) else (none))) = some r := H
        have A25 := Aside0.mk A250
        clear A250
        by_cases c26 : ((t197.toList == t198.toList) != ((Int.tmod a1 1024) == 0)) = true
        · rw [if_pos c26] at H
          have c26b0 : ((t197.toList == t198.toList) != ((Int.tmod a1 1024) == 0)) = true := c26
          (try (have c26b1 : decide ((t197.toList == t198.toList) = ((Int.tmod a1 1024) == 0)) = false := by simpa using c26))
          (try (have c26b2 : ((t197.toList == t198.toList) == ((Int.tmod a1 1024) == 0)) = false := by simpa using c26))
          (try (have c26b3 : ¬ ((t197.toList == t198.toList) = ((Int.tmod a1 1024) == 0)) := by simpa using c26))
          clear c26
          obtain rfl := Option.some.inj H
          go_wp2_with (first | ((with_reducible refine gate_callee (f := 10) rfl ?_); refine goesL_ (some 67) rfl rfl Tryd.func10 (by kernel_rfl) rfl #[.int .i64 (wrap64 (Int.tmod (IntKind.u64.wrap (a0)) 1099511627776))] rfl (by (try simp only [List.map_toArray, List.map_cons, List.map_nil]); first | done | rfl | (simp only [List.length_drop, List.length_take]; rfl)) ?_; (with_reducible refine (stamp_Text.calls (wrap64 (Int.tmod (IntKind.u64.wrap (a0)) 1099511627776)) t197 _ A24.out).mono ?_); rintro e w27 ⟨rfl, hb⟩; refine ⟨_, rfl, ?_⟩; have n0_ := Aside0.mk (below_step (by repeat (first | (with_reducible first | exact HB.out | apply below_alloc | apply pw_below_drewN | apply below_drew1) | exact HB.out)) hb); clear HB; have HB := n0_; clear n0_; (try clear hb); (try clear hb2); (try clear hk); (try clear hi)) | ((with_reducible refine gate_callee (f := 10) rfl ?_); refine goesL_ (some 72) rfl rfl Tryd.func10 (by kernel_rfl) rfl #[.int .i64 (wrap64 ((wrap64 (Int.tmod (IntKind.u64.wrap (a0)) 1099511627776)) + (wrap64 (a1))))] rfl (by (try simp only [List.map_toArray, List.map_cons, List.map_nil]); first | done | rfl | (simp only [List.length_drop, List.length_take]; rfl)) ?_; (with_reducible refine (stamp_Text.calls (wrap64 ((wrap64 (Int.tmod (IntKind.u64.wrap (a0)) 1099511627776)) + (wrap64 (a1)))) t198 _ A25.out).mono ?_); rintro e w28 ⟨rfl, hb⟩; refine ⟨_, rfl, ?_⟩; have n0_ := Aside0.mk (below_step (by repeat (first | (with_reducible first | exact HB.out | apply below_alloc | apply pw_below_drewN | apply below_drew1) | exact HB.out)) hb); clear HB; have HB := n0_; clear n0_; (try clear hb); (try clear hb2); (try clear hk); (try clear hi)))
          go_ret
          exact ⟨by first | rfl | (simp [errW_none, errW_some] <;> rfl) | (simp [*, errW_none, errW_some] <;> rfl), by repeat (first | (with_reducible first | exact HB.out | apply below_alloc | apply pw_below_drewN | apply below_drew1) | exact HB.out)⟩
        · rw [if_neg c26] at H
          have c26b0 : ((t197.toList == t198.toList) != ((Int.tmod a1 1024) == 0)) = false := by simpa using c26
          (try (have c26b1 : decide ((t197.toList == t198.toList) = ((Int.tmod a1 1024) == 0)) = true := by simpa using c26))
          (try (have c26b2 : ((t197.toList == t198.toList) == ((Int.tmod a1 1024) == 0)) = true := by simpa using c26))
          clear c26
          obtain ⟨ji29, hji29⟩ : ∃ j_ : Int, (mn (a2.size : Int) 10) = j_ := ⟨_, rfl⟩
          replace H : (if 0 ≤ (ji29) then (if (ji29) ≤ (a2.size : Int) then ((stamp_Parse.f kj8 (a2.extract 0 ((ji29) : Int).toNat)).bind fun bt199 => (if bt199.2 = 0 then ((stamp_Text.f bt199.1).bind fun t201 => ((strings_ToUpper.f (a2.extract 0 ((ji29) : Int).toNat)).bind fun t202 => (if t201.toList = t202.toList then ((postriderlaw09_wakes.f kj8).bind fun t203 => (some t203)) else (some false)))) else (if bt199.1 = 0 then (if bt199.2 = 5 then ((postriderlaw09_wakes.f kj8).bind fun t204 => (some t204)) else (some false)) else (some false)))) else (none)) else (none)) = some r := by first | (rw [hji29] at H; exact H) | (simp only [hji29] at H ⊢; exact H)
          (try rw [hji29] at A24)
          (try rw [hji29] at A25)
          have hji29_ : (if 10 < (a2.size : Int) then 10 else (a2.size : Int)) = ji29 := hji29
          by_cases c30 : 0 ≤ (ji29)
          · rw [if_pos c30] at H
            have c30b0 := eq_true c30
            have c30b1 : decide (0 ≤ (ji29)) = true := decide_eq_true c30
            clear c30
            by_cases c31 : (ji29) ≤ (a2.size : Int)
            · rw [if_pos c31] at H
              have c31b0 := eq_true c31
              have c31b1 : decide ((ji29) ≤ (a2.size : Int)) = true := decide_eq_true c31
              clear c31
              obtain ⟨js32, hjs32⟩ : ∃ j_ : ByteArray, (a2.extract 0 ((ji29) : Int).toNat) = j_ := ⟨_, rfl⟩
              replace H : ((stamp_Parse.f kj8 js32).bind fun bt199 => (if bt199.2 = 0 then ((stamp_Text.f bt199.1).bind fun t201 => ((strings_ToUpper.f js32).bind fun t202 => (if t201.toList = t202.toList then ((postriderlaw09_wakes.f kj8).bind fun t203 => (some t203)) else (some false)))) else (if bt199.1 = 0 then (if bt199.2 = 5 then ((postriderlaw09_wakes.f kj8).bind fun t204 => (some t204)) else (some false)) else (some false)))) = some r := by first | (rw [hjs32] at H; exact H) | (simp only [hjs32] at H ⊢; exact H)
              replace H := Option.bind_eq_some_iff.mp H
              obtain ⟨⟨t199, t200⟩, A330, H⟩ := H
              replace H : (if t200 = 0 then ((stamp_Text.f t199).bind fun t201 => ((strings_ToUpper.f js32).bind fun t202 => (if t201.toList = t202.toList then ((postriderlaw09_wakes.f kj8).bind fun t203 => (some t203)) else (some false)))) else (if t199 = 0 then (if t200 = 5 then ((postriderlaw09_wakes.f kj8).bind fun t204 => (some t204)) else (some false)) else (some false))) = some r := H
              have A33 := Aside0.mk A330
              clear A330
              by_cases c34 : t200 = 0
              · rw [if_pos c34] at H
                have c34b0 : (t200 == 0) = true := beq_iff_eq.mpr c34
                have c34b1 : (t200 != 0) = false := bne_eq_false_iff_eq.mpr c34
                clear c34
                replace H := Option.bind_eq_some_iff.mp H
                obtain ⟨t201, A350, H⟩ := H
                replace H : ((strings_ToUpper.f js32).bind fun t202 => (if t201.toList = t202.toList then ((postriderlaw09_wakes.f kj8).bind fun t203 => (some t203)) else (some false))) = some r := H
                have A35 := Aside0.mk A350
                clear A350
                replace H := Option.bind_eq_some_iff.mp H
                obtain ⟨t202, A360, H⟩ := H
                replace H : (if t201.toList = t202.toList then ((postriderlaw09_wakes.f kj8).bind fun t203 => (some t203)) else (some false)) = some r := H
                have A36 := Aside0.mk A360
                clear A360
                by_cases c37 : t201.toList = t202.toList
                · rw [if_pos c37] at H
                  have c37b0 : (t201.toList == t202.toList) = true := beq_iff_eq.mpr c37
                  have c37b1 : (t201.toList != t202.toList) = false := bne_eq_false_iff_eq.mpr c37
                  clear c37
                  replace H := Option.bind_eq_some_iff.mp H
                  obtain ⟨t203, A380, H⟩ := H
                  replace H : (some t203) = some r := H
                  have A38 := Aside0.mk A380
                  clear A380
                  obtain rfl := Option.some.inj H
                  go_wp2_with (first | ((with_reducible refine gate_callee (f := 10) rfl ?_); refine goesL_ (some 67) rfl rfl Tryd.func10 (by kernel_rfl) rfl #[.int .i64 (wrap64 (Int.tmod (IntKind.u64.wrap (a0)) 1099511627776))] rfl (by (try simp only [List.map_toArray, List.map_cons, List.map_nil]); first | done | rfl | (simp only [List.length_drop, List.length_take]; rfl)) ?_; (with_reducible refine (stamp_Text.calls (wrap64 (Int.tmod (IntKind.u64.wrap (a0)) 1099511627776)) t197 _ A24.out).mono ?_); rintro e w39 ⟨rfl, hb⟩; refine ⟨_, rfl, ?_⟩; have n0_ := Aside0.mk (below_step (by repeat (first | (with_reducible first | exact HB.out | apply below_alloc | apply pw_below_drewN | apply below_drew1) | exact HB.out)) hb); clear HB; have HB := n0_; clear n0_; (try clear hb); (try clear hb2); (try clear hk); (try clear hi)) | ((with_reducible refine gate_callee (f := 10) rfl ?_); refine goesL_ (some 72) rfl rfl Tryd.func10 (by kernel_rfl) rfl #[.int .i64 (wrap64 ((wrap64 (Int.tmod (IntKind.u64.wrap (a0)) 1099511627776)) + (wrap64 (a1))))] rfl (by (try simp only [List.map_toArray, List.map_cons, List.map_nil]); first | done | rfl | (simp only [List.length_drop, List.length_take]; rfl)) ?_; (with_reducible refine (stamp_Text.calls (wrap64 ((wrap64 (Int.tmod (IntKind.u64.wrap (a0)) 1099511627776)) + (wrap64 (a1)))) t198 _ A25.out).mono ?_); rintro e w40 ⟨rfl, hb⟩; refine ⟨_, rfl, ?_⟩; have n0_ := Aside0.mk (below_step (by repeat (first | (with_reducible first | exact HB.out | apply below_alloc | apply pw_below_drewN | apply below_drew1) | exact HB.out)) hb); clear HB; have HB := n0_; clear n0_; (try clear hb); (try clear hb2); (try clear hk); (try clear hi)) | ((with_reducible refine gate_callee (f := 18) rfl ?_); refine goesL_ (some 85) rfl rfl Tryd.func18 (by kernel_rfl) rfl #[.string js32] rfl (by (try simp only [List.map_toArray, List.map_cons, List.map_nil]); first | done | rfl | (simp only [List.length_drop, List.length_take]; rfl)) ?_; (with_reducible refine (stamp_Parse.calls kj8 js32 t199 t200 _ A33.out).mono ?_); rintro e w' ⟨rfl, ⟨nd, rfl⟩⟩; refine ⟨_, rfl, ?_⟩) | ((with_reducible refine gate_callee (f := 10) rfl ?_); refine goesL_ (some 100) rfl rfl Tryd.func10 (by kernel_rfl) rfl #[.int .i64 t199] rfl (by (try simp only [List.map_toArray, List.map_cons, List.map_nil]); first | done | rfl | (simp only [List.length_drop, List.length_take]; rfl)) ?_; (with_reducible refine (stamp_Text.calls t199 t201 _ A35.out).mono ?_); rintro e w41 ⟨rfl, hb⟩; refine ⟨_, rfl, ?_⟩; have n0_ := Aside0.mk (below_step (by repeat (first | (with_reducible first | exact HB.out | apply below_alloc | apply pw_below_drewN | apply below_drew1) | exact HB.out)) hb); clear HB; have HB := n0_; clear n0_; (try clear hb); (try clear hb2); (try clear hk); (try clear hi)) | ((with_reducible refine gate_callee (f := 20) rfl ?_); refine goesL_ (some 102) rfl rfl Tryd.func20 (by kernel_rfl) rfl #[.string js32] rfl (by (try simp only [List.map_toArray, List.map_cons, List.map_nil]); first | done | rfl | (simp only [List.length_drop, List.length_take]; rfl)) ?_; (with_reducible refine (strings_ToUpper.calls js32 t202 _ A36.out).mono ?_); rintro e w42 ⟨rfl, hb⟩; refine ⟨_, rfl, ?_⟩; have n0_ := Aside0.mk (below_step (by repeat (first | (with_reducible first | exact HB.out | apply below_alloc | apply pw_below_drewN | apply below_drew1) | exact HB.out)) hb); clear HB; have HB := n0_; clear n0_; (try clear hb); (try clear hb2); (try clear hk); (try clear hi)) | (go_at_call 16; (with_reducible refine (postriderlaw09_wakes.calls kj8  t203 _ ?side1 A38.out).mono ?_); (case side1 => exact Glob.below HG.out (by repeat (first | (with_reducible first | exact HB.out | apply below_alloc | apply pw_below_drewN | apply below_drew1) | exact HB.out))); rintro e w43 ⟨rfl, hb⟩; have n0_ := Aside0.mk (below_step (by repeat (first | (with_reducible first | exact HB.out | apply below_alloc | apply pw_below_drewN | apply below_drew1) | exact HB.out)) hb); clear HB; have HB := n0_; clear n0_; (try clear hb); (try clear hb2); (try clear hk); (try clear hi)))
                  go_ret
                  exact ⟨by first | rfl | (simp [errW_none, errW_some] <;> rfl) | (simp only [← hji29]; first | rfl | (simp [errW_none, errW_some] <;> rfl)) | (simp [*, errW_none, errW_some] <;> rfl), by repeat (first | (with_reducible first | exact HB.out | apply below_alloc | apply pw_below_drewN | apply below_drew1) | exact HB.out)⟩
                · rw [if_neg c37] at H
                  have c37b0 : (t201.toList == t202.toList) = false := beq_eq_false_iff_ne.mpr c37
                  have c37b1 : (t201.toList != t202.toList) = true := bne_iff_ne.mpr c37
                  obtain rfl := Option.some.inj H
                  go_wp2_with (first | ((with_reducible refine gate_callee (f := 10) rfl ?_); refine goesL_ (some 67) rfl rfl Tryd.func10 (by kernel_rfl) rfl #[.int .i64 (wrap64 (Int.tmod (IntKind.u64.wrap (a0)) 1099511627776))] rfl (by (try simp only [List.map_toArray, List.map_cons, List.map_nil]); first | done | rfl | (simp only [List.length_drop, List.length_take]; rfl)) ?_; (with_reducible refine (stamp_Text.calls (wrap64 (Int.tmod (IntKind.u64.wrap (a0)) 1099511627776)) t197 _ A24.out).mono ?_); rintro e w44 ⟨rfl, hb⟩; refine ⟨_, rfl, ?_⟩; have n0_ := Aside0.mk (below_step (by repeat (first | (with_reducible first | exact HB.out | apply below_alloc | apply pw_below_drewN | apply below_drew1) | exact HB.out)) hb); clear HB; have HB := n0_; clear n0_; (try clear hb); (try clear hb2); (try clear hk); (try clear hi)) | ((with_reducible refine gate_callee (f := 10) rfl ?_); refine goesL_ (some 72) rfl rfl Tryd.func10 (by kernel_rfl) rfl #[.int .i64 (wrap64 ((wrap64 (Int.tmod (IntKind.u64.wrap (a0)) 1099511627776)) + (wrap64 (a1))))] rfl (by (try simp only [List.map_toArray, List.map_cons, List.map_nil]); first | done | rfl | (simp only [List.length_drop, List.length_take]; rfl)) ?_; (with_reducible refine (stamp_Text.calls (wrap64 ((wrap64 (Int.tmod (IntKind.u64.wrap (a0)) 1099511627776)) + (wrap64 (a1)))) t198 _ A25.out).mono ?_); rintro e w45 ⟨rfl, hb⟩; refine ⟨_, rfl, ?_⟩; have n0_ := Aside0.mk (below_step (by repeat (first | (with_reducible first | exact HB.out | apply below_alloc | apply pw_below_drewN | apply below_drew1) | exact HB.out)) hb); clear HB; have HB := n0_; clear n0_; (try clear hb); (try clear hb2); (try clear hk); (try clear hi)) | ((with_reducible refine gate_callee (f := 18) rfl ?_); refine goesL_ (some 85) rfl rfl Tryd.func18 (by kernel_rfl) rfl #[.string js32] rfl (by (try simp only [List.map_toArray, List.map_cons, List.map_nil]); first | done | rfl | (simp only [List.length_drop, List.length_take]; rfl)) ?_; (with_reducible refine (stamp_Parse.calls kj8 js32 t199 t200 _ A33.out).mono ?_); rintro e w' ⟨rfl, ⟨nd, rfl⟩⟩; refine ⟨_, rfl, ?_⟩) | ((with_reducible refine gate_callee (f := 10) rfl ?_); refine goesL_ (some 100) rfl rfl Tryd.func10 (by kernel_rfl) rfl #[.int .i64 t199] rfl (by (try simp only [List.map_toArray, List.map_cons, List.map_nil]); first | done | rfl | (simp only [List.length_drop, List.length_take]; rfl)) ?_; (with_reducible refine (stamp_Text.calls t199 t201 _ A35.out).mono ?_); rintro e w46 ⟨rfl, hb⟩; refine ⟨_, rfl, ?_⟩; have n0_ := Aside0.mk (below_step (by repeat (first | (with_reducible first | exact HB.out | apply below_alloc | apply pw_below_drewN | apply below_drew1) | exact HB.out)) hb); clear HB; have HB := n0_; clear n0_; (try clear hb); (try clear hb2); (try clear hk); (try clear hi)) | ((with_reducible refine gate_callee (f := 20) rfl ?_); refine goesL_ (some 102) rfl rfl Tryd.func20 (by kernel_rfl) rfl #[.string js32] rfl (by (try simp only [List.map_toArray, List.map_cons, List.map_nil]); first | done | rfl | (simp only [List.length_drop, List.length_take]; rfl)) ?_; (with_reducible refine (strings_ToUpper.calls js32 t202 _ A36.out).mono ?_); rintro e w47 ⟨rfl, hb⟩; refine ⟨_, rfl, ?_⟩; have n0_ := Aside0.mk (below_step (by repeat (first | (with_reducible first | exact HB.out | apply below_alloc | apply pw_below_drewN | apply below_drew1) | exact HB.out)) hb); clear HB; have HB := n0_; clear n0_; (try clear hb); (try clear hb2); (try clear hk); (try clear hi)))
                  go_ret
                  exact ⟨by first | rfl | (simp [errW_none, errW_some] <;> rfl) | (simp only [← hji29]; first | rfl | (simp [errW_none, errW_some] <;> rfl)) | (simp [*, errW_none, errW_some] <;> rfl), by repeat (first | (with_reducible first | exact HB.out | apply below_alloc | apply pw_below_drewN | apply below_drew1) | exact HB.out)⟩
              · rw [if_neg c34] at H
                have c34b0 : (t200 == 0) = false := beq_eq_false_iff_ne.mpr c34
                have c34b1 : (t200 != 0) = true := bne_iff_ne.mpr c34
                by_cases c48 : t199 = 0
                · rw [if_pos c48] at H
                  have c48b0 : (t199 == 0) = true := beq_iff_eq.mpr c48
                  have c48b1 : (t199 != 0) = false := bne_eq_false_iff_eq.mpr c48
                  clear c48
                  by_cases c49 : t200 = 5
                  · rw [if_pos c49] at H
                    have c49b0 : (t200 == 5) = true := beq_iff_eq.mpr c49
                    have c49b1 : (t200 != 5) = false := bne_eq_false_iff_eq.mpr c49
                    clear c49
                    replace H := Option.bind_eq_some_iff.mp H
                    obtain ⟨t204, A500, H⟩ := H
                    replace H : (some t204) = some r := H
                    have A50 := Aside0.mk A500
                    clear A500
                    obtain rfl := Option.some.inj H
                    go_wp2_with (first | ((with_reducible refine gate_callee (f := 10) rfl ?_); refine goesL_ (some 67) rfl rfl Tryd.func10 (by kernel_rfl) rfl #[.int .i64 (wrap64 (Int.tmod (IntKind.u64.wrap (a0)) 1099511627776))] rfl (by (try simp only [List.map_toArray, List.map_cons, List.map_nil]); first | done | rfl | (simp only [List.length_drop, List.length_take]; rfl)) ?_; (with_reducible refine (stamp_Text.calls (wrap64 (Int.tmod (IntKind.u64.wrap (a0)) 1099511627776)) t197 _ A24.out).mono ?_); rintro e w51 ⟨rfl, hb⟩; refine ⟨_, rfl, ?_⟩; have n0_ := Aside0.mk (below_step (by repeat (first | (with_reducible first | exact HB.out | apply below_alloc | apply pw_below_drewN | apply below_drew1) | exact HB.out)) hb); clear HB; have HB := n0_; clear n0_; (try clear hb); (try clear hb2); (try clear hk); (try clear hi)) | ((with_reducible refine gate_callee (f := 10) rfl ?_); refine goesL_ (some 72) rfl rfl Tryd.func10 (by kernel_rfl) rfl #[.int .i64 (wrap64 ((wrap64 (Int.tmod (IntKind.u64.wrap (a0)) 1099511627776)) + (wrap64 (a1))))] rfl (by (try simp only [List.map_toArray, List.map_cons, List.map_nil]); first | done | rfl | (simp only [List.length_drop, List.length_take]; rfl)) ?_; (with_reducible refine (stamp_Text.calls (wrap64 ((wrap64 (Int.tmod (IntKind.u64.wrap (a0)) 1099511627776)) + (wrap64 (a1)))) t198 _ A25.out).mono ?_); rintro e w52 ⟨rfl, hb⟩; refine ⟨_, rfl, ?_⟩; have n0_ := Aside0.mk (below_step (by repeat (first | (with_reducible first | exact HB.out | apply below_alloc | apply pw_below_drewN | apply below_drew1) | exact HB.out)) hb); clear HB; have HB := n0_; clear n0_; (try clear hb); (try clear hb2); (try clear hk); (try clear hi)) | ((with_reducible refine gate_callee (f := 18) rfl ?_); refine goesL_ (some 85) rfl rfl Tryd.func18 (by kernel_rfl) rfl #[.string js32] rfl (by (try simp only [List.map_toArray, List.map_cons, List.map_nil]); first | done | rfl | (simp only [List.length_drop, List.length_take]; rfl)) ?_; (with_reducible refine (stamp_Parse.calls kj8 js32 t199 t200 _ A33.out).mono ?_); rintro e w' ⟨rfl, ⟨nd, rfl⟩⟩; refine ⟨_, rfl, ?_⟩) | (go_at_call 16; (with_reducible refine (postriderlaw09_wakes.calls kj8  t204 _ ?side1 A50.out).mono ?_); (case side1 => exact Glob.below HG.out (by repeat (first | (with_reducible first | exact HB.out | apply below_alloc | apply pw_below_drewN | apply below_drew1) | exact HB.out))); rintro e w53 ⟨rfl, hb⟩; have n0_ := Aside0.mk (below_step (by repeat (first | (with_reducible first | exact HB.out | apply below_alloc | apply pw_below_drewN | apply below_drew1) | exact HB.out)) hb); clear HB; have HB := n0_; clear n0_; (try clear hb); (try clear hb2); (try clear hk); (try clear hi)))
                    go_ret
                    exact ⟨by first | rfl | (simp [errW_none, errW_some] <;> rfl) | (simp only [← hji29]; first | rfl | (simp [errW_none, errW_some] <;> rfl)) | (simp [*, errW_none, errW_some] <;> rfl), by repeat (first | (with_reducible first | exact HB.out | apply below_alloc | apply pw_below_drewN | apply below_drew1) | exact HB.out)⟩
                  · rw [if_neg c49] at H
                    have c49b0 : (t200 == 5) = false := beq_eq_false_iff_ne.mpr c49
                    have c49b1 : (t200 != 5) = true := bne_iff_ne.mpr c49
                    obtain rfl := Option.some.inj H
                    go_wp2_with (first | ((with_reducible refine gate_callee (f := 10) rfl ?_); refine goesL_ (some 67) rfl rfl Tryd.func10 (by kernel_rfl) rfl #[.int .i64 (wrap64 (Int.tmod (IntKind.u64.wrap (a0)) 1099511627776))] rfl (by (try simp only [List.map_toArray, List.map_cons, List.map_nil]); first | done | rfl | (simp only [List.length_drop, List.length_take]; rfl)) ?_; (with_reducible refine (stamp_Text.calls (wrap64 (Int.tmod (IntKind.u64.wrap (a0)) 1099511627776)) t197 _ A24.out).mono ?_); rintro e w54 ⟨rfl, hb⟩; refine ⟨_, rfl, ?_⟩; have n0_ := Aside0.mk (below_step (by repeat (first | (with_reducible first | exact HB.out | apply below_alloc | apply pw_below_drewN | apply below_drew1) | exact HB.out)) hb); clear HB; have HB := n0_; clear n0_; (try clear hb); (try clear hb2); (try clear hk); (try clear hi)) | ((with_reducible refine gate_callee (f := 10) rfl ?_); refine goesL_ (some 72) rfl rfl Tryd.func10 (by kernel_rfl) rfl #[.int .i64 (wrap64 ((wrap64 (Int.tmod (IntKind.u64.wrap (a0)) 1099511627776)) + (wrap64 (a1))))] rfl (by (try simp only [List.map_toArray, List.map_cons, List.map_nil]); first | done | rfl | (simp only [List.length_drop, List.length_take]; rfl)) ?_; (with_reducible refine (stamp_Text.calls (wrap64 ((wrap64 (Int.tmod (IntKind.u64.wrap (a0)) 1099511627776)) + (wrap64 (a1)))) t198 _ A25.out).mono ?_); rintro e w55 ⟨rfl, hb⟩; refine ⟨_, rfl, ?_⟩; have n0_ := Aside0.mk (below_step (by repeat (first | (with_reducible first | exact HB.out | apply below_alloc | apply pw_below_drewN | apply below_drew1) | exact HB.out)) hb); clear HB; have HB := n0_; clear n0_; (try clear hb); (try clear hb2); (try clear hk); (try clear hi)) | ((with_reducible refine gate_callee (f := 18) rfl ?_); refine goesL_ (some 85) rfl rfl Tryd.func18 (by kernel_rfl) rfl #[.string js32] rfl (by (try simp only [List.map_toArray, List.map_cons, List.map_nil]); first | done | rfl | (simp only [List.length_drop, List.length_take]; rfl)) ?_; (with_reducible refine (stamp_Parse.calls kj8 js32 t199 t200 _ A33.out).mono ?_); rintro e w' ⟨rfl, ⟨nd, rfl⟩⟩; refine ⟨_, rfl, ?_⟩))
                    go_ret
                    exact ⟨by first | rfl | (simp [errW_none, errW_some] <;> rfl) | (simp only [← hji29]; first | rfl | (simp [errW_none, errW_some] <;> rfl)) | (simp [*, errW_none, errW_some] <;> rfl), by repeat (first | (with_reducible first | exact HB.out | apply below_alloc | apply pw_below_drewN | apply below_drew1) | exact HB.out)⟩
                · rw [if_neg c48] at H
                  have c48b0 : (t199 == 0) = false := beq_eq_false_iff_ne.mpr c48
                  have c48b1 : (t199 != 0) = true := bne_iff_ne.mpr c48
                  obtain rfl := Option.some.inj H
                  go_wp2_with (first | ((with_reducible refine gate_callee (f := 10) rfl ?_); refine goesL_ (some 67) rfl rfl Tryd.func10 (by kernel_rfl) rfl #[.int .i64 (wrap64 (Int.tmod (IntKind.u64.wrap (a0)) 1099511627776))] rfl (by (try simp only [List.map_toArray, List.map_cons, List.map_nil]); first | done | rfl | (simp only [List.length_drop, List.length_take]; rfl)) ?_; (with_reducible refine (stamp_Text.calls (wrap64 (Int.tmod (IntKind.u64.wrap (a0)) 1099511627776)) t197 _ A24.out).mono ?_); rintro e w56 ⟨rfl, hb⟩; refine ⟨_, rfl, ?_⟩; have n0_ := Aside0.mk (below_step (by repeat (first | (with_reducible first | exact HB.out | apply below_alloc | apply pw_below_drewN | apply below_drew1) | exact HB.out)) hb); clear HB; have HB := n0_; clear n0_; (try clear hb); (try clear hb2); (try clear hk); (try clear hi)) | ((with_reducible refine gate_callee (f := 10) rfl ?_); refine goesL_ (some 72) rfl rfl Tryd.func10 (by kernel_rfl) rfl #[.int .i64 (wrap64 ((wrap64 (Int.tmod (IntKind.u64.wrap (a0)) 1099511627776)) + (wrap64 (a1))))] rfl (by (try simp only [List.map_toArray, List.map_cons, List.map_nil]); first | done | rfl | (simp only [List.length_drop, List.length_take]; rfl)) ?_; (with_reducible refine (stamp_Text.calls (wrap64 ((wrap64 (Int.tmod (IntKind.u64.wrap (a0)) 1099511627776)) + (wrap64 (a1)))) t198 _ A25.out).mono ?_); rintro e w57 ⟨rfl, hb⟩; refine ⟨_, rfl, ?_⟩; have n0_ := Aside0.mk (below_step (by repeat (first | (with_reducible first | exact HB.out | apply below_alloc | apply pw_below_drewN | apply below_drew1) | exact HB.out)) hb); clear HB; have HB := n0_; clear n0_; (try clear hb); (try clear hb2); (try clear hk); (try clear hi)) | ((with_reducible refine gate_callee (f := 18) rfl ?_); refine goesL_ (some 85) rfl rfl Tryd.func18 (by kernel_rfl) rfl #[.string js32] rfl (by (try simp only [List.map_toArray, List.map_cons, List.map_nil]); first | done | rfl | (simp only [List.length_drop, List.length_take]; rfl)) ?_; (with_reducible refine (stamp_Parse.calls kj8 js32 t199 t200 _ A33.out).mono ?_); rintro e w' ⟨rfl, ⟨nd, rfl⟩⟩; refine ⟨_, rfl, ?_⟩))
                  go_ret
                  exact ⟨by first | rfl | (simp [errW_none, errW_some] <;> rfl) | (simp only [← hji29]; first | rfl | (simp [errW_none, errW_some] <;> rfl)) | (simp [*, errW_none, errW_some] <;> rfl), by repeat (first | (with_reducible first | exact HB.out | apply below_alloc | apply pw_below_drewN | apply below_drew1) | exact HB.out)⟩
            · rw [if_neg c31] at H
              exact absurd H (by simp)
          · rw [if_neg c30] at H
            exact absurd H (by simp)

/-- THE ONE PURE STATEMENT of postriderlaw09_StampAges: yours. -/
def postriderlaw09_StampAges.Pure : Prop := ∀ (a0 : Int) (a1 : Int) (a2 : ByteArray), (Lit.int .i64 a0).wf = true → (Lit.int .u16 a1).wf = true → a2.size ≤ 140737488351232 → ∃ k, postriderlaw09_StampAges.f k a0 a1 a2 = some true
theorem postriderlaw09_StampAges.walk (P : postriderlaw09_StampAges.Pure) (a0 : Int) (a1 : Int) (a2 : ByteArray) (w : World) (w0 : (Lit.int .i64 a0).wf = true) (w1 : (Lit.int .u16 a1).wf = true) (w2 : a2.size ≤ 140737488351232) (hG : Glob w) :
    Calls Tryd.prog 5 #[.int .i64 a0, .int .u16 a1, .string a2] w fun e w' => e = .returned (.bool true) ∧ Below w.heap.size w w' := by
  obtain ⟨k, h⟩ := P a0 a1 a2 w0 w1 w2
  refine (postriderlaw09_StampAges.calls k a0 a1 a2 true w hG h).mono ?_
  rintro e w' ⟨rfl, hd⟩
  exact ⟨rfl, hd⟩

end Go.Proofs.YtoigafnaoaafeaaDoor.Q
