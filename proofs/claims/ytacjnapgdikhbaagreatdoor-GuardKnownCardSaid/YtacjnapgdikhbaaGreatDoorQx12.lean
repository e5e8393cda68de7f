/- Walks of functions. -/
import Derived.Test.YtacjnapgdikhbaaGreatDoorQx0
import Derived.Test.YtacjnapgdikhbaaGreatDoorQx10
import Derived.Test.YtacjnapgdikhbaaGreatDoorQx7
section
namespace Go.Proofs.YtacjnapgdikhbaaGreatDoor.Q
open Go.RowKit Go.Proofs.YtacjnapgdikhbaaGreatDoorW.PrintWords Go.Proofs.YtacjnapgdikhbaaGreatDoorW.PrintLast Go.Proofs.YtacjnapgdikhbaaGreatDoorW.PrintMore
attribute [local go_sem] max2_int min2_int max_two min_two max_three min_three max_four min_four   -- for this text's walks alone
set_option linter.unusedVariables false
set_option linter.unusedSimpArgs false

/-! ### head_Message_Ahead: function 52 -/
def head_Message_Ahead.f (k : Nat) (l0_0 : List (S72)) (a0_1 : ByteArray) (a0_2 : Bool) (a1 : ByteArray) (a2 : ByteArray) : Option ((List (S72)) × ByteArray × Bool × Int) := (head_Lay.f k a1 a2).bind fun bt308 => (if bt308.2.2.2 = 0 then ((some (([(⟨bt308.1, bt308.2.1, bt308.2.2.1⟩ : S72)] : List (S72)) : List (S72))).bind fun y313 => (if y313.length + l0_0.length < 2932031007402 then ((head_Message_with.f l0_0 a0_1 a0_2 (y313 ++ l0_0)).bind fun bt319 => (some (bt319.1, bt319.2.1, bt319.2.2.1, bt319.2.2.2))) else (none))) else (some (([] : List (S72)), (⟨#[]⟩ : ByteArray), false, bt308.2.2.2)))
theorem head_Message_Ahead.mono : ∀ a0 a1 a2 a3 a4 k, LeO (head_Message_Ahead.f k a0 a1 a2 a3 a4) (head_Message_Ahead.f (k + 1) a0 a1 a2 a3 a4) := by
 intro a0 a1 a2 a3 a4 k
 unfold head_Message_Ahead.f
 repeat' first
   | (with_reducible exact head_Lay.mono _ _ _)
   | (with_reducible exact LeO.refl _)
   | (with_reducible exact LeO.none _)
   | (with_reducible refine LeO.ite ?_ ?_)
   | (with_reducible refine LeO.bind ?_ (fun _ => ?_))
   | exact head_Lay.mono _ _ _
   | exact LeO.none _
   | refine LeO.ite ?_ ?_
   | refine LeO.bind ?_ (fun _ => ?_)
def head_Message_Ahead.T4 : Bool × List (List Nat × List Nat) := (true, [([], []), ([], []), ([1], [1]), ([], []), ([3], [3]), ([2, 4], [2, 4]), ([0, 5, 5], [0, 5]), ([6], [6]), ([6], [6]), ([7, 6, 0, 1, 2, 3, 4, 5, 6, 7, 8], [7]), ([8, 9, 0, 1, 2, 3, 4, 5, 6, 7, 8, 9], [8])])
def head_Message_Ahead.B4 : List Nat := [0, 0, 2, 0, 8, 30, 63, 127, 127, 511, 1023]
theorem head_Message_Ahead.tab4 : rtab .any (opsOf Tryz.f52 4) = head_Message_Ahead.T4 := by kernel_rfl
theorem head_Message_Ahead.bits4 : waitsOk head_Message_Ahead.T4.2 head_Message_Ahead.B4 = true := by kernel_rfl
set_option maxHeartbeats 8000000 in
set_option maxRecDepth 100000 in
theorem head_Message_Ahead.calls (k : Nat) (A0_0 : Option Addr) (c0_0 : Nat) (l0_0 : List (S72)) (a0_1 : ByteArray) (a0_2 : Bool) (a1 : ByteArray) (a2 : ByteArray) (r1 : List (S72)) (r2 : ByteArray) (r3 : Bool) (r4 : Int) (w : World) (hr0_0 : Kd.C k72 w A0_0 l0_0.length l0_0) (hc0_0 : l0_0.length ≤ c0_0) (hG : Glob w) (h : head_Message_Ahead.f k l0_0 a0_1 a0_2 a1 a2 = some (r1, r2, r3, r4)) :
  Calls Tryz.prog 52 #[.agg #[.slice A0_0 l0_0.length c0_0, .string a0_1, .bool a0_2], .string a1, .string a2] w fun e w' => ∃ v0_ : Value, e = .returned (.tuple #[.agg #[v0_, .string r2, .bool r3], .int .i64 r4]) ∧ Kd.R k72 72 w' w.heap.size (fun _ => True) v0_ r1 ∧ Below w.heap.size w w' := by
 have hu24 := Tryz.underlying24
 have hu72 := Tryz.underlying72
 have HR0_0 := Aside0.mk hr0_0
 have HC0_0 := Aside0.mk hc0_0
 clear hr0_0 hc0_0
 have HB := Aside0.mk (Below.refl w.heap.size w)
 have HG := Aside0.mk hG
 clear hG
 have H : ((head_Lay.f k a1 a2).bind fun bt308 => (if bt308.2.2.2 = 0 then ((some (([(⟨bt308.1, bt308.2.1, bt308.2.2.1⟩ : S72)] : List (S72)) : List (S72))).bind fun y313 => (if y313.length + l0_0.length < 2932031007402 then ((head_Message_with.f l0_0 a0_1 a0_2 (y313 ++ l0_0)).bind fun bt319 => (some (bt319.1, bt319.2.1, bt319.2.2.1, bt319.2.2.2))) else (none))) else (some (([] : List (S72)), (⟨#[]⟩ : ByteArray), false, bt308.2.2.2)))) = some (r1, r2, r3, r4) := h
 clear h
 replace H := Option.bind_eq_some_iff.mp H
 obtain ⟨⟨t308, t309, t310, t311⟩, A40, H⟩ := H
 replace H : (if t311 = 0 then ((some (([(⟨t308, t309, t310⟩ : S72)] : List (S72)) : List (S72))).bind fun y313 => (if y313.length + l0_0.length < 2932031007402 then ((head_Message_with.f l0_0 a0_1 a0_2 (y313 ++ l0_0)).bind fun bt319 => (some (bt319.1, bt319.2.1, bt319.2.2.1, bt319.2.2.2))) else (none))) else (some (([] : List (S72)), (⟨#[]⟩ : ByteArray), false, t311))) = some (r1, r2, r3, r4) := H
 have A4 := Aside0.mk A40
 clear A40
 by_cases c5 : t311 = 0
 ·rw [if_pos c5] at H
  have c5b0 : (t311 == 0) = true := beq_iff_eq.mpr c5
  have c5b1 : (t311 != 0) = false := bne_eq_false_iff_eq.mpr c5
  clear c5
  obtain ⟨y313, hy313⟩ : ∃ y_ : List (S72), y_ = (([(⟨t308, t309, t310⟩ : S72)] : List (S72))) := ⟨_, rfl⟩
  replace H : (if y313.length + l0_0.length < 2932031007402 then ((head_Message_with.f l0_0 a0_1 a0_2 (y313 ++ l0_0)).bind fun bt319 => (some (bt319.1, bt319.2.1, bt319.2.2.1, bt319.2.2.2))) else (none)) = some (r1, r2, r3, r4) := by first | (rw [hy313]; with_reducible exact H) | (have H2_ := (Option.bind_some _ _).symm.trans H; rw [hy313]; with_reducible exact H2_) | (have H2_ := (Option.bind_some _ _).symm.trans H; with_reducible exact H2_) | with_reducible exact H | (rw [hy313]; exact H) | exact H
  have Ny313 := Aside0.mk hy313
  clear hy313
  by_cases c6 : y313.length + l0_0.length < 2932031007402
  ·rw [if_pos c6] at H
   have LMc6 := Aside0.mk c6
   clear c6
   obtain ⟨y316, hy316⟩ : ∃ y_ : List (S72), y_ = (y313 ++ l0_0) := ⟨_, rfl⟩
   replace H : ((head_Message_with.f l0_0 a0_1 a0_2 y316).bind fun bt319 => (some (bt319.1, bt319.2.1, bt319.2.2.1, bt319.2.2.2))) = some (r1, r2, r3, r4) := by first | (rw [hy316]; with_reducible exact H) | (have H2_ := (Option.bind_some _ _).symm.trans H; rw [hy316]; with_reducible exact H2_) | (have H2_ := (Option.bind_some _ _).symm.trans H; with_reducible exact H2_) | with_reducible exact H | (rw [hy316]; exact H) | exact H
   have Ny316 := Aside0.mk hy316
   clear hy316
   replace H := Option.bind_eq_some_iff.mp H
   obtain ⟨⟨t319, t322, t323, t324⟩, A70, H⟩ := H
   replace H : (some (t319, t322, t323, t324)) = some (r1, r2, r3, r4) := H
   have A7 := Aside0.mk A70
   clear A70
   simp only [Option.some.injEq, Prod.mk.injEq] at H
   obtain ⟨rfl, rfl, rfl, rfl⟩ := H
   go_enter Tryz.func52, Tryz.ntmps52
   try go_wp2_with (first | ((with_reducible refine gate_dst (N := 3) rfl ?_); refine box_event ?hg (N := 3) ?hd (cs := #[.slice A0_0 l0_0.length c0_0, .string a0_1, .bool a0_2]) (t := 24) ?hr ?_; (case hd => rfl); (case hg => rfl); (case hr => first | (go_simp; done) | (go_simp; rfl)); intro gb306 hg w8 hbox hb; have n0_ := Aside0.mk (below_step bl hb); have n1_ := Aside0.mk (hbox); have n2_ := Aside0.mk ((by rw [hg]; exact (below_size bl) : w.heap.size ≤ gb306)); have n3_ := Aside0.mk ((by rw [hg]; exact (below_size bl) : w.heap.size ≤ gb306)); clear HB; have HB := n0_; have BK306 := n1_; have GW306 := n2_; have GE306 := n3_; clear n0_ n1_ n2_ n3_; clear hb hbox hg) | ((with_reducible refine gate_dst (N := 6) rfl ?_); refine box_event ?hg (N := 6) ?hd (cs := #[.slice none 0 0, .string (⟨#[]⟩ : ByteArray), .bool false]) (t := 24) ?hr ?_; (case hd => rfl); (case hg => rfl); (case hr => first | (go_simp; done) | (go_simp; rfl)); intro gb307 hg w9 hbox hb; have n0_ := Aside0.mk (kb BK306.out hb); have n1_ := Aside0.mk (below_step bl hb); have n2_ := Aside0.mk (hbox); have n3_ := Aside0.mk ((by rw [hg]; exact (below_size bl) : w.heap.size ≤ gb307)); have n4_ := Aside0.mk ((by rw [hg]; exact (below_size bl) : w.heap.size ≤ gb307)); have n5_ := Aside0.mk ((by rw [hg]; exact Nat.ne_of_lt (blk_lt (bk BK306.out)) : gb306 ≠ gb307)); have n6_ := Aside0.mk ((by rw [hg]; exact Nat.ne_of_gt (blk_lt (bk BK306.out)) : gb307 ≠ gb306)); clear BK306; clear HB; have BK306 := n0_; have HB := n1_; have BK307 := n2_; have GW307 := n3_; have GE307 := n4_; have NB306_307 := n5_; have NB307_306 := n6_; clear n0_ n1_ n2_ n3_ n4_ n5_ n6_; clear hb hbox hg) | ((with_reducible refine gate_callee (f := 94) rfl ?_); refine goesL_ (some 13) rfl rfl Tryz.func94 (by kernel_rfl) rfl #[.string a1, .string a2] rfl ml ?_; (with_reducible refine (head_Lay.calls k a1 a2 t308 t309 t310 t311 _ ?side1 A4.out).mono ?_); (case side1 => exact Glob.below HG.out bl); rintro e w10 ⟨rfl, hb⟩; refine ⟨_, rfl, ?_⟩; have n0_ := Aside0.mk (kb BK306.out hb); have n1_ := Aside0.mk (kb BK307.out hb); have n2_ := Aside0.mk (below_step bl hb); clear BK306; clear BK307; clear HB; have BK306 := n0_; have BK307 := n1_; have HB := n2_; clear n0_ n1_ n2_; (try clear hb); (try clear hb2); (try clear hk); (try clear hi)) | ((with_reducible refine gate_dst (N := 8) rfl ?_); refine box_event ?hg (N := 8) ?hd (cs := #[.string (⟨#[]⟩ : ByteArray), .string (⟨#[]⟩ : ByteArray), .string (⟨#[]⟩ : ByteArray)]) (t := 72) ?hr ?_; (case hd => rfl); (case hg => rfl); (case hr => first | (go_simp; done) | (go_simp; rfl)); intro gb312 hg w11 hbox hb; have n0_ := Aside0.mk (kb BK306.out hb); have n1_ := Aside0.mk (kb BK307.out hb); have n2_ := Aside0.mk (below_step bl hb); have n3_ := Aside0.mk (hbox); have n4_ := Aside0.mk ((by rw [hg]; exact (below_size bl) : w.heap.size ≤ gb312)); have n5_ := Aside0.mk ((by rw [hg]; exact (below_size bl) : w.heap.size ≤ gb312)); have n6_ := Aside0.mk ((by rw [hg]; exact Nat.ne_of_lt (blk_lt (bk BK306.out)) : gb306 ≠ gb312)); have n7_ := Aside0.mk ((by rw [hg]; exact Nat.ne_of_gt (blk_lt (bk BK306.out)) : gb312 ≠ gb306)); have n8_ := Aside0.mk ((by rw [hg]; exact Nat.ne_of_lt (blk_lt (bk BK307.out)) : gb307 ≠ gb312)); have n9_ := Aside0.mk ((by rw [hg]; exact Nat.ne_of_gt (blk_lt (bk BK307.out)) : gb312 ≠ gb307)); clear BK306; clear BK307; clear HB; have BK306 := n0_; have BK307 := n1_; have HB := n2_; have BK312 := n3_; have GW312 := n4_; have GE312 := n5_; have NB306_312 := n6_; have NB312_306 := n7_; have NB307_312 := n8_; have NB312_307 := n9_; clear n0_ n1_ n2_ n3_ n4_ n5_ n6_ n7_ n8_ n9_; clear hb hbox hg; have hnb12 := NB312_306.out; have hnc12 := NB306_312.out; have hnb13 := NB312_307.out; have hnc13 := NB307_312.out; have hcz14_0 : w11.cell? ⟨gb312, 0, none⟩ = some (.string (⟨#[]⟩ : ByteArray)) := (blk_cell BK312.out 0).trans rfl; have hcz14_1 : w11.cell? ⟨gb312, 1, none⟩ = some (.string (⟨#[]⟩ : ByteArray)) := (blk_cell BK312.out 1).trans rfl; have hcz14_2 : w11.cell? ⟨gb312, 2, none⟩ = some (.string (⟨#[]⟩ : ByteArray)) := (blk_cell BK312.out 2).trans rfl; have hfz14_0 := blk_frozen BK312.out 0; have hfz14_1 := blk_frozen BK312.out 1; have hfz14_2 := blk_frozen BK312.out 2))
   have n0_ : Aside0 ((((w11.setCell ⟨gb312, 0, none⟩ (.string t308)).setCell ⟨gb312, 1, none⟩ (.string t309)).setCell ⟨gb312, 2, none⟩ (.string t310)).heap[gb306]? = some (.cells #[.slice A0_0 l0_0.length c0_0, .string a0_1, .bool a0_2] 24 (0, 0))) := ⟨by (with_reducible repeat (first | refine blk_drewN ?_ _ | refine blk_drew ?_ | refine blk_alloc ?_ _)); refine blk_far ?_ NB306_312.out _; (with_reducible repeat (first | refine blk_drewN ?_ _ | refine blk_drew ?_ | refine blk_alloc ?_ _)); refine blk_far ?_ NB306_312.out _; (with_reducible repeat (first | refine blk_drewN ?_ _ | refine blk_drew ?_ | refine blk_alloc ?_ _)); refine blk_far ?_ NB306_312.out _; (with_reducible repeat (first | refine blk_drewN ?_ _ | refine blk_drew ?_ | refine blk_alloc ?_ _)); exact BK306.out⟩
   have n1_ : Aside0 ((((w11.setCell ⟨gb312, 0, none⟩ (.string t308)).setCell ⟨gb312, 1, none⟩ (.string t309)).setCell ⟨gb312, 2, none⟩ (.string t310)).heap[gb307]? = some (.cells #[.slice none 0 0, .string (⟨#[]⟩ : ByteArray), .bool false] 24 (0, 0))) := ⟨by (with_reducible repeat (first | refine blk_drewN ?_ _ | refine blk_drew ?_ | refine blk_alloc ?_ _)); refine blk_far ?_ NB307_312.out _; (with_reducible repeat (first | refine blk_drewN ?_ _ | refine blk_drew ?_ | refine blk_alloc ?_ _)); refine blk_far ?_ NB307_312.out _; (with_reducible repeat (first | refine blk_drewN ?_ _ | refine blk_drew ?_ | refine blk_alloc ?_ _)); refine blk_far ?_ NB307_312.out _; (with_reducible repeat (first | refine blk_drewN ?_ _ | refine blk_drew ?_ | refine blk_alloc ?_ _)); exact BK307.out⟩
   have n2_ : Aside0 ((((w11.setCell ⟨gb312, 0, none⟩ (.string t308)).setCell ⟨gb312, 1, none⟩ (.string t309)).setCell ⟨gb312, 2, none⟩ (.string t310)).heap[gb312]? = some (.cells #[.string t308, .string t309, .string t310] 72 (0, 0))) := ⟨by (with_reducible repeat (first | refine blk_drewN ?_ _ | refine blk_drew ?_ | refine blk_alloc ?_ _)); refine blk_put (cs := #[.string t308, .string t309, .string (⟨#[]⟩ : ByteArray)]) ?_ 2 _ rfl; (with_reducible repeat (first | refine blk_drewN ?_ _ | refine blk_drew ?_ | refine blk_alloc ?_ _)); refine blk_put (cs := #[.string t308, .string (⟨#[]⟩ : ByteArray), .string (⟨#[]⟩ : ByteArray)]) ?_ 1 _ rfl; (with_reducible repeat (first | refine blk_drewN ?_ _ | refine blk_drew ?_ | refine blk_alloc ?_ _)); refine blk_put (cs := #[.string (⟨#[]⟩ : ByteArray), .string (⟨#[]⟩ : ByteArray), .string (⟨#[]⟩ : ByteArray)]) ?_ 0 _ rfl; (with_reducible repeat (first | refine blk_drewN ?_ _ | refine blk_drew ?_ | refine blk_alloc ?_ _)); exact BK312.out⟩
   have n3_ : Aside0 (Below w.heap.size w (((w11.setCell ⟨gb312, 0, none⟩ (.string t308)).setCell ⟨gb312, 1, none⟩ (.string t309)).setCell ⟨gb312, 2, none⟩ (.string t310))) := ⟨by repeat (first | (with_reducible first | exact HB.out | apply below_alloc | apply pw_below_drewN | apply below_drew1 | refine below_set ?_ GE306.out | refine below_set ?_ GE307.out | refine below_set ?_ GE312.out) | exact HB.out)⟩
   (try clear BK306)
   (try clear BK307)
   (try clear BK312)
   (try clear HB)
   generalize (((w11.setCell ⟨gb312, 0, none⟩ (.string t308)).setCell ⟨gb312, 1, none⟩ (.string t309)).setCell ⟨gb312, 2, none⟩ (.string t310)) = w15 at n0_ n1_ n2_ n3_ ⊢
   have BK306 := n0_
   have BK307 := n1_
   have BK312 := n2_
   have HB := n3_
   clear n0_ n1_ n2_ n3_
   have n0_ := Aside0.mk (blk_drew BK306.out)
   have n1_ := Aside0.mk (blk_drew BK307.out)
   have n2_ := Aside0.mk (blk_drew BK312.out)
   have n3_ := Aside0.mk (below_drew1 HB.out)
   clear BK306
   clear BK307
   clear BK312
   clear HB
   have BK306 := n0_
   have BK307 := n1_
   have BK312 := n2_
   have HB := n3_
   clear n0_ n1_ n2_ n3_
   refine start_ (n := 11) (S := fun w' => w'.cell? ⟨gb306, 0, none⟩ = some (.slice A0_0 l0_0.length c0_0) ∧ w'.cell? ⟨gb306, 1, none⟩ = some (.string a0_1) ∧ w'.cell? ⟨gb306, 2, none⟩ = some (.bool a0_2) ∧ w'.cell? ⟨gb312, 0, none⟩ = some (.string t308) ∧ w'.cell? ⟨gb312, 1, none⟩ = some (.string t309) ∧ w'.cell? ⟨gb312, 2, none⟩ = some (.string t310)) (ds := []) #[false, false, false, false, false, false, false, false, false, false, false] (by kernel_rfl) rfl rfl ⟨(blk_cell BK306.out 0).trans rfl, (blk_cell BK306.out 1).trans rfl, (blk_cell BK306.out 2).trans rfl, (blk_cell BK312.out 0).trans rfl, (blk_cell BK312.out 1).trans rfl, (blk_cell BK312.out 2).trans rfl⟩ (fun hHeld => ?_); refine with_tabW head_Message_Ahead.tab4 head_Message_Ahead.bits4 (fun HT_ HW_ => ?_)
   generalize w15.drew = w16 at BK306 BK307 BK312 HB hHeld ⊢
   refine pure_ (i := 3) (N := some 23) (v := ?_) (a' := ?_) #[false, false, false, true, false, false, false, false, false, false, false] rfl rfl (any_of HT_.out (by kernel_rfl)) (fun _ _ _ h => h) (Or.inl ⟨by rfl, ?_⟩) ?_ ?_
   rotate_left
   ·intro w'
    go_simp
    with_reducible rfl
   rotate_left
   ·simp only [Act.put, List.setIfInBounds_toArray, List.set_cons_zero, List.set_cons_succ, i64_w, i32_w]
    rfl
   refine take_ (i := 0) (N := some 20) (v := ?_) (a' := ?_) #[true, false, false, true, false, false, false, false, false, false, false] rfl rfl (take_ofW HT_.out HW_.out (by kernel_rfl)) (fun _ _ _ h => h) (Or.inl ⟨by rfl, ?_⟩) hHeld ?_ ?_
   rotate_left
   ·rintro w' ⟨s0, s1, s2, s3, s4, s5⟩
    go_simp
    with_reducible rfl
   rotate_left
   ·simp only [Act.put, List.setIfInBounds_toArray, List.set_cons_zero, List.set_cons_succ, i64_w, i32_w]
    rfl
   refine take_ (i := 1) (N := some 21) (v := ?_) (a' := ?_) #[true, true, false, true, false, false, false, false, false, false, false] rfl rfl (take_ofW HT_.out HW_.out (by kernel_rfl)) (fun _ _ _ h => h) (Or.inl ⟨by rfl, ?_⟩) hHeld ?_ ?_
   rotate_left
   ·rintro w' ⟨s0, s1, s2, s3, s4, s5⟩
    go_simp
    with_reducible rfl
   rotate_left
   ·simp only [Act.put, List.setIfInBounds_toArray, List.set_cons_zero, List.set_cons_succ, i64_w, i32_w]
    rfl
   refine take_ (i := 4) (N := some 24) (v := ?_) (a' := ?_) #[true, true, false, true, true, false, false, false, false, false, false] rfl rfl (take_ofW HT_.out HW_.out (by kernel_rfl)) (fun _ _ _ h => h) (Or.inl ⟨by rfl, ?_⟩) hHeld ?_ ?_
   rotate_left
   ·rintro w' ⟨s0, s1, s2, s3, s4, s5⟩
    go_simp
    with_reducible rfl
   rotate_left
   ·simp only [Act.put, List.setIfInBounds_toArray, List.set_cons_zero, List.set_cons_succ, i64_w, i32_w]
    rfl
   refine one_ (i := 2) (N := some 22) #[true, true, true, true, true, false, false, false, false, false, false] rfl rfl (one_of HT_.out (by kernel_rfl)) (by decide) (fun K hK => ?_)
   refine Kd.R_lit_step k72 _ 72 ?hg (N := 22) ?hd (xs := ([(⟨t308, t309, t310⟩ : S72)] : List (S72))) (inner := [.string t308, .string t309, .string t310]) (ok := fun _ => True) (okp := fun _ => True) ?hr ?hp (fun _ hk => hk) trivial (Below.refl _ _) (Nat.le_refl _) (by simp) ?_; (case hd => rfl); (case hg => rfl); (case hr => first | (go_simp; done) | (go_simp; rfl)); (case hp => exact (Reps.c3 (show Kd.M k72 _ _ _ (⟨t308, t309, t310⟩ : S72) [.string t308, .string t309, .string t310] from (k72_mkM _ _ _ (⟨t308, t309, t310⟩ : S72) )) (Reps.none _ _)))
   intro v314 w17 ho18 hb hg_ hnew_
   clear hg_ hnew_
   (first | rw [← Ny313.out] at ho18 | (simp only [Int.reduceToNat] at ho18; rw [← Ny313.out] at ho18))
   have n0_ := Aside0.mk (Kd.R_lower (Kd.R_newB ho18 (g := gb312) (o := .cells #[.string t308, .string t309, .string t310] 72 (0, 0)) (bk BK312.out)) (below_size bl))
   have n1_ := Aside0.mk (kb BK306.out hb)
   have n2_ := Aside0.mk (kb BK307.out hb)
   have n3_ := Aside0.mk (kb BK312.out hb)
   have n4_ := Aside0.mk (below_step bl hb)
   clear BK306
   clear BK307
   clear BK312
   clear HB
   have HO315 := n0_
   have BK306 := n1_
   have BK307 := n2_
   have BK312 := n3_
   have HB := n4_
   clear n0_ n1_ n2_ n3_ n4_
   clear hb ho18
   refine hK.out _ _ ⟨(blk_cell BK306.out 0).trans rfl, (blk_cell BK306.out 1).trans rfl, (blk_cell BK306.out 2).trans rfl, (blk_cell BK312.out 0).trans rfl, (blk_cell BK312.out 1).trans rfl, (blk_cell BK312.out 2).trans rfl⟩ (fun hHeld => ?_)
   clear hK K
   refine norm_ (a' := ?_) ?_ ?_
   rotate_left
   ·show Act.put _ (some 22) _ = _
    simp only [Act.put, List.setIfInBounds_toArray, List.set_cons_zero, List.set_cons_succ, i64_w, i32_w]
    rfl
   refine one_ (i := 5) (N := some 25) #[true, true, true, true, true, true, false, false, false, false, false] rfl rfl (one_of HT_.out (by kernel_rfl)) (by decide) (fun K hK => ?_)
   refine Kd.R_append_rows_step k72 (w0 := w) w.heap.size (by rfl) (.tmp 22) (.tmp 24) 22 72 (.agg #[(.string ⟨#[]⟩), (.string ⟨#[]⟩), (.string ⟨#[]⟩)]) 48 rfl Tryz.underlying22 info72 rfl (by decide) (by omega) v314 y313 l0_0 _ _ _ (fun k_ => k_ ≠ gb312) (fun _ => False) rfl rfl ?aO ?aR (fun _ _ h => h) (fun _ h => h.elim) ?aF ?aB ?aS ?aL ?_
   (case aR => repeat (first | exact (Kd.C_below HR0_0.out HB.out) | (with_reducible refine Kd.C_alloc ?_ _) | (with_reducible refine Kd.C_drewN ?_ _) | (with_reducible refine Kd.C_drew ?_)))
   (case aB => exact bl)
   (case aF => exact (fun k_ hk => Kd.freshB (g := gb312) (o := .cells #[.string t308, .string t309, .string t310] 72 (0, 0)) (bk BK312.out) k_ hk))
   (case aO => exact (by (with_reducible repeat (first | apply Kd.R_alloc | apply Kd.R_drewN | apply Kd.R_drew)); exact Kd.R_mono HO315.out (fun _ hk => hk.2)))
   (case aS => exact (below_size bl))
   (case aL => have := LMc6.out; omega)
   intro v317 w19 ho hb hg hat
   rw [← Ny316.out] at ho
   have n0_ := Aside0.mk (blk_grown (g := gb306) (o := .cells #[.slice A0_0 l0_0.length c0_0, .string a0_1, .bool a0_2] 24 (0, 0)) (bk BK306.out) hg (Kd.R_ne HO315.out BK306.out (by decide)))
   have n1_ := Aside0.mk (blk_grown (g := gb307) (o := .cells #[.slice none 0 0, .string (⟨#[]⟩ : ByteArray), .bool false] 24 (0, 0)) (bk BK307.out) hg (Kd.R_ne HO315.out BK307.out (by decide)))
   have n2_ := Aside0.mk (blk_grown (g := gb312) (o := .cells #[.string t308, .string t309, .string t310] 72 (0, 0)) (bk BK312.out) hg (Kd.R_away HO315.out (fun _ hk => hk.2)))
   have n3_ := Aside0.mk (hb)
   have n4_ := Aside0.mk (ho)
   clear BK306
   clear BK307
   clear BK312
   clear HB
   clear HO315
   have BK306 := n0_
   have BK307 := n1_
   have BK312 := n2_
   have HB := n3_
   have HO318 := n4_
   clear n0_ n1_ n2_ n3_ n4_
   clear ho hb hg hat
   obtain ⟨Ao20, co20, eo20⟩ := Kd.R_slice HO318.out
   (first | subst eo20 | (injection eo20 with f1_ f2_ f3_; have f4_ := f1_.symm; have f5_ := f3_.symm; clear f1_ f2_ f3_; subst f4_; subst f5_))
   refine hK.out _ _ ⟨(blk_cell BK306.out 0).trans rfl, (blk_cell BK306.out 1).trans rfl, (blk_cell BK306.out 2).trans rfl, (blk_cell BK312.out 0).trans rfl, (blk_cell BK312.out 1).trans rfl, (blk_cell BK312.out 2).trans rfl⟩ (fun hHeld => ?_)
   clear hK K
   refine norm_ (a' := ?_) ?_ ?_
   rotate_left
   ·show Act.put _ (some 25) _ = _
    simp only [Act.put, List.setIfInBounds_toArray, List.set_cons_zero, List.set_cons_succ, i64_w, i32_w]
    rfl
   refine one_ (i := 6) (N := some 26) #[true, true, true, true, true, true, true, false, false, false, false] rfl rfl (one_of HT_.out (by kernel_rfl)) (by decide) (fun K hK => ?_)
   refine goes_ Tryz.func95 (by kernel_rfl) rfl #[.agg #[.slice A0_0 l0_0.length c0_0, .string a0_1, .bool a0_2], .slice Ao20 y316.length co20] (by rfl) rfl rfl ml ?_
   with_reducible refine (head_Message_with.calls _ _ l0_0 a0_1 a0_2 (fun k_ => some k_ = (.slice Ao20 y316.length co20 : Value).ownBlock) (.slice Ao20 y316.length co20) y316 t319 t322 t323 t324 w _ ?side1 ?side2 ?side3 ?side4 A7.out).mono ?_
   (case side1 => repeat (first | (with_reducible first | exact HB.out | apply below_alloc | apply pw_below_drewN | apply below_drew1 | refine below_set ?_ GE306.out | refine below_set ?_ GE307.out | refine below_set ?_ GE312.out) | exact HB.out))
   (case side2 => exact Kd.C_kept_came k72_heap HR0_0.out bl (fun k_ hs_ => (fun e_ => Kd.R_base HO318.out k_ e_.symm) hs_))
   (case side3 => exact HC0_0.out)
   (case side4 => exact Kd.R_tight rfl HO318.out)
   rintro e w21 ⟨v320, rfl, ho0, hb, hkp⟩
   refine ⟨_, rfl, ?_⟩
   have n0_ := Aside0.mk (blk_kept (bk BK306.out) hkp (fun hs_ => (fun e_ => (Kd.R_ne HO318.out BK306.out (by decide)) e_) hs_))
   have n1_ := Aside0.mk (blk_kept (bk BK307.out) hkp (fun hs_ => (fun e_ => (Kd.R_ne HO318.out BK307.out (by decide)) e_) hs_))
   have n2_ := Aside0.mk (blk_kept (bk BK312.out) hkp (fun hs_ => (fun e_ => (Kd.R_away HO318.out (fun _ hk => hk)) e_) hs_))
   have n3_ := Aside0.mk (Kd.R_mono (ok' := fun k_ => k_ ≠ gb312) ho0 (fun k_ hk_ => Or.elim hk_ (fun hs_ => fun e_ => (Kd.R_away HO318.out (fun _ hk => hk)) (by rw [← e_]; exact hs_)) (fun hn_ => (Kd.freshB (g := gb312) (o := .cells #[.string t308, .string t309, .string t310] 72 (0, 0)) (bk BK312.out) k_ hn_))))
   have n4_ := Aside0.mk (hb)
   clear BK306
   clear BK307
   clear BK312
   clear HB
   clear HO318
   have BK306 := n0_
   have BK307 := n1_
   have BK312 := n2_
   have HO321 := n3_
   have HB := n4_
   clear n0_ n1_ n2_ n3_ n4_
   (try clear hb)
   (try clear hkp)
   (try clear ho0)
   obtain ⟨Ao22, co22, eo22⟩ := Kd.R_slice HO321.out
   (first | subst eo22 | (injection eo22 with f1_ f2_ f3_; have f4_ := f1_.symm; have f5_ := f3_.symm; clear f1_ f2_ f3_; subst f4_; subst f5_))
   refine hK.out _ _ ⟨(blk_cell BK306.out 0).trans rfl, (blk_cell BK306.out 1).trans rfl, (blk_cell BK306.out 2).trans rfl, (blk_cell BK312.out 0).trans rfl, (blk_cell BK312.out 1).trans rfl, (blk_cell BK312.out 2).trans rfl⟩ (fun hHeld => ?_)
   clear hK K
   refine norm_ (a' := ?_) ?_ ?_
   rotate_left
   ·show Act.put _ (some 26) _ = _
    simp only [Act.put, List.setIfInBounds_toArray, List.set_cons_zero, List.set_cons_succ, i64_w, i32_w]
    rfl
   refine pure_ (i := 7) (N := some 27) (v := ?_) (a' := ?_) #[true, true, true, true, true, true, true, true, false, false, false] rfl rfl (any_of HT_.out (by kernel_rfl)) (fun _ _ _ h => h) (Or.inl ⟨by rfl, ?_⟩) ?_ ?_
   rotate_left
   ·intro w'
    go_simp
    with_reducible rfl
   rotate_left
   ·simp only [Act.put, List.setIfInBounds_toArray, List.set_cons_zero, List.set_cons_succ, i64_w, i32_w]
    rfl
   refine pure_ (i := 8) (N := some 28) (v := ?_) (a' := ?_) #[true, true, true, true, true, true, true, true, true, false, false] rfl rfl (any_of HT_.out (by kernel_rfl)) (fun _ _ _ h => h) (Or.inl ⟨by rfl, ?_⟩) ?_ ?_
   rotate_left
   ·intro w'
    go_simp
    with_reducible rfl
   rotate_left
   ·simp only [Act.put, List.setIfInBounds_toArray, List.set_cons_zero, List.set_cons_succ, i64_w, i32_w]
    rfl
   refine one_ (i := 9) (N := none) #[true, true, true, true, true, true, true, true, true, true, false] rfl rfl (one_of HT_.out (by kernel_rfl)) (by decide) (fun K hK => ?_)
   have hs23 : w21.cell? ⟨gb307, 0, none⟩ = some (.slice none 0 0) := (blk_cell BK307.out 0).trans rfl
   have hfs23 := blk_frozen BK307.out 0
   have hns23_0 := NB306_307.out
   have hns23_2 := NB312_307.out
   have hms23_0 := NB307_306.out
   have hms23_2 := NB307_312.out
   have hs24 : w21.cell? ⟨gb307, 1, none⟩ = some (.string (⟨#[]⟩ : ByteArray)) := (blk_cell BK307.out 1).trans rfl
   have hfs24 := blk_frozen BK307.out 1
   have hns24_0 := NB306_307.out
   have hns24_2 := NB312_307.out
   have hms24_0 := NB307_306.out
   have hms24_2 := NB307_312.out
   have hs25 : w21.cell? ⟨gb307, 2, none⟩ = some (.bool false) := (blk_cell BK307.out 2).trans rfl
   have hfs25 := blk_frozen BK307.out 2
   have hns25_0 := NB306_307.out
   have hns25_2 := NB312_307.out
   have hms25_0 := NB307_306.out
   have hms25_2 := NB307_312.out
   refine skip_ (w1 := ?_) (by rfl) rfl ?_ ?_
   rotate_left
   ·go_simp
    rfl
   refine hK.out _ _ ⟨((cell_far (p := ⟨gb307, _, none⟩) NB306_307.out _).trans (((cell_far (p := ⟨gb307, _, none⟩) NB306_307.out _).trans (((cell_far (p := ⟨gb307, _, none⟩) NB306_307.out _).trans (hHeld.1)))))), ((cell_far (p := ⟨gb307, _, none⟩) NB306_307.out _).trans (((cell_far (p := ⟨gb307, _, none⟩) NB306_307.out _).trans (((cell_far (p := ⟨gb307, _, none⟩) NB306_307.out _).trans (hHeld.2.1)))))), ((cell_far (p := ⟨gb307, _, none⟩) NB306_307.out _).trans (((cell_far (p := ⟨gb307, _, none⟩) NB306_307.out _).trans (((cell_far (p := ⟨gb307, _, none⟩) NB306_307.out _).trans (hHeld.2.2.1)))))), ((cell_far (p := ⟨gb307, _, none⟩) NB312_307.out _).trans (((cell_far (p := ⟨gb307, _, none⟩) NB312_307.out _).trans (((cell_far (p := ⟨gb307, _, none⟩) NB312_307.out _).trans (hHeld.2.2.2.1)))))), ((cell_far (p := ⟨gb307, _, none⟩) NB312_307.out _).trans (((cell_far (p := ⟨gb307, _, none⟩) NB312_307.out _).trans (((cell_far (p := ⟨gb307, _, none⟩) NB312_307.out _).trans (hHeld.2.2.2.2.1)))))), ((cell_far (p := ⟨gb307, _, none⟩) NB312_307.out _).trans (((cell_far (p := ⟨gb307, _, none⟩) NB312_307.out _).trans (((cell_far (p := ⟨gb307, _, none⟩) NB312_307.out _).trans (hHeld.2.2.2.2.2))))))⟩ (fun hHeld => ?_)
   clear hK K
   refine pure_ (i := 10) (N := some 7) (v := ?_) (a' := ?_) #[true, true, true, true, true, true, true, true, true, true, true] rfl rfl (any_of HT_.out (by kernel_rfl)) (fun _ _ _ h => h) (Or.inl ⟨by rfl, ?_⟩) ?_ ?_
   rotate_left
   ·intro w'
    go_simp
    with_reducible rfl
   rotate_left
   ·simp only [Act.put, List.setIfInBounds_toArray, List.set_cons_zero, List.set_cons_succ, i64_w, i32_w]
    rfl
   refine done_ (done_of HT_.out (by kernel_rfl)) ?_
   try go_wp2
   refine bodyPost_ret (results_ct rfl _ _ gb307 24 #[.slice Ao22 t319.length co22, .string t322, .bool t323] (0, 0) _ rfl (by (with_reducible repeat (first | refine blk_drewN ?_ _ | refine blk_drew ?_ | refine blk_alloc ?_ _)); refine blk_put (cs := #[.slice Ao22 t319.length co22, .string t322, .bool false]) ?_ 2 _ rfl; (with_reducible repeat (first | refine blk_drewN ?_ _ | refine blk_drew ?_ | refine blk_alloc ?_ _)); refine blk_put (cs := #[.slice Ao22 t319.length co22, .string (⟨#[]⟩ : ByteArray), .bool false]) ?_ 1 _ rfl; (with_reducible repeat (first | refine blk_drewN ?_ _ | refine blk_drew ?_ | refine blk_alloc ?_ _)); refine blk_put (cs := #[.slice none 0 0, .string (⟨#[]⟩ : ByteArray), .bool false]) ?_ 0 _ rfl; (with_reducible repeat (first | refine blk_drewN ?_ _ | refine blk_drew ?_ | refine blk_alloc ?_ _)); exact BK307.out) Tryz.underlying24 rfl (by kernel_rfl)) rfl ?_
   exact ⟨_, by first | rfl | (simp [errW_none, errW_some] <;> rfl) | (simp [*, errW_none, errW_some] <;> rfl), by (with_reducible repeat (first | apply Kd.R_alloc | apply Kd.R_drewN | apply Kd.R_drew)); exact Kd.R_mono (Kd.R_far (p := ⟨gb307, 2, none⟩) (Kd.R_far (p := ⟨gb307, 1, none⟩) (Kd.R_far (p := ⟨gb307, 0, none⟩) (Kd.R_types HO321.out BK307.out (by decide)) (fun _ hk => hk.2) (.slice Ao22 t319.length co22)) (fun _ hk => hk.2) (.string t322)) (fun _ hk => hk.2) (.bool t323)) (fun _ hk => trivial), by repeat (first | (with_reducible first | exact HB.out | apply below_alloc | apply pw_below_drewN | apply below_drew1 | refine below_set ?_ GE306.out | refine below_set ?_ GE307.out | refine below_set ?_ GE312.out) | exact HB.out)⟩
  ·rw [if_neg c6] at H
   exact absurd H (by simp)
 ·rw [if_neg c5] at H
  have c5b0 : (t311 == 0) = false := beq_eq_false_iff_ne.mpr c5
  have c5b1 : (t311 != 0) = true := bne_iff_ne.mpr c5
  simp only [Option.some.injEq, Prod.mk.injEq] at H
  obtain ⟨rfl, rfl, rfl, rfl⟩ := H
  go_enter Tryz.func52, Tryz.ntmps52
  go_wp2_with (first | ((with_reducible refine gate_dst (N := 3) rfl ?_); refine box_event ?hg (N := 3) ?hd (cs := #[.slice A0_0 l0_0.length c0_0, .string a0_1, .bool a0_2]) (t := 24) ?hr ?_; (case hd => rfl); (case hg => rfl); (case hr => first | (go_simp; done) | (go_simp; rfl)); intro gb306 hg w26 hbox hb; have n0_ := Aside0.mk (below_step bl hb); have n1_ := Aside0.mk (hbox); have n2_ := Aside0.mk ((by rw [hg]; exact (below_size bl) : w.heap.size ≤ gb306)); have n3_ := Aside0.mk ((by rw [hg]; exact (below_size bl) : w.heap.size ≤ gb306)); clear HB; have HB := n0_; have BK306 := n1_; have GW306 := n2_; have GE306 := n3_; clear n0_ n1_ n2_ n3_; clear hb hbox hg) | ((with_reducible refine gate_dst (N := 6) rfl ?_); refine box_event ?hg (N := 6) ?hd (cs := #[.slice none 0 0, .string (⟨#[]⟩ : ByteArray), .bool false]) (t := 24) ?hr ?_; (case hd => rfl); (case hg => rfl); (case hr => first | (go_simp; done) | (go_simp; rfl)); intro gb307 hg w27 hbox hb; have n0_ := Aside0.mk (kb BK306.out hb); have n1_ := Aside0.mk (below_step bl hb); have n2_ := Aside0.mk (hbox); have n3_ := Aside0.mk ((by rw [hg]; exact (below_size bl) : w.heap.size ≤ gb307)); have n4_ := Aside0.mk ((by rw [hg]; exact (below_size bl) : w.heap.size ≤ gb307)); have n5_ := Aside0.mk ((by rw [hg]; exact Nat.ne_of_lt (blk_lt (bk BK306.out)) : gb306 ≠ gb307)); have n6_ := Aside0.mk ((by rw [hg]; exact Nat.ne_of_gt (blk_lt (bk BK306.out)) : gb307 ≠ gb306)); clear BK306; clear HB; have BK306 := n0_; have HB := n1_; have BK307 := n2_; have GW307 := n3_; have GE307 := n4_; have NB306_307 := n5_; have NB307_306 := n6_; clear n0_ n1_ n2_ n3_ n4_ n5_ n6_; clear hb hbox hg) | ((with_reducible refine gate_callee (f := 94) rfl ?_); refine goesL_ (some 13) rfl rfl Tryz.func94 (by kernel_rfl) rfl #[.string a1, .string a2] rfl ml ?_; (with_reducible refine (head_Lay.calls k a1 a2 t308 t309 t310 t311 _ ?side1 A4.out).mono ?_); (case side1 => exact Glob.below HG.out bl); rintro e w28 ⟨rfl, hb⟩; refine ⟨_, rfl, ?_⟩; have n0_ := Aside0.mk (kb BK306.out hb); have n1_ := Aside0.mk (kb BK307.out hb); have n2_ := Aside0.mk (below_step bl hb); clear BK306; clear BK307; clear HB; have BK306 := n0_; have BK307 := n1_; have HB := n2_; clear n0_ n1_ n2_; (try clear hb); (try clear hb2); (try clear hk); (try clear hi)) | ((with_reducible refine gate_dst (N := 8) rfl ?_); refine box_event ?hg (N := 8) ?hd (cs := #[.string (⟨#[]⟩ : ByteArray), .string (⟨#[]⟩ : ByteArray), .string (⟨#[]⟩ : ByteArray)]) (t := 72) ?hr ?_; (case hd => rfl); (case hg => rfl); (case hr => first | (go_simp; done) | (go_simp; rfl)); intro gb312 hg w29 hbox hb; have n0_ := Aside0.mk (kb BK306.out hb); have n1_ := Aside0.mk (kb BK307.out hb); have n2_ := Aside0.mk (below_step bl hb); have n3_ := Aside0.mk (hbox); have n4_ := Aside0.mk ((by rw [hg]; exact (below_size bl) : w.heap.size ≤ gb312)); have n5_ := Aside0.mk ((by rw [hg]; exact (below_size bl) : w.heap.size ≤ gb312)); have n6_ := Aside0.mk ((by rw [hg]; exact Nat.ne_of_lt (blk_lt (bk BK306.out)) : gb306 ≠ gb312)); have n7_ := Aside0.mk ((by rw [hg]; exact Nat.ne_of_gt (blk_lt (bk BK306.out)) : gb312 ≠ gb306)); have n8_ := Aside0.mk ((by rw [hg]; exact Nat.ne_of_lt (blk_lt (bk BK307.out)) : gb307 ≠ gb312)); have n9_ := Aside0.mk ((by rw [hg]; exact Nat.ne_of_gt (blk_lt (bk BK307.out)) : gb312 ≠ gb307)); clear BK306; clear BK307; clear HB; have BK306 := n0_; have BK307 := n1_; have HB := n2_; have BK312 := n3_; have GW312 := n4_; have GE312 := n5_; have NB306_312 := n6_; have NB312_306 := n7_; have NB307_312 := n8_; have NB312_307 := n9_; clear n0_ n1_ n2_ n3_ n4_ n5_ n6_ n7_ n8_ n9_; clear hb hbox hg; have hnb30 := NB312_306.out; have hnc30 := NB306_312.out; have hnb31 := NB312_307.out; have hnc31 := NB307_312.out; have hcz32_0 : w29.cell? ⟨gb312, 0, none⟩ = some (.string (⟨#[]⟩ : ByteArray)) := (blk_cell BK312.out 0).trans rfl; have hcz32_1 : w29.cell? ⟨gb312, 1, none⟩ = some (.string (⟨#[]⟩ : ByteArray)) := (blk_cell BK312.out 1).trans rfl; have hcz32_2 : w29.cell? ⟨gb312, 2, none⟩ = some (.string (⟨#[]⟩ : ByteArray)) := (blk_cell BK312.out 2).trans rfl; have hfz32_0 := blk_frozen BK312.out 0; have hfz32_1 := blk_frozen BK312.out 1; have hfz32_2 := blk_frozen BK312.out 2; have hnb33 := NB307_306.out; have hnc33 := NB306_307.out; have hcz34_0 : w29.cell? ⟨gb307, 0, none⟩ = some (.slice none 0 0) := (blk_cell BK307.out 0).trans rfl; have hcz34_1 : w29.cell? ⟨gb307, 1, none⟩ = some (.string (⟨#[]⟩ : ByteArray)) := (blk_cell BK307.out 1).trans rfl; have hcz34_2 : w29.cell? ⟨gb307, 2, none⟩ = some (.bool false) := (blk_cell BK307.out 2).trans rfl; have hfz34_0 := blk_frozen BK307.out 0; have hfz34_1 := blk_frozen BK307.out 1; have hfz34_2 := blk_frozen BK307.out 2))
  refine bodyPost_ret (results_ct rfl _ _ gb307 24 #[.slice none 0 0, .string (⟨#[]⟩ : ByteArray), .bool false] (0, 0) _ rfl (by (with_reducible repeat (first | refine blk_drewN ?_ _ | refine blk_drew ?_ | refine blk_alloc ?_ _)); refine blk_put (cs := #[.slice none 0 0, .string (⟨#[]⟩ : ByteArray), .bool false]) ?_ 2 _ rfl; (with_reducible repeat (first | refine blk_drewN ?_ _ | refine blk_drew ?_ | refine blk_alloc ?_ _)); refine blk_put (cs := #[.slice none 0 0, .string (⟨#[]⟩ : ByteArray), .bool false]) ?_ 1 _ rfl; (with_reducible repeat (first | refine blk_drewN ?_ _ | refine blk_drew ?_ | refine blk_alloc ?_ _)); refine blk_put (cs := #[.slice none 0 0, .string (⟨#[]⟩ : ByteArray), .bool false]) ?_ 0 _ rfl; (with_reducible repeat (first | refine blk_drewN ?_ _ | refine blk_drew ?_ | refine blk_alloc ?_ _)); refine blk_far ?_ NB307_312.out _; (with_reducible repeat (first | refine blk_drewN ?_ _ | refine blk_drew ?_ | refine blk_alloc ?_ _)); refine blk_far ?_ NB307_312.out _; (with_reducible repeat (first | refine blk_drewN ?_ _ | refine blk_drew ?_ | refine blk_alloc ?_ _)); refine blk_far ?_ NB307_312.out _; (with_reducible repeat (first | refine blk_drewN ?_ _ | refine blk_drew ?_ | refine blk_alloc ?_ _)); exact BK307.out) Tryz.underlying24 rfl (by kernel_rfl)) rfl ?_
  exact ⟨_, by first | rfl | (simp [errW_none, errW_some] <;> rfl) | (simp [*, errW_none, errW_some] <;> rfl), by first | exact Kd.R_nil _ _ _ _ _ | exact Kd.N_nil _ _ _ _ _ | exact Kd.V_nil _ _ _ _ _ | exact Kd.Q_nil _ _ _ _ _ | exact Kd.S_nil _ _ _ _ _, by repeat (first | (with_reducible first | exact HB.out | apply below_alloc | apply pw_below_drewN | apply below_drew1 | refine below_set ?_ GE306.out | refine below_set ?_ GE307.out | refine below_set ?_ GE312.out) | exact HB.out)⟩

/-! ### strconv_FormatUint: function 53 (by hand) -/
theorem fu_holds (w : World) (T : TypeId) (nd : Nat) (hs : nd ≤ 24) : Go.Sort.Holds (fun (b : UInt8) => Value.int .u8 (b.toNat : Int)) (w.alloc (.cells Lib.zeros24 T)) w.heap.size 0 (Array.replicate nd (0 : UInt8)) := fun j hj => by
  have hj' : j < nd := by simpa using hj
  refine ⟨?_, World.frozen?_alloc_new _ _ _ _⟩
  rw [World.cell?_alloc_new, Lib.zeros24_at _ (by omega), getElem!_pos _ j hj]
  simp
theorem fu_fin (w : World) (o : Obj) (dk : Array UInt8) (k : Nat) : ∃ os, (Go.Sort.putRow (fun (b : UInt8) => Value.int .u8 (b.toNat : Int)) (w.alloc o) w.heap.size 0 dk).drewN k = Go.Sort.grow (w.drewN k) os := by
  rw [Go.Sort.alloc_eq_grow]
  obtain ⟨os', _, e⟩ := Go.Sort.putRow_grow_new (fun (b : UInt8) => Value.int .u8 (b.toNat : Int)) w #[o] w.heap.size 0 dk (Nat.le_refl _)
  exact ⟨os', by rw [e]; rfl⟩
set_option maxHeartbeats 6400000 in
set_option maxRecDepth 100000 in
theorem strconv_FormatUint.inner (u : Nat) (hu64 : u < 18446744073709551616) (w : World) (htab : Lib.TabIs Tryz.prog w "internal/strconv.uint64pow10" .u64 Lib.pow10Tab) :
    Calls Tryz.prog 96 #[.int .u64 u, .int .i64 10] w fun e w' => e = .returned (.string ⟨(Lib.decDigits u).toArray⟩) ∧ ∃ k os, w' = Go.Sort.grow (w.drewN k) os := by
  by_cases hs : u < 100
  · have hw : IntKind.i64.wrap (u : Int) = (u : Int) := by rw [IntKind.wrap_i64]; omega
    go_enter Tryz.func96, Tryz.ntmps96
    go_wp2_with (go_at_call 145; refine ((Go.Proofs.Any.internal_strconv_small { Tryz.laysM173 with } u hs _ : Calls Tryz.prog 145 _ _ _)).mono ?_; rintro e w' ⟨rfl, rfl⟩)
    go_ret
    exact ⟨rfl, 0, #[], by simp [World.drewN_zero]⟩
  · have hu1 : 1 ≤ u := by omega
    have hnd20 : Lib.nDigits u ≤ 20 := by have := Lib.numDigits_eq u hu1 hu64; split at this <;> omega
    have hb3 : Lib.nDigits u ≤ 24 := by omega
    have hal : Tryz.prog.arrayLen 179 = 24 := by simp [Program.arrayLen, Tryz.underlying179]
    have hsl1 : ∀ W, (Instr.sliceAt 179 (.pointer (some ⟨w.heap.size, 0, none⟩)) none (some (.int .i64 (Lib.nDigits u : Int))) none).run Tryz.prog W = .ok (.slice (some ⟨w.heap.size, 0, none⟩) (Lib.nDigits u) 24) W := fun W => by
      rw [run_sliceAt_array_h W 179 ⟨w.heap.size, 0, none⟩ (by simp [Program.arrayLen, Program.elem, Tryz.underlying179]) .i64 (Lib.nDigits u : Int) (by omega) (by rw [hal]; omega)]
      go_simp
    have hH0 := fu_holds w 179 (Lib.nDigits u) (by omega)
    have hfmt : Calls Tryz.prog 147 _ _ _ := Go.Proofs.Any.internal_strconv_formatBase10 { Tryz.laysM173 with } w.heap.size 0 24 u (Array.replicate (Lib.nDigits u) 0) (w.alloc (.cells Lib.zeros24 179)) hH0 (by rw [Array.size_replicate]; exact Lib.lt_pow_nDigits u) hu64 (by rw [Array.size_replicate]; omega)
    rw [Array.size_replicate] at hfmt
    have HH0 := Lib.hid hH0
    clear hH0 hal
    go_enter Tryz.func96, Tryz.ntmps96
    go_wp2_with (first
      | (go_at_call 146; refine ((Go.Proofs.Any.internal_strconv_numDigits { Tryz.laysM173 with } u hu1 hu64 _ (Lib.tabIs_alloc htab _) : Calls Tryz.prog 146 _ _ _)).mono ?_; rintro e w' ⟨rfl, rfl⟩))
    go_at_call 147
    refine hfmt.mono ?_
    rintro e w' ⟨rfl, k, v', dk, rfl, hF⟩
    have hcv : (convert 102 9 (.slice (some ⟨w.heap.size, 0, none⟩) (Lib.nDigits u) 24)).run Tryz.prog ((Go.Sort.putRow (fun (b : UInt8) => Value.int .u8 (b.toNat : Int)) (w.alloc (.cells Lib.zeros24 179)) w.heap.size 0 dk).drewN k) = .ok (.string ⟨(Lib.decDigits u).toArray⟩) ((Go.Sort.putRow (fun (b : UInt8) => Value.int .u8 (b.toNat : Int)) (w.alloc (.cells Lib.zeros24 179)) w.heap.size 0 dk).drewN k) := by
      have h := run_convert_bytes_back (P := Tryz.prog) ((Go.Sort.putRow (fun (b : UInt8) => Value.int .u8 (b.toNat : Int)) (w.alloc (.cells Lib.zeros24 179)) w.heap.size 0 dk).drewN k) 102 9 5 ⟨w.heap.size, 0, none⟩ 24 (Lib.decDigits u) Tryz.underlying102 Tryz.underlying5 Tryz.underlying9 (fun j hj => by
        rw [Lib.row_is_numeral hF j hj, Lib.add_plain, World.cell?_drewN]
        exact Go.Sort.cell?_putRow (fun (b : UInt8) => Value.int .u8 (b.toNat : Int)) _ w.heap.size 0 _ dk HH0.out (by rw [hF.size, Array.size_replicate]) j (by rw [hF.size]; rw [Lib.decDigits_length] at hj; exact hj))
      rw [Lib.decDigits_length] at h
      exact h
    go_wp2
    go_ret
    obtain ⟨os, eo⟩ := fu_fin w (.cells Lib.zeros24 179) dk k
    exact ⟨rfl, k, os, eo⟩
def strconv_FormatUint.f (a0 a1 : Int) : Option ByteArray := if a1 = 10 ∧ 0 ≤ a0 ∧ a0 < 18446744073709551616 then some ⟨(Lib.decDigits a0.toNat).toArray⟩ else none
set_option maxRecDepth 100000 in
theorem strconv_FormatUint.calls (a0 a1 : Int) (r : ByteArray) (w : World) (hG : Glob w) (h : strconv_FormatUint.f a0 a1 = some r) :
    Calls Tryz.prog 53 #[.int .u64 a0, .int .i64 a1] w fun e w' => e = .returned (.string r) ∧ Below w.heap.size w w' := by
  unfold strconv_FormatUint.f at h
  split at h
  · rename_i hs
    obtain ⟨rfl, h0, h1⟩ := hs
    obtain rfl := Option.some.inj h
    obtain ⟨u, rfl⟩ : ∃ u : Nat, a0 = u := ⟨a0.toNat, by omega⟩
    have HI := Lib.hid (strconv_FormatUint.inner u (by omega) w hG.p10)
    rw [Int.toNat_natCast]
    clear h0 h1 hG h
    go_enter Tryz.func53, Tryz.ntmps53
    go_wp2_with (go_at_call 96; refine HI.out.mono ?_; rintro e w' ⟨rfl, k, os, rfl⟩)
    go_ret
    exact ⟨rfl, Lib.below_grow _ _ (Nat.le_refl _) _ _⟩
  · cases h


/-! ### stamp_clean: function 97 -/
def stamp_clean.f (a0 : Int) : Option (Int) := some (mx (mn a0 1099511627776) 0)
set_option maxHeartbeats 8000000 in
set_option maxRecDepth 100000 in
theorem stamp_clean.calls (a0 : Int) (r : Int) (w : World) (h : stamp_clean.f a0 = some r) :
    Calls Tryz.prog 97 #[.int .i64 a0] w fun e w' => e = .returned (.int .i64 r) ∧ Below w.heap.size w w' := by
  have HB := Aside0.mk (Below.refl w.heap.size w)
  have H : (some (mx (mn a0 1099511627776) 0)) = some r := h
  clear h
  obtain ⟨ji2, hji2⟩ : ∃ j_ : Int, (mn a0 1099511627776) = j_ := ⟨_, rfl⟩
  replace H : (some (mx (ji2) 0)) = some r := by first | (rw [hji2] at H; exact H) | (simp only [hji2] at H ⊢; exact H)
  (try (have hji2h : ji2 ≤ 1099511627776 := by (rw [← hji2]; unfold mn; (repeat' split) <;> omega)))
  (try (have hji2g : ji2 ≤ 64 := by omega))
  have hji2_ : (if 1099511627776 < a0 then 1099511627776 else a0) = ji2 := hji2
  obtain ⟨ji3, hji3⟩ : ∃ j_ : Int, (mx (ji2) 0) = j_ := ⟨_, rfl⟩
  replace H : (some ji3) = some r := by first | (rw [hji3] at H; exact H) | (simp only [hji3] at H ⊢; exact H)
  have hji3_ : (if (ji2) < 0 then 0 else (ji2)) = ji3 := hji3
  obtain rfl := Option.some.inj H
  go_enter Tryz.func97, Tryz.ntmps97
  go_wp2
  go_ret
  exact ⟨by first | rfl | (simp [bneNil]; done) | (simp [errW_none, errW_some] <;> rfl) | (simp only [← hji2, ← hji3]; first | rfl | (simp [errW_none, errW_some] <;> rfl)) | (simp [*, errW_none, errW_some] <;> rfl), by repeat (first | (with_reducible first | exact HB.out | apply below_alloc | apply pw_below_drewN | apply below_drew1) | exact HB.out)⟩

/-! ### stamp_ahead: function 98 (by hand) -/
def stamp_ahead.f (a0 : Int) : Option Int := if 1 ≤ a0 ∧ a0 ≤ 1000000000000 then some (365 * (a0 - 1970) + ((a0 - 1) / 4 - (a0 - 1) / 100 + (a0 - 1) / 400) - 477) else none
theorem stamp_ahead.calls (a0 : Int) (r : Int) (w : World) (h : stamp_ahead.f a0 = some r) :
    Calls Tryz.prog 98 #[.int .i64 a0] w fun e w' => e = .returned (.int .i64 r) ∧ Drawn0 w w' := by
  unfold stamp_ahead.f at h
  split at h
  · rename_i hs
    obtain ⟨h0, h1⟩ := hs
    obtain rfl := Option.some.inj h
    have e1 : wrap64 (a0 - 1970) = a0 - 1970 := by unfold wrap64; omega
    have e2 : wrap64 (365 * (a0 - 1970)) = 365 * (a0 - 1970) := by unfold wrap64; omega
    have e3 : wrap64 (a0 - 1) = a0 - 1 := by unfold wrap64; omega
    have t1 : Int.tdiv (a0 - 1) 4 = (a0 - 1) / 4 := Int.tdiv_eq_ediv_of_nonneg (by omega)
    have t2 : Int.tdiv (a0 - 1) 100 = (a0 - 1) / 100 := Int.tdiv_eq_ediv_of_nonneg (by omega)
    have t3 : Int.tdiv (a0 - 1) 400 = (a0 - 1) / 400 := Int.tdiv_eq_ediv_of_nonneg (by omega)
    have e4 : wrap64 ((a0 - 1) / 4 - (a0 - 1) / 100) = (a0 - 1) / 4 - (a0 - 1) / 100 := by unfold wrap64; omega
    have e5 : wrap64 ((a0 - 1) / 4 - (a0 - 1) / 100 + (a0 - 1) / 400) = (a0 - 1) / 4 - (a0 - 1) / 100 + (a0 - 1) / 400 := by unfold wrap64; omega
    have e6 : wrap64 (365 * (a0 - 1970) + ((a0 - 1) / 4 - (a0 - 1) / 100 + (a0 - 1) / 400)) = 365 * (a0 - 1970) + ((a0 - 1) / 4 - (a0 - 1) / 100 + (a0 - 1) / 400) := by unfold wrap64; omega
    have e7 : wrap64 (365 * (a0 - 1970) + ((a0 - 1) / 4 - (a0 - 1) / 100 + (a0 - 1) / 400) - 477) = 365 * (a0 - 1970) + ((a0 - 1) / 4 - (a0 - 1) / 100 + (a0 - 1) / 400) - 477 := by unfold wrap64; omega
    go_enter Tryz.func98, Tryz.ntmps98
    go_wp2
    go_ret
    exact ⟨by first | rfl | (simp [*]; done), by repeat (first | exact Drawn0.refl _ | apply Drawn0.step)⟩
  · cases h


/-! ### stamp_length: function 99 (by hand) -/
def leapB (y : Int) : Bool := decide (y % 4 = 0) && (decide (y % 100 ≠ 0) || decide (y % 400 = 0))
def stamp_length.f (a0 a1 : Int) : Option Int := if 0 ≤ a0 ∧ 0 ≤ a1 ∧ a1 < 12 then some (if a1 = 1 then (if leapB a0 then 29 else 28) else lnT.getD a1.toNat 0) else none
theorem stamp_length.calls (a0 a1 : Int) (r : Int) (w : World) (hG : Glob w) (h : stamp_length.f a0 a1 = some r) :
    Calls Tryz.prog 99 #[.int .i64 a0, .int .i64 a1] w fun e w' => e = .returned (.int .i64 r) ∧ Drawn0 w w' := by
  unfold stamp_length.f at h
  split at h
  · rename_i hs
    obtain ⟨h0, h1, h2⟩ := hs
    obtain ⟨m, rfl⟩ : ∃ m : Nat, a1 = (m : Int) := ⟨a1.toNat, by omega⟩
    have hc := hG.ln m (by omega)
    have t1 : Int.tmod a0 4 = a0 % 4 := Int.tmod_eq_emod_of_nonneg h0
    have t2 : Int.tmod a0 100 = a0 % 100 := Int.tmod_eq_emod_of_nonneg h0
    have t3 : Int.tmod a0 400 = a0 % 400 := Int.tmod_eq_emod_of_nonneg h0
    obtain rfl := Option.some.inj h
    by_cases hm : m = 1
    · subst hm
      unfold leapB
      by_cases c1 : a0 % 4 = 0 <;> by_cases c2 : a0 % 100 = 0 <;> by_cases c3 : a0 % 400 = 0
      all_goals (
        go_enter Tryz.func99, Tryz.ntmps99
        go_wp2
        go_ret
        exact ⟨by simp [c1, c2, c3, lnT] <;> rfl, by repeat (first | exact Drawn0.refl _ | apply Drawn0.step)⟩)
    · have b1 : ((m : Int) == 1) = false := beq_false_of_ne (by omega)
      rw [if_neg (by omega), Int.toNat_natCast]
      obtain ⟨z, hz⟩ : ∃ z, lnT.getD m 0 = z := ⟨_, rfl⟩
      rw [hz] at hc ⊢
      go_enter Tryz.func99, Tryz.ntmps99
      go_wp2
      go_ret
      exact ⟨by first | rfl | (simp [*]; done), by repeat (first | exact Drawn0.refl _ | apply Drawn0.step)⟩
  · cases h


/-! ### stamp_two: function 100 (by hand) -/
def twoB (n : Nat) : ByteArray := ⟨#[(48 + n / 10).toUInt8, (48 + n % 10).toUInt8]⟩
theorem two_all : ∀ n : Fin 100, ((⟨(Lib.decDigits n.val).toArray⟩ : ByteArray).size = if n.val < 10 then 1 else 2) ∧ (⟨(Lib.repeatL [48] (if n.val < 10 then 1 else 0)).toArray⟩ : ByteArray) ++ ⟨(Lib.decDigits n.val).toArray⟩ = twoB n.val := by decide +kernel
def stamp_two.f (a0 : Int) : Option ByteArray := if 0 ≤ a0 ∧ a0 < 100 then some (twoB a0.toNat) else none
theorem stamp_two.calls (a0 : Int) (r : ByteArray) (w : World) (h : stamp_two.f a0 = some r) :
    Calls Tryz.prog 100 #[.int .i64 a0] w fun e w' => e = .returned (.string r) ∧ Below w.heap.size w w' := by
  unfold stamp_two.f at h
  split at h
  · rename_i hs
    obtain rfl := Option.some.inj h
    obtain ⟨n, rfl⟩ : ∃ n : Nat, a0 = (n : Int) := ⟨a0.toNat, by omega⟩
    rw [Int.toNat_natCast]
    have hn : n < 100 := by omega
    obtain ⟨h1, h2⟩ := two_all ⟨n, hn⟩
    have cF := fun W => Tryz.strconv_FormatInt_10_small n hn W
    simp only at h1 h2
    obtain ⟨p, hp⟩ : ∃ p : ByteArray, (⟨(Lib.decDigits n).toArray⟩ : ByteArray) = p := ⟨_, rfl⟩
    rw [hp] at h1 h2
    simp only [hp] at cF
    obtain ⟨c, hc⟩ : ∃ c : Nat, (if n < 10 then 1 else 0) = c := ⟨_, rfl⟩
    have hc2 : c ≤ 1 := by rw [← hc]; split <;> omega
    have hc3 : p.size + c = 2 := by rw [h1, ← hc]; split <;> rfl
    rw [hc] at h2
    have cR := fun W => Tryz.strings_Repeat ⟨#[48]⟩ c W (by omega) (by show 1 * c ≤ _; omega)
    obtain ⟨z, hz⟩ : ∃ z : ByteArray, (⟨(Lib.repeatL (⟨#[48]⟩ : ByteArray).data.toList c).toArray⟩ : ByteArray) = z := ⟨_, rfl⟩
    have h2' : z ++ p = twoB n := by rw [← hz]; exact h2
    simp only [hz] at cR
    have hzs : z.size ≤ 2 := by
      have e := congrArg ByteArray.size h2'
      rw [ByteArray.size_append] at e
      have : (twoB n).size = 2 := rfl
      omega
    have hw : wrap64 (2 - (p.size : Int)) = (c : Int) := by unfold wrap64; omega
    have hw2 : (2 : Int) - (p.size : Int) = (c : Int) := by omega
    have hsum : z.size + p.size ≤ 9223372036854775807 := by omega
    clear h1 h2 hp hz hc
    go_enter Tryz.func100, Tryz.ntmps100
    go_wp2_with (first | (go_at_call 101; go_must (refine (cF _).mono ?_; rintro e W1 ⟨rfl, rfl⟩)) | (go_at_call 31; go_must ((first | rw [hw] | rw [hw2] | skip); refine (cR _).mono ?_; rintro e W2 ⟨rfl, b2⟩)))
    go_ret
    exact ⟨rfl, b2⟩
  · cases h


/-! ### strconv_FormatInt: function 101 (by hand) -/
def strconv_FormatInt.f (a0 a1 : Int) : Option ByteArray := if a1 = 10 ∧ -9223372036854775808 ≤ a0 ∧ a0 ≤ 9223372036854775807 then some ⟨(Lib.itoa a0).toArray⟩ else none
theorem strconv_FormatInt.calls (a0 a1 : Int) (r : ByteArray) (w : World) (hG : Glob w) (h : strconv_FormatInt.f a0 a1 = some r) :
    Calls Tryz.prog 101 #[.int .i64 a0, .int .i64 a1] w fun e w' => e = .returned (.string r) ∧ Below w.heap.size w w' := by
  unfold strconv_FormatInt.f at h
  split at h
  · rename_i hs
    obtain ⟨rfl, h0, h1⟩ := hs
    obtain rfl := Option.some.inj h
    refine (Tryz.strconv_FormatInt_10 a0 h0 h1 w hG.p10).mono ?_
    rintro e w' ⟨rfl, k, os, rfl⟩
    exact ⟨rfl, Lib.below_grow _ _ (Nat.le_refl _) _ _⟩
  · cases h


end Go.Proofs.YtacjnapgdikhbaaGreatDoor.Q
end
section
namespace Go.Proofs.YtacjnapgdikhbaaGreatDoor.Q
open Go.RowKit Go.Proofs.YtacjnapgdikhbaaGreatDoorW.PrintWords Go.Proofs.YtacjnapgdikhbaaGreatDoorW.PrintLast Go.Proofs.YtacjnapgdikhbaaGreatDoorW.PrintMore
attribute [local go_sem] max2_int min2_int max_two min_two max_three min_three max_four min_four   -- for this text's walks alone
set_option linter.unusedVariables false
set_option linter.unusedSimpArgs false

/-! ### stamp_Date: function 54 -/
mutual
def stamp_Date.l0 : Nat → Int → Int → ByteArray → Int → Option (ByteArray)
 | 0, _, _, _, _ => none
 | k + 1, x3, x4, x5, x6 => (stamp_ahead.f x6).bind fun t327 => (if t327 > x3 then (stamp_Date.l0 k x3 x4 x5 (wrap64 (x6 - 1))) else (stamp_Date.l1 k x3 x4 x5 x6))
def stamp_Date.l1 : Nat → Int → Int → ByteArray → Int → Option (ByteArray)
 | 0, _, _, _, _ => none
 | k + 1, x3, x4, x5, x6 => (stamp_ahead.f (wrap64 (x6 + 1))).bind fun t328 => (if t328 ≤ x3 then (stamp_Date.l1 k x3 x4 x5 (wrap64 (x6 + 1))) else ((stamp_ahead.f x6).bind fun t329 => (stamp_Date.l2 k x4 x5 x6 (wrap64 (x3 - t329)) 0)))
def stamp_Date.l2 : Nat → Int → ByteArray → Int → Int → Int → Option (ByteArray)
 | 0, _, _, _, _, _ => none
 | k + 1, x4, x5, x6, x7, x8 => (stamp_length.f x6 x8).bind fun t330 => (if x7 ≥ t330 then ((stamp_length.f x6 x8).bind fun t331 => (stamp_Date.l2 k x4 x5 x6 (wrap64 (x7 - t331)) (wrap64 (x8 + 1)))) else ((stamp_two.f (wrap64 (Int.tdiv x4 3600))).bind fun t332 => (if t332.size + 1 ≤ 9223372036854775807 then ((stamp_two.f (Int.tmod (wrap64 (Int.tdiv x4 60)) 60)).bind fun t333 => (if (t332 ++ (⟨#[58]⟩ : ByteArray)).size + t333.size ≤ 9223372036854775807 then (if ((t332 ++ (⟨#[58]⟩ : ByteArray)) ++ t333).size + 1 ≤ 9223372036854775807 then ((stamp_two.f (Int.tmod x4 60)).bind fun t334 => (if (((t332 ++ (⟨#[58]⟩ : ByteArray)) ++ t333) ++ (⟨#[58]⟩ : ByteArray)).size + t334.size ≤ 9223372036854775807 then (if x5.size + 1 ≤ 9223372036854775807 then ((stamp_two.f (wrap64 (x7 + 1))).bind fun t335 => (if 0 ≤ x8 then (if x8 < 12 then ((strconv_FormatInt.f x6 10).bind fun t337 => ((strings_Join.f (([x5 ++ (⟨#[44]⟩ : ByteArray), t335, rdOf ByteArray.empty moT x8, t337, (((t332 ++ (⟨#[58]⟩ : ByteArray)) ++ t333) ++ (⟨#[58]⟩ : ByteArray)) ++ t334, (⟨#[43, 48, 48, 48, 48]⟩ : ByteArray)] : List ByteArray)) (⟨#[32]⟩ : ByteArray)).bind fun t341 => (some t341))) else (none)) else (none))) else (none)) else (none))) else (none)) else (none))) else (none))))
end
def stamp_Date.f (k : Nat) (a0 : Int) : Option (ByteArray) := (stamp_clean.f a0).bind fun t325 => (if 0 ≤ (Int.tmod (wrap64 ((wrap64 (Int.tdiv t325 86400)) + 4)) 7) then (if (Int.tmod (wrap64 ((wrap64 (Int.tdiv t325 86400)) + 4)) 7) < 7 then (stamp_Date.l0 k (wrap64 (Int.tdiv t325 86400)) (Int.tmod t325 86400) (rdOf ByteArray.empty wdT (Int.tmod (wrap64 ((wrap64 (Int.tdiv t325 86400)) + 4)) 7)) (wrap64 (1970 + (wrap64 (Int.tdiv (wrap64 ((wrap64 (Int.tdiv t325 86400)) * 400)) 146097))))) else (none)) else (none))
theorem stamp_Date.mono_l : ∀ k, (∀ y0 y1 y2 y3, LeO (stamp_Date.l0 k y0 y1 y2 y3) (stamp_Date.l0 (k + 1) y0 y1 y2 y3)) ∧ (∀ y0 y1 y2 y3, LeO (stamp_Date.l1 k y0 y1 y2 y3) (stamp_Date.l1 (k + 1) y0 y1 y2 y3)) ∧ (∀ y0 y1 y2 y3 y4, LeO (stamp_Date.l2 k y0 y1 y2 y3 y4) (stamp_Date.l2 (k + 1) y0 y1 y2 y3 y4))
 | 0 => ⟨fun _ _ _ _ r h => by simp [stamp_Date.l0] at h, fun _ _ _ _ r h => by simp [stamp_Date.l1] at h, fun _ _ _ _ _ r h => by simp [stamp_Date.l2] at h⟩
 | k + 1 => by
  obtain ⟨ih0, ih1, ih2⟩ := stamp_Date.mono_l k
  refine ⟨?_, ?_, ?_⟩
  ·intro y0 y1 y2 y3
   unfold stamp_Date.l0
   repeat' first
   | (with_reducible exact ih0 _ _ _ _)
   | (with_reducible exact ih1 _ _ _ _)
   | (with_reducible exact ih2 _ _ _ _ _)
   | (with_reducible exact LeO.refl _)
   | (with_reducible exact LeO.none _)
   | (with_reducible refine LeO.ite ?_ ?_)
   | (with_reducible refine LeO.bind ?_ (fun _ => ?_))
   | exact ih0 _ _ _ _
   | exact ih1 _ _ _ _
   | exact ih2 _ _ _ _ _
   | exact LeO.none _
   | refine LeO.ite ?_ ?_
   | refine LeO.bind ?_ (fun _ => ?_)
  ·intro y0 y1 y2 y3
   unfold stamp_Date.l1
   repeat' first
   | (with_reducible exact ih0 _ _ _ _)
   | (with_reducible exact ih1 _ _ _ _)
   | (with_reducible exact ih2 _ _ _ _ _)
   | (with_reducible exact LeO.refl _)
   | (with_reducible exact LeO.none _)
   | (with_reducible refine LeO.ite ?_ ?_)
   | (with_reducible refine LeO.bind ?_ (fun _ => ?_))
   | exact ih0 _ _ _ _
   | exact ih1 _ _ _ _
   | exact ih2 _ _ _ _ _
   | exact LeO.none _
   | refine LeO.ite ?_ ?_
   | refine LeO.bind ?_ (fun _ => ?_)
  ·intro y0 y1 y2 y3 y4
   unfold stamp_Date.l2
   repeat' first
   | (with_reducible exact ih0 _ _ _ _)
   | (with_reducible exact ih1 _ _ _ _)
   | (with_reducible exact ih2 _ _ _ _ _)
   | (with_reducible exact LeO.refl _)
   | (with_reducible exact LeO.none _)
   | (with_reducible refine LeO.ite ?_ ?_)
   | (with_reducible refine LeO.bind ?_ (fun _ => ?_))
   | exact ih0 _ _ _ _
   | exact ih1 _ _ _ _
   | exact ih2 _ _ _ _ _
   | exact LeO.none _
   | refine LeO.ite ?_ ?_
   | refine LeO.bind ?_ (fun _ => ?_)
theorem stamp_Date.mono : ∀ a0 k, LeO (stamp_Date.f k a0) (stamp_Date.f (k + 1) a0) := by
 intro a0 k
 obtain ⟨ih0, ih1, ih2⟩ := stamp_Date.mono_l k
 unfold stamp_Date.f
 repeat' first
   | (with_reducible exact ih0 _ _ _ _)
   | (with_reducible exact ih1 _ _ _ _)
   | (with_reducible exact ih2 _ _ _ _ _)
   | (with_reducible exact LeO.refl _)
   | (with_reducible exact LeO.none _)
   | (with_reducible refine LeO.ite ?_ ?_)
   | (with_reducible refine LeO.bind ?_ (fun _ => ?_))
   | exact ih0 _ _ _ _
   | exact ih1 _ _ _ _
   | exact ih2 _ _ _ _ _
   | exact LeO.none _
   | refine LeO.ite ?_ ?_
   | refine LeO.bind ?_ (fun _ => ?_)
def stamp_Date.T14 : Bool × List (List Nat × List Nat) := (true, [([], []), ([0], [0]), ([], []), ([2], [2]), ([3], [3]), ([], []), ([5], [5]), ([6], [6]), ([], []), ([8, 4], [8]), ([], []), ([1, 4, 7, 9, 10], [1, 4, 7, 9, 10]), ([11, 9], [11]), ([12, 12, 0, 1, 2, 3, 4, 5, 6, 7, 8, 9, 10, 11, 12], [12])])
def stamp_Date.B14 : List Nat := [0, 1, 0, 4, 12, 0, 32, 96, 0, 284, 0, 2047, 4095, 8191]
theorem stamp_Date.tab14 : rtab .any (opsOf Tryz.f54 14) = stamp_Date.T14 := by kernel_rfl
theorem stamp_Date.bits14 : waitsOk stamp_Date.T14.2 stamp_Date.B14 = true := by kernel_rfl
set_option maxHeartbeats 8000000 in
set_option maxRecDepth 100000 in
theorem stamp_Date.calls (k : Nat) (a0 : Int) (r : ByteArray) (w : World) (hG : Glob w) (h : stamp_Date.f k a0 = some r) :
  Calls Tryz.prog 54 #[.int .i64 a0] w fun e w' => e = .returned (.string r) ∧ Below w.heap.size w w' := by
 have HB := Aside0.mk (Below.refl w.heap.size w)
 have HG := Aside0.mk hG
 have HRG0 := Aside0.mk hG.c0
 have HRG1 := Aside0.mk hG.c1
 clear hG
 have H : ((stamp_clean.f a0).bind fun t325 => (if 0 ≤ (Int.tmod (wrap64 ((wrap64 (Int.tdiv t325 86400)) + 4)) 7) then (if (Int.tmod (wrap64 ((wrap64 (Int.tdiv t325 86400)) + 4)) 7) < 7 then (stamp_Date.l0 k (wrap64 (Int.tdiv t325 86400)) (Int.tmod t325 86400) (rdOf ByteArray.empty wdT (Int.tmod (wrap64 ((wrap64 (Int.tdiv t325 86400)) + 4)) 7)) (wrap64 (1970 + (wrap64 (Int.tdiv (wrap64 ((wrap64 (Int.tdiv t325 86400)) * 400)) 146097))))) else (none)) else (none))) = some r := h
 clear h
 replace H := Option.bind_eq_some_iff.mp H
 obtain ⟨t325, A20, H⟩ := H
 replace H : (if 0 ≤ (Int.tmod (wrap64 ((wrap64 (Int.tdiv t325 86400)) + 4)) 7) then (if (Int.tmod (wrap64 ((wrap64 (Int.tdiv t325 86400)) + 4)) 7) < 7 then (stamp_Date.l0 k (wrap64 (Int.tdiv t325 86400)) (Int.tmod t325 86400) (rdOf ByteArray.empty wdT (Int.tmod (wrap64 ((wrap64 (Int.tdiv t325 86400)) + 4)) 7)) (wrap64 (1970 + (wrap64 (Int.tdiv (wrap64 ((wrap64 (Int.tdiv t325 86400)) * 400)) 146097))))) else (none)) else (none)) = some r := H
 have A2 := Aside0.mk A20
 clear A20
 obtain ⟨ji3, hji3⟩ : ∃ j_ : Int, (Int.tmod (wrap64 ((wrap64 (Int.tdiv t325 86400)) + 4)) 7) = j_ := ⟨_, rfl⟩
 replace H : (if 0 ≤ (ji3) then (if (ji3) < 7 then (stamp_Date.l0 k (wrap64 (Int.tdiv t325 86400)) (Int.tmod t325 86400) (rdOf ByteArray.empty wdT (ji3)) (wrap64 (1970 + (wrap64 (Int.tdiv (wrap64 ((wrap64 (Int.tdiv t325 86400)) * 400)) 146097))))) else (none)) else (none)) = some r := by first | (rw [hji3] at H; exact H) | (simp only [hji3] at H ⊢; exact H)
 (try rw [hji3] at A2)
 by_cases c4 : 0 ≤ (ji3)
 ·rw [if_pos c4] at H
  have c4b0 : decide (0 ≤ (ji3)) = true := decide_eq_true c4
  clear c4
  by_cases c5 : (ji3) < 7
  ·rw [if_pos c5] at H
   have c5b0 : decide ((ji3) < 7) = true := decide_eq_true c5
   clear c5
   have H' := Aside0.mk H
   clear H
   obtain ⟨rs_, hrs_⟩ : ∃ j_ : Int, (Int.tmod t325 86400) = j_ := ⟨_, rfl⟩
   rw [hrs_] at H'
   go_enter Tryz.func54, Tryz.ntmps54
   go_wp2_with (first | ((with_reducible refine gate_callee (f := 97) rfl ?_); refine goesL_ (some 11) rfl rfl Tryz.func97 (by kernel_rfl) rfl #[.int .i64 a0] rfl ml ?_; (with_reducible refine (stamp_clean.calls a0 t325 _ A2.out).mono ?_); rintro e w6 ⟨rfl, hb⟩; refine ⟨_, rfl, ?_⟩; have n0_ := Aside0.mk (below_step bl hb); clear HB; have HB := n0_; clear n0_; (try clear hb); (try clear hb2); (try clear hk); (try clear hi); have p326 : 0 ≤ ((ji3) : Int) := od; have q326 : (ji3) < (wdT.length : Int) := od; have ql326 : (((ji3) : Int) < (7 : Int)) = True := eq_true (od); obtain ⟨ad326, e326, hx326_0⟩ := Kd.at_string HRG0.out (ji3) p326 q326; obtain rfl : (⟨0, 0, none⟩ : Addr) = ad326 := (by injection e326); (first | simp only [add_plain] at hx326_0 | simp only [add_at] at hx326_0 | simp only [Addr.add, Nat.zero_add] at hx326_0 | skip); replace hx326_0 := (HB.out.cell (World.block_lt_of_cell? w _ hx326_0)).trans hx326_0; replace p326 := eq_true p326; replace q326 := eq_true q326))
   go_loopg [6] k (fun kq v6 w' => ∃ (x6_1 : Int), v6 = .int .i64 x6_1 ∧ Aside0 (stamp_Date.l0 kq (wrap64 (Int.tdiv t325 86400)) rs_ (rdOf ByteArray.empty wdT (ji3)) x6_1 = some r) ∧ Aside0 (kq ≤ k) ∧ Aside0 (Below w.heap.size w w'))
   case atStart => exact ⟨(wrap64 (1970 + (wrap64 (Int.tdiv (wrap64 ((wrap64 (Int.tdiv t325 86400)) * 400)) 146097)))), (by first | rfl | (simp; done) | (simp [*]; done)), H', ⟨Nat.le_refl _⟩, ⟨by repeat (first | (with_reducible first | exact HB.out | apply below_alloc | apply pw_below_drewN | apply below_drew1) | exact HB.out)⟩⟩
   case round =>
    clear H'
    try clear c1
    try clear p2
    try clear p3
    try clear q3
    try clear hx3
    try clear c4
    try clear c4b0
    try clear c5
    try clear c5b0
    try clear p6
    try clear hx326_0
    try clear p326
    try clear q326
    obtain ⟨x6_1, rfl, HA, HK1, HB⟩ := hrel
    cases gk with
    | zero => exact absurd HA.out (by simp [stamp_Date.l0])
    | succ k1 =>
     have H := HA.out
     clear HA
     simp only [stamp_Date.l0] at H
     replace H := Option.bind_eq_some_iff.mp H
     obtain ⟨t327, A70, H⟩ := H
     replace H : (if t327 > (wrap64 (Int.tdiv t325 86400)) then (stamp_Date.l0 k1 (wrap64 (Int.tdiv t325 86400)) rs_ (rdOf ByteArray.empty wdT (ji3)) (wrap64 (x6_1 - 1))) else (stamp_Date.l1 k1 (wrap64 (Int.tdiv t325 86400)) rs_ (rdOf ByteArray.empty wdT (ji3)) x6_1)) = some r := H
     have A7 := Aside0.mk A70
     clear A70
     by_cases c8 : t327 > (wrap64 (Int.tdiv t325 86400))
     ·rw [if_pos c8] at H
      have c8b0 : decide ((wrap64 (Int.tdiv t325 86400)) < t327) = true := decide_eq_true c8
      clear c8
      have H' := Aside0.mk H
      clear H
      go_wp2_with (first | ((with_reducible refine gate_callee (f := 98) rfl ?_); refine goesL_ (some 26) rfl rfl Tryz.func98 (by kernel_rfl) rfl #[.int .i64 x6_1] rfl ml ?_; (with_reducible refine (stamp_ahead.calls x6_1 t327 _ A7.out).mono ?_); rintro e w' ⟨rfl, ⟨nd, rfl⟩⟩; refine ⟨_, rfl, ?_⟩))
      go_roundg k1
      case measure => have := HK1.out; omega
      case rel => exact ⟨(wrap64 (x6_1 - 1)), (by first | rfl | (simp; done) | (simp [*]; done)), H', ⟨by have := HK1.out; omega⟩, ⟨by repeat (first | (with_reducible first | exact HB.out | apply below_alloc | apply pw_below_drewN | apply below_drew1) | exact HB.out)⟩⟩
     ·rw [if_neg c8] at H
      have c8b0 : decide ((wrap64 (Int.tdiv t325 86400)) < t327) = false := decide_eq_false c8
      clear c8
      have H' := Aside0.mk H
      clear H
      go_wp2_with (first | ((with_reducible refine gate_callee (f := 98) rfl ?_); refine goesL_ (some 26) rfl rfl Tryz.func98 (by kernel_rfl) rfl #[.int .i64 x6_1] rfl ml ?_; (with_reducible refine (stamp_ahead.calls x6_1 t327 _ A7.out).mono ?_); rintro e w' ⟨rfl, ⟨nd, rfl⟩⟩; refine ⟨_, rfl, ?_⟩))
      go_loopg [6] k1 (fun kq v6 w' => ∃ (x6_2 : Int), v6 = .int .i64 x6_2 ∧ Aside0 (stamp_Date.l1 kq (wrap64 (Int.tdiv t325 86400)) rs_ (rdOf ByteArray.empty wdT (ji3)) x6_2 = some r) ∧ Aside0 (kq ≤ k1) ∧ Aside0 (Below w.heap.size w w'))
      case atStart => exact ⟨(x6_1), (by first | rfl | (simp; done) | (simp [*]; done)), H', ⟨Nat.le_refl _⟩, ⟨by repeat (first | (with_reducible first | exact HB.out | apply below_alloc | apply pw_below_drewN | apply below_drew1) | exact HB.out)⟩⟩
      case round =>
       clear H'
       try clear c1
       try clear p2
       try clear p3
       try clear q3
       try clear hx3
       try clear c4
       try clear c4b0
       try clear c5
       try clear c5b0
       try clear p6
       try clear c8
       try clear c8b0
       try clear hx326_0
       try clear p2
       try clear p3
       try clear p326
       try clear p6
       try clear q3
       try clear q326
       obtain ⟨x6_2, rfl, HA, HK2, HB⟩ := hrel
       cases gk with
       | zero => exact absurd HA.out (by simp [stamp_Date.l1])
       | succ k2 =>
        have H := HA.out
        clear HA
        simp only [stamp_Date.l1] at H
        replace H := Option.bind_eq_some_iff.mp H
        obtain ⟨t328, A90, H⟩ := H
        replace H : (if t328 ≤ (wrap64 (Int.tdiv t325 86400)) then (stamp_Date.l1 k2 (wrap64 (Int.tdiv t325 86400)) rs_ (rdOf ByteArray.empty wdT (ji3)) (wrap64 (x6_2 + 1))) else ((stamp_ahead.f x6_2).bind fun t329 => (stamp_Date.l2 k2 rs_ (rdOf ByteArray.empty wdT (ji3)) x6_2 (wrap64 ((wrap64 (Int.tdiv t325 86400)) - t329)) 0))) = some r := H
        have A9 := Aside0.mk A90
        clear A90
        by_cases c10 : t328 ≤ (wrap64 (Int.tdiv t325 86400))
        ·rw [if_pos c10] at H
         have c10b0 : decide (t328 ≤ (wrap64 (Int.tdiv t325 86400))) = true := decide_eq_true c10
         clear c10
         have H' := Aside0.mk H
         clear H
         go_wp2_with (first | ((with_reducible refine gate_callee (f := 98) rfl ?_); refine goesL_ (some 33) rfl rfl Tryz.func98 (by kernel_rfl) rfl #[.int .i64 (wrap64 (x6_2 + 1))] rfl ml ?_; (with_reducible refine (stamp_ahead.calls (wrap64 (x6_2 + 1)) t328 _ A9.out).mono ?_); rintro e w' ⟨rfl, ⟨nd, rfl⟩⟩; refine ⟨_, rfl, ?_⟩))
         go_roundg k2
         case measure => have := HK1.out; have := HK2.out; omega
         case rel => exact ⟨(wrap64 (x6_2 + 1)), (by first | rfl | (simp; done) | (simp [*]; done)), H', ⟨by have := HK1.out; have := HK2.out; omega⟩, ⟨by repeat (first | (with_reducible first | exact HB.out | apply below_alloc | apply pw_below_drewN | apply below_drew1) | exact HB.out)⟩⟩
        ·rw [if_neg c10] at H
         have c10b0 : decide (t328 ≤ (wrap64 (Int.tdiv t325 86400))) = false := decide_eq_false c10
         clear c10
         replace H := Option.bind_eq_some_iff.mp H
         obtain ⟨t329, A110, H⟩ := H
         replace H : (stamp_Date.l2 k2 rs_ (rdOf ByteArray.empty wdT (ji3)) x6_2 (wrap64 ((wrap64 (Int.tdiv t325 86400)) - t329)) 0) = some r := H
         have A11 := Aside0.mk A110
         clear A110
         have H' := Aside0.mk H
         clear H
         go_wp2_with (first | ((with_reducible refine gate_callee (f := 98) rfl ?_); refine goesL_ (some 33) rfl rfl Tryz.func98 (by kernel_rfl) rfl #[.int .i64 (wrap64 (x6_2 + 1))] rfl ml ?_; (with_reducible refine (stamp_ahead.calls (wrap64 (x6_2 + 1)) t328 _ A9.out).mono ?_); rintro e w' ⟨rfl, ⟨nd, rfl⟩⟩; refine ⟨_, rfl, ?_⟩) | ((with_reducible refine gate_callee (f := 98) rfl ?_); refine goesL_ (some 40) rfl rfl Tryz.func98 (by kernel_rfl) rfl #[.int .i64 x6_2] rfl ml ?_; (with_reducible refine (stamp_ahead.calls x6_2 t329 _ A11.out).mono ?_); rintro e w' ⟨rfl, ⟨nd, rfl⟩⟩; refine ⟨_, rfl, ?_⟩))
         go_loopg [7, 8] k2 (fun kq v7 v8 w' => ∃ (x7_3 : Int) (x8_3 : Int), v7 = .int .i64 x7_3 ∧ v8 = .int .i64 x8_3 ∧ Aside0 (stamp_Date.l2 kq rs_ (rdOf ByteArray.empty wdT (ji3)) x6_2 x7_3 x8_3 = some r) ∧ Aside0 (kq ≤ k2) ∧ Aside0 (Below w.heap.size w w'))
         case atStart => exact ⟨(wrap64 ((wrap64 (Int.tdiv t325 86400)) - t329)), (0), (by first | rfl | (simp; done) | (simp [*]; done)), (by first | rfl | (simp; done) | (simp [*]; done)), H', ⟨Nat.le_refl _⟩, ⟨by repeat (first | (with_reducible first | exact HB.out | apply below_alloc | apply pw_below_drewN | apply below_drew1) | exact HB.out)⟩⟩
         case round =>
          clear H'
          try clear c1
          try clear p2
          try clear p3
          try clear q3
          try clear hx3
          try clear c4
          try clear c4b0
          try clear c5
          try clear c5b0
          try clear p6
          try clear c8
          try clear c8b0
          try clear c9
          try clear c10
          try clear c10b0
          try clear hx326_0
          try clear p2
          try clear p3
          try clear p326
          try clear p6
          try clear q3
          try clear q326
          obtain ⟨x7_3, x8_3, rfl, rfl, HA, HK3, HB⟩ := hrel
          cases gk with
          | zero => exact absurd HA.out (by simp [stamp_Date.l2])
          | succ k3 =>
           have H := HA.out
           clear HA
           simp only [stamp_Date.l2] at H
           replace H := Option.bind_eq_some_iff.mp H
           obtain ⟨t330, A120, H⟩ := H
           replace H : (if x7_3 ≥ t330 then ((stamp_length.f x6_2 x8_3).bind fun t331 => (stamp_Date.l2 k3 rs_ (rdOf ByteArray.empty wdT (ji3)) x6_2 (wrap64 (x7_3 - t331)) (wrap64 (x8_3 + 1)))) else ((stamp_two.f (wrap64 (Int.tdiv rs_ 3600))).bind fun t332 => (if t332.size + 1 ≤ 9223372036854775807 then ((stamp_two.f (Int.tmod (wrap64 (Int.tdiv rs_ 60)) 60)).bind fun t333 => (if (t332 ++ (⟨#[58]⟩ : ByteArray)).size + t333.size ≤ 9223372036854775807 then (if ((t332 ++ (⟨#[58]⟩ : ByteArray)) ++ t333).size + 1 ≤ 9223372036854775807 then ((stamp_two.f (Int.tmod rs_ 60)).bind fun t334 => (if (((t332 ++ (⟨#[58]⟩ : ByteArray)) ++ t333) ++ (⟨#[58]⟩ : ByteArray)).size + t334.size ≤ 9223372036854775807 then (if (rdOf ByteArray.empty wdT (ji3)).size + 1 ≤ 9223372036854775807 then ((stamp_two.f (wrap64 (x7_3 + 1))).bind fun t335 => (if 0 ≤ x8_3 then (if x8_3 < 12 then ((strconv_FormatInt.f x6_2 10).bind fun t337 => ((strings_Join.f (([(rdOf ByteArray.empty wdT (ji3)) ++ (⟨#[44]⟩ : ByteArray), t335, rdOf ByteArray.empty moT x8_3, t337, (((t332 ++ (⟨#[58]⟩ : ByteArray)) ++ t333) ++ (⟨#[58]⟩ : ByteArray)) ++ t334, (⟨#[43, 48, 48, 48, 48]⟩ : ByteArray)] : List ByteArray)) (⟨#[32]⟩ : ByteArray)).bind fun t341 => (some t341))) else (none)) else (none))) else (none)) else (none))) else (none)) else (none))) else (none)))) = some r := H
           have A12 := Aside0.mk A120
           clear A120
           by_cases c13 : x7_3 ≥ t330
           ·rw [if_pos c13] at H
            have c13b0 : decide (t330 ≤ x7_3) = true := decide_eq_true c13
            clear c13
            replace H := Option.bind_eq_some_iff.mp H
            obtain ⟨t331, A140, H⟩ := H
            replace H : (stamp_Date.l2 k3 rs_ (rdOf ByteArray.empty wdT (ji3)) x6_2 (wrap64 (x7_3 - t331)) (wrap64 (x8_3 + 1))) = some r := H
            have A14 := Aside0.mk A140
            clear A140
            have E_ : t330 = t331 := Option.some.inj (A12.out.symm.trans A14.out)
            subst E_
            have H' := Aside0.mk H
            clear H
            go_wp2_with (first | ((with_reducible refine gate_callee (f := 99) rfl ?_); refine goesL_ (some 45) rfl rfl Tryz.func99 (by kernel_rfl) rfl #[.int .i64 x6_2, .int .i64 x8_3] rfl ml ?_; (with_reducible refine (stamp_length.calls x6_2 x8_3 t330 _ ?side1 A12.out).mono ?_); (case side1 => exact Glob.below HG.out bl); rintro e w' ⟨rfl, ⟨nd, rfl⟩⟩; refine ⟨_, rfl, ?_⟩) | ((with_reducible refine gate_callee (f := 99) rfl ?_); refine goesL_ (some 50) rfl rfl Tryz.func99 (by kernel_rfl) rfl #[.int .i64 x6_2, .int .i64 x8_3] rfl ml ?_; (with_reducible refine (stamp_length.calls x6_2 x8_3 t330 _ ?side1 A14.out).mono ?_); (case side1 => exact Glob.below HG.out bl); rintro e w' ⟨rfl, ⟨nd, rfl⟩⟩; refine ⟨_, rfl, ?_⟩))
            go_roundg k3
            case measure => have := HK1.out; have := HK2.out; have := HK3.out; omega
            case rel => exact ⟨(wrap64 (x7_3 - t330)), (wrap64 (x8_3 + 1)), (by first | rfl | (simp; done) | (simp [*]; done)), (by first | rfl | (simp; done) | (simp [*]; done)), H', ⟨by have := HK1.out; have := HK2.out; have := HK3.out; omega⟩, ⟨by repeat (first | (with_reducible first | exact HB.out | apply below_alloc | apply pw_below_drewN | apply below_drew1) | exact HB.out)⟩⟩
           ·rw [if_neg c13] at H
            have c13b0 : decide (t330 ≤ x7_3) = false := decide_eq_false c13
            clear c13
            replace H := Option.bind_eq_some_iff.mp H
            obtain ⟨t332, A150, H⟩ := H
            replace H : (if t332.size + 1 ≤ 9223372036854775807 then ((stamp_two.f (Int.tmod (wrap64 (Int.tdiv rs_ 60)) 60)).bind fun t333 => (if (t332 ++ (⟨#[58]⟩ : ByteArray)).size + t333.size ≤ 9223372036854775807 then (if ((t332 ++ (⟨#[58]⟩ : ByteArray)) ++ t333).size + 1 ≤ 9223372036854775807 then ((stamp_two.f (Int.tmod rs_ 60)).bind fun t334 => (if (((t332 ++ (⟨#[58]⟩ : ByteArray)) ++ t333) ++ (⟨#[58]⟩ : ByteArray)).size + t334.size ≤ 9223372036854775807 then (if (rdOf ByteArray.empty wdT (ji3)).size + 1 ≤ 9223372036854775807 then ((stamp_two.f (wrap64 (x7_3 + 1))).bind fun t335 => (if 0 ≤ x8_3 then (if x8_3 < 12 then ((strconv_FormatInt.f x6_2 10).bind fun t337 => ((strings_Join.f (([(rdOf ByteArray.empty wdT (ji3)) ++ (⟨#[44]⟩ : ByteArray), t335, rdOf ByteArray.empty moT x8_3, t337, (((t332 ++ (⟨#[58]⟩ : ByteArray)) ++ t333) ++ (⟨#[58]⟩ : ByteArray)) ++ t334, (⟨#[43, 48, 48, 48, 48]⟩ : ByteArray)] : List ByteArray)) (⟨#[32]⟩ : ByteArray)).bind fun t341 => (some t341))) else (none)) else (none))) else (none)) else (none))) else (none)) else (none))) else (none)) = some r := H
            have A15 := Aside0.mk A150
            clear A150
            by_cases c16 : t332.size + 1 ≤ 9223372036854775807
            ·rw [if_pos c16] at H
             have c16b0 := eq_true c16
             have c16b1 : decide (t332.size + 1 ≤ 9223372036854775807) = true := decide_eq_true c16
             try have c16b2 : (9223372036854775807 < t332.size + 1) = False := eq_false (Nat.not_lt.2 c16)
             replace H := Option.bind_eq_some_iff.mp H
             obtain ⟨t333, A170, H⟩ := H
             replace H : (if (t332 ++ (⟨#[58]⟩ : ByteArray)).size + t333.size ≤ 9223372036854775807 then (if ((t332 ++ (⟨#[58]⟩ : ByteArray)) ++ t333).size + 1 ≤ 9223372036854775807 then ((stamp_two.f (Int.tmod rs_ 60)).bind fun t334 => (if (((t332 ++ (⟨#[58]⟩ : ByteArray)) ++ t333) ++ (⟨#[58]⟩ : ByteArray)).size + t334.size ≤ 9223372036854775807 then (if (rdOf ByteArray.empty wdT (ji3)).size + 1 ≤ 9223372036854775807 then ((stamp_two.f (wrap64 (x7_3 + 1))).bind fun t335 => (if 0 ≤ x8_3 then (if x8_3 < 12 then ((strconv_FormatInt.f x6_2 10).bind fun t337 => ((strings_Join.f (([(rdOf ByteArray.empty wdT (ji3)) ++ (⟨#[44]⟩ : ByteArray), t335, rdOf ByteArray.empty moT x8_3, t337, (((t332 ++ (⟨#[58]⟩ : ByteArray)) ++ t333) ++ (⟨#[58]⟩ : ByteArray)) ++ t334, (⟨#[43, 48, 48, 48, 48]⟩ : ByteArray)] : List ByteArray)) (⟨#[32]⟩ : ByteArray)).bind fun t341 => (some t341))) else (none)) else (none))) else (none)) else (none))) else (none)) else (none)) = some r := H
             have A17 := Aside0.mk A170
             clear A170
             by_cases c18 : (t332 ++ (⟨#[58]⟩ : ByteArray)).size + t333.size ≤ 9223372036854775807
             ·rw [if_pos c18] at H
              have c18b0 := eq_true c18
              have c18b1 : decide ((t332 ++ (⟨#[58]⟩ : ByteArray)).size + t333.size ≤ 9223372036854775807) = true := decide_eq_true c18
              try have c18b2 : (9223372036854775807 < (t332 ++ (⟨#[58]⟩ : ByteArray)).size + t333.size) = False := eq_false (Nat.not_lt.2 c18)
              try (have c18b2y := c18b2; rw [ByteArray.size_append] at c18b2y)
              try have c18b2z : (9223372036854775807 < t332.size + 1 + t333.size) = False := eq_false (fun h_ => by have g_ := c18; simp only [ByteArray.size_append, show (⟨#[58]⟩ : ByteArray).size = 1 from rfl] at g_; omega)
              by_cases c19 : ((t332 ++ (⟨#[58]⟩ : ByteArray)) ++ t333).size + 1 ≤ 9223372036854775807
              ·rw [if_pos c19] at H
               have c19b0 := eq_true c19
               have c19b1 : decide (((t332 ++ (⟨#[58]⟩ : ByteArray)) ++ t333).size + 1 ≤ 9223372036854775807) = true := decide_eq_true c19
               try have c19b2 : (9223372036854775807 < ((t332 ++ (⟨#[58]⟩ : ByteArray)) ++ t333).size + 1) = False := eq_false (Nat.not_lt.2 c19)
               try (have c19b2y := c19b2; rw [ByteArray.size_append] at c19b2y)
               try have c19b2z : (9223372036854775807 < t332.size + 1 + t333.size + 1) = False := eq_false (fun h_ => by have g_ := c19; simp only [ByteArray.size_append, show (⟨#[58]⟩ : ByteArray).size = 1 from rfl] at g_; omega)
               replace H := Option.bind_eq_some_iff.mp H
               obtain ⟨t334, A200, H⟩ := H
               replace H : (if (((t332 ++ (⟨#[58]⟩ : ByteArray)) ++ t333) ++ (⟨#[58]⟩ : ByteArray)).size + t334.size ≤ 9223372036854775807 then (if (rdOf ByteArray.empty wdT (ji3)).size + 1 ≤ 9223372036854775807 then ((stamp_two.f (wrap64 (x7_3 + 1))).bind fun t335 => (if 0 ≤ x8_3 then (if x8_3 < 12 then ((strconv_FormatInt.f x6_2 10).bind fun t337 => ((strings_Join.f (([(rdOf ByteArray.empty wdT (ji3)) ++ (⟨#[44]⟩ : ByteArray), t335, rdOf ByteArray.empty moT x8_3, t337, (((t332 ++ (⟨#[58]⟩ : ByteArray)) ++ t333) ++ (⟨#[58]⟩ : ByteArray)) ++ t334, (⟨#[43, 48, 48, 48, 48]⟩ : ByteArray)] : List ByteArray)) (⟨#[32]⟩ : ByteArray)).bind fun t341 => (some t341))) else (none)) else (none))) else (none)) else (none)) = some r := H
               have A20 := Aside0.mk A200
               clear A200
               by_cases c21 : (((t332 ++ (⟨#[58]⟩ : ByteArray)) ++ t333) ++ (⟨#[58]⟩ : ByteArray)).size + t334.size ≤ 9223372036854775807
               ·rw [if_pos c21] at H
                have c21b0 := eq_true c21
                have c21b1 : decide ((((t332 ++ (⟨#[58]⟩ : ByteArray)) ++ t333) ++ (⟨#[58]⟩ : ByteArray)).size + t334.size ≤ 9223372036854775807) = true := decide_eq_true c21
                try have c21b2 : (9223372036854775807 < (((t332 ++ (⟨#[58]⟩ : ByteArray)) ++ t333) ++ (⟨#[58]⟩ : ByteArray)).size + t334.size) = False := eq_false (Nat.not_lt.2 c21)
                try (have c21b2y := c21b2; rw [ByteArray.size_append] at c21b2y)
                try have c21b2z : (9223372036854775807 < t332.size + 1 + t333.size + 1 + t334.size) = False := eq_false (fun h_ => by have g_ := c21; simp only [ByteArray.size_append, show (⟨#[58]⟩ : ByteArray).size = 1 from rfl] at g_; omega)
                by_cases c22 : (rdOf ByteArray.empty wdT (ji3)).size + 1 ≤ 9223372036854775807
                ·rw [if_pos c22] at H
                 have c22b0 := eq_true c22
                 have c22b1 : decide ((rdOf ByteArray.empty wdT (ji3)).size + 1 ≤ 9223372036854775807) = true := decide_eq_true c22
                 try have c22b2 : (9223372036854775807 < (rdOf ByteArray.empty wdT (ji3)).size + 1) = False := eq_false (Nat.not_lt.2 c22)
                 replace H := Option.bind_eq_some_iff.mp H
                 obtain ⟨t335, A230, H⟩ := H
                 replace H : (if 0 ≤ x8_3 then (if x8_3 < 12 then ((strconv_FormatInt.f x6_2 10).bind fun t337 => ((strings_Join.f (([(rdOf ByteArray.empty wdT (ji3)) ++ (⟨#[44]⟩ : ByteArray), t335, rdOf ByteArray.empty moT x8_3, t337, (((t332 ++ (⟨#[58]⟩ : ByteArray)) ++ t333) ++ (⟨#[58]⟩ : ByteArray)) ++ t334, (⟨#[43, 48, 48, 48, 48]⟩ : ByteArray)] : List ByteArray)) (⟨#[32]⟩ : ByteArray)).bind fun t341 => (some t341))) else (none)) else (none)) = some r := H
                 have A23 := Aside0.mk A230
                 clear A230
                 by_cases c24 : 0 ≤ x8_3
                 ·rw [if_pos c24] at H
                  have c24b0 : decide (0 ≤ x8_3) = true := decide_eq_true c24
                  clear c24
                  by_cases c25 : x8_3 < 12
                  ·rw [if_pos c25] at H
                   have c25b0 : decide (x8_3 < 12) = true := decide_eq_true c25
                   clear c25
                   replace H := Option.bind_eq_some_iff.mp H
                   obtain ⟨t337, A260, H⟩ := H
                   replace H : ((strings_Join.f (([(rdOf ByteArray.empty wdT (ji3)) ++ (⟨#[44]⟩ : ByteArray), t335, rdOf ByteArray.empty moT x8_3, t337, (((t332 ++ (⟨#[58]⟩ : ByteArray)) ++ t333) ++ (⟨#[58]⟩ : ByteArray)) ++ t334, (⟨#[43, 48, 48, 48, 48]⟩ : ByteArray)] : List ByteArray)) (⟨#[32]⟩ : ByteArray)).bind fun t341 => (some t341)) = some r := H
                   have A26 := Aside0.mk A260
                   clear A260
                   obtain ⟨y338, hy338⟩ : ∃ y_ : List ByteArray, y_ = (([(rdOf ByteArray.empty wdT (ji3)) ++ (⟨#[44]⟩ : ByteArray), t335, rdOf ByteArray.empty moT x8_3, t337, (((t332 ++ (⟨#[58]⟩ : ByteArray)) ++ t333) ++ (⟨#[58]⟩ : ByteArray)) ++ t334, (⟨#[43, 48, 48, 48, 48]⟩ : ByteArray)] : List ByteArray)) := ⟨_, rfl⟩
                   replace H : ((strings_Join.f y338 (⟨#[32]⟩ : ByteArray)).bind fun t341 => (some t341)) = some r := by first | (rw [hy338]; with_reducible exact H) | (have H2_ := (Option.bind_some _ _).symm.trans H; rw [hy338]; with_reducible exact H2_) | (have H2_ := (Option.bind_some _ _).symm.trans H; with_reducible exact H2_) | with_reducible exact H | (rw [hy338]; exact H) | exact H
                   have Ny338 := Aside0.mk hy338
                   clear hy338
                   replace H := Option.bind_eq_some_iff.mp H
                   obtain ⟨t341, A270, H⟩ := H
                   replace H : (some t341) = some r := H
                   have A27 := Aside0.mk A270
                   clear A270
                   obtain rfl := Option.some.inj H
                   try go_wp2_with (first | ((with_reducible refine gate_callee (f := 99) rfl ?_); refine goesL_ (some 45) rfl rfl Tryz.func99 (by kernel_rfl) rfl #[.int .i64 x6_2, .int .i64 x8_3] rfl ml ?_; (with_reducible refine (stamp_length.calls x6_2 x8_3 t330 _ ?side1 A12.out).mono ?_); (case side1 => exact Glob.below HG.out bl); rintro e w' ⟨rfl, ⟨nd, rfl⟩⟩; refine ⟨_, rfl, ?_⟩) | ((with_reducible refine gate_callee (f := 100) rfl ?_); refine goesL_ (some 56) rfl rfl Tryz.func100 (by kernel_rfl) rfl #[.int .i64 (wrap64 (Int.tdiv rs_ 3600))] rfl ml ?_; (with_reducible refine (stamp_two.calls (wrap64 (Int.tdiv rs_ 3600)) t332 _ A15.out).mono ?_); rintro e w28 ⟨rfl, hb⟩; refine ⟨_, rfl, ?_⟩; have n0_ := Aside0.mk (below_step bl hb); clear HB; have HB := n0_; clear n0_; (try clear hb); (try clear hb2); (try clear hk); (try clear hi)) | ((with_reducible refine gate_callee (f := 100) rfl ?_); refine goesL_ (some 61) rfl rfl Tryz.func100 (by kernel_rfl) rfl #[.int .i64 (Int.tmod (wrap64 (Int.tdiv rs_ 60)) 60)] rfl ml ?_; (with_reducible refine (stamp_two.calls (Int.tmod (wrap64 (Int.tdiv rs_ 60)) 60) t333 _ A17.out).mono ?_); rintro e w29 ⟨rfl, hb⟩; refine ⟨_, rfl, ?_⟩; have n0_ := Aside0.mk (below_step bl hb); clear HB; have HB := n0_; clear n0_; (try clear hb); (try clear hb2); (try clear hk); (try clear hi)) | ((with_reducible refine gate_callee (f := 100) rfl ?_); refine goesL_ (some 66) rfl rfl Tryz.func100 (by kernel_rfl) rfl #[.int .i64 (Int.tmod rs_ 60)] rfl ml ?_; (with_reducible refine (stamp_two.calls (Int.tmod rs_ 60) t334 _ A20.out).mono ?_); rintro e w30 ⟨rfl, hb⟩; refine ⟨_, rfl, ?_⟩; have n0_ := Aside0.mk (below_step bl hb); clear HB; have HB := n0_; clear n0_; (try clear hb); (try clear hb2); (try clear hk); (try clear hi)))
                   have n0_ := Aside0.mk (below_drew1 HB.out)
                   clear HB
                   have HB := n0_
                   clear n0_
                   have p336 : 0 ≤ (x8_3 : Int) := od
                   have q336 : x8_3 < (moT.length : Int) := od
                   have ql336 : ((x8_3 : Int) < (12 : Int)) = True := eq_true (od)
                   obtain ⟨ad336, e336, hx336_0⟩ := Kd.at_string HRG1.out x8_3 p336 q336
                   obtain rfl : (⟨1, 0, none⟩ : Addr) = ad336 := (by injection e336)
                   have hw336_0 := hx336_0
                   (first | simp only [add_plain] at hw336_0 | simp only [add_at] at hw336_0 | simp only [Addr.add, Nat.zero_add] at hw336_0 | skip)
                   (first | simp only [add_plain] at hx336_0 | simp only [add_at] at hx336_0 | simp only [Addr.add, Nat.zero_add] at hx336_0 | skip)
                   replace hx336_0 := (HB.out.cell (World.block_lt_of_cell? w _ hx336_0)).trans hx336_0
                   replace p336 := eq_true p336
                   replace q336 := eq_true q336
                   refine start_ (n := 14) (S := fun w' => w'.cell? ⟨1, (x8_3).toNat, none⟩ = some (.string (rdOf ByteArray.empty moT x8_3))) (ds := []) #[false, false, false, false, false, false, false, false, false, false, false, false, false, false] (by kernel_rfl) rfl rfl (((HB.out.cell (World.block_lt_of_cell? w _ hw336_0)).trans hw336_0)) (fun hHeld => ?_); refine with_tabW stamp_Date.tab14 stamp_Date.bits14 (fun HT_ HW_ => ?_)
                   generalize w30.drew = w31 at HB hx336_0 hHeld ⊢
                   refine pure_ (i := 0) (N := some 68) (v := ?_) (a' := ?_) #[true, false, false, false, false, false, false, false, false, false, false, false, false, false] rfl rfl (any_of HT_.out (by kernel_rfl)) (fun _ _ _ h => h) (Or.inl ⟨by rfl, ?_⟩) ?_ ?_
                   rotate_left
                   ·intro w'
                    go_simp
                    with_reducible rfl
                   rotate_left
                   ·simp only [Act.put, List.setIfInBounds_toArray, List.set_cons_zero, List.set_cons_succ, i64_w, i32_w]
                    rfl
                   refine pure_ (i := 1) (N := some 69) (v := ?_) (a' := ?_) #[true, true, false, false, false, false, false, false, false, false, false, false, false, false] rfl rfl (any_of HT_.out (by kernel_rfl)) (fun _ _ _ h => h) (Or.inl ⟨by rfl, ?_⟩) ?_ ?_
                   rotate_left
                   ·intro w'
                    go_simp
                    with_reducible rfl
                   rotate_left
                   ·simp only [Act.put, List.setIfInBounds_toArray, List.set_cons_zero, List.set_cons_succ, i64_w, i32_w]
                    rfl
                   refine pure_ (i := 2) (N := some 70) (v := ?_) (a' := ?_) #[true, true, true, false, false, false, false, false, false, false, false, false, false, false] rfl rfl (any_of HT_.out (by kernel_rfl)) (fun _ _ _ h => h) (Or.inl ⟨by rfl, ?_⟩) ?_ ?_
                   rotate_left
                   ·intro w'
                    go_simp
                    with_reducible rfl
                   rotate_left
                   ·simp only [Act.put, List.setIfInBounds_toArray, List.set_cons_zero, List.set_cons_succ, i64_w, i32_w]
                    rfl
                   refine pure_ (i := 3) (N := some 71) (v := ?_) (a' := ?_) #[true, true, true, true, false, false, false, false, false, false, false, false, false, false] rfl rfl (any_of HT_.out (by kernel_rfl)) (fun _ _ _ h => h) (Or.inl ⟨by rfl, ?_⟩) ?_ ?_
                   rotate_left
                   ·intro w'
                    go_simp
                    with_reducible rfl
                   rotate_left
                   ·simp only [Act.put, List.setIfInBounds_toArray, List.set_cons_zero, List.set_cons_succ, i64_w, i32_w]
                    rfl
                   refine pure_ (i := 5) (N := some 73) (v := ?_) (a' := ?_) #[true, true, true, true, false, true, false, false, false, false, false, false, false, false] rfl rfl (any_of HT_.out (by kernel_rfl)) (fun _ _ _ h => h) (Or.inl ⟨by rfl, ?_⟩) ?_ ?_
                   rotate_left
                   ·intro w'
                    go_simp
                    with_reducible rfl
                   rotate_left
                   ·simp only [Act.put, List.setIfInBounds_toArray, List.set_cons_zero, List.set_cons_succ, i64_w, i32_w]
                    rfl
                   refine pure_ (i := 6) (N := some 74) (v := ?_) (a' := ?_) #[true, true, true, true, false, true, true, false, false, false, false, false, false, false] rfl rfl (any_of HT_.out (by kernel_rfl)) (fun _ _ _ h => h) (Or.inl ⟨by rfl, ?_⟩) ?_ ?_
                   rotate_left
                   ·intro w'
                    go_simp
                    with_reducible rfl
                   rotate_left
                   ·simp only [Act.put, List.setIfInBounds_toArray, List.set_cons_zero, List.set_cons_succ, i64_w, i32_w]
                    rfl
                   refine pure_ (i := 8) (N := some 76) (v := ?_) (a' := ?_) #[true, true, true, true, false, true, true, false, true, false, false, false, false, false] rfl rfl (any_of HT_.out (by kernel_rfl)) (fun _ _ _ h => h) (Or.inl ⟨by rfl, ?_⟩) ?_ ?_
                   rotate_left
                   ·intro w'
                    go_simp
                    with_reducible rfl
                   rotate_left
                   ·simp only [Act.put, List.setIfInBounds_toArray, List.set_cons_zero, List.set_cons_succ, i64_w, i32_w]
                    rfl
                   refine pure_ (i := 10) (N := some 78) (v := ?_) (a' := ?_) #[true, true, true, true, false, true, true, false, true, false, true, false, false, false] rfl rfl (any_of HT_.out (by kernel_rfl)) (fun _ _ _ h => h) (Or.inl ⟨by rfl, ?_⟩) ?_ ?_
                   rotate_left
                   ·intro w'
                    go_simp
                    with_reducible rfl
                   rotate_left
                   ·simp only [Act.put, List.setIfInBounds_toArray, List.set_cons_zero, List.set_cons_succ, i64_w, i32_w]
                    rfl
                   refine take_ (i := 7) (N := some 75) (v := ?_) (a' := ?_) #[true, true, true, true, false, true, true, true, true, false, true, false, false, false] rfl rfl (take_ofW HT_.out HW_.out (by kernel_rfl)) (fun _ _ _ h => h) (Or.inl ⟨by rfl, ?_⟩) hHeld ?_ ?_
                   rotate_left
                   ·intro w' s0
                    go_simp
                    with_reducible rfl
                   rotate_left
                   ·simp only [Act.put, List.setIfInBounds_toArray, List.set_cons_zero, List.set_cons_succ, i64_w, i32_w]
                    rfl
                   refine one_ (i := 4) (N := some 72) #[true, true, true, true, true, true, true, true, true, false, true, false, false, false] rfl rfl (one_of HT_.out (by kernel_rfl)) (by decide) (fun K hK => ?_)
                   refine goes_ Tryz.func100 (by kernel_rfl) rfl #[.int .i64 (wrap64 (x7_3 + 1))] (by rfl) rfl rfl ml ?_
                   with_reducible refine (stamp_two.calls (wrap64 (x7_3 + 1)) t335 _ A23.out).mono ?_
                   rintro e w32 ⟨rfl, hb⟩
                   refine ⟨_, rfl, ?_⟩
                   have n0_ := Aside0.mk (below_step bl hb)
                   clear HB
                   have HB := n0_
                   clear n0_
                   (try clear hb)
                   (try clear hb2)
                   (try clear hk)
                   (try clear hi)
                   refine hK.out _ _ (((HB.out.cell (World.block_lt_of_cell? w _ hw336_0)).trans hw336_0)) (fun hHeld => ?_)
                   clear hK K
                   refine norm_ (a' := ?_) ?_ ?_
                   rotate_left
                   ·show Act.put _ (some 72) _ = _
                    simp only [Act.put, List.setIfInBounds_toArray, List.set_cons_zero, List.set_cons_succ, i64_w, i32_w]
                    rfl
                   refine one_ (i := 9) (N := some 77) #[true, true, true, true, true, true, true, true, true, true, true, false, false, false] rfl rfl (one_of HT_.out (by kernel_rfl)) (by decide) (fun K hK => ?_)
                   refine goes_ Tryz.func101 (by kernel_rfl) rfl #[.int .i64 x6_2, .int .i64 10] (by rfl) rfl rfl ml ?_
                   with_reducible refine (strconv_FormatInt.calls x6_2 10 t337 _ ?side1 A26.out).mono ?_
                   (case side1 => exact Glob.below HG.out bl)
                   rintro e w33 ⟨rfl, hb⟩
                   refine ⟨_, rfl, ?_⟩
                   have n0_ := Aside0.mk (below_step bl hb)
                   clear HB
                   have HB := n0_
                   clear n0_
                   (try clear hb)
                   (try clear hb2)
                   (try clear hk)
                   (try clear hi)
                   refine hK.out _ _ (((HB.out.cell (World.block_lt_of_cell? w _ hw336_0)).trans hw336_0)) (fun hHeld => ?_)
                   clear hK K
                   refine norm_ (a' := ?_) ?_ ?_
                   rotate_left
                   ·show Act.put _ (some 77) _ = _
                    simp only [Act.put, List.setIfInBounds_toArray, List.set_cons_zero, List.set_cons_succ, i64_w, i32_w]
                    rfl
                   refine one_ (i := 11) (N := some 79) #[true, true, true, true, true, true, true, true, true, true, true, true, false, false] rfl rfl (one_of HT_.out (by kernel_rfl)) (by decide) (fun K hK => ?_)
                   refine Kd.R_lit_step Kd.string _ 9 ?hg (N := 79) ?hd (xs := ([(rdOf ByteArray.empty wdT (ji3)) ++ (⟨#[44]⟩ : ByteArray), t335, rdOf ByteArray.empty moT x8_3, t337, (((t332 ++ (⟨#[58]⟩ : ByteArray)) ++ t333) ++ (⟨#[58]⟩ : ByteArray)) ++ t334, (⟨#[43, 48, 48, 48, 48]⟩ : ByteArray)] : List ByteArray)) (inner := [.string ((rdOf ByteArray.empty wdT (ji3)) ++ (⟨#[44]⟩ : ByteArray)), .string t335, .string (rdOf ByteArray.empty moT x8_3), .string t337, .string ((((t332 ++ (⟨#[58]⟩ : ByteArray)) ++ t333) ++ (⟨#[58]⟩ : ByteArray)) ++ t334), .string (⟨#[43, 48, 48, 48, 48]⟩ : ByteArray)]) (ok := fun _ => True) (okp := fun _ => True) ?hr ?hp (fun _ hk => hk) trivial (Below.refl _ _) (Nat.le_refl _) (by simp) ?_; (case hd => rfl); (case hg => rfl); (case hr => first | (go_simp; done) | (go_simp; rfl)); (case hp => exact (Reps.one (show Kd.M Kd.string _ _ _ ((rdOf ByteArray.empty wdT (ji3)) ++ (⟨#[44]⟩ : ByteArray)) [.string ((rdOf ByteArray.empty wdT (ji3)) ++ (⟨#[44]⟩ : ByteArray))] from rfl) (Reps.one (show Kd.M Kd.string _ _ _ t335 [.string t335] from rfl) (Reps.one (show Kd.M Kd.string _ _ _ (rdOf ByteArray.empty moT x8_3) [.string (rdOf ByteArray.empty moT x8_3)] from rfl) (Reps.one (show Kd.M Kd.string _ _ _ t337 [.string t337] from rfl) (Reps.one (show Kd.M Kd.string _ _ _ ((((t332 ++ (⟨#[58]⟩ : ByteArray)) ++ t333) ++ (⟨#[58]⟩ : ByteArray)) ++ t334) [.string ((((t332 ++ (⟨#[58]⟩ : ByteArray)) ++ t333) ++ (⟨#[58]⟩ : ByteArray)) ++ t334)] from rfl) (Reps.one (show Kd.M Kd.string _ _ _ (⟨#[43, 48, 48, 48, 48]⟩ : ByteArray) [.string (⟨#[43, 48, 48, 48, 48]⟩ : ByteArray)] from rfl) (Reps.none _ _))))))))
                   intro v339 w34 ho35 hb hg_ hnew_
                   clear hg_ hnew_
                   (first | rw [← Ny338.out] at ho35 | (simp only [Int.reduceToNat] at ho35; rw [← Ny338.out] at ho35))
                   have n0_ := Aside0.mk (Kd.R_lower ho35 (below_size bl))
                   have n1_ := Aside0.mk (below_step bl hb)
                   clear HB
                   have HO340 := n0_
                   have HB := n1_
                   clear n0_ n1_
                   clear hb ho35
                   obtain ⟨Ao36, co36, eo36⟩ := Kd.R_slice HO340.out
                   (first | subst eo36 | (injection eo36 with f1_ f2_ f3_; have f4_ := f1_.symm; have f5_ := f3_.symm; clear f1_ f2_ f3_; subst f4_; subst f5_))
                   refine hK.out _ _ (((HB.out.cell (World.block_lt_of_cell? w _ hw336_0)).trans hw336_0)) (fun hHeld => ?_)
                   clear hK K
                   refine norm_ (a' := ?_) ?_ ?_
                   rotate_left
                   ·show Act.put _ (some 79) _ = _
                    simp only [Act.put, List.setIfInBounds_toArray, List.set_cons_zero, List.set_cons_succ, i64_w, i32_w]
                    rfl
                   refine one_ (i := 12) (N := some 80) #[true, true, true, true, true, true, true, true, true, true, true, true, true, false] rfl rfl (one_of HT_.out (by kernel_rfl)) (by decide) (fun K hK => ?_)
                   refine goes_ Tryz.func90 (by kernel_rfl) rfl #[.slice Ao36 y338.length co36, .string (⟨#[32]⟩ : ByteArray)] (by rfl) rfl rfl ml ?_
                   with_reducible refine (strings_Join.calls _ _ y338 (⟨#[32]⟩ : ByteArray) t341 _ ?side1 ?side2 A27.out).mono ?_
                   (case side1 => repeat (first | exact (Kd.R_reads' HO340.out).2.2 | (with_reducible refine Kd.C_alloc ?_ _) | (with_reducible refine Kd.C_drewN ?_ _) | (with_reducible refine Kd.C_drew ?_)))
                   (case side2 => exact (Kd.R_reads' HO340.out).2.1)
                   rintro e w37 ⟨rfl, hb⟩
                   refine ⟨_, rfl, ?_⟩
                   have n0_ := Aside0.mk (Kd.R_below (kr HO340.out) hb)
                   have n1_ := Aside0.mk (below_step bl hb)
                   clear HO340
                   clear HB
                   have HO340 := n0_
                   have HB := n1_
                   clear n0_ n1_
                   (try clear hb)
                   (try clear hb2)
                   (try clear hk)
                   (try clear hi)
                   refine hK.out _ _ (((HB.out.cell (World.block_lt_of_cell? w _ hw336_0)).trans hw336_0)) (fun hHeld => ?_)
                   clear hK K
                   refine norm_ (a' := ?_) ?_ ?_
                   rotate_left
                   ·show Act.put _ (some 80) _ = _
                    simp only [Act.put, List.setIfInBounds_toArray, List.set_cons_zero, List.set_cons_succ, i64_w, i32_w]
                    rfl
                   refine pure_ (i := 13) (N := some 2) (v := ?_) (a' := ?_) #[true, true, true, true, true, true, true, true, true, true, true, true, true, true] rfl rfl (any_of HT_.out (by kernel_rfl)) (fun _ _ _ h => h) (Or.inl ⟨by rfl, ?_⟩) ?_ ?_
                   rotate_left
                   ·intro w'
                    go_simp
                    with_reducible rfl
                   rotate_left
                   ·simp only [Act.put, List.setIfInBounds_toArray, List.set_cons_zero, List.set_cons_succ, i64_w, i32_w]
                    rfl
                   refine done_ (done_of HT_.out (by kernel_rfl)) ?_
                   try go_wp2
                   go_ret
                   exact ⟨by first | rfl | (simp [bneNil]; done) | (simp [errW_none, errW_some] <;> rfl) | (simp only [← hji3]; first | rfl | (simp [errW_none, errW_some] <;> rfl)) | (simp [*, errW_none, errW_some] <;> rfl), by repeat (first | (with_reducible first | exact HB.out | apply below_alloc | apply pw_below_drewN | apply below_drew1) | exact HB.out)⟩
                  ·rw [if_neg c25] at H
                   exact absurd H (by simp)
                 ·rw [if_neg c24] at H
                  exact absurd H (by simp)
                ·rw [if_neg c22] at H
                 exact absurd H (by simp)
               ·rw [if_neg c21] at H
                exact absurd H (by simp)
              ·rw [if_neg c19] at H
               exact absurd H (by simp)
             ·rw [if_neg c18] at H
              exact absurd H (by simp)
            ·rw [if_neg c16] at H
             exact absurd H (by simp)
  ·rw [if_neg c5] at H
   exact absurd H (by simp)
 ·rw [if_neg c4] at H
  exact absurd H (by simp)

end Go.Proofs.YtacjnapgdikhbaaGreatDoor.Q
end
section
namespace Go.Proofs.YtacjnapgdikhbaaGreatDoor.Q
open Go.RowKit Go.Proofs.YtacjnapgdikhbaaGreatDoorW.PrintWords Go.Proofs.YtacjnapgdikhbaaGreatDoorW.PrintLast Go.Proofs.YtacjnapgdikhbaaGreatDoorW.PrintMore
attribute [local go_sem] max2_int min2_int max_two min_two max_three min_three max_four min_four   -- for this text's walks alone
set_option linter.unusedVariables false
set_option linter.unusedSimpArgs false

/-! ### guard_Stamp: function 23 -/
def guard_Stamp.f (k : Nat) (l0_0 : List (S72)) (a0_1 : ByteArray) (a0_2 : Bool) (a1 : ByteArray) (a2 : Int) (a3 : Int) : Option ((List (S72)) × ByteArray × Bool × Int) := (addr_MayDomain.f a1).bind fun t344 => (if t344 = true then (if 3 + a1.size ≤ 9223372036854775807 then (if ((⟨#[98, 121, 32]⟩ : ByteArray) ++ a1).size + 4 ≤ 9223372036854775807 then ((strconv_FormatUint.f (IntKind.u64.wrap (a2)) 10).bind fun t345 => (if (((⟨#[98, 121, 32]⟩ : ByteArray) ++ a1) ++ (⟨#[32, 105, 100, 32]⟩ : ByteArray)).size + t345.size ≤ 9223372036854775807 then (if ((((⟨#[98, 121, 32]⟩ : ByteArray) ++ a1) ++ (⟨#[32, 105, 100, 32]⟩ : ByteArray)) ++ t345).size + 2 ≤ 9223372036854775807 then ((stamp_Date.f k a3).bind fun t346 => (if (((((⟨#[98, 121, 32]⟩ : ByteArray) ++ a1) ++ (⟨#[32, 105, 100, 32]⟩ : ByteArray)) ++ t345) ++ (⟨#[59, 32]⟩ : ByteArray)).size + t346.size ≤ 9223372036854775807 then ((head_Message_Ahead.f k l0_0 a0_1 a0_2 (⟨#[82, 101, 99, 101, 105, 118, 101, 100]⟩ : ByteArray) ((((((⟨#[98, 121, 32]⟩ : ByteArray) ++ a1) ++ (⟨#[32, 105, 100, 32]⟩ : ByteArray)) ++ t345) ++ (⟨#[59, 32]⟩ : ByteArray)) ++ t346)).bind fun bt347 => (some (bt347.1, bt347.2.1, bt347.2.2.1, bt347.2.2.2))) else (none))) else (none)) else (none))) else (none)) else (none)) else (some (([] : List (S72)), (⟨#[]⟩ : ByteArray), false, 1)))
theorem guard_Stamp.mono : ∀ a0 a1 a2 a3 a4 a5 k, LeO (guard_Stamp.f k a0 a1 a2 a3 a4 a5) (guard_Stamp.f (k + 1) a0 a1 a2 a3 a4 a5) := by
 intro a0 a1 a2 a3 a4 a5 k
 unfold guard_Stamp.f
 repeat' first
   | (with_reducible exact head_Message_Ahead.mono _ _ _ _ _ _)
   | (with_reducible exact stamp_Date.mono _ _)
   | (with_reducible exact LeO.refl _)
   | (with_reducible exact LeO.none _)
   | (with_reducible refine LeO.ite ?_ ?_)
   | (with_reducible refine LeO.bind ?_ (fun _ => ?_))
   | exact head_Message_Ahead.mono _ _ _ _ _ _
   | exact stamp_Date.mono _ _
   | exact LeO.none _
   | refine LeO.ite ?_ ?_
   | refine LeO.bind ?_ (fun _ => ?_)
def guard_Stamp.T3 : Bool × List (List Nat × List Nat) := (true, [([], []), ([], []), ([1], [1]), ([2], [2]), ([], []), ([4], [4]), ([5], [5]), ([3, 6], [3, 6]), ([7], [7]), ([], []), ([9, 6], [9]), ([8, 10], [8, 10]), ([0, 11, 10], [0, 11]), ([12], [12]), ([12], [12]), ([13, 12, 0, 1, 2, 3, 4, 5, 6, 7, 8, 9, 10, 11, 12, 13, 14], [13]), ([14, 15, 0, 1, 2, 3, 4, 5, 6, 7, 8, 9, 10, 11, 12, 13, 14, 15], [14])])
def guard_Stamp.B3 : List Nat := [0, 0, 2, 6, 0, 16, 48, 126, 254, 0, 624, 2046, 4095, 8191, 8191, 32767, 65535]
theorem guard_Stamp.tab3 : rtab .any (opsOf Tryz.f23 3) = guard_Stamp.T3 := by kernel_rfl
theorem guard_Stamp.bits3 : waitsOk guard_Stamp.T3.2 guard_Stamp.B3 = true := by kernel_rfl
set_option maxHeartbeats 8000000 in
set_option maxRecDepth 100000 in
theorem guard_Stamp.calls (k : Nat) (A0_0 : Option Addr) (c0_0 : Nat) (l0_0 : List (S72)) (a0_1 : ByteArray) (a0_2 : Bool) (a1 : ByteArray) (a2 : Int) (a3 : Int) (r1 : List (S72)) (r2 : ByteArray) (r3 : Bool) (r4 : Int) (w : World) (hr0_0 : Kd.C k72 w A0_0 l0_0.length l0_0) (hc0_0 : l0_0.length ≤ c0_0) (hG : Glob w) (h : guard_Stamp.f k l0_0 a0_1 a0_2 a1 a2 a3 = some (r1, r2, r3, r4)) :
  Calls Tryz.prog 23 #[.agg #[.slice A0_0 l0_0.length c0_0, .string a0_1, .bool a0_2], .string a1, .int .u32 a2, .int .i64 a3] w fun e w' => ∃ v0_ : Value, e = .returned (.tuple #[.agg #[v0_, .string r2, .bool r3], .int .i64 r4]) ∧ Kd.R k72 72 w' w.heap.size (fun _ => True) v0_ r1 ∧ Below w.heap.size w w' := by
 have hu24 := Tryz.underlying24
 have HR0_0 := Aside0.mk hr0_0
 have HC0_0 := Aside0.mk hc0_0
 clear hr0_0 hc0_0
 have HB := Aside0.mk (Below.refl w.heap.size w)
 have HG := Aside0.mk hG
 clear hG
 have H : ((addr_MayDomain.f a1).bind fun t344 => (if t344 = true then (if 3 + a1.size ≤ 9223372036854775807 then (if ((⟨#[98, 121, 32]⟩ : ByteArray) ++ a1).size + 4 ≤ 9223372036854775807 then ((strconv_FormatUint.f (IntKind.u64.wrap (a2)) 10).bind fun t345 => (if (((⟨#[98, 121, 32]⟩ : ByteArray) ++ a1) ++ (⟨#[32, 105, 100, 32]⟩ : ByteArray)).size + t345.size ≤ 9223372036854775807 then (if ((((⟨#[98, 121, 32]⟩ : ByteArray) ++ a1) ++ (⟨#[32, 105, 100, 32]⟩ : ByteArray)) ++ t345).size + 2 ≤ 9223372036854775807 then ((stamp_Date.f k a3).bind fun t346 => (if (((((⟨#[98, 121, 32]⟩ : ByteArray) ++ a1) ++ (⟨#[32, 105, 100, 32]⟩ : ByteArray)) ++ t345) ++ (⟨#[59, 32]⟩ : ByteArray)).size + t346.size ≤ 9223372036854775807 then ((head_Message_Ahead.f k l0_0 a0_1 a0_2 (⟨#[82, 101, 99, 101, 105, 118, 101, 100]⟩ : ByteArray) ((((((⟨#[98, 121, 32]⟩ : ByteArray) ++ a1) ++ (⟨#[32, 105, 100, 32]⟩ : ByteArray)) ++ t345) ++ (⟨#[59, 32]⟩ : ByteArray)) ++ t346)).bind fun bt347 => (some (bt347.1, bt347.2.1, bt347.2.2.1, bt347.2.2.2))) else (none))) else (none)) else (none))) else (none)) else (none)) else (some (([] : List (S72)), (⟨#[]⟩ : ByteArray), false, 1)))) = some (r1, r2, r3, r4) := h
 clear h
 replace H := Option.bind_eq_some_iff.mp H
 obtain ⟨t344, A50, H⟩ := H
 replace H : (if t344 = true then (if 3 + a1.size ≤ 9223372036854775807 then (if ((⟨#[98, 121, 32]⟩ : ByteArray) ++ a1).size + 4 ≤ 9223372036854775807 then ((strconv_FormatUint.f (IntKind.u64.wrap (a2)) 10).bind fun t345 => (if (((⟨#[98, 121, 32]⟩ : ByteArray) ++ a1) ++ (⟨#[32, 105, 100, 32]⟩ : ByteArray)).size + t345.size ≤ 9223372036854775807 then (if ((((⟨#[98, 121, 32]⟩ : ByteArray) ++ a1) ++ (⟨#[32, 105, 100, 32]⟩ : ByteArray)) ++ t345).size + 2 ≤ 9223372036854775807 then ((stamp_Date.f k a3).bind fun t346 => (if (((((⟨#[98, 121, 32]⟩ : ByteArray) ++ a1) ++ (⟨#[32, 105, 100, 32]⟩ : ByteArray)) ++ t345) ++ (⟨#[59, 32]⟩ : ByteArray)).size + t346.size ≤ 9223372036854775807 then ((head_Message_Ahead.f k l0_0 a0_1 a0_2 (⟨#[82, 101, 99, 101, 105, 118, 101, 100]⟩ : ByteArray) ((((((⟨#[98, 121, 32]⟩ : ByteArray) ++ a1) ++ (⟨#[32, 105, 100, 32]⟩ : ByteArray)) ++ t345) ++ (⟨#[59, 32]⟩ : ByteArray)) ++ t346)).bind fun bt347 => (some (bt347.1, bt347.2.1, bt347.2.2.1, bt347.2.2.2))) else (none))) else (none)) else (none))) else (none)) else (none)) else (some (([] : List (S72)), (⟨#[]⟩ : ByteArray), false, 1))) = some (r1, r2, r3, r4) := H
 have A5 := Aside0.mk A50
 clear A50
 by_cases c6 : t344 = true
 ·subst c6
  have H1 : (if 3 + a1.size ≤ 9223372036854775807 then (if ((⟨#[98, 121, 32]⟩ : ByteArray) ++ a1).size + 4 ≤ 9223372036854775807 then ((strconv_FormatUint.f (IntKind.u64.wrap (a2)) 10).bind fun t345 => (if (((⟨#[98, 121, 32]⟩ : ByteArray) ++ a1) ++ (⟨#[32, 105, 100, 32]⟩ : ByteArray)).size + t345.size ≤ 9223372036854775807 then (if ((((⟨#[98, 121, 32]⟩ : ByteArray) ++ a1) ++ (⟨#[32, 105, 100, 32]⟩ : ByteArray)) ++ t345).size + 2 ≤ 9223372036854775807 then ((stamp_Date.f k a3).bind fun t346 => (if (((((⟨#[98, 121, 32]⟩ : ByteArray) ++ a1) ++ (⟨#[32, 105, 100, 32]⟩ : ByteArray)) ++ t345) ++ (⟨#[59, 32]⟩ : ByteArray)).size + t346.size ≤ 9223372036854775807 then ((head_Message_Ahead.f k l0_0 a0_1 a0_2 (⟨#[82, 101, 99, 101, 105, 118, 101, 100]⟩ : ByteArray) ((((((⟨#[98, 121, 32]⟩ : ByteArray) ++ a1) ++ (⟨#[32, 105, 100, 32]⟩ : ByteArray)) ++ t345) ++ (⟨#[59, 32]⟩ : ByteArray)) ++ t346)).bind fun bt347 => (some (bt347.1, bt347.2.1, bt347.2.2.1, bt347.2.2.2))) else (none))) else (none)) else (none))) else (none)) else (none)) = some (r1, r2, r3, r4) := by rw [if_pos rfl] at H; exact H
  clear H
  have H := H1
  clear H1
  by_cases c7 : 3 + a1.size ≤ 9223372036854775807
  ·rw [if_pos c7] at H
   have c7b0 := eq_true c7
   have c7b1 : decide (3 + a1.size ≤ 9223372036854775807) = true := decide_eq_true c7
   try have c7b2 : (9223372036854775807 < 3 + a1.size) = False := eq_false (Nat.not_lt.2 c7)
   by_cases c8 : ((⟨#[98, 121, 32]⟩ : ByteArray) ++ a1).size + 4 ≤ 9223372036854775807
   ·rw [if_pos c8] at H
    have c8b0 := eq_true c8
    have c8b1 : decide (((⟨#[98, 121, 32]⟩ : ByteArray) ++ a1).size + 4 ≤ 9223372036854775807) = true := decide_eq_true c8
    try have c8b2 : (9223372036854775807 < ((⟨#[98, 121, 32]⟩ : ByteArray) ++ a1).size + 4) = False := eq_false (Nat.not_lt.2 c8)
    try (have c8b2y := c8b2; rw [ByteArray.size_append] at c8b2y)
    try have c8b2z : (9223372036854775807 < 3 + a1.size + 4) = False := eq_false (fun h_ => by have g_ := c8; simp only [ByteArray.size_append, show (⟨#[98, 121, 32]⟩ : ByteArray).size = 3 from rfl] at g_; omega)
    replace H := Option.bind_eq_some_iff.mp H
    obtain ⟨t345, A90, H⟩ := H
    replace H : (if (((⟨#[98, 121, 32]⟩ : ByteArray) ++ a1) ++ (⟨#[32, 105, 100, 32]⟩ : ByteArray)).size + t345.size ≤ 9223372036854775807 then (if ((((⟨#[98, 121, 32]⟩ : ByteArray) ++ a1) ++ (⟨#[32, 105, 100, 32]⟩ : ByteArray)) ++ t345).size + 2 ≤ 9223372036854775807 then ((stamp_Date.f k a3).bind fun t346 => (if (((((⟨#[98, 121, 32]⟩ : ByteArray) ++ a1) ++ (⟨#[32, 105, 100, 32]⟩ : ByteArray)) ++ t345) ++ (⟨#[59, 32]⟩ : ByteArray)).size + t346.size ≤ 9223372036854775807 then ((head_Message_Ahead.f k l0_0 a0_1 a0_2 (⟨#[82, 101, 99, 101, 105, 118, 101, 100]⟩ : ByteArray) ((((((⟨#[98, 121, 32]⟩ : ByteArray) ++ a1) ++ (⟨#[32, 105, 100, 32]⟩ : ByteArray)) ++ t345) ++ (⟨#[59, 32]⟩ : ByteArray)) ++ t346)).bind fun bt347 => (some (bt347.1, bt347.2.1, bt347.2.2.1, bt347.2.2.2))) else (none))) else (none)) else (none)) = some (r1, r2, r3, r4) := H
    have A9 := Aside0.mk A90
    clear A90
    by_cases c10 : (((⟨#[98, 121, 32]⟩ : ByteArray) ++ a1) ++ (⟨#[32, 105, 100, 32]⟩ : ByteArray)).size + t345.size ≤ 9223372036854775807
    ·rw [if_pos c10] at H
     have c10b0 := eq_true c10
     have c10b1 : decide ((((⟨#[98, 121, 32]⟩ : ByteArray) ++ a1) ++ (⟨#[32, 105, 100, 32]⟩ : ByteArray)).size + t345.size ≤ 9223372036854775807) = true := decide_eq_true c10
     try have c10b2 : (9223372036854775807 < (((⟨#[98, 121, 32]⟩ : ByteArray) ++ a1) ++ (⟨#[32, 105, 100, 32]⟩ : ByteArray)).size + t345.size) = False := eq_false (Nat.not_lt.2 c10)
     try (have c10b2y := c10b2; rw [ByteArray.size_append] at c10b2y)
     try have c10b2z : (9223372036854775807 < 3 + a1.size + 4 + t345.size) = False := eq_false (fun h_ => by have g_ := c10; simp only [ByteArray.size_append, show (⟨#[32, 105, 100, 32]⟩ : ByteArray).size = 4 from rfl, show (⟨#[98, 121, 32]⟩ : ByteArray).size = 3 from rfl] at g_; omega)
     by_cases c11 : ((((⟨#[98, 121, 32]⟩ : ByteArray) ++ a1) ++ (⟨#[32, 105, 100, 32]⟩ : ByteArray)) ++ t345).size + 2 ≤ 9223372036854775807
     ·rw [if_pos c11] at H
      have c11b0 := eq_true c11
      have c11b1 : decide (((((⟨#[98, 121, 32]⟩ : ByteArray) ++ a1) ++ (⟨#[32, 105, 100, 32]⟩ : ByteArray)) ++ t345).size + 2 ≤ 9223372036854775807) = true := decide_eq_true c11
      try have c11b2 : (9223372036854775807 < ((((⟨#[98, 121, 32]⟩ : ByteArray) ++ a1) ++ (⟨#[32, 105, 100, 32]⟩ : ByteArray)) ++ t345).size + 2) = False := eq_false (Nat.not_lt.2 c11)
      try (have c11b2y := c11b2; rw [ByteArray.size_append] at c11b2y)
      try have c11b2z : (9223372036854775807 < 3 + a1.size + 4 + t345.size + 2) = False := eq_false (fun h_ => by have g_ := c11; simp only [ByteArray.size_append, show (⟨#[32, 105, 100, 32]⟩ : ByteArray).size = 4 from rfl, show (⟨#[98, 121, 32]⟩ : ByteArray).size = 3 from rfl] at g_; omega)
      replace H := Option.bind_eq_some_iff.mp H
      obtain ⟨t346, A120, H⟩ := H
      replace H : (if (((((⟨#[98, 121, 32]⟩ : ByteArray) ++ a1) ++ (⟨#[32, 105, 100, 32]⟩ : ByteArray)) ++ t345) ++ (⟨#[59, 32]⟩ : ByteArray)).size + t346.size ≤ 9223372036854775807 then ((head_Message_Ahead.f k l0_0 a0_1 a0_2 (⟨#[82, 101, 99, 101, 105, 118, 101, 100]⟩ : ByteArray) ((((((⟨#[98, 121, 32]⟩ : ByteArray) ++ a1) ++ (⟨#[32, 105, 100, 32]⟩ : ByteArray)) ++ t345) ++ (⟨#[59, 32]⟩ : ByteArray)) ++ t346)).bind fun bt347 => (some (bt347.1, bt347.2.1, bt347.2.2.1, bt347.2.2.2))) else (none)) = some (r1, r2, r3, r4) := H
      have A12 := Aside0.mk A120
      clear A120
      by_cases c13 : (((((⟨#[98, 121, 32]⟩ : ByteArray) ++ a1) ++ (⟨#[32, 105, 100, 32]⟩ : ByteArray)) ++ t345) ++ (⟨#[59, 32]⟩ : ByteArray)).size + t346.size ≤ 9223372036854775807
      ·rw [if_pos c13] at H
       have c13b0 := eq_true c13
       have c13b1 : decide ((((((⟨#[98, 121, 32]⟩ : ByteArray) ++ a1) ++ (⟨#[32, 105, 100, 32]⟩ : ByteArray)) ++ t345) ++ (⟨#[59, 32]⟩ : ByteArray)).size + t346.size ≤ 9223372036854775807) = true := decide_eq_true c13
       try have c13b2 : (9223372036854775807 < (((((⟨#[98, 121, 32]⟩ : ByteArray) ++ a1) ++ (⟨#[32, 105, 100, 32]⟩ : ByteArray)) ++ t345) ++ (⟨#[59, 32]⟩ : ByteArray)).size + t346.size) = False := eq_false (Nat.not_lt.2 c13)
       try (have c13b2y := c13b2; rw [ByteArray.size_append] at c13b2y)
       try have c13b2z : (9223372036854775807 < 3 + a1.size + 4 + t345.size + 2 + t346.size) = False := eq_false (fun h_ => by have g_ := c13; simp only [ByteArray.size_append, show (⟨#[32, 105, 100, 32]⟩ : ByteArray).size = 4 from rfl, show (⟨#[59, 32]⟩ : ByteArray).size = 2 from rfl, show (⟨#[98, 121, 32]⟩ : ByteArray).size = 3 from rfl] at g_; omega)
       replace H := Option.bind_eq_some_iff.mp H
       obtain ⟨⟨t347, t350, t351, t352⟩, A140, H⟩ := H
       replace H : (some (t347, t350, t351, t352)) = some (r1, r2, r3, r4) := H
       have A14 := Aside0.mk A140
       clear A140
       simp only [Option.some.injEq, Prod.mk.injEq] at H
       obtain ⟨rfl, rfl, rfl, rfl⟩ := H
       go_enter Tryz.func23, Tryz.ntmps23
       try go_wp2_with (first | ((with_reducible refine gate_dst (N := 4) rfl ?_); refine box_event ?hg (N := 4) ?hd (cs := #[.slice A0_0 l0_0.length c0_0, .string a0_1, .bool a0_2]) (t := 24) ?hr ?_; (case hd => rfl); (case hg => rfl); (case hr => first | (go_simp; done) | (go_simp; rfl)); intro gb342 hg w15 hbox hb; have n0_ := Aside0.mk (below_step bl hb); have n1_ := Aside0.mk (hbox); have n2_ := Aside0.mk ((by rw [hg]; exact (below_size bl) : w.heap.size ≤ gb342)); have n3_ := Aside0.mk ((by rw [hg]; exact (below_size bl) : w.heap.size ≤ gb342)); clear HB; have HB := n0_; have BK342 := n1_; have GW342 := n2_; have GE342 := n3_; clear n0_ n1_ n2_ n3_; clear hb hbox hg) | ((with_reducible refine gate_dst (N := 8) rfl ?_); refine box_event ?hg (N := 8) ?hd (cs := #[.slice none 0 0, .string (⟨#[]⟩ : ByteArray), .bool false]) (t := 24) ?hr ?_; (case hd => rfl); (case hg => rfl); (case hr => first | (go_simp; done) | (go_simp; rfl)); intro gb343 hg w16 hbox hb; have n0_ := Aside0.mk (kb BK342.out hb); have n1_ := Aside0.mk (below_step bl hb); have n2_ := Aside0.mk (hbox); have n3_ := Aside0.mk ((by rw [hg]; exact (below_size bl) : w.heap.size ≤ gb343)); have n4_ := Aside0.mk ((by rw [hg]; exact (below_size bl) : w.heap.size ≤ gb343)); have n5_ := Aside0.mk ((by rw [hg]; exact Nat.ne_of_lt (blk_lt (bk BK342.out)) : gb342 ≠ gb343)); have n6_ := Aside0.mk ((by rw [hg]; exact Nat.ne_of_gt (blk_lt (bk BK342.out)) : gb343 ≠ gb342)); clear BK342; clear HB; have BK342 := n0_; have HB := n1_; have BK343 := n2_; have GW343 := n3_; have GE343 := n4_; have NB342_343 := n5_; have NB343_342 := n6_; clear n0_ n1_ n2_ n3_ n4_ n5_ n6_; clear hb hbox hg) | ((with_reducible refine gate_callee (f := 51) rfl ?_); refine goesL_ (some 11) rfl rfl Tryz.func51 (by kernel_rfl) rfl #[.string a1] rfl ml ?_; (with_reducible refine (addr_MayDomain.calls a1 true _ ?side1 A5.out).mono ?_); (case side1 => exact Glob.below HG.out bl); rintro e w17 ⟨rfl, hb⟩; refine ⟨_, rfl, ?_⟩; have n0_ := Aside0.mk (kb BK342.out hb); have n1_ := Aside0.mk (kb BK343.out hb); have n2_ := Aside0.mk (below_step bl hb); clear BK342; clear BK343; clear HB; have BK342 := n0_; have BK343 := n1_; have HB := n2_; clear n0_ n1_ n2_; (try clear hb); (try clear hb2); (try clear hk); (try clear hi)))
       have n0_ := Aside0.mk (blk_drew BK342.out)
       have n1_ := Aside0.mk (blk_drew BK343.out)
       have n2_ := Aside0.mk (below_drew1 HB.out)
       clear BK342
       clear BK343
       clear HB
       have BK342 := n0_
       have BK343 := n1_
       have HB := n2_
       clear n0_ n1_ n2_
       refine start_ (n := 17) (S := fun w' => w'.cell? ⟨gb342, 0, none⟩ = some (.slice A0_0 l0_0.length c0_0) ∧ w'.cell? ⟨gb342, 1, none⟩ = some (.string a0_1) ∧ w'.cell? ⟨gb342, 2, none⟩ = some (.bool a0_2)) (ds := []) #[false, false, false, false, false, false, false, false, false, false, false, false, false, false, false, false, false] (by kernel_rfl) rfl rfl ⟨(blk_cell BK342.out 0).trans rfl, (blk_cell BK342.out 1).trans rfl, (blk_cell BK342.out 2).trans rfl⟩ (fun hHeld => ?_); refine with_tabW guard_Stamp.tab3 guard_Stamp.bits3 (fun HT_ HW_ => ?_)
       generalize w17.drew = w18 at BK342 BK343 HB hHeld ⊢
       refine pure_ (i := 1) (N := some 15) (v := ?_) (a' := ?_) #[false, true, false, false, false, false, false, false, false, false, false, false, false, false, false, false, false] rfl rfl (any_of HT_.out (by kernel_rfl)) (fun _ _ _ h => h) (Or.inl ⟨by rfl, ?_⟩) ?_ ?_
       rotate_left
       ·intro w'
        go_simp
        with_reducible rfl
       rotate_left
       ·simp only [Act.put, List.setIfInBounds_toArray, List.set_cons_zero, List.set_cons_succ, i64_w, i32_w]
        rfl
       refine pure_ (i := 2) (N := some 16) (v := ?_) (a' := ?_) #[false, true, true, false, false, false, false, false, false, false, false, false, false, false, false, false, false] rfl rfl (any_of HT_.out (by kernel_rfl)) (fun _ _ _ h => h) (Or.inl ⟨by rfl, ?_⟩) ?_ ?_
       rotate_left
       ·intro w'
        go_simp
        with_reducible rfl
       rotate_left
       ·simp only [Act.put, List.setIfInBounds_toArray, List.set_cons_zero, List.set_cons_succ, i64_w, i32_w]
        rfl
       refine pure_ (i := 3) (N := some 17) (v := ?_) (a' := ?_) #[false, true, true, true, false, false, false, false, false, false, false, false, false, false, false, false, false] rfl rfl (any_of HT_.out (by kernel_rfl)) (fun _ _ _ h => h) (Or.inl ⟨by rfl, ?_⟩) ?_ ?_
       rotate_left
       ·intro w'
        go_simp
        with_reducible rfl
       rotate_left
       ·simp only [Act.put, List.setIfInBounds_toArray, List.set_cons_zero, List.set_cons_succ, i64_w, i32_w]
        rfl
       refine pure_ (i := 4) (N := some 18) (v := ?_) (a' := ?_) #[false, true, true, true, true, false, false, false, false, false, false, false, false, false, false, false, false] rfl rfl (any_of HT_.out (by kernel_rfl)) (fun _ _ _ h => h) (Or.inl ⟨by rfl, ?_⟩) ?_ ?_
       rotate_left
       ·intro w'
        go_simp
        with_reducible rfl
       rotate_left
       ·simp only [Act.put, List.setIfInBounds_toArray, List.set_cons_zero, List.set_cons_succ, i64_w, i32_w]
        rfl
       refine pure_ (i := 5) (N := some 19) (v := ?_) (a' := ?_) #[false, true, true, true, true, true, false, false, false, false, false, false, false, false, false, false, false] rfl rfl (any_of HT_.out (by kernel_rfl)) (fun _ _ _ h => h) (Or.inl ⟨by rfl, ?_⟩) ?_ ?_
       rotate_left
       ·intro w'
        go_simp
        with_reducible rfl
       rotate_left
       ·simp only [Act.put, List.setIfInBounds_toArray, List.set_cons_zero, List.set_cons_succ, i64_w, i32_w]
        rfl
       refine pure_ (i := 9) (N := some 23) (v := ?_) (a' := ?_) #[false, true, true, true, true, true, false, false, false, true, false, false, false, false, false, false, false] rfl rfl (any_of HT_.out (by kernel_rfl)) (fun _ _ _ h => h) (Or.inl ⟨by rfl, ?_⟩) ?_ ?_
       rotate_left
       ·intro w'
        go_simp
        with_reducible rfl
       rotate_left
       ·simp only [Act.put, List.setIfInBounds_toArray, List.set_cons_zero, List.set_cons_succ, i64_w, i32_w]
        rfl
       refine take_ (i := 0) (N := some 14) (v := ?_) (a' := ?_) #[true, true, true, true, true, true, false, false, false, true, false, false, false, false, false, false, false] rfl rfl (take_ofW HT_.out HW_.out (by kernel_rfl)) (fun _ _ _ h => h) (Or.inl ⟨by rfl, ?_⟩) hHeld ?_ ?_
       rotate_left
       ·rintro w' ⟨s0, s1, s2⟩
        go_simp
        with_reducible rfl
       rotate_left
       ·simp only [Act.put, List.setIfInBounds_toArray, List.set_cons_zero, List.set_cons_succ, i64_w, i32_w]
        rfl
       refine one_ (i := 6) (N := some 20) #[true, true, true, true, true, true, true, false, false, true, false, false, false, false, false, false, false] rfl rfl (one_of HT_.out (by kernel_rfl)) (by decide) (fun K hK => ?_)
       refine goes_ Tryz.func53 (by kernel_rfl) rfl #[.int .u64 (IntKind.u64.wrap (a2)), .int .i64 10] (by rfl) rfl rfl ml ?_
       with_reducible refine (strconv_FormatUint.calls (IntKind.u64.wrap (a2)) 10 t345 _ ?side1 A9.out).mono ?_
       (case side1 => exact Glob.below HG.out bl)
       rintro e w19 ⟨rfl, hb⟩
       refine ⟨_, rfl, ?_⟩
       have n0_ := Aside0.mk (kb BK342.out hb)
       have n1_ := Aside0.mk (kb BK343.out hb)
       have n2_ := Aside0.mk (below_step bl hb)
       clear BK342
       clear BK343
       clear HB
       have BK342 := n0_
       have BK343 := n1_
       have HB := n2_
       clear n0_ n1_ n2_
       (try clear hb)
       (try clear hb2)
       (try clear hk)
       (try clear hi)
       refine hK.out _ _ ⟨(blk_cell BK342.out 0).trans rfl, (blk_cell BK342.out 1).trans rfl, (blk_cell BK342.out 2).trans rfl⟩ (fun hHeld => ?_)
       clear hK K
       refine norm_ (a' := ?_) ?_ ?_
       rotate_left
       ·show Act.put _ (some 20) _ = _
        simp only [Act.put, List.setIfInBounds_toArray, List.set_cons_zero, List.set_cons_succ, i64_w, i32_w]
        rfl
       refine pure_ (i := 7) (N := some 21) (v := ?_) (a' := ?_) #[true, true, true, true, true, true, true, true, false, true, false, false, false, false, false, false, false] rfl rfl (any_of HT_.out (by kernel_rfl)) (fun _ _ _ h => h) (Or.inl ⟨by rfl, ?_⟩) ?_ ?_
       rotate_left
       ·intro w'
        go_simp
        with_reducible rfl
       rotate_left
       ·simp only [Act.put, List.setIfInBounds_toArray, List.set_cons_zero, List.set_cons_succ, i64_w, i32_w]
        rfl
       refine pure_ (i := 8) (N := some 22) (v := ?_) (a' := ?_) #[true, true, true, true, true, true, true, true, true, true, false, false, false, false, false, false, false] rfl rfl (any_of HT_.out (by kernel_rfl)) (fun _ _ _ h => h) (Or.inl ⟨by rfl, ?_⟩) ?_ ?_
       rotate_left
       ·intro w'
        go_simp
        with_reducible rfl
       rotate_left
       ·simp only [Act.put, List.setIfInBounds_toArray, List.set_cons_zero, List.set_cons_succ, i64_w, i32_w]
        rfl
       refine one_ (i := 10) (N := some 24) #[true, true, true, true, true, true, true, true, true, true, true, false, false, false, false, false, false] rfl rfl (one_of HT_.out (by kernel_rfl)) (by decide) (fun K hK => ?_)
       refine goes_ Tryz.func54 (by kernel_rfl) rfl #[.int .i64 a3] (by rfl) rfl rfl ml ?_
       with_reducible refine (stamp_Date.calls k a3 t346 _ ?side1 A12.out).mono ?_
       (case side1 => exact Glob.below HG.out bl)
       rintro e w20 ⟨rfl, hb⟩
       refine ⟨_, rfl, ?_⟩
       have n0_ := Aside0.mk (kb BK342.out hb)
       have n1_ := Aside0.mk (kb BK343.out hb)
       have n2_ := Aside0.mk (below_step bl hb)
       clear BK342
       clear BK343
       clear HB
       have BK342 := n0_
       have BK343 := n1_
       have HB := n2_
       clear n0_ n1_ n2_
       (try clear hb)
       (try clear hb2)
       (try clear hk)
       (try clear hi)
       refine hK.out _ _ ⟨(blk_cell BK342.out 0).trans rfl, (blk_cell BK342.out 1).trans rfl, (blk_cell BK342.out 2).trans rfl⟩ (fun hHeld => ?_)
       clear hK K
       refine norm_ (a' := ?_) ?_ ?_
       rotate_left
       ·show Act.put _ (some 24) _ = _
        simp only [Act.put, List.setIfInBounds_toArray, List.set_cons_zero, List.set_cons_succ, i64_w, i32_w]
        rfl
       refine pure_ (i := 11) (N := some 25) (v := ?_) (a' := ?_) #[true, true, true, true, true, true, true, true, true, true, true, true, false, false, false, false, false] rfl rfl (any_of HT_.out (by kernel_rfl)) (fun _ _ _ h => h) (Or.inl ⟨by rfl, ?_⟩) ?_ ?_
       rotate_left
       ·intro w'
        go_simp
        with_reducible rfl
       rotate_left
       ·simp only [Act.put, List.setIfInBounds_toArray, List.set_cons_zero, List.set_cons_succ, i64_w, i32_w]
        rfl
       refine one_ (i := 12) (N := some 26) #[true, true, true, true, true, true, true, true, true, true, true, true, true, false, false, false, false] rfl rfl (one_of HT_.out (by kernel_rfl)) (by decide) (fun K hK => ?_)
       refine goes_ Tryz.func52 (by kernel_rfl) rfl #[.agg #[.slice A0_0 l0_0.length c0_0, .string a0_1, .bool a0_2], .string (⟨#[82, 101, 99, 101, 105, 118, 101, 100]⟩ : ByteArray), .string ((((((⟨#[98, 121, 32]⟩ : ByteArray) ++ a1) ++ (⟨#[32, 105, 100, 32]⟩ : ByteArray)) ++ t345) ++ (⟨#[59, 32]⟩ : ByteArray)) ++ t346)] (by rfl) rfl rfl ml ?_
       with_reducible refine (head_Message_Ahead.calls k _ _ l0_0 a0_1 a0_2 (⟨#[82, 101, 99, 101, 105, 118, 101, 100]⟩ : ByteArray) ((((((⟨#[98, 121, 32]⟩ : ByteArray) ++ a1) ++ (⟨#[32, 105, 100, 32]⟩ : ByteArray)) ++ t345) ++ (⟨#[59, 32]⟩ : ByteArray)) ++ t346) t347 t350 t351 t352 _ ?side1 ?side2 ?side3 A14.out).mono ?_
       (case side1 => repeat (first | exact (Kd.C_below HR0_0.out HB.out) | (with_reducible refine Kd.C_alloc ?_ _) | (with_reducible refine Kd.C_drewN ?_ _) | (with_reducible refine Kd.C_drew ?_)))
       (case side2 => exact HC0_0.out)
       (case side3 => exact Glob.below HG.out bl)
       rintro e w21 ⟨v348, rfl, ho0, hb⟩
       refine ⟨_, rfl, ?_⟩
       have n0_ := Aside0.mk (Kd.R_lower ho0 (below_size bl))
       have n1_ := Aside0.mk (kb BK342.out hb)
       have n2_ := Aside0.mk (kb BK343.out hb)
       have n3_ := Aside0.mk (below_step bl hb)
       clear BK342
       clear BK343
       clear HB
       have HO349 := n0_
       have BK342 := n1_
       have BK343 := n2_
       have HB := n3_
       clear n0_ n1_ n2_ n3_
       (try clear hb)
       (try clear hb2)
       (try clear hk)
       (try clear hi)
       (try clear ho0)
       obtain ⟨Ao22, co22, eo22⟩ := Kd.R_slice HO349.out
       (first | subst eo22 | (injection eo22 with f1_ f2_ f3_; have f4_ := f1_.symm; have f5_ := f3_.symm; clear f1_ f2_ f3_; subst f4_; subst f5_))
       refine hK.out _ _ ⟨(blk_cell BK342.out 0).trans rfl, (blk_cell BK342.out 1).trans rfl, (blk_cell BK342.out 2).trans rfl⟩ (fun hHeld => ?_)
       clear hK K
       refine norm_ (a' := ?_) ?_ ?_
       rotate_left
       ·show Act.put _ (some 26) _ = _
        simp only [Act.put, List.setIfInBounds_toArray, List.set_cons_zero, List.set_cons_succ, i64_w, i32_w]
        rfl
       refine pure_ (i := 13) (N := some 27) (v := ?_) (a' := ?_) #[true, true, true, true, true, true, true, true, true, true, true, true, true, true, false, false, false] rfl rfl (any_of HT_.out (by kernel_rfl)) (fun _ _ _ h => h) (Or.inl ⟨by rfl, ?_⟩) ?_ ?_
       rotate_left
       ·intro w'
        go_simp
        with_reducible rfl
       rotate_left
       ·simp only [Act.put, List.setIfInBounds_toArray, List.set_cons_zero, List.set_cons_succ, i64_w, i32_w]
        rfl
       refine pure_ (i := 14) (N := some 28) (v := ?_) (a' := ?_) #[true, true, true, true, true, true, true, true, true, true, true, true, true, true, true, false, false] rfl rfl (any_of HT_.out (by kernel_rfl)) (fun _ _ _ h => h) (Or.inl ⟨by rfl, ?_⟩) ?_ ?_
       rotate_left
       ·intro w'
        go_simp
        with_reducible rfl
       rotate_left
       ·simp only [Act.put, List.setIfInBounds_toArray, List.set_cons_zero, List.set_cons_succ, i64_w, i32_w]
        rfl
       refine one_ (i := 15) (N := none) #[true, true, true, true, true, true, true, true, true, true, true, true, true, true, true, true, false] rfl rfl (one_of HT_.out (by kernel_rfl)) (by decide) (fun K hK => ?_)
       have hs23 : w21.cell? ⟨gb343, 0, none⟩ = some (.slice none 0 0) := (blk_cell BK343.out 0).trans rfl
       have hfs23 := blk_frozen BK343.out 0
       have hns23_0 := NB342_343.out
       have hms23_0 := NB343_342.out
       have hs24 : w21.cell? ⟨gb343, 1, none⟩ = some (.string (⟨#[]⟩ : ByteArray)) := (blk_cell BK343.out 1).trans rfl
       have hfs24 := blk_frozen BK343.out 1
       have hns24_0 := NB342_343.out
       have hms24_0 := NB343_342.out
       have hs25 : w21.cell? ⟨gb343, 2, none⟩ = some (.bool false) := (blk_cell BK343.out 2).trans rfl
       have hfs25 := blk_frozen BK343.out 2
       have hns25_0 := NB342_343.out
       have hms25_0 := NB343_342.out
       refine skip_ (w1 := ?_) (by rfl) rfl ?_ ?_
       rotate_left
       ·go_simp
        rfl
       refine hK.out _ _ ⟨((cell_far (p := ⟨gb343, _, none⟩) NB342_343.out _).trans (((cell_far (p := ⟨gb343, _, none⟩) NB342_343.out _).trans (((cell_far (p := ⟨gb343, _, none⟩) NB342_343.out _).trans (hHeld.1)))))), ((cell_far (p := ⟨gb343, _, none⟩) NB342_343.out _).trans (((cell_far (p := ⟨gb343, _, none⟩) NB342_343.out _).trans (((cell_far (p := ⟨gb343, _, none⟩) NB342_343.out _).trans (hHeld.2.1)))))), ((cell_far (p := ⟨gb343, _, none⟩) NB342_343.out _).trans (((cell_far (p := ⟨gb343, _, none⟩) NB342_343.out _).trans (((cell_far (p := ⟨gb343, _, none⟩) NB342_343.out _).trans (hHeld.2.2))))))⟩ (fun hHeld => ?_)
       clear hK K
       refine pure_ (i := 16) (N := some 9) (v := ?_) (a' := ?_) #[true, true, true, true, true, true, true, true, true, true, true, true, true, true, true, true, true] rfl rfl (any_of HT_.out (by kernel_rfl)) (fun _ _ _ h => h) (Or.inl ⟨by rfl, ?_⟩) ?_ ?_
       rotate_left
       ·intro w'
        go_simp
        with_reducible rfl
       rotate_left
       ·simp only [Act.put, List.setIfInBounds_toArray, List.set_cons_zero, List.set_cons_succ, i64_w, i32_w]
        rfl
       refine done_ (done_of HT_.out (by kernel_rfl)) ?_
       try go_wp2
       refine bodyPost_ret (results_ct rfl _ _ gb343 24 #[.slice Ao22 t347.length co22, .string t350, .bool t351] (0, 0) _ rfl (by (with_reducible repeat (first | refine blk_drewN ?_ _ | refine blk_drew ?_ | refine blk_alloc ?_ _)); refine blk_put (cs := #[.slice Ao22 t347.length co22, .string t350, .bool false]) ?_ 2 _ rfl; (with_reducible repeat (first | refine blk_drewN ?_ _ | refine blk_drew ?_ | refine blk_alloc ?_ _)); refine blk_put (cs := #[.slice Ao22 t347.length co22, .string (⟨#[]⟩ : ByteArray), .bool false]) ?_ 1 _ rfl; (with_reducible repeat (first | refine blk_drewN ?_ _ | refine blk_drew ?_ | refine blk_alloc ?_ _)); refine blk_put (cs := #[.slice none 0 0, .string (⟨#[]⟩ : ByteArray), .bool false]) ?_ 0 _ rfl; (with_reducible repeat (first | refine blk_drewN ?_ _ | refine blk_drew ?_ | refine blk_alloc ?_ _)); exact BK343.out) Tryz.underlying24 rfl (by kernel_rfl)) rfl ?_
       exact ⟨_, by first | rfl | (simp [errW_none, errW_some] <;> rfl) | (simp [*, errW_none, errW_some] <;> rfl), by (with_reducible repeat (first | apply Kd.R_alloc | apply Kd.R_drewN | apply Kd.R_drew)); exact Kd.R_mono (Kd.R_far (p := ⟨gb343, 2, none⟩) (Kd.R_far (p := ⟨gb343, 1, none⟩) (Kd.R_far (p := ⟨gb343, 0, none⟩) (Kd.R_types HO349.out BK343.out (by decide)) (fun _ hk => hk.2) (.slice Ao22 t347.length co22)) (fun _ hk => hk.2) (.string t350)) (fun _ hk => hk.2) (.bool t351)) (fun _ hk => trivial), by repeat (first | (with_reducible first | exact HB.out | apply below_alloc | apply pw_below_drewN | apply below_drew1 | refine below_set ?_ GE342.out | refine below_set ?_ GE343.out) | exact HB.out)⟩
      ·rw [if_neg c13] at H
       exact absurd H (by simp)
     ·rw [if_neg c11] at H
      exact absurd H (by simp)
    ·rw [if_neg c10] at H
     exact absurd H (by simp)
   ·rw [if_neg c8] at H
    exact absurd H (by simp)
  ·rw [if_neg c7] at H
   exact absurd H (by simp)
 ·replace c6 := Bool.eq_false_iff.mpr c6
  subst c6
  have H1 : (some (([] : List (S72)), (⟨#[]⟩ : ByteArray), false, 1)) = some (r1, r2, r3, r4) := by rw [if_neg (show ¬ (false = true) by decide)] at H; exact H
  clear H
  have H := H1
  clear H1
  simp only [Option.some.injEq, Prod.mk.injEq] at H
  obtain ⟨rfl, rfl, rfl, rfl⟩ := H
  go_enter Tryz.func23, Tryz.ntmps23
  go_wp2_with (first | ((with_reducible refine gate_dst (N := 4) rfl ?_); refine box_event ?hg (N := 4) ?hd (cs := #[.slice A0_0 l0_0.length c0_0, .string a0_1, .bool a0_2]) (t := 24) ?hr ?_; (case hd => rfl); (case hg => rfl); (case hr => first | (go_simp; done) | (go_simp; rfl)); intro gb342 hg w26 hbox hb; have n0_ := Aside0.mk (below_step bl hb); have n1_ := Aside0.mk (hbox); have n2_ := Aside0.mk ((by rw [hg]; exact (below_size bl) : w.heap.size ≤ gb342)); have n3_ := Aside0.mk ((by rw [hg]; exact (below_size bl) : w.heap.size ≤ gb342)); clear HB; have HB := n0_; have BK342 := n1_; have GW342 := n2_; have GE342 := n3_; clear n0_ n1_ n2_ n3_; clear hb hbox hg) | ((with_reducible refine gate_dst (N := 8) rfl ?_); refine box_event ?hg (N := 8) ?hd (cs := #[.slice none 0 0, .string (⟨#[]⟩ : ByteArray), .bool false]) (t := 24) ?hr ?_; (case hd => rfl); (case hg => rfl); (case hr => first | (go_simp; done) | (go_simp; rfl)); intro gb343 hg w27 hbox hb; have n0_ := Aside0.mk (kb BK342.out hb); have n1_ := Aside0.mk (below_step bl hb); have n2_ := Aside0.mk (hbox); have n3_ := Aside0.mk ((by rw [hg]; exact (below_size bl) : w.heap.size ≤ gb343)); have n4_ := Aside0.mk ((by rw [hg]; exact (below_size bl) : w.heap.size ≤ gb343)); have n5_ := Aside0.mk ((by rw [hg]; exact Nat.ne_of_lt (blk_lt (bk BK342.out)) : gb342 ≠ gb343)); have n6_ := Aside0.mk ((by rw [hg]; exact Nat.ne_of_gt (blk_lt (bk BK342.out)) : gb343 ≠ gb342)); clear BK342; clear HB; have BK342 := n0_; have HB := n1_; have BK343 := n2_; have GW343 := n3_; have GE343 := n4_; have NB342_343 := n5_; have NB343_342 := n6_; clear n0_ n1_ n2_ n3_ n4_ n5_ n6_; clear hb hbox hg) | ((with_reducible refine gate_callee (f := 51) rfl ?_); refine goesL_ (some 11) rfl rfl Tryz.func51 (by kernel_rfl) rfl #[.string a1] rfl ml ?_; (with_reducible refine (addr_MayDomain.calls a1 false _ ?side1 A5.out).mono ?_); (case side1 => exact Glob.below HG.out bl); rintro e w28 ⟨rfl, hb⟩; refine ⟨_, rfl, ?_⟩; have n0_ := Aside0.mk (kb BK342.out hb); have n1_ := Aside0.mk (kb BK343.out hb); have n2_ := Aside0.mk (below_step bl hb); clear BK342; clear BK343; clear HB; have BK342 := n0_; have BK343 := n1_; have HB := n2_; clear n0_ n1_ n2_; (try clear hb); (try clear hb2); (try clear hk); (try clear hi); have hnb29 := NB343_342.out; have hnc29 := NB342_343.out; have hcz30_0 : w28.cell? ⟨gb343, 0, none⟩ = some (.slice none 0 0) := (blk_cell BK343.out 0).trans rfl; have hcz30_1 : w28.cell? ⟨gb343, 1, none⟩ = some (.string (⟨#[]⟩ : ByteArray)) := (blk_cell BK343.out 1).trans rfl; have hcz30_2 : w28.cell? ⟨gb343, 2, none⟩ = some (.bool false) := (blk_cell BK343.out 2).trans rfl; have hfz30_0 := blk_frozen BK343.out 0; have hfz30_1 := blk_frozen BK343.out 1; have hfz30_2 := blk_frozen BK343.out 2))
  refine bodyPost_ret (results_ct rfl _ _ gb343 24 #[.slice none 0 0, .string (⟨#[]⟩ : ByteArray), .bool false] (0, 0) _ rfl (by (with_reducible repeat (first | refine blk_drewN ?_ _ | refine blk_drew ?_ | refine blk_alloc ?_ _)); refine blk_put (cs := #[.slice none 0 0, .string (⟨#[]⟩ : ByteArray), .bool false]) ?_ 2 _ rfl; (with_reducible repeat (first | refine blk_drewN ?_ _ | refine blk_drew ?_ | refine blk_alloc ?_ _)); refine blk_put (cs := #[.slice none 0 0, .string (⟨#[]⟩ : ByteArray), .bool false]) ?_ 1 _ rfl; (with_reducible repeat (first | refine blk_drewN ?_ _ | refine blk_drew ?_ | refine blk_alloc ?_ _)); refine blk_put (cs := #[.slice none 0 0, .string (⟨#[]⟩ : ByteArray), .bool false]) ?_ 0 _ rfl; (with_reducible repeat (first | refine blk_drewN ?_ _ | refine blk_drew ?_ | refine blk_alloc ?_ _)); exact BK343.out) Tryz.underlying24 rfl (by kernel_rfl)) rfl ?_
  exact ⟨_, by first | rfl | (simp [errW_none, errW_some] <;> rfl) | (simp [*, errW_none, errW_some] <;> rfl), by first | exact Kd.R_nil _ _ _ _ _ | exact Kd.N_nil _ _ _ _ _ | exact Kd.V_nil _ _ _ _ _ | exact Kd.Q_nil _ _ _ _ _ | exact Kd.S_nil _ _ _ _ _, by repeat (first | (with_reducible first | exact HB.out | apply below_alloc | apply pw_below_drewN | apply below_drew1 | refine below_set ?_ GE342.out | refine below_set ?_ GE343.out) | exact HB.out)⟩

/-! ### text_Plain: function 68 (by hand) -/
def plainC (c : UInt8) : Bool := decide (32 ≤ c.toNat) && decide (c.toNat ≤ 126)
def plainB (s : ByteArray) : Bool := s.data.toList.all plainC
def text_Plain.f (a0 : ByteArray) : Option Bool := some (plainB a0)
theorem plain_step (s : ByteArray) (pos : Nat) (h : pos < s.size) : (s.data.toList.take (pos + 1)).all plainC = ((s.data.toList.take pos).all plainC && plainC (s[pos]'h)) := by
  rw [List.take_succ_eq_append_getElem (by simpa using h), List.all_append]
  simp
  rfl
theorem plain_at (s : ByteArray) (pos : Nat) (h : pos < s.size) (hb : ¬ (32 ≤ (s[pos]'h).toNat ∧ (s[pos]'h).toNat ≤ 126)) : plainB s = false := by
  unfold plainB
  rw [Bool.eq_false_iff]
  intro ha
  rw [List.all_eq_true] at ha
  have := ha (s[pos]'h) (by
    have h' : pos < s.data.toList.length := by simpa using h
    have e : s.data.toList[pos]'h' = s[pos]'h := by simp; rfl
    rw [← e]; exact List.getElem_mem h')
  simp [plainC] at this
  exact hb ⟨by omega, by omega⟩
set_option maxHeartbeats 1000000 in
set_option maxRecDepth 100000 in
theorem text_Plain.calls (a0 : ByteArray) (r : Bool) (w : World) (h : text_Plain.f a0 = some r) :
    Calls Tryz.prog 68 #[.string a0] w fun e w' => e = .returned (.bool r) ∧ Below w.heap.size w w' := by
  have hr := Option.some.inj h
  clear h
  subst hr
  go_enter Tryz.func68, Tryz.ntmps68
  go_wp2
  go_loopw [] (fun w' => ∃ pos : Nat, w' = w.iter a0 pos ∧ pos ≤ a0.size ∧ (a0.data.toList.take pos).all plainC = true) (fun w' => a0.size - w'.iterPos w.heap.size)
  case atStart => exact ⟨0, rfl, Nat.zero_le _, rfl⟩
  case round =>
    obtain ⟨pos, rfl, hle, hall⟩ := hrel
    have Hall := Lib.hid hall
    clear hall
    by_cases hp : pos < a0.size
    · have hnx : ∀ ty, (Instr.next (.pointer (some ⟨w.heap.size, 0, none⟩)) true ty).run Tryz.prog (w.iter a0 pos) = _ := fun ty => run_next_any w a0 pos ty hp
      by_cases ha : (a0[pos]'hp).toNat < 128
      · have hd := decode_ascii a0 pos hp ha
        rw [hd] at hnx
        clear hd
        obtain ⟨c, hc⟩ : ∃ c : Nat, c = (a0[pos]'hp).toNat := ⟨_, rfl⟩
        rw [← hc] at hnx ha
        have Hc := Lib.hid hc
        clear hc
        by_cases h1 : 126 < (c : Int)
        · have hfin : plainB a0 = false := plain_at a0 pos hp (by have := Hc.out; omega)
          have Hfin := Lib.hid hfin
          clear hfin
          have hb : decide (126 < (c : Int)) = true := decide_eq_true h1
          go_wp2
          go_ret
          rw [Hfin.out]
          exact ⟨rfl, below_alloc (Below.refl _ _) _⟩
        · have hb : decide (126 < (c : Int)) = false := decide_eq_false h1
          by_cases h2 : 32 ≤ (c : Int)
          · have hb2 : decide (32 ≤ (c : Int)) = true := decide_eq_true h2
            have hb3 : decide ((c : Int) ≤ 126) = true := decide_eq_true (by omega)
            have hs := plain_step a0 pos hp
            rw [Hall.out] at hs
            have Hs := Lib.hid hs
            clear hs
            go_wp2
            go_roundw
            case rel =>
              refine ⟨pos + 1, rfl, hp, ?_⟩
              rw [Hs.out]
              have := Hc.out
              simp [plainC]
              omega
            case measure => simp; omega
          · have hfin : plainB a0 = false := plain_at a0 pos hp (by have := Hc.out; omega)
            have Hfin := Lib.hid hfin
            clear hfin
            have hb2 : decide (32 ≤ (c : Int)) = false := decide_eq_false h2
            go_wp2
            go_ret
            rw [Hfin.out]
            exact ⟨rfl, below_alloc (Below.refl _ _) _⟩
      · have hd := decode_high a0 pos hp (by omega)
        obtain ⟨c, hc⟩ : ∃ c : Nat × Nat, c = Utf8.decode a0 pos := ⟨_, rfl⟩
        rw [← hc] at hnx hd
        obtain ⟨c, n⟩ := c
        simp only at hnx hd
        clear hc
        have hfin : plainB a0 = false := plain_at a0 pos hp (by omega)
        have Hfin := Lib.hid hfin
        clear hfin
        have hb : decide (126 < (c : Int)) = true := decide_eq_true (by omega)
        go_wp2
        go_ret
        rw [Hfin.out]
        exact ⟨rfl, below_alloc (Below.refl _ _) _⟩
    · have hnx : ∀ ty, (Instr.next (.pointer (some ⟨w.heap.size, 0, none⟩)) true ty).run Tryz.prog (w.iter a0 pos) = _ := fun ty => run_next_end w a0 pos ty hp
      go_wp2
      go_ret
      have e : pos = a0.size := by omega
      subst e
      have := Hall.out
      rw [List.take_of_length_le (by simp)] at this
      rw [show plainB a0 = true from this]
      exact ⟨rfl, below_alloc (Below.refl _ _) _⟩


/-! ### addr_May: function 32 -/
def addr_May.f (a0_0 : ByteArray) (a0_1 : ByteArray) : Option (Bool) := if a0_0.toList = ([] : List UInt8) then (some false) else (if (a0_0.size : Int) ≤ 64 then ((text_Plain.f a0_0).bind fun t354 => (if t354 = true then ((addr_MayDomain.f a0_1).bind fun t355 => (some t355)) else (some false))) else (some false))
set_option maxHeartbeats 8000000 in
set_option maxRecDepth 100000 in
theorem addr_May.calls (a0_0 : ByteArray) (a0_1 : ByteArray) (r : Bool) (w : World) (hG : Glob w) (h : addr_May.f a0_0 a0_1 = some r) :
    Calls Tryz.prog 32 #[.agg #[.string a0_0, .string a0_1]] w fun e w' => e = .returned (.bool r) ∧ Below w.heap.size w w' := by
  have hu50 := Tryz.underlying50
  have HB := Aside0.mk (Below.refl w.heap.size w)
  have HG := Aside0.mk hG
  clear hG
  have H : (if a0_0.toList = ([] : List UInt8) then (some false) else (if (a0_0.size : Int) ≤ 64 then ((text_Plain.f a0_0).bind fun t354 => (if t354 = true then ((addr_MayDomain.f a0_1).bind fun t355 => (some t355)) else (some false))) else (some false))) = some r := h
  clear h
  by_cases c2 : a0_0.toList = ([] : List UInt8)
  · rw [if_pos c2] at H
    have c2b0 : (a0_0.toList == ([] : List UInt8)) = true := beq_iff_eq.mpr c2
    have c2b1 : (a0_0.toList != ([] : List UInt8)) = false := bne_eq_false_iff_eq.mpr c2
    clear c2
    obtain rfl := Option.some.inj H
    go_enter Tryz.func32, Tryz.ntmps32
    go_wp2_with (first | ((with_reducible refine gate_dst (N := 1) rfl ?_); (try (refine gate_guard (by rfl) ?_; dsimp only)); refine box_event ?hg (N := 1) ?hd (cs := #[.string a0_0, .string a0_1]) (t := 50) ?hr ?_; (case hd => rfl); (case hg => rfl); (case hr => first | (go_simp; done) | (go_simp; rfl)); intro gb353 hg w3 hbox hb; have n0_ := Aside0.mk (below_step (by repeat (first | (with_reducible first | exact HB.out | apply below_alloc | apply pw_below_drewN | apply below_drew1) | exact HB.out)) hb); have n1_ := Aside0.mk (hbox); have n2_ := Aside0.mk ((by rw [hg]; exact (below_size (by repeat (first | (with_reducible first | exact HB.out | apply below_alloc | apply pw_below_drewN | apply below_drew1) | exact HB.out))) : w.heap.size ≤ gb353)); have n3_ := Aside0.mk ((by rw [hg]; exact (below_size (by repeat (first | (with_reducible first | exact HB.out | apply below_alloc | apply pw_below_drewN | apply below_drew1) | exact HB.out))) : w.heap.size ≤ gb353)); clear HB; have HB := n0_; have BK353 := n1_; have GW353 := n2_; have GE353 := n3_; clear n0_ n1_ n2_ n3_; clear hb hbox hg; have hcz4_0 : w3.cell? ⟨gb353, 0, none⟩ = some (.string a0_0) := (blk_cell BK353.out 0).trans rfl; have hcz4_1 : w3.cell? ⟨gb353, 1, none⟩ = some (.string a0_1) := (blk_cell BK353.out 1).trans rfl; have hfz4_0 := blk_frozen BK353.out 0; have hfz4_1 := blk_frozen BK353.out 1))
    go_ret
    exact ⟨by first | rfl | (simp [bneNil]; done) | (simp [errW_none, errW_some] <;> rfl) | (simp [*, errW_none, errW_some] <;> rfl), by repeat (first | (with_reducible first | exact HB.out | apply below_alloc | apply pw_below_drewN | apply below_drew1 | refine below_set ?_ GE353.out) | exact HB.out)⟩
  · rw [if_neg c2] at H
    have c2b0 : (a0_0.toList == ([] : List UInt8)) = false := beq_eq_false_iff_ne.mpr c2
    have c2b1 : (a0_0.toList != ([] : List UInt8)) = true := bne_iff_ne.mpr c2
    by_cases c5 : (a0_0.size : Int) ≤ 64
    · rw [if_pos c5] at H
      have c5b0 : decide ((a0_0.size : Int) ≤ 64) = true := decide_eq_true c5
      have c5b1 : decide (a0_0.size ≤ 64) = true := decide_eq_true (by omega)
      clear c5
      replace H := Option.bind_eq_some_iff.mp H
      obtain ⟨t354, A60, H⟩ := H
      replace H : (if t354 = true then ((addr_MayDomain.f a0_1).bind fun t355 => (some t355)) else (some false)) = some r := H
      have A6 := Aside0.mk A60
      clear A60
      by_cases c7 : t354 = true
      · subst c7
        have H1 : ((addr_MayDomain.f a0_1).bind fun t355 => (some t355)) = some r := by rw [if_pos rfl] at H; exact H
        clear H
        have H := H1
        clear H1
        replace H := Option.bind_eq_some_iff.mp H
        obtain ⟨t355, A80, H⟩ := H
        replace H : (some t355) = some r := H
        have A8 := Aside0.mk A80
        clear A80
        obtain rfl := Option.some.inj H
        go_enter Tryz.func32, Tryz.ntmps32
        go_wp2_with (first | ((with_reducible refine gate_dst (N := 1) rfl ?_); (try (refine gate_guard (by rfl) ?_; dsimp only)); refine box_event ?hg (N := 1) ?hd (cs := #[.string a0_0, .string a0_1]) (t := 50) ?hr ?_; (case hd => rfl); (case hg => rfl); (case hr => first | (go_simp; done) | (go_simp; rfl)); intro gb353 hg w9 hbox hb; have n0_ := Aside0.mk (below_step (by repeat (first | (with_reducible first | exact HB.out | apply below_alloc | apply pw_below_drewN | apply below_drew1) | exact HB.out)) hb); have n1_ := Aside0.mk (hbox); have n2_ := Aside0.mk ((by rw [hg]; exact (below_size (by repeat (first | (with_reducible first | exact HB.out | apply below_alloc | apply pw_below_drewN | apply below_drew1) | exact HB.out))) : w.heap.size ≤ gb353)); have n3_ := Aside0.mk ((by rw [hg]; exact (below_size (by repeat (first | (with_reducible first | exact HB.out | apply below_alloc | apply pw_below_drewN | apply below_drew1) | exact HB.out))) : w.heap.size ≤ gb353)); clear HB; have HB := n0_; have BK353 := n1_; have GW353 := n2_; have GE353 := n3_; clear n0_ n1_ n2_ n3_; clear hb hbox hg; have hcz10_0 : w9.cell? ⟨gb353, 0, none⟩ = some (.string a0_0) := (blk_cell BK353.out 0).trans rfl; have hcz10_1 : w9.cell? ⟨gb353, 1, none⟩ = some (.string a0_1) := (blk_cell BK353.out 1).trans rfl; have hfz10_0 := blk_frozen BK353.out 0; have hfz10_1 := blk_frozen BK353.out 1) | (go_at_call 68; (with_reducible refine (text_Plain.calls a0_0 true _ A6.out).mono ?_); rintro e w11 ⟨rfl, hb⟩; have n0_ := Aside0.mk (blk_below (g := gb353) (o := .cells #[.string a0_0, .string a0_1] 50 (0, 0)) (by (with_reducible repeat (first | refine blk_drewN ?_ _ | refine blk_drew ?_ | refine blk_alloc ?_ _)); exact BK353.out) hb); have n1_ := Aside0.mk (below_step (by repeat (first | (with_reducible first | exact HB.out | apply below_alloc | apply pw_below_drewN | apply below_drew1 | refine below_set ?_ GE353.out) | exact HB.out)) hb); clear BK353; clear HB; have BK353 := n0_; have HB := n1_; clear n0_ n1_; (try clear hb); (try clear hb2); (try clear hk); (try clear hi); have hcz12_0 : w11.cell? ⟨gb353, 0, none⟩ = some (.string a0_0) := (blk_cell BK353.out 0).trans rfl; have hcz12_1 : w11.cell? ⟨gb353, 1, none⟩ = some (.string a0_1) := (blk_cell BK353.out 1).trans rfl; have hfz12_0 := blk_frozen BK353.out 0; have hfz12_1 := blk_frozen BK353.out 1) | (go_at_call 51; (with_reducible refine (addr_MayDomain.calls a0_1 t355 _ ?side1 A8.out).mono ?_); (case side1 => exact Glob.below HG.out (by repeat (first | (with_reducible first | exact HB.out | apply below_alloc | apply pw_below_drewN | apply below_drew1 | refine below_set ?_ GE353.out) | exact HB.out))); rintro e w13 ⟨rfl, hb⟩; have n0_ := Aside0.mk (blk_below (g := gb353) (o := .cells #[.string a0_0, .string a0_1] 50 (0, 0)) (by (with_reducible repeat (first | refine blk_drewN ?_ _ | refine blk_drew ?_ | refine blk_alloc ?_ _)); exact BK353.out) hb); have n1_ := Aside0.mk (below_step (by repeat (first | (with_reducible first | exact HB.out | apply below_alloc | apply pw_below_drewN | apply below_drew1 | refine below_set ?_ GE353.out) | exact HB.out)) hb); clear BK353; clear HB; have BK353 := n0_; have HB := n1_; clear n0_ n1_; (try clear hb); (try clear hb2); (try clear hk); (try clear hi)))
        go_ret
        exact ⟨by first | rfl | (simp [bneNil]; done) | (simp [errW_none, errW_some] <;> rfl) | (simp [*, errW_none, errW_some] <;> rfl), by repeat (first | (with_reducible first | exact HB.out | apply below_alloc | apply pw_below_drewN | apply below_drew1 | refine below_set ?_ GE353.out) | exact HB.out)⟩
      · replace c7 := Bool.eq_false_iff.mpr c7
        subst c7
        have H1 : (some false) = some r := by rw [if_neg (show ¬ (false = true) by decide)] at H; exact H
        clear H
        have H := H1
        clear H1
        obtain rfl := Option.some.inj H
        go_enter Tryz.func32, Tryz.ntmps32
        go_wp2_with (first | ((with_reducible refine gate_dst (N := 1) rfl ?_); (try (refine gate_guard (by rfl) ?_; dsimp only)); refine box_event ?hg (N := 1) ?hd (cs := #[.string a0_0, .string a0_1]) (t := 50) ?hr ?_; (case hd => rfl); (case hg => rfl); (case hr => first | (go_simp; done) | (go_simp; rfl)); intro gb353 hg w14 hbox hb; have n0_ := Aside0.mk (below_step (by repeat (first | (with_reducible first | exact HB.out | apply below_alloc | apply pw_below_drewN | apply below_drew1) | exact HB.out)) hb); have n1_ := Aside0.mk (hbox); have n2_ := Aside0.mk ((by rw [hg]; exact (below_size (by repeat (first | (with_reducible first | exact HB.out | apply below_alloc | apply pw_below_drewN | apply below_drew1) | exact HB.out))) : w.heap.size ≤ gb353)); have n3_ := Aside0.mk ((by rw [hg]; exact (below_size (by repeat (first | (with_reducible first | exact HB.out | apply below_alloc | apply pw_below_drewN | apply below_drew1) | exact HB.out))) : w.heap.size ≤ gb353)); clear HB; have HB := n0_; have BK353 := n1_; have GW353 := n2_; have GE353 := n3_; clear n0_ n1_ n2_ n3_; clear hb hbox hg; have hcz15_0 : w14.cell? ⟨gb353, 0, none⟩ = some (.string a0_0) := (blk_cell BK353.out 0).trans rfl; have hcz15_1 : w14.cell? ⟨gb353, 1, none⟩ = some (.string a0_1) := (blk_cell BK353.out 1).trans rfl; have hfz15_0 := blk_frozen BK353.out 0; have hfz15_1 := blk_frozen BK353.out 1) | (go_at_call 68; (with_reducible refine (text_Plain.calls a0_0 false _ A6.out).mono ?_); rintro e w16 ⟨rfl, hb⟩; have n0_ := Aside0.mk (blk_below (g := gb353) (o := .cells #[.string a0_0, .string a0_1] 50 (0, 0)) (by (with_reducible repeat (first | refine blk_drewN ?_ _ | refine blk_drew ?_ | refine blk_alloc ?_ _)); exact BK353.out) hb); have n1_ := Aside0.mk (below_step (by repeat (first | (with_reducible first | exact HB.out | apply below_alloc | apply pw_below_drewN | apply below_drew1 | refine below_set ?_ GE353.out) | exact HB.out)) hb); clear BK353; clear HB; have BK353 := n0_; have HB := n1_; clear n0_ n1_; (try clear hb); (try clear hb2); (try clear hk); (try clear hi)))
        go_ret
        exact ⟨by first | rfl | (simp [bneNil]; done) | (simp [errW_none, errW_some] <;> rfl) | (simp [*, errW_none, errW_some] <;> rfl), by repeat (first | (with_reducible first | exact HB.out | apply below_alloc | apply pw_below_drewN | apply below_drew1 | refine below_set ?_ GE353.out) | exact HB.out)⟩
    · rw [if_neg c5] at H
      have c5b0 : decide ((a0_0.size : Int) ≤ 64) = false := decide_eq_false c5
      have c5b1 : decide (a0_0.size ≤ 64) = false := decide_eq_false (by omega)
      clear c5
      obtain rfl := Option.some.inj H
      go_enter Tryz.func32, Tryz.ntmps32
      go_wp2_with (first | ((with_reducible refine gate_dst (N := 1) rfl ?_); (try (refine gate_guard (by rfl) ?_; dsimp only)); refine box_event ?hg (N := 1) ?hd (cs := #[.string a0_0, .string a0_1]) (t := 50) ?hr ?_; (case hd => rfl); (case hg => rfl); (case hr => first | (go_simp; done) | (go_simp; rfl)); intro gb353 hg w17 hbox hb; have n0_ := Aside0.mk (below_step (by repeat (first | (with_reducible first | exact HB.out | apply below_alloc | apply pw_below_drewN | apply below_drew1) | exact HB.out)) hb); have n1_ := Aside0.mk (hbox); have n2_ := Aside0.mk ((by rw [hg]; exact (below_size (by repeat (first | (with_reducible first | exact HB.out | apply below_alloc | apply pw_below_drewN | apply below_drew1) | exact HB.out))) : w.heap.size ≤ gb353)); have n3_ := Aside0.mk ((by rw [hg]; exact (below_size (by repeat (first | (with_reducible first | exact HB.out | apply below_alloc | apply pw_below_drewN | apply below_drew1) | exact HB.out))) : w.heap.size ≤ gb353)); clear HB; have HB := n0_; have BK353 := n1_; have GW353 := n2_; have GE353 := n3_; clear n0_ n1_ n2_ n3_; clear hb hbox hg; have hcz18_0 : w17.cell? ⟨gb353, 0, none⟩ = some (.string a0_0) := (blk_cell BK353.out 0).trans rfl; have hcz18_1 : w17.cell? ⟨gb353, 1, none⟩ = some (.string a0_1) := (blk_cell BK353.out 1).trans rfl; have hfz18_0 := blk_frozen BK353.out 0; have hfz18_1 := blk_frozen BK353.out 1))
      go_ret
      exact ⟨by first | rfl | (simp [bneNil]; done) | (simp [errW_none, errW_some] <;> rfl) | (simp [*, errW_none, errW_some] <;> rfl), by repeat (first | (with_reducible first | exact HB.out | apply below_alloc | apply pw_below_drewN | apply below_drew1 | refine below_set ?_ GE353.out) | exact HB.out)⟩

/-! ### text_Quote: function 104 (by hand) -/
def quoteC (c : UInt8) : List UInt8 := if c = 34 ∨ c = 92 then [92, c] else [c]
def quoteM (l : List UInt8) : List UInt8 := l.flatMap quoteC
def quoteL (l : List UInt8) : List UInt8 := 34 :: (quoteM l ++ [34])
def quoteB (s : ByteArray) : ByteArray := ⟨(quoteL s.data.toList).toArray⟩
def numsOf (l : List UInt8) : List Int := l.map fun b => (b.toNat : Int)
def quoteN (l : List UInt8) : List Int := 34 :: numsOf (quoteM l)
def text_Quote.f (a0 : ByteArray) : Option (ByteArray × Int) := if a0.size < 70368744177000 then (if plainB a0 = true then some (quoteB a0, 0) else some ((⟨#[]⟩ : ByteArray), 5)) else none
theorem quoteC_len (c : UInt8) : (quoteC c).length ≤ 2 := by unfold quoteC; split <;> simp
theorem quoteM_len (l : List UInt8) : (quoteM l).length ≤ 2 * l.length := by
  unfold quoteM
  induction l with
  | nil => simp
  | cons c l ih => simp only [List.flatMap_cons, List.length_append, List.length_cons]; have := quoteC_len c; omega
theorem quoteN_len (l : List UInt8) : (quoteN l).length ≤ 2 * l.length + 1 := by
  unfold quoteN numsOf; simp; have := quoteM_len l; omega
theorem quoteN_snoc2 (s : ByteArray) (k : Nat) (h : k < s.size) (hc : (s[k]'h) = 34 ∨ (s[k]'h) = 92) : quoteN (s.data.toList.take (k + 1)) = (quoteN (s.data.toList.take k) ++ [92]) ++ [((s[k]'h).toNat : Int)] := by
  rw [List.take_succ_eq_append_getElem (by simpa using h)]
  have e : (s.data.toList[k]'(by simpa using h)) = s[k]'h := by simp; rfl
  rw [e]
  simp [quoteN, quoteM, numsOf, quoteC, hc]
theorem quoteN_snoc1 (s : ByteArray) (k : Nat) (h : k < s.size) (hc : ¬ ((s[k]'h) = 34 ∨ (s[k]'h) = 92)) : quoteN (s.data.toList.take (k + 1)) = quoteN (s.data.toList.take k) ++ [((s[k]'h).toNat : Int)] := by
  rw [List.take_succ_eq_append_getElem (by simpa using h)]
  have e : (s.data.toList[k]'(by simpa using h)) = s[k]'h := by simp; rfl
  rw [e]
  simp [quoteN, quoteM, numsOf, quoteC, hc]
theorem quote_str (s : ByteArray) : strOfNums (quoteN s.data.toList ++ [34]) = quoteB s := by
  unfold strOfNums quoteN quoteB quoteL numsOf
  simp [List.map_map, Function.comp_def]
theorem bytes_cell_at {W w1 : World} {g e : Nat} {s : ByteArray} {C : Array Value} {fz : Nat × Nat} (h : W.heap[g]? = some (.cells C e fz)) (hC : C = Lib.bytesCells w1 e s) (j : Nat) (hj : j < s.size) : W.cell? ⟨g, j, none⟩ = some (.int .u8 ((s[j]'hj).toNat : Nat)) := by
  subst hC
  simp [World.cell?, h, Lib.bytesCells, Array.getElem?_append, hj]
  rfl
set_option maxHeartbeats 1000000 in
set_option maxRecDepth 100000 in
theorem text_Quote.calls (a0 : ByteArray) (r1 : ByteArray) (r2 : Int) (w : World) (h : text_Quote.f a0 = some (r1, r2)) :
    Calls Tryz.prog 104 #[.string a0] w fun e w' => e = .returned (.tuple #[.string r1, .int .i64 r2]) ∧ Below w.heap.size w w' := by
  unfold text_Quote.f at h
  by_cases hsz : a0.size < 70368744177000
  · rw [if_pos hsz] at h
    by_cases hp : plainB a0 = true
    · rw [if_pos hp] at h
      simp only [Option.some.injEq, Prod.mk.injEq] at h
      obtain ⟨rfl, rfl⟩ := h
      have Hp := Lib.hid hp
      clear hp
      go_enter Tryz.func104, Tryz.ntmps104
      have hcv := fun W => print_bytes (P := Tryz.prog) 9 102 5 Tryz.underlying9 Tryz.underlying102 Tryz.underlying5 a0 W
      go_wp2_with (first | (go_at_call 68; refine (text_Plain.calls a0 true _ (by unfold text_Plain.f; rw [Hp.out])).mono ?_; rintro e w1 ⟨rfl, hb⟩) | ((with_reducible refine gate_dst (N := 10) rfl ?_); refine Kd.R_lit (Kd.int .u8) (w0 := w) w.heap.size 5 ?hg (N := 10) ?hd (xs := [34]) (inner := [.int .u8 34]) (ok := fun _ => True) (okp := fun _ => True) ?hr ?hp (fun _ hk => hk) trivial hb hb.size (by simp) ?_; (case hd => rfl); (case hg => rfl); (case hr => first | (go_simp; done) | (go_simp; rfl)); (case hp => exact (Reps.one (show Kd.M (Kd.int .u8) _ _ _ 34 [.int .u8 34] from rfl) (Reps.none _ _))); intro v2 w2 ho hb2 hg_ hnew_))
      clear hcv
      obtain ⟨w3, hw3⟩ : ∃ w3, w3 = Lib.bytesWorld w2 5 a0 := ⟨_, rfl⟩
      rw [← hw3]
      have HG := Aside0.mk (Lib.bytesWorld_at_new w2 5 a0)
      have HO := Aside0.mk (Kd.R_below (Kd.R_mono (ok' := fun j => j ≠ w2.heap.size) (Kd.R_bound ho) (fun j hj => by have := hj.2.2.1; omega)) (bytes_below (Below.refl _ _) (Nat.le_refl _) 5 a0))
      have HB := Aside0.mk (bytes_below hb2 hb2.size 5 a0)
      have HS := Aside0.mk (show w2.heap.size < (Lib.bytesWorld w2 5 a0).heap.size by rw [Lib.bytesWorld_size]; omega)
      rw [← hw3] at HG HO HB HS
      have HE := Lib.hid hw3
      clear hw3 ho hb2 hg_ hnew_ hb
      generalize grownCap w2 a0.size 0 5 = cap
      obtain ⟨C, hC⟩ : ∃ C, C = Lib.bytesCells w2 5 a0 := ⟨_, rfl⟩
      obtain ⟨fz, hfz⟩ : ∃ fz : Nat × Nat, fz = (C.size, C.size + 1) := ⟨_, rfl⟩
      rw [← hC, ← hfz] at HG
      have HC := Lib.hid hC
      clear hC hfz
      obtain ⟨g, hg⟩ : ∃ g, g = w2.heap.size := ⟨_, rfl⟩
      rw [← hg] at HG HO HS ⊢
      clear hg
      go_loopw [4, 14] (fun v4 v14 w' => ∃ (k : Nat), v14 = .int .i64 k ∧ k ≤ a0.size ∧ Aside0 (Kd.R (Kd.int .u8) 5 w' w.heap.size (fun j => j ≠ g) v4 (quoteN (a0.data.toList.take k))) ∧ Aside0 (w'.heap[g]? = some (.cells C 5 fz)) ∧ Aside0 (Below w.heap.size w w')) (fun _ v14 _ => a0.size - (intOf v14).toNat)
      case atStart => exact ⟨0, rfl, Nat.zero_le _, ⟨HO.out⟩, ⟨HG.out⟩, ⟨HB.out⟩⟩
      case round =>
        clear HO HG HB HS
        obtain ⟨k, rfl, hk, HO, HG, HB⟩ := hrel
        have HS := Aside0.mk (blk_lt HG.out)
        have HL := Aside0.mk (Nat.le_trans (quoteN_len (a0.data.toList.take k)) (show 2 * (a0.data.toList.take k).length + 1 ≤ 140737488354001 by have := List.length_take_le k a0.data.toList; omega))
        by_cases hlt : k < a0.size
        · have hcell : wr.cell? ⟨g, k, none⟩ = some (.int .u8 ((a0[k]'hlt).toNat : Nat)) := bytes_cell_at HG.out HC.out k hlt
          by_cases hc : (a0[k]'hlt) = 34 ∨ (a0[k]'hlt) = 92
          · have Hs := Lib.hid (quoteN_snoc2 a0 k hlt hc)
            obtain ⟨c, hcc⟩ : ∃ c : Nat, c = (a0[k]'hlt).toNat := ⟨_, rfl⟩
            have hc' : c = 34 ∨ c = 92 := by rcases hc with h | h <;> (rw [hcc, h]; simp)
            rw [← hcc] at hcell Hs
            clear hc
            have Hcc := Lib.hid hcc
            clear hcc
            rcases hc' with rfl | rfl
            · go_wp2_with (first | ((with_reducible refine gate_builtin (b := .append) (xs := #[.tmp 24, .tmp 25]) rfl ?_); at_builtin; refine Kd.R_append (Kd.int .u8) (w0 := w) w.heap.size rfl (.tmp 24) (.tmp 25) 102 5 (.int .u8 0) 1 rfl Tryz.underlying102 info5 rfl (by decide) (by omega) u4 (quoteN (a0.data.toList.take k)) 92 [.int .u8 92] (fun j => j ≠ g) (fun _ => False) rfl rfl ?aP (fun _ hk => hk.elim) ?aF ?aO ?aB ?aS ?aL ?_; (case aP => exact rfl); (case aB => exact HB.out); (case aF => exact (fun j hj => by have := blk_lt HG.out; omega)); (case aO => exact HO.out); (case aS => exact (HB.out).size); (case aL => have := HL.out; (try simp only [List.length_append, List.length_singleton]); omega); intro v5 w5 ho hb hg hat; have HO5 := Aside0.mk ho; have HB5 := Aside0.mk hb; have HG5 := Aside0.mk (blk_grown HG.out hg (Kd.R_away HO.out (fun _ h => h))); clear ho hb hg hat) | ((with_reducible refine gate_builtin (b := .append) (xs := #[.tmp 27, .tmp 29]) rfl ?_); at_builtin; refine Kd.R_append (Kd.int .u8) (w0 := w) w.heap.size rfl (.tmp 27) (.tmp 29) 102 5 (.int .u8 0) 1 rfl Tryz.underlying102 info5 rfl (by decide) (by omega) v5 ((quoteN (a0.data.toList.take k)) ++ [92]) 34 [.int .u8 34] (fun j => j ≠ g) (fun _ => False) rfl rfl ?aP (fun _ hk => hk.elim) ?aF ?aO ?aB ?aS ?aL ?_; (case aP => exact rfl); (case aB => exact HB5.out); (case aF => exact (fun j hj => by have := blk_lt HG5.out; omega)); (case aO => exact HO5.out); (case aS => exact (HB5.out).size); (case aL => have := HL.out; (try simp only [List.length_append, List.length_singleton]); omega); intro v6 w6 ho hb hg hat; have HO6 := Aside0.mk ho; have HB6 := Aside0.mk hb; have HG6 := Aside0.mk (blk_grown HG5.out hg (Kd.R_away HO5.out (fun _ h => h))); clear ho hb hg hat))
              go_roundw
              case rel => exact ⟨k + 1, by go_num, hlt, ⟨by rw [Hs.out]; exact HO6.out⟩, ⟨HG6.out⟩, ⟨HB6.out⟩⟩
              case measure => simp [intOf]; omega
            · go_wp2_with (first | ((with_reducible refine gate_builtin (b := .append) (xs := #[.tmp 24, .tmp 25]) rfl ?_); at_builtin; refine Kd.R_append (Kd.int .u8) (w0 := w) w.heap.size rfl (.tmp 24) (.tmp 25) 102 5 (.int .u8 0) 1 rfl Tryz.underlying102 info5 rfl (by decide) (by omega) u4 (quoteN (a0.data.toList.take k)) 92 [.int .u8 92] (fun j => j ≠ g) (fun _ => False) rfl rfl ?aP (fun _ hk => hk.elim) ?aF ?aO ?aB ?aS ?aL ?_; (case aP => exact rfl); (case aB => exact HB.out); (case aF => exact (fun j hj => by have := blk_lt HG.out; omega)); (case aO => exact HO.out); (case aS => exact (HB.out).size); (case aL => have := HL.out; (try simp only [List.length_append, List.length_singleton]); omega); intro v5 w5 ho hb hg hat; have HO5 := Aside0.mk ho; have HB5 := Aside0.mk hb; have HG5 := Aside0.mk (blk_grown HG.out hg (Kd.R_away HO.out (fun _ h => h))); clear ho hb hg hat) | ((with_reducible refine gate_builtin (b := .append) (xs := #[.tmp 27, .tmp 29]) rfl ?_); at_builtin; refine Kd.R_append (Kd.int .u8) (w0 := w) w.heap.size rfl (.tmp 27) (.tmp 29) 102 5 (.int .u8 0) 1 rfl Tryz.underlying102 info5 rfl (by decide) (by omega) v5 ((quoteN (a0.data.toList.take k)) ++ [92]) 92 [.int .u8 92] (fun j => j ≠ g) (fun _ => False) rfl rfl ?aP (fun _ hk => hk.elim) ?aF ?aO ?aB ?aS ?aL ?_; (case aP => exact rfl); (case aB => exact HB5.out); (case aF => exact (fun j hj => by have := blk_lt HG5.out; omega)); (case aO => exact HO5.out); (case aS => exact (HB5.out).size); (case aL => have := HL.out; (try simp only [List.length_append, List.length_singleton]); omega); intro v6 w6 ho hb hg hat; have HO6 := Aside0.mk ho; have HB6 := Aside0.mk hb; have HG6 := Aside0.mk (blk_grown HG5.out hg (Kd.R_away HO5.out (fun _ h => h))); clear ho hb hg hat))
              go_roundw
              case rel => exact ⟨k + 1, by go_num, hlt, ⟨by rw [Hs.out]; exact HO6.out⟩, ⟨HG6.out⟩, ⟨HB6.out⟩⟩
              case measure => simp [intOf]; omega
          · have Hs := Lib.hid (quoteN_snoc1 a0 k hlt hc)
            obtain ⟨c, hcc⟩ : ∃ c : Nat, c = (a0[k]'hlt).toNat := ⟨_, rfl⟩
            have h1 : ¬ c = 34 := fun h => hc (.inl (UInt8.toNat_inj.mp (by rw [← hcc, h]; rfl)))
            have h2 : ¬ c = 92 := fun h => hc (.inr (UInt8.toNat_inj.mp (by rw [← hcc, h]; rfl)))
            have h1b : ((c : Int) == 34) = false := beq_eq_false_iff_ne.mpr (by omega)
            have h2b : ((c : Int) == 92) = false := beq_eq_false_iff_ne.mpr (by omega)
            rw [← hcc] at hcell Hs
            clear hc h1 h2
            have Hcc := Lib.hid hcc
            clear hcc
            go_wp2_with (first | ((with_reducible refine gate_builtin (b := .append) (xs := #[.tmp 27, .tmp 29]) rfl ?_); at_builtin; refine Kd.R_append (Kd.int .u8) (w0 := w) w.heap.size rfl (.tmp 27) (.tmp 29) 102 5 (.int .u8 0) 1 rfl Tryz.underlying102 info5 rfl (by decide) (by omega) u4 (quoteN (a0.data.toList.take k)) (c : Int) [.int .u8 (c : Int)] (fun j => j ≠ g) (fun _ => False) rfl rfl ?aP (fun _ hk => hk.elim) ?aF ?aO ?aB ?aS ?aL ?_; (case aP => exact rfl); (case aB => exact HB.out); (case aF => exact (fun j hj => by have := blk_lt HG.out; omega)); (case aO => exact HO.out); (case aS => exact (HB.out).size); (case aL => have := HL.out; (try simp only [List.length_append, List.length_singleton]); omega); intro v5 w5 ho hb hg hat; have HO5 := Aside0.mk ho; have HB5 := Aside0.mk hb; have HG5 := Aside0.mk (blk_grown HG.out hg (Kd.R_away HO.out (fun _ h => h))); clear ho hb hg hat))
            go_roundw
            case rel => exact ⟨k + 1, by go_num, hlt, ⟨by rw [Hs.out]; exact HO5.out⟩, ⟨HG5.out⟩, ⟨HB5.out⟩⟩
            case measure => simp [intOf]; omega
        · have hk' : k = a0.size := by omega
          subst hk'
          have HF := Lib.hid (show quoteN (a0.data.toList.take a0.size) = quoteN a0.data.toList by rw [List.take_of_length_le (by simp)])
          go_wp2_with (first | ((with_reducible refine gate_builtin (b := .append) (xs := #[.tmp 32, .tmp 33]) rfl ?_); at_builtin; refine Kd.R_append (Kd.int .u8) (w0 := w) w.heap.size rfl (.tmp 32) (.tmp 33) 102 5 (.int .u8 0) 1 rfl Tryz.underlying102 info5 rfl (by decide) (by omega) u4 (quoteN (a0.data.toList.take a0.size)) 34 [.int .u8 34] (fun j => j ≠ g) (fun _ => False) rfl rfl ?aP (fun _ hk => hk.elim) ?aF ?aO ?aB ?aS ?aL ?_; (case aP => exact rfl); (case aB => exact HB.out); (case aF => exact (fun j hj => by have := blk_lt HG.out; omega)); (case aO => exact HO.out); (case aS => exact (HB.out).size); (case aL => have := HL.out; (try simp only [List.length_append, List.length_singleton]); omega); intro v5 w5 ho hb hg hat; have hcs := own_string (P := Tryz.prog) Tryz.underlying102 Tryz.underlying5 Tryz.underlying9 (Kd.own_of_R ho); have HB5 := Aside0.mk hb; clear ho hb hg hat))
          go_ret2
          refine ⟨?_, HB5.out⟩
          rw [HF.out, quote_str]
          rfl
    · rw [if_neg hp] at h
      simp only [Option.some.injEq, Prod.mk.injEq] at h
      obtain ⟨rfl, rfl⟩ := h
      have Hp := Lib.hid (Bool.eq_false_iff.mpr hp)
      clear hp
      go_enter Tryz.func104, Tryz.ntmps104
      go_wp2_with (go_at_call 68; refine (text_Plain.calls a0 false _ (by unfold text_Plain.f; rw [Hp.out])).mono ?_; rintro e w1 ⟨rfl, hb⟩)
      go_ret2
      exact ⟨rfl, hb⟩
  · rw [if_neg hsz] at h
    exact absurd h (by simp)


/-! ### addr_Text: function 59 -/
def addr_Text.f (k : Nat) (a0_0 : ByteArray) (a0_1 : ByteArray) : Option (ByteArray) := (addr_May.f a0_0 a0_1).bind fun t357 => (if t357 = true then ((text_DotAtom.f k a0_0).bind fun t358 => (if t358 = true then (if a0_0.size + 1 ≤ 9223372036854775807 then (if (a0_0 ++ (⟨#[64]⟩ : ByteArray)).size + a0_1.size ≤ 9223372036854775807 then (some ((a0_0 ++ (⟨#[64]⟩ : ByteArray)) ++ a0_1)) else (none)) else (none)) else ((text_Quote.f a0_0).bind fun bt359 => (if bt359.1.size + 1 ≤ 9223372036854775807 then (if (bt359.1 ++ (⟨#[64]⟩ : ByteArray)).size + a0_1.size ≤ 9223372036854775807 then (some ((bt359.1 ++ (⟨#[64]⟩ : ByteArray)) ++ a0_1)) else (none)) else (none))))) else (some (⟨#[]⟩ : ByteArray)))
theorem addr_Text.mono : ∀ a0 a1 k, LeO (addr_Text.f k a0 a1) (addr_Text.f (k + 1) a0 a1) := by
 intro a0 a1 k
 unfold addr_Text.f
 repeat' first
   | (with_reducible exact text_DotAtom.mono _ _)
   | (with_reducible exact LeO.refl _)
   | (with_reducible exact LeO.none _)
   | (with_reducible refine LeO.ite ?_ ?_)
   | (with_reducible refine LeO.bind ?_ (fun _ => ?_))
   | exact text_DotAtom.mono _ _
   | exact LeO.none _
   | refine LeO.ite ?_ ?_
   | refine LeO.bind ?_ (fun _ => ?_)
set_option maxHeartbeats 8000000 in
set_option maxRecDepth 100000 in
theorem addr_Text.calls (k : Nat) (a0_0 : ByteArray) (a0_1 : ByteArray) (r : ByteArray) (w : World) (hG : Glob w) (h : addr_Text.f k a0_0 a0_1 = some r) :
  Calls Tryz.prog 59 #[.agg #[.string a0_0, .string a0_1]] w fun e w' => e = .returned (.string r) ∧ Below w.heap.size w w' := by
 have hu50 := Tryz.underlying50
 have HB := Aside0.mk (Below.refl w.heap.size w)
 have HG := Aside0.mk hG
 clear hG
 have H : ((addr_May.f a0_0 a0_1).bind fun t357 => (if t357 = true then ((text_DotAtom.f k a0_0).bind fun t358 => (if t358 = true then (if a0_0.size + 1 ≤ 9223372036854775807 then (if (a0_0 ++ (⟨#[64]⟩ : ByteArray)).size + a0_1.size ≤ 9223372036854775807 then (some ((a0_0 ++ (⟨#[64]⟩ : ByteArray)) ++ a0_1)) else (none)) else (none)) else ((text_Quote.f a0_0).bind fun bt359 => (if bt359.1.size + 1 ≤ 9223372036854775807 then (if (bt359.1 ++ (⟨#[64]⟩ : ByteArray)).size + a0_1.size ≤ 9223372036854775807 then (some ((bt359.1 ++ (⟨#[64]⟩ : ByteArray)) ++ a0_1)) else (none)) else (none))))) else (some (⟨#[]⟩ : ByteArray)))) = some r := h
 clear h
 replace H := Option.bind_eq_some_iff.mp H
 obtain ⟨t357, A20, H⟩ := H
 replace H : (if t357 = true then ((text_DotAtom.f k a0_0).bind fun t358 => (if t358 = true then (if a0_0.size + 1 ≤ 9223372036854775807 then (if (a0_0 ++ (⟨#[64]⟩ : ByteArray)).size + a0_1.size ≤ 9223372036854775807 then (some ((a0_0 ++ (⟨#[64]⟩ : ByteArray)) ++ a0_1)) else (none)) else (none)) else ((text_Quote.f a0_0).bind fun bt359 => (if bt359.1.size + 1 ≤ 9223372036854775807 then (if (bt359.1 ++ (⟨#[64]⟩ : ByteArray)).size + a0_1.size ≤ 9223372036854775807 then (some ((bt359.1 ++ (⟨#[64]⟩ : ByteArray)) ++ a0_1)) else (none)) else (none))))) else (some (⟨#[]⟩ : ByteArray))) = some r := H
 have A2 := Aside0.mk A20
 clear A20
 by_cases c3 : t357 = true
 ·subst c3
  have H1 : ((text_DotAtom.f k a0_0).bind fun t358 => (if t358 = true then (if a0_0.size + 1 ≤ 9223372036854775807 then (if (a0_0 ++ (⟨#[64]⟩ : ByteArray)).size + a0_1.size ≤ 9223372036854775807 then (some ((a0_0 ++ (⟨#[64]⟩ : ByteArray)) ++ a0_1)) else (none)) else (none)) else ((text_Quote.f a0_0).bind fun bt359 => (if bt359.1.size + 1 ≤ 9223372036854775807 then (if (bt359.1 ++ (⟨#[64]⟩ : ByteArray)).size + a0_1.size ≤ 9223372036854775807 then (some ((bt359.1 ++ (⟨#[64]⟩ : ByteArray)) ++ a0_1)) else (none)) else (none))))) = some r := by rw [if_pos rfl] at H; exact H
  clear H
  have H := H1
  clear H1
  replace H := Option.bind_eq_some_iff.mp H
  obtain ⟨t358, A40, H⟩ := H
  replace H : (if t358 = true then (if a0_0.size + 1 ≤ 9223372036854775807 then (if (a0_0 ++ (⟨#[64]⟩ : ByteArray)).size + a0_1.size ≤ 9223372036854775807 then (some ((a0_0 ++ (⟨#[64]⟩ : ByteArray)) ++ a0_1)) else (none)) else (none)) else ((text_Quote.f a0_0).bind fun bt359 => (if bt359.1.size + 1 ≤ 9223372036854775807 then (if (bt359.1 ++ (⟨#[64]⟩ : ByteArray)).size + a0_1.size ≤ 9223372036854775807 then (some ((bt359.1 ++ (⟨#[64]⟩ : ByteArray)) ++ a0_1)) else (none)) else (none)))) = some r := H
  have A4 := Aside0.mk A40
  clear A40
  by_cases c5 : t358 = true
  ·subst c5
   have H1 : (if a0_0.size + 1 ≤ 9223372036854775807 then (if (a0_0 ++ (⟨#[64]⟩ : ByteArray)).size + a0_1.size ≤ 9223372036854775807 then (some ((a0_0 ++ (⟨#[64]⟩ : ByteArray)) ++ a0_1)) else (none)) else (none)) = some r := by rw [if_pos rfl] at H; exact H
   clear H
   have H := H1
   clear H1
   by_cases c6 : a0_0.size + 1 ≤ 9223372036854775807
   ·rw [if_pos c6] at H
    have c6b0 := eq_true c6
    have c6b1 : decide (a0_0.size + 1 ≤ 9223372036854775807) = true := decide_eq_true c6
    try have c6b2 : (9223372036854775807 < a0_0.size + 1) = False := eq_false (Nat.not_lt.2 c6)
    by_cases c7 : (a0_0 ++ (⟨#[64]⟩ : ByteArray)).size + a0_1.size ≤ 9223372036854775807
    ·rw [if_pos c7] at H
     have c7b0 := eq_true c7
     have c7b1 : decide ((a0_0 ++ (⟨#[64]⟩ : ByteArray)).size + a0_1.size ≤ 9223372036854775807) = true := decide_eq_true c7
     try have c7b2 : (9223372036854775807 < (a0_0 ++ (⟨#[64]⟩ : ByteArray)).size + a0_1.size) = False := eq_false (Nat.not_lt.2 c7)
     try (have c7b2y := c7b2; rw [ByteArray.size_append] at c7b2y)
     try have c7b2z : (9223372036854775807 < a0_0.size + 1 + a0_1.size) = False := eq_false (fun h_ => by have g_ := c7; simp only [ByteArray.size_append, show (⟨#[64]⟩ : ByteArray).size = 1 from rfl] at g_; omega)
     obtain rfl := Option.some.inj H
     go_enter Tryz.func59, Tryz.ntmps59
     go_wp2_with (first | ((with_reducible refine gate_dst (N := 1) rfl ?_); refine box_event ?hg (N := 1) ?hd (cs := #[.string a0_0, .string a0_1]) (t := 50) ?hr ?_; (case hd => rfl); (case hg => rfl); (case hr => first | (go_simp; done) | (go_simp; rfl)); intro gb356 hg w8 hbox hb; have n0_ := Aside0.mk (below_step bl hb); have n1_ := Aside0.mk (hbox); have n2_ := Aside0.mk ((by rw [hg]; exact (below_size bl) : w.heap.size ≤ gb356)); have n3_ := Aside0.mk ((by rw [hg]; exact (below_size bl) : w.heap.size ≤ gb356)); clear HB; have HB := n0_; have BK356 := n1_; have GW356 := n2_; have GE356 := n3_; clear n0_ n1_ n2_ n3_; clear hb hbox hg; have hcz9_0 : w8.cell? ⟨gb356, 0, none⟩ = some (.string a0_0) := (blk_cell BK356.out 0).trans rfl; have hcz9_1 : w8.cell? ⟨gb356, 1, none⟩ = some (.string a0_1) := (blk_cell BK356.out 1).trans rfl; have hfz9_0 := blk_frozen BK356.out 0; have hfz9_1 := blk_frozen BK356.out 1) | ((with_reducible refine gate_callee (f := 32) rfl ?_); refine goesL_ (some 5) rfl rfl Tryz.func32 (by kernel_rfl) rfl #[.agg #[.string a0_0, .string a0_1]] rfl ml ?_; (with_reducible refine (addr_May.calls a0_0 a0_1 true _ ?side1 A2.out).mono ?_); (case side1 => exact Glob.below HG.out bl); rintro e w10 ⟨rfl, hb⟩; refine ⟨_, rfl, ?_⟩; have n0_ := Aside0.mk (kb BK356.out hb); have n1_ := Aside0.mk (below_step bl hb); clear BK356; clear HB; have BK356 := n0_; have HB := n1_; clear n0_ n1_; (try clear hb); (try clear hb2); (try clear hk); (try clear hi); have hcz11_0 : w10.cell? ⟨gb356, 0, none⟩ = some (.string a0_0) := (blk_cell BK356.out 0).trans rfl; have hcz11_1 : w10.cell? ⟨gb356, 1, none⟩ = some (.string a0_1) := (blk_cell BK356.out 1).trans rfl; have hfz11_0 := blk_frozen BK356.out 0; have hfz11_1 := blk_frozen BK356.out 1) | ((with_reducible refine gate_callee (f := 103) rfl ?_); refine goesL_ (some 10) rfl rfl Tryz.func103 (by kernel_rfl) rfl #[.string a0_0] rfl ml ?_; (with_reducible refine (text_DotAtom.calls k a0_0 true _ ?side1 A4.out).mono ?_); (case side1 => exact Glob.below HG.out bl); rintro e w12 ⟨rfl, hb⟩; refine ⟨_, rfl, ?_⟩; have n0_ := Aside0.mk (kb BK356.out hb); have n1_ := Aside0.mk (below_step bl hb); clear BK356; clear HB; have BK356 := n0_; have HB := n1_; clear n0_ n1_; (try clear hb); (try clear hb2); (try clear hk); (try clear hi); have hcz13_0 : w12.cell? ⟨gb356, 0, none⟩ = some (.string a0_0) := (blk_cell BK356.out 0).trans rfl; have hcz13_1 : w12.cell? ⟨gb356, 1, none⟩ = some (.string a0_1) := (blk_cell BK356.out 1).trans rfl; have hfz13_0 := blk_frozen BK356.out 0; have hfz13_1 := blk_frozen BK356.out 1))
     go_ret
     exact ⟨by first | rfl | (simp [bneNil]; done) | (simp [errW_none, errW_some] <;> rfl) | (simp [*, errW_none, errW_some] <;> rfl), by repeat (first | (with_reducible first | exact HB.out | apply below_alloc | apply pw_below_drewN | apply below_drew1 | refine below_set ?_ GE356.out) | exact HB.out)⟩
    ·rw [if_neg c7] at H
     exact absurd H (by simp)
   ·rw [if_neg c6] at H
    exact absurd H (by simp)
  ·replace c5 := Bool.eq_false_iff.mpr c5
   subst c5
   have H1 : ((text_Quote.f a0_0).bind fun bt359 => (if bt359.1.size + 1 ≤ 9223372036854775807 then (if (bt359.1 ++ (⟨#[64]⟩ : ByteArray)).size + a0_1.size ≤ 9223372036854775807 then (some ((bt359.1 ++ (⟨#[64]⟩ : ByteArray)) ++ a0_1)) else (none)) else (none))) = some r := by rw [if_neg (show ¬ (false = true) by decide)] at H; exact H
   clear H
   have H := H1
   clear H1
   replace H := Option.bind_eq_some_iff.mp H
   obtain ⟨⟨t359, t360⟩, A140, H⟩ := H
   replace H : (if t359.size + 1 ≤ 9223372036854775807 then (if (t359 ++ (⟨#[64]⟩ : ByteArray)).size + a0_1.size ≤ 9223372036854775807 then (some ((t359 ++ (⟨#[64]⟩ : ByteArray)) ++ a0_1)) else (none)) else (none)) = some r := H
   have A14 := Aside0.mk A140
   clear A140
   by_cases c15 : t359.size + 1 ≤ 9223372036854775807
   ·rw [if_pos c15] at H
    have c15b0 := eq_true c15
    have c15b1 : decide (t359.size + 1 ≤ 9223372036854775807) = true := decide_eq_true c15
    try have c15b2 : (9223372036854775807 < t359.size + 1) = False := eq_false (Nat.not_lt.2 c15)
    by_cases c16 : (t359 ++ (⟨#[64]⟩ : ByteArray)).size + a0_1.size ≤ 9223372036854775807
    ·rw [if_pos c16] at H
     have c16b0 := eq_true c16
     have c16b1 : decide ((t359 ++ (⟨#[64]⟩ : ByteArray)).size + a0_1.size ≤ 9223372036854775807) = true := decide_eq_true c16
     try have c16b2 : (9223372036854775807 < (t359 ++ (⟨#[64]⟩ : ByteArray)).size + a0_1.size) = False := eq_false (Nat.not_lt.2 c16)
     try (have c16b2y := c16b2; rw [ByteArray.size_append] at c16b2y)
     try have c16b2z : (9223372036854775807 < t359.size + 1 + a0_1.size) = False := eq_false (fun h_ => by have g_ := c16; simp only [ByteArray.size_append, show (⟨#[64]⟩ : ByteArray).size = 1 from rfl] at g_; omega)
     obtain rfl := Option.some.inj H
     go_enter Tryz.func59, Tryz.ntmps59
     go_wp2_with (first | ((with_reducible refine gate_dst (N := 1) rfl ?_); refine box_event ?hg (N := 1) ?hd (cs := #[.string a0_0, .string a0_1]) (t := 50) ?hr ?_; (case hd => rfl); (case hg => rfl); (case hr => first | (go_simp; done) | (go_simp; rfl)); intro gb356 hg w17 hbox hb; have n0_ := Aside0.mk (below_step bl hb); have n1_ := Aside0.mk (hbox); have n2_ := Aside0.mk ((by rw [hg]; exact (below_size bl) : w.heap.size ≤ gb356)); have n3_ := Aside0.mk ((by rw [hg]; exact (below_size bl) : w.heap.size ≤ gb356)); clear HB; have HB := n0_; have BK356 := n1_; have GW356 := n2_; have GE356 := n3_; clear n0_ n1_ n2_ n3_; clear hb hbox hg; have hcz18_0 : w17.cell? ⟨gb356, 0, none⟩ = some (.string a0_0) := (blk_cell BK356.out 0).trans rfl; have hcz18_1 : w17.cell? ⟨gb356, 1, none⟩ = some (.string a0_1) := (blk_cell BK356.out 1).trans rfl; have hfz18_0 := blk_frozen BK356.out 0; have hfz18_1 := blk_frozen BK356.out 1) | ((with_reducible refine gate_callee (f := 32) rfl ?_); refine goesL_ (some 5) rfl rfl Tryz.func32 (by kernel_rfl) rfl #[.agg #[.string a0_0, .string a0_1]] rfl ml ?_; (with_reducible refine (addr_May.calls a0_0 a0_1 true _ ?side1 A2.out).mono ?_); (case side1 => exact Glob.below HG.out bl); rintro e w19 ⟨rfl, hb⟩; refine ⟨_, rfl, ?_⟩; have n0_ := Aside0.mk (kb BK356.out hb); have n1_ := Aside0.mk (below_step bl hb); clear BK356; clear HB; have BK356 := n0_; have HB := n1_; clear n0_ n1_; (try clear hb); (try clear hb2); (try clear hk); (try clear hi); have hcz20_0 : w19.cell? ⟨gb356, 0, none⟩ = some (.string a0_0) := (blk_cell BK356.out 0).trans rfl; have hcz20_1 : w19.cell? ⟨gb356, 1, none⟩ = some (.string a0_1) := (blk_cell BK356.out 1).trans rfl; have hfz20_0 := blk_frozen BK356.out 0; have hfz20_1 := blk_frozen BK356.out 1) | ((with_reducible refine gate_callee (f := 103) rfl ?_); refine goesL_ (some 10) rfl rfl Tryz.func103 (by kernel_rfl) rfl #[.string a0_0] rfl ml ?_; (with_reducible refine (text_DotAtom.calls k a0_0 false _ ?side1 A4.out).mono ?_); (case side1 => exact Glob.below HG.out bl); rintro e w21 ⟨rfl, hb⟩; refine ⟨_, rfl, ?_⟩; have n0_ := Aside0.mk (kb BK356.out hb); have n1_ := Aside0.mk (below_step bl hb); clear BK356; clear HB; have BK356 := n0_; have HB := n1_; clear n0_ n1_; (try clear hb); (try clear hb2); (try clear hk); (try clear hi)) | ((with_reducible refine gate_callee (f := 104) rfl ?_); refine goesL_ (some 14) rfl rfl Tryz.func104 (by kernel_rfl) rfl #[.string a0_0] rfl ml ?_; (with_reducible refine (text_Quote.calls a0_0 t359 t360 _ A14.out).mono ?_); rintro e w22 ⟨rfl, hb⟩; refine ⟨_, rfl, ?_⟩; have n0_ := Aside0.mk (kb BK356.out hb); have n1_ := Aside0.mk (below_step bl hb); clear BK356; clear HB; have BK356 := n0_; have HB := n1_; clear n0_ n1_; (try clear hb); (try clear hb2); (try clear hk); (try clear hi); have hcz23_0 : w22.cell? ⟨gb356, 0, none⟩ = some (.string a0_0) := (blk_cell BK356.out 0).trans rfl; have hcz23_1 : w22.cell? ⟨gb356, 1, none⟩ = some (.string a0_1) := (blk_cell BK356.out 1).trans rfl; have hfz23_0 := blk_frozen BK356.out 0; have hfz23_1 := blk_frozen BK356.out 1))
     go_ret
     exact ⟨by first | rfl | (simp [bneNil]; done) | (simp [errW_none, errW_some] <;> rfl) | (simp [*, errW_none, errW_some] <;> rfl), by repeat (first | (with_reducible first | exact HB.out | apply below_alloc | apply pw_below_drewN | apply below_drew1 | refine below_set ?_ GE356.out) | exact HB.out)⟩
    ·rw [if_neg c16] at H
     exact absurd H (by simp)
   ·rw [if_neg c15] at H
    exact absurd H (by simp)
 ·replace c3 := Bool.eq_false_iff.mpr c3
  subst c3
  have H1 : (some (⟨#[]⟩ : ByteArray)) = some r := by rw [if_neg (show ¬ (false = true) by decide)] at H; exact H
  clear H
  have H := H1
  clear H1
  obtain rfl := Option.some.inj H
  go_enter Tryz.func59, Tryz.ntmps59
  go_wp2_with (first | ((with_reducible refine gate_dst (N := 1) rfl ?_); refine box_event ?hg (N := 1) ?hd (cs := #[.string a0_0, .string a0_1]) (t := 50) ?hr ?_; (case hd => rfl); (case hg => rfl); (case hr => first | (go_simp; done) | (go_simp; rfl)); intro gb356 hg w24 hbox hb; have n0_ := Aside0.mk (below_step bl hb); have n1_ := Aside0.mk (hbox); have n2_ := Aside0.mk ((by rw [hg]; exact (below_size bl) : w.heap.size ≤ gb356)); have n3_ := Aside0.mk ((by rw [hg]; exact (below_size bl) : w.heap.size ≤ gb356)); clear HB; have HB := n0_; have BK356 := n1_; have GW356 := n2_; have GE356 := n3_; clear n0_ n1_ n2_ n3_; clear hb hbox hg; have hcz25_0 : w24.cell? ⟨gb356, 0, none⟩ = some (.string a0_0) := (blk_cell BK356.out 0).trans rfl; have hcz25_1 : w24.cell? ⟨gb356, 1, none⟩ = some (.string a0_1) := (blk_cell BK356.out 1).trans rfl; have hfz25_0 := blk_frozen BK356.out 0; have hfz25_1 := blk_frozen BK356.out 1) | ((with_reducible refine gate_callee (f := 32) rfl ?_); refine goesL_ (some 5) rfl rfl Tryz.func32 (by kernel_rfl) rfl #[.agg #[.string a0_0, .string a0_1]] rfl ml ?_; (with_reducible refine (addr_May.calls a0_0 a0_1 false _ ?side1 A2.out).mono ?_); (case side1 => exact Glob.below HG.out bl); rintro e w26 ⟨rfl, hb⟩; refine ⟨_, rfl, ?_⟩; have n0_ := Aside0.mk (kb BK356.out hb); have n1_ := Aside0.mk (below_step bl hb); clear BK356; clear HB; have BK356 := n0_; have HB := n1_; clear n0_ n1_; (try clear hb); (try clear hb2); (try clear hk); (try clear hi)))
  go_ret
  exact ⟨by first | rfl | (simp [bneNil]; done) | (simp [errW_none, errW_some] <;> rfl) | (simp [*, errW_none, errW_some] <;> rfl), by repeat (first | (with_reducible first | exact HB.out | apply below_alloc | apply pw_below_drewN | apply below_drew1 | refine below_set ?_ GE356.out) | exact HB.out)⟩

end Go.Proofs.YtacjnapgdikhbaaGreatDoor.Q
end
