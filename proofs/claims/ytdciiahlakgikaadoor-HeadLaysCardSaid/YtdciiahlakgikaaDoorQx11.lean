/- Walks of functions. -/
import Derived.Test.YtdciiahlakgikaaDoorQx0
import Derived.Test.YtdciiahlakgikaaDoorQx5
import Derived.Test.YtdciiahlakgikaaDoorQx7
section
namespace Go.Proofs.YtdciiahlakgikaaDoor.Q
open Go.RowKit Go.Proofs.YtdciiahlakgikaaDoorW.PrintWords Go.Proofs.YtdciiahlakgikaaDoorW.PrintLast Go.Proofs.YtdciiahlakgikaaDoorW.PrintMore
attribute [local go_sem] max2_int min2_int max_two min_two max_three min_three max_four min_four   -- for this text's walks alone
set_option linter.unusedVariables false
set_option linter.unusedSimpArgs false

/-! ### head_Message_Ahead: function 31 -/
def head_Message_Ahead.f (k : Nat) (l0_0 : List (S41)) (a0_1 : ByteArray) (a0_2 : Bool) (a1 : ByteArray) (a2 : ByteArray) : Option ((List (S41)) × ByteArray × Bool × Int) := (head_Lay.f k a1 a2).bind fun bt246 => (if bt246.2.2.2 = 0 then ((some (([(⟨bt246.1, bt246.2.1, bt246.2.2.1⟩ : S41)] : List (S41)) : List (S41))).bind fun y251 => (if y251.length + l0_0.length < 2932031007402 then ((head_Message_with.f l0_0 a0_1 a0_2 (y251 ++ l0_0)).bind fun bt257 => (some (bt257.1, bt257.2.1, bt257.2.2.1, bt257.2.2.2))) else (none))) else (some (([] : List (S41)), (⟨#[]⟩ : ByteArray), false, bt246.2.2.2)))
theorem head_Message_Ahead.mono : ∀ a0 a1 a2 a3 a4 k, LeO (head_Message_Ahead.f k a0 a1 a2 a3 a4) (head_Message_Ahead.f (k + 1) a0 a1 a2 a3 a4) := by
 intro a0 a1 a2 a3 a4 k
 unfold head_Message_Ahead.f
 repeat' first
   | (with_reducible exact head_Lay.mono _ _ _)
   | (with_reducible exact LeO.refl _)
   | (with_reducible exact LeO.none _)
   | (with_reducible refine LeO.ite ?_ ?_)
   | (with_reducible refine LeO.bind ?_ (fun _ => ?_))
   | exact head_Lay.mono _ _ _
   | exact LeO.none _
   | refine LeO.ite ?_ ?_
   | refine LeO.bind ?_ (fun _ => ?_)
def head_Message_Ahead.T4 : Bool × List (List Nat × List Nat) := (true, [([], []), ([], []), ([1], [1]), ([], []), ([3], [3]), ([2, 4], [2, 4]), ([0, 5, 5], [0, 5]), ([6], [6]), ([6], [6]), ([7, 6, 0, 1, 2, 3, 4, 5, 6, 7, 8], [7]), ([8, 9, 0, 1, 2, 3, 4, 5, 6, 7, 8, 9], [8])])
def head_Message_Ahead.B4 : List Nat := [0, 0, 2, 0, 8, 30, 63, 127, 127, 511, 1023]
theorem head_Message_Ahead.tab4 : rtab .any (opsOf Tryd.f31 4) = head_Message_Ahead.T4 := by kernel_rfl
theorem head_Message_Ahead.bits4 : waitsOk head_Message_Ahead.T4.2 head_Message_Ahead.B4 = true := by kernel_rfl
set_option maxHeartbeats 8000000 in
set_option maxRecDepth 100000 in
theorem head_Message_Ahead.calls (k : Nat) (A0_0 : Option Addr) (c0_0 : Nat) (l0_0 : List (S41)) (a0_1 : ByteArray) (a0_2 : Bool) (a1 : ByteArray) (a2 : ByteArray) (r1 : List (S41)) (r2 : ByteArray) (r3 : Bool) (r4 : Int) (w : World) (hr0_0 : Kd.C k41 w A0_0 l0_0.length l0_0) (hc0_0 : l0_0.length ≤ c0_0) (hG : Glob w) (h : head_Message_Ahead.f k l0_0 a0_1 a0_2 a1 a2 = some (r1, r2, r3, r4)) :
  Calls Tryd.prog 31 #[.agg #[.slice A0_0 l0_0.length c0_0, .string a0_1, .bool a0_2], .string a1, .string a2] w fun e w' => ∃ v0_ : Value, e = .returned (.tuple #[.agg #[v0_, .string r2, .bool r3], .int .i64 r4]) ∧ Kd.R k41 41 w' w.heap.size (fun _ => True) v0_ r1 ∧ Below w.heap.size w w' := by
 have hu24 := Tryd.underlying24
 have hu41 := Tryd.underlying41
 have HR0_0 := Aside0.mk hr0_0
 have HC0_0 := Aside0.mk hc0_0
 clear hr0_0 hc0_0
 have HB := Aside0.mk (Below.refl w.heap.size w)
 have HG := Aside0.mk hG
 clear hG
 have H : ((head_Lay.f k a1 a2).bind fun bt246 => (if bt246.2.2.2 = 0 then ((some (([(⟨bt246.1, bt246.2.1, bt246.2.2.1⟩ : S41)] : List (S41)) : List (S41))).bind fun y251 => (if y251.length + l0_0.length < 2932031007402 then ((head_Message_with.f l0_0 a0_1 a0_2 (y251 ++ l0_0)).bind fun bt257 => (some (bt257.1, bt257.2.1, bt257.2.2.1, bt257.2.2.2))) else (none))) else (some (([] : List (S41)), (⟨#[]⟩ : ByteArray), false, bt246.2.2.2)))) = some (r1, r2, r3, r4) := h
 clear h
 replace H := Option.bind_eq_some_iff.mp H
 obtain ⟨⟨t246, t247, t248, t249⟩, A40, H⟩ := H
 replace H : (if t249 = 0 then ((some (([(⟨t246, t247, t248⟩ : S41)] : List (S41)) : List (S41))).bind fun y251 => (if y251.length + l0_0.length < 2932031007402 then ((head_Message_with.f l0_0 a0_1 a0_2 (y251 ++ l0_0)).bind fun bt257 => (some (bt257.1, bt257.2.1, bt257.2.2.1, bt257.2.2.2))) else (none))) else (some (([] : List (S41)), (⟨#[]⟩ : ByteArray), false, t249))) = some (r1, r2, r3, r4) := H
 have A4 := Aside0.mk A40
 clear A40
 by_cases c5 : t249 = 0
 ·rw [if_pos c5] at H
  have c5b0 : (t249 == 0) = true := beq_iff_eq.mpr c5
  have c5b1 : (t249 != 0) = false := bne_eq_false_iff_eq.mpr c5
  clear c5
  obtain ⟨y251, hy251⟩ : ∃ y_ : List (S41), y_ = (([(⟨t246, t247, t248⟩ : S41)] : List (S41))) := ⟨_, rfl⟩
  replace H : (if y251.length + l0_0.length < 2932031007402 then ((head_Message_with.f l0_0 a0_1 a0_2 (y251 ++ l0_0)).bind fun bt257 => (some (bt257.1, bt257.2.1, bt257.2.2.1, bt257.2.2.2))) else (none)) = some (r1, r2, r3, r4) := by first | (rw [hy251]; with_reducible exact H) | (have H2_ := (Option.bind_some _ _).symm.trans H; rw [hy251]; with_reducible exact H2_) | (have H2_ := (Option.bind_some _ _).symm.trans H; with_reducible exact H2_) | with_reducible exact H | (rw [hy251]; exact H) | exact H
  have Ny251 := Aside0.mk hy251
  clear hy251
  by_cases c6 : y251.length + l0_0.length < 2932031007402
  ·rw [if_pos c6] at H
   have LMc6 := Aside0.mk c6
   clear c6
   obtain ⟨y254, hy254⟩ : ∃ y_ : List (S41), y_ = (y251 ++ l0_0) := ⟨_, rfl⟩
   replace H : ((head_Message_with.f l0_0 a0_1 a0_2 y254).bind fun bt257 => (some (bt257.1, bt257.2.1, bt257.2.2.1, bt257.2.2.2))) = some (r1, r2, r3, r4) := by first | (rw [hy254]; with_reducible exact H) | (have H2_ := (Option.bind_some _ _).symm.trans H; rw [hy254]; with_reducible exact H2_) | (have H2_ := (Option.bind_some _ _).symm.trans H; with_reducible exact H2_) | with_reducible exact H | (rw [hy254]; exact H) | exact H
   have Ny254 := Aside0.mk hy254
   clear hy254
   replace H := Option.bind_eq_some_iff.mp H
   obtain ⟨⟨t257, t260, t261, t262⟩, A70, H⟩ := H
   replace H : (some (t257, t260, t261, t262)) = some (r1, r2, r3, r4) := H
   have A7 := Aside0.mk A70
   clear A70
   simp only [Option.some.injEq, Prod.mk.injEq] at H
   obtain ⟨rfl, rfl, rfl, rfl⟩ := H
   go_enter Tryd.func31, Tryd.ntmps31
   try go_wp2_with (first | ((with_reducible refine gate_dst (N := 3) rfl ?_); refine box_event ?hg (N := 3) ?hd (cs := #[.slice A0_0 l0_0.length c0_0, .string a0_1, .bool a0_2]) (t := 24) ?hr ?_; (case hd => rfl); (case hg => rfl); (case hr => first | (go_simp; done) | (go_simp; rfl)); intro gb244 hg w8 hbox hb; have n0_ := Aside0.mk (below_step bl hb); have n1_ := Aside0.mk (hbox); have n2_ := Aside0.mk ((by rw [hg]; exact (below_size bl) : w.heap.size ≤ gb244)); have n3_ := Aside0.mk ((by rw [hg]; exact (below_size bl) : w.heap.size ≤ gb244)); clear HB; have HB := n0_; have BK244 := n1_; have GW244 := n2_; have GE244 := n3_; clear n0_ n1_ n2_ n3_; clear hb hbox hg) | ((with_reducible refine gate_dst (N := 6) rfl ?_); refine box_event ?hg (N := 6) ?hd (cs := #[.slice none 0 0, .string (⟨#[]⟩ : ByteArray), .bool false]) (t := 24) ?hr ?_; (case hd => rfl); (case hg => rfl); (case hr => first | (go_simp; done) | (go_simp; rfl)); intro gb245 hg w9 hbox hb; have n0_ := Aside0.mk (kb BK244.out hb); have n1_ := Aside0.mk (below_step bl hb); have n2_ := Aside0.mk (hbox); have n3_ := Aside0.mk ((by rw [hg]; exact (below_size bl) : w.heap.size ≤ gb245)); have n4_ := Aside0.mk ((by rw [hg]; exact (below_size bl) : w.heap.size ≤ gb245)); have n5_ := Aside0.mk ((by rw [hg]; exact Nat.ne_of_lt (blk_lt (bk BK244.out)) : gb244 ≠ gb245)); have n6_ := Aside0.mk ((by rw [hg]; exact Nat.ne_of_gt (blk_lt (bk BK244.out)) : gb245 ≠ gb244)); clear BK244; clear HB; have BK244 := n0_; have HB := n1_; have BK245 := n2_; have GW245 := n3_; have GE245 := n4_; have NB244_245 := n5_; have NB245_244 := n6_; clear n0_ n1_ n2_ n3_ n4_ n5_ n6_; clear hb hbox hg) | ((with_reducible refine gate_callee (f := 14) rfl ?_); refine goesL_ (some 13) rfl rfl Tryd.func14 (by kernel_rfl) rfl #[.string a1, .string a2] rfl ml ?_; (with_reducible refine (head_Lay.calls k a1 a2 t246 t247 t248 t249 _ ?side1 A4.out).mono ?_); (case side1 => exact Glob.below HG.out bl); rintro e w10 ⟨rfl, hb⟩; refine ⟨_, rfl, ?_⟩; have n0_ := Aside0.mk (kb BK244.out hb); have n1_ := Aside0.mk (kb BK245.out hb); have n2_ := Aside0.mk (below_step bl hb); clear BK244; clear BK245; clear HB; have BK244 := n0_; have BK245 := n1_; have HB := n2_; clear n0_ n1_ n2_; (try clear hb); (try clear hb2); (try clear hk); (try clear hi)) | ((with_reducible refine gate_dst (N := 8) rfl ?_); refine box_event ?hg (N := 8) ?hd (cs := #[.string (⟨#[]⟩ : ByteArray), .string (⟨#[]⟩ : ByteArray), .string (⟨#[]⟩ : ByteArray)]) (t := 41) ?hr ?_; (case hd => rfl); (case hg => rfl); (case hr => first | (go_simp; done) | (go_simp; rfl)); intro gb250 hg w11 hbox hb; have n0_ := Aside0.mk (kb BK244.out hb); have n1_ := Aside0.mk (kb BK245.out hb); have n2_ := Aside0.mk (below_step bl hb); have n3_ := Aside0.mk (hbox); have n4_ := Aside0.mk ((by rw [hg]; exact (below_size bl) : w.heap.size ≤ gb250)); have n5_ := Aside0.mk ((by rw [hg]; exact (below_size bl) : w.heap.size ≤ gb250)); have n6_ := Aside0.mk ((by rw [hg]; exact Nat.ne_of_lt (blk_lt (bk BK244.out)) : gb244 ≠ gb250)); have n7_ := Aside0.mk ((by rw [hg]; exact Nat.ne_of_gt (blk_lt (bk BK244.out)) : gb250 ≠ gb244)); have n8_ := Aside0.mk ((by rw [hg]; exact Nat.ne_of_lt (blk_lt (bk BK245.out)) : gb245 ≠ gb250)); have n9_ := Aside0.mk ((by rw [hg]; exact Nat.ne_of_gt (blk_lt (bk BK245.out)) : gb250 ≠ gb245)); clear BK244; clear BK245; clear HB; have BK244 := n0_; have BK245 := n1_; have HB := n2_; have BK250 := n3_; have GW250 := n4_; have GE250 := n5_; have NB244_250 := n6_; have NB250_244 := n7_; have NB245_250 := n8_; have NB250_245 := n9_; clear n0_ n1_ n2_ n3_ n4_ n5_ n6_ n7_ n8_ n9_; clear hb hbox hg; have hnb12 := NB250_244.out; have hnc12 := NB244_250.out; have hnb13 := NB250_245.out; have hnc13 := NB245_250.out; have hcz14_0 : w11.cell? ⟨gb250, 0, none⟩ = some (.string (⟨#[]⟩ : ByteArray)) := (blk_cell BK250.out 0).trans rfl; have hcz14_1 : w11.cell? ⟨gb250, 1, none⟩ = some (.string (⟨#[]⟩ : ByteArray)) := (blk_cell BK250.out 1).trans rfl; have hcz14_2 : w11.cell? ⟨gb250, 2, none⟩ = some (.string (⟨#[]⟩ : ByteArray)) := (blk_cell BK250.out 2).trans rfl; have hfz14_0 := blk_frozen BK250.out 0; have hfz14_1 := blk_frozen BK250.out 1; have hfz14_2 := blk_frozen BK250.out 2))
   have n0_ : Aside0 ((((w11.setCell ⟨gb250, 0, none⟩ (.string t246)).setCell ⟨gb250, 1, none⟩ (.string t247)).setCell ⟨gb250, 2, none⟩ (.string t248)).heap[gb244]? = some (.cells #[.slice A0_0 l0_0.length c0_0, .string a0_1, .bool a0_2] 24 (0, 0))) := ⟨by (with_reducible repeat (first | refine blk_drewN ?_ _ | refine blk_drew ?_ | refine blk_alloc ?_ _)); refine blk_far ?_ NB244_250.out _; (with_reducible repeat (first | refine blk_drewN ?_ _ | refine blk_drew ?_ | refine blk_alloc ?_ _)); refine blk_far ?_ NB244_250.out _; (with_reducible repeat (first | refine blk_drewN ?_ _ | refine blk_drew ?_ | refine blk_alloc ?_ _)); refine blk_far ?_ NB244_250.out _; (with_reducible repeat (first | refine blk_drewN ?_ _ | refine blk_drew ?_ | refine blk_alloc ?_ _)); exact BK244.out⟩
   have n1_ : Aside0 ((((w11.setCell ⟨gb250, 0, none⟩ (.string t246)).setCell ⟨gb250, 1, none⟩ (.string t247)).setCell ⟨gb250, 2, none⟩ (.string t248)).heap[gb245]? = some (.cells #[.slice none 0 0, .string (⟨#[]⟩ : ByteArray), .bool false] 24 (0, 0))) := ⟨by (with_reducible repeat (first | refine blk_drewN ?_ _ | refine blk_drew ?_ | refine blk_alloc ?_ _)); refine blk_far ?_ NB245_250.out _; (with_reducible repeat (first | refine blk_drewN ?_ _ | refine blk_drew ?_ | refine blk_alloc ?_ _)); refine blk_far ?_ NB245_250.out _; (with_reducible repeat (first | refine blk_drewN ?_ _ | refine blk_drew ?_ | refine blk_alloc ?_ _)); refine blk_far ?_ NB245_250.out _; (with_reducible repeat (first | refine blk_drewN ?_ _ | refine blk_drew ?_ | refine blk_alloc ?_ _)); exact BK245.out⟩
   have n2_ : Aside0 ((((w11.setCell ⟨gb250, 0, none⟩ (.string t246)).setCell ⟨gb250, 1, none⟩ (.string t247)).setCell ⟨gb250, 2, none⟩ (.string t248)).heap[gb250]? = some (.cells #[.string t246, .string t247, .string t248] 41 (0, 0))) := ⟨by (with_reducible repeat (first | refine blk_drewN ?_ _ | refine blk_drew ?_ | refine blk_alloc ?_ _)); refine blk_put (cs := #[.string t246, .string t247, .string (⟨#[]⟩ : ByteArray)]) ?_ 2 _ rfl; (with_reducible repeat (first | refine blk_drewN ?_ _ | refine blk_drew ?_ | refine blk_alloc ?_ _)); refine blk_put (cs := #[.string t246, .string (⟨#[]⟩ : ByteArray), .string (⟨#[]⟩ : ByteArray)]) ?_ 1 _ rfl; (with_reducible repeat (first | refine blk_drewN ?_ _ | refine blk_drew ?_ | refine blk_alloc ?_ _)); refine blk_put (cs := #[.string (⟨#[]⟩ : ByteArray), .string (⟨#[]⟩ : ByteArray), .string (⟨#[]⟩ : ByteArray)]) ?_ 0 _ rfl; (with_reducible repeat (first | refine blk_drewN ?_ _ | refine blk_drew ?_ | refine blk_alloc ?_ _)); exact BK250.out⟩
   have n3_ : Aside0 (Below w.heap.size w (((w11.setCell ⟨gb250, 0, none⟩ (.string t246)).setCell ⟨gb250, 1, none⟩ (.string t247)).setCell ⟨gb250, 2, none⟩ (.string t248))) := ⟨by repeat (first | (with_reducible first | exact HB.out | apply below_alloc | apply pw_below_drewN | apply below_drew1 | refine below_set ?_ GE244.out | refine below_set ?_ GE245.out | refine below_set ?_ GE250.out) | exact HB.out)⟩
   (try clear BK244)
   (try clear BK245)
   (try clear BK250)
   (try clear HB)
   generalize (((w11.setCell ⟨gb250, 0, none⟩ (.string t246)).setCell ⟨gb250, 1, none⟩ (.string t247)).setCell ⟨gb250, 2, none⟩ (.string t248)) = w15 at n0_ n1_ n2_ n3_ ⊢
   have BK244 := n0_
   have BK245 := n1_
   have BK250 := n2_
   have HB := n3_
   clear n0_ n1_ n2_ n3_
   have n0_ := Aside0.mk (blk_drew BK244.out)
   have n1_ := Aside0.mk (blk_drew BK245.out)
   have n2_ := Aside0.mk (blk_drew BK250.out)
   have n3_ := Aside0.mk (below_drew1 HB.out)
   clear BK244
   clear BK245
   clear BK250
   clear HB
   have BK244 := n0_
   have BK245 := n1_
   have BK250 := n2_
   have HB := n3_
   clear n0_ n1_ n2_ n3_
   refine start_ (n := 11) (S := fun w' => w'.cell? ⟨gb244, 0, none⟩ = some (.slice A0_0 l0_0.length c0_0) ∧ w'.cell? ⟨gb244, 1, none⟩ = some (.string a0_1) ∧ w'.cell? ⟨gb244, 2, none⟩ = some (.bool a0_2) ∧ w'.cell? ⟨gb250, 0, none⟩ = some (.string t246) ∧ w'.cell? ⟨gb250, 1, none⟩ = some (.string t247) ∧ w'.cell? ⟨gb250, 2, none⟩ = some (.string t248)) (ds := []) #[false, false, false, false, false, false, false, false, false, false, false] (by kernel_rfl) rfl rfl ⟨(blk_cell BK244.out 0).trans rfl, (blk_cell BK244.out 1).trans rfl, (blk_cell BK244.out 2).trans rfl, (blk_cell BK250.out 0).trans rfl, (blk_cell BK250.out 1).trans rfl, (blk_cell BK250.out 2).trans rfl⟩ (fun hHeld => ?_); refine with_tabW head_Message_Ahead.tab4 head_Message_Ahead.bits4 (fun HT_ HW_ => ?_)
   generalize w15.drew = w16 at BK244 BK245 BK250 HB hHeld ⊢
   refine pure_ (i := 3) (N := some 23) (v := ?_) (a' := ?_) #[false, false, false, true, false, false, false, false, false, false, false] rfl rfl (any_of HT_.out (by kernel_rfl)) (fun _ _ _ h => h) (Or.inl ⟨by rfl, ?_⟩) ?_ ?_
   rotate_left
   ·intro w'
    go_simp
    with_reducible rfl
   rotate_left
   ·simp only [Act.put, List.setIfInBounds_toArray, List.set_cons_zero, List.set_cons_succ, i64_w, i32_w]
    rfl
   refine take_ (i := 0) (N := some 20) (v := ?_) (a' := ?_) #[true, false, false, true, false, false, false, false, false, false, false] rfl rfl (take_ofW HT_.out HW_.out (by kernel_rfl)) (fun _ _ _ h => h) (Or.inl ⟨by rfl, ?_⟩) hHeld ?_ ?_
   rotate_left
   ·rintro w' ⟨s0, s1, s2, s3, s4, s5⟩
    go_simp
    with_reducible rfl
   rotate_left
   ·simp only [Act.put, List.setIfInBounds_toArray, List.set_cons_zero, List.set_cons_succ, i64_w, i32_w]
    rfl
   refine take_ (i := 1) (N := some 21) (v := ?_) (a' := ?_) #[true, true, false, true, false, false, false, false, false, false, false] rfl rfl (take_ofW HT_.out HW_.out (by kernel_rfl)) (fun _ _ _ h => h) (Or.inl ⟨by rfl, ?_⟩) hHeld ?_ ?_
   rotate_left
   ·rintro w' ⟨s0, s1, s2, s3, s4, s5⟩
    go_simp
    with_reducible rfl
   rotate_left
   ·simp only [Act.put, List.setIfInBounds_toArray, List.set_cons_zero, List.set_cons_succ, i64_w, i32_w]
    rfl
   refine take_ (i := 4) (N := some 24) (v := ?_) (a' := ?_) #[true, true, false, true, true, false, false, false, false, false, false] rfl rfl (take_ofW HT_.out HW_.out (by kernel_rfl)) (fun _ _ _ h => h) (Or.inl ⟨by rfl, ?_⟩) hHeld ?_ ?_
   rotate_left
   ·rintro w' ⟨s0, s1, s2, s3, s4, s5⟩
    go_simp
    with_reducible rfl
   rotate_left
   ·simp only [Act.put, List.setIfInBounds_toArray, List.set_cons_zero, List.set_cons_succ, i64_w, i32_w]
    rfl
   refine one_ (i := 2) (N := some 22) #[true, true, true, true, true, false, false, false, false, false, false] rfl rfl (one_of HT_.out (by kernel_rfl)) (by decide) (fun K hK => ?_)
   refine Kd.R_lit_step k41 _ 41 ?hg (N := 22) ?hd (xs := ([(⟨t246, t247, t248⟩ : S41)] : List (S41))) (inner := [.string t246, .string t247, .string t248]) (ok := fun _ => True) (okp := fun _ => True) ?hr ?hp (fun _ hk => hk) trivial (Below.refl _ _) (Nat.le_refl _) (by simp) ?_; (case hd => rfl); (case hg => rfl); (case hr => first | (go_simp; done) | (go_simp; rfl)); (case hp => exact (Reps.c3 (show Kd.M k41 _ _ _ (⟨t246, t247, t248⟩ : S41) [.string t246, .string t247, .string t248] from (k41_mkM _ _ _ (⟨t246, t247, t248⟩ : S41) )) (Reps.none _ _)))
   intro v252 w17 ho18 hb hg_ hnew_
   clear hg_ hnew_
   (first | rw [← Ny251.out] at ho18 | (simp only [Int.reduceToNat] at ho18; rw [← Ny251.out] at ho18))
   have n0_ := Aside0.mk (Kd.R_lower (Kd.R_newB ho18 (g := gb250) (o := .cells #[.string t246, .string t247, .string t248] 41 (0, 0)) (bk BK250.out)) (below_size bl))
   have n1_ := Aside0.mk (kb BK244.out hb)
   have n2_ := Aside0.mk (kb BK245.out hb)
   have n3_ := Aside0.mk (kb BK250.out hb)
   have n4_ := Aside0.mk (below_step bl hb)
   clear BK244
   clear BK245
   clear BK250
   clear HB
   have HO253 := n0_
   have BK244 := n1_
   have BK245 := n2_
   have BK250 := n3_
   have HB := n4_
   clear n0_ n1_ n2_ n3_ n4_
   clear hb ho18
   refine hK.out _ _ ⟨(blk_cell BK244.out 0).trans rfl, (blk_cell BK244.out 1).trans rfl, (blk_cell BK244.out 2).trans rfl, (blk_cell BK250.out 0).trans rfl, (blk_cell BK250.out 1).trans rfl, (blk_cell BK250.out 2).trans rfl⟩ (fun hHeld => ?_)
   clear hK K
   refine norm_ (a' := ?_) ?_ ?_
   rotate_left
   ·show Act.put _ (some 22) _ = _
    simp only [Act.put, List.setIfInBounds_toArray, List.set_cons_zero, List.set_cons_succ, i64_w, i32_w]
    rfl
   refine one_ (i := 5) (N := some 25) #[true, true, true, true, true, true, false, false, false, false, false] rfl rfl (one_of HT_.out (by kernel_rfl)) (by decide) (fun K hK => ?_)
   refine Kd.R_append_rows_step k41 (w0 := w) w.heap.size (by rfl) (.tmp 22) (.tmp 24) 22 41 (.agg #[(.string ⟨#[]⟩), (.string ⟨#[]⟩), (.string ⟨#[]⟩)]) 48 rfl Tryd.underlying22 info41 rfl (by decide) (by omega) v252 y251 l0_0 _ _ _ (fun k_ => k_ ≠ gb250) (fun _ => False) rfl rfl ?aO ?aR (fun _ _ h => h) (fun _ h => h.elim) ?aF ?aB ?aS ?aL ?_
   (case aR => repeat (first | exact (Kd.C_below HR0_0.out HB.out) | (with_reducible refine Kd.C_alloc ?_ _) | (with_reducible refine Kd.C_drewN ?_ _) | (with_reducible refine Kd.C_drew ?_)))
   (case aB => exact bl)
   (case aF => exact (fun k_ hk => Kd.freshB (g := gb250) (o := .cells #[.string t246, .string t247, .string t248] 41 (0, 0)) (bk BK250.out) k_ hk))
   (case aO => exact (by (with_reducible repeat (first | apply Kd.R_alloc | apply Kd.R_drewN | apply Kd.R_drew)); exact Kd.R_mono HO253.out (fun _ hk => hk.2)))
   (case aS => exact (below_size bl))
   (case aL => have := LMc6.out; omega)
   intro v255 w19 ho hb hg hat
   rw [← Ny254.out] at ho
   have n0_ := Aside0.mk (blk_grown (g := gb244) (o := .cells #[.slice A0_0 l0_0.length c0_0, .string a0_1, .bool a0_2] 24 (0, 0)) (bk BK244.out) hg (Kd.R_ne HO253.out BK244.out (by decide)))
   have n1_ := Aside0.mk (blk_grown (g := gb245) (o := .cells #[.slice none 0 0, .string (⟨#[]⟩ : ByteArray), .bool false] 24 (0, 0)) (bk BK245.out) hg (Kd.R_ne HO253.out BK245.out (by decide)))
   have n2_ := Aside0.mk (blk_grown (g := gb250) (o := .cells #[.string t246, .string t247, .string t248] 41 (0, 0)) (bk BK250.out) hg (Kd.R_away HO253.out (fun _ hk => hk.2)))
   have n3_ := Aside0.mk (hb)
   have n4_ := Aside0.mk (ho)
   clear BK244
   clear BK245
   clear BK250
   clear HB
   clear HO253
   have BK244 := n0_
   have BK245 := n1_
   have BK250 := n2_
   have HB := n3_
   have HO256 := n4_
   clear n0_ n1_ n2_ n3_ n4_
   clear ho hb hg hat
   obtain ⟨Ao20, co20, eo20⟩ := Kd.R_slice HO256.out
   (first | subst eo20 | (injection eo20 with f1_ f2_ f3_; have f4_ := f1_.symm; have f5_ := f3_.symm; clear f1_ f2_ f3_; subst f4_; subst f5_))
   refine hK.out _ _ ⟨(blk_cell BK244.out 0).trans rfl, (blk_cell BK244.out 1).trans rfl, (blk_cell BK244.out 2).trans rfl, (blk_cell BK250.out 0).trans rfl, (blk_cell BK250.out 1).trans rfl, (blk_cell BK250.out 2).trans rfl⟩ (fun hHeld => ?_)
   clear hK K
   refine norm_ (a' := ?_) ?_ ?_
   rotate_left
   ·show Act.put _ (some 25) _ = _
    simp only [Act.put, List.setIfInBounds_toArray, List.set_cons_zero, List.set_cons_succ, i64_w, i32_w]
    rfl
   refine one_ (i := 6) (N := some 26) #[true, true, true, true, true, true, true, false, false, false, false] rfl rfl (one_of HT_.out (by kernel_rfl)) (by decide) (fun K hK => ?_)
   refine goes_ Tryd.func68 (by kernel_rfl) rfl #[.agg #[.slice A0_0 l0_0.length c0_0, .string a0_1, .bool a0_2], .slice Ao20 y254.length co20] (by rfl) rfl rfl ml ?_
   with_reducible refine (head_Message_with.calls _ _ l0_0 a0_1 a0_2 (fun k_ => some k_ = (.slice Ao20 y254.length co20 : Value).ownBlock) (.slice Ao20 y254.length co20) y254 t257 t260 t261 t262 w _ ?side1 ?side2 ?side3 ?side4 A7.out).mono ?_
   (case side1 => repeat (first | (with_reducible first | exact HB.out | apply below_alloc | apply pw_below_drewN | apply below_drew1 | refine below_set ?_ GE244.out | refine below_set ?_ GE245.out | refine below_set ?_ GE250.out) | exact HB.out))
   (case side2 => exact Kd.C_kept_came k41_heap HR0_0.out bl (fun k_ hs_ => (fun e_ => Kd.R_base HO256.out k_ e_.symm) hs_))
   (case side3 => exact HC0_0.out)
   (case side4 => exact Kd.R_tight rfl HO256.out)
   rintro e w21 ⟨v258, rfl, ho0, hb, hkp⟩
   refine ⟨_, rfl, ?_⟩
   have n0_ := Aside0.mk (blk_kept (bk BK244.out) hkp (fun hs_ => (fun e_ => (Kd.R_ne HO256.out BK244.out (by decide)) e_) hs_))
   have n1_ := Aside0.mk (blk_kept (bk BK245.out) hkp (fun hs_ => (fun e_ => (Kd.R_ne HO256.out BK245.out (by decide)) e_) hs_))
   have n2_ := Aside0.mk (blk_kept (bk BK250.out) hkp (fun hs_ => (fun e_ => (Kd.R_away HO256.out (fun _ hk => hk)) e_) hs_))
   have n3_ := Aside0.mk (Kd.R_mono (ok' := fun k_ => k_ ≠ gb250) ho0 (fun k_ hk_ => Or.elim hk_ (fun hs_ => fun e_ => (Kd.R_away HO256.out (fun _ hk => hk)) (by rw [← e_]; exact hs_)) (fun hn_ => (Kd.freshB (g := gb250) (o := .cells #[.string t246, .string t247, .string t248] 41 (0, 0)) (bk BK250.out) k_ hn_))))
   have n4_ := Aside0.mk (hb)
   clear BK244
   clear BK245
   clear BK250
   clear HB
   clear HO256
   have BK244 := n0_
   have BK245 := n1_
   have BK250 := n2_
   have HO259 := n3_
   have HB := n4_
   clear n0_ n1_ n2_ n3_ n4_
   (try clear hb)
   (try clear hkp)
   (try clear ho0)
   obtain ⟨Ao22, co22, eo22⟩ := Kd.R_slice HO259.out
   (first | subst eo22 | (injection eo22 with f1_ f2_ f3_; have f4_ := f1_.symm; have f5_ := f3_.symm; clear f1_ f2_ f3_; subst f4_; subst f5_))
   refine hK.out _ _ ⟨(blk_cell BK244.out 0).trans rfl, (blk_cell BK244.out 1).trans rfl, (blk_cell BK244.out 2).trans rfl, (blk_cell BK250.out 0).trans rfl, (blk_cell BK250.out 1).trans rfl, (blk_cell BK250.out 2).trans rfl⟩ (fun hHeld => ?_)
   clear hK K
   refine norm_ (a' := ?_) ?_ ?_
   rotate_left
   ·show Act.put _ (some 26) _ = _
    simp only [Act.put, List.setIfInBounds_toArray, List.set_cons_zero, List.set_cons_succ, i64_w, i32_w]
    rfl
   refine pure_ (i := 7) (N := some 27) (v := ?_) (a' := ?_) #[true, true, true, true, true, true, true, true, false, false, false] rfl rfl (any_of HT_.out (by kernel_rfl)) (fun _ _ _ h => h) (Or.inl ⟨by rfl, ?_⟩) ?_ ?_
   rotate_left
   ·intro w'
    go_simp
    with_reducible rfl
   rotate_left
   ·simp only [Act.put, List.setIfInBounds_toArray, List.set_cons_zero, List.set_cons_succ, i64_w, i32_w]
    rfl
   refine pure_ (i := 8) (N := some 28) (v := ?_) (a' := ?_) #[true, true, true, true, true, true, true, true, true, false, false] rfl rfl (any_of HT_.out (by kernel_rfl)) (fun _ _ _ h => h) (Or.inl ⟨by rfl, ?_⟩) ?_ ?_
   rotate_left
   ·intro w'
    go_simp
    with_reducible rfl
   rotate_left
   ·simp only [Act.put, List.setIfInBounds_toArray, List.set_cons_zero, List.set_cons_succ, i64_w, i32_w]
    rfl
   refine one_ (i := 9) (N := none) #[true, true, true, true, true, true, true, true, true, true, false] rfl rfl (one_of HT_.out (by kernel_rfl)) (by decide) (fun K hK => ?_)
   have hs23 : w21.cell? ⟨gb245, 0, none⟩ = some (.slice none 0 0) := (blk_cell BK245.out 0).trans rfl
   have hfs23 := blk_frozen BK245.out 0
   have hns23_0 := NB244_245.out
   have hns23_2 := NB250_245.out
   have hms23_0 := NB245_244.out
   have hms23_2 := NB245_250.out
   have hs24 : w21.cell? ⟨gb245, 1, none⟩ = some (.string (⟨#[]⟩ : ByteArray)) := (blk_cell BK245.out 1).trans rfl
   have hfs24 := blk_frozen BK245.out 1
   have hns24_0 := NB244_245.out
   have hns24_2 := NB250_245.out
   have hms24_0 := NB245_244.out
   have hms24_2 := NB245_250.out
   have hs25 : w21.cell? ⟨gb245, 2, none⟩ = some (.bool false) := (blk_cell BK245.out 2).trans rfl
   have hfs25 := blk_frozen BK245.out 2
   have hns25_0 := NB244_245.out
   have hns25_2 := NB250_245.out
   have hms25_0 := NB245_244.out
   have hms25_2 := NB245_250.out
   refine skip_ (w1 := ?_) (by rfl) rfl ?_ ?_
   rotate_left
   ·go_simp
    rfl
   refine hK.out _ _ ⟨((cell_far (p := ⟨gb245, _, none⟩) NB244_245.out _).trans (((cell_far (p := ⟨gb245, _, none⟩) NB244_245.out _).trans (((cell_far (p := ⟨gb245, _, none⟩) NB244_245.out _).trans (hHeld.1)))))), ((cell_far (p := ⟨gb245, _, none⟩) NB244_245.out _).trans (((cell_far (p := ⟨gb245, _, none⟩) NB244_245.out _).trans (((cell_far (p := ⟨gb245, _, none⟩) NB244_245.out _).trans (hHeld.2.1)))))), ((cell_far (p := ⟨gb245, _, none⟩) NB244_245.out _).trans (((cell_far (p := ⟨gb245, _, none⟩) NB244_245.out _).trans (((cell_far (p := ⟨gb245, _, none⟩) NB244_245.out _).trans (hHeld.2.2.1)))))), ((cell_far (p := ⟨gb245, _, none⟩) NB250_245.out _).trans (((cell_far (p := ⟨gb245, _, none⟩) NB250_245.out _).trans (((cell_far (p := ⟨gb245, _, none⟩) NB250_245.out _).trans (hHeld.2.2.2.1)))))), ((cell_far (p := ⟨gb245, _, none⟩) NB250_245.out _).trans (((cell_far (p := ⟨gb245, _, none⟩) NB250_245.out _).trans (((cell_far (p := ⟨gb245, _, none⟩) NB250_245.out _).trans (hHeld.2.2.2.2.1)))))), ((cell_far (p := ⟨gb245, _, none⟩) NB250_245.out _).trans (((cell_far (p := ⟨gb245, _, none⟩) NB250_245.out _).trans (((cell_far (p := ⟨gb245, _, none⟩) NB250_245.out _).trans (hHeld.2.2.2.2.2))))))⟩ (fun hHeld => ?_)
   clear hK K
   refine pure_ (i := 10) (N := some 7) (v := ?_) (a' := ?_) #[true, true, true, true, true, true, true, true, true, true, true] rfl rfl (any_of HT_.out (by kernel_rfl)) (fun _ _ _ h => h) (Or.inl ⟨by rfl, ?_⟩) ?_ ?_
   rotate_left
   ·intro w'
    go_simp
    with_reducible rfl
   rotate_left
   ·simp only [Act.put, List.setIfInBounds_toArray, List.set_cons_zero, List.set_cons_succ, i64_w, i32_w]
    rfl
   refine done_ (done_of HT_.out (by kernel_rfl)) ?_
   try go_wp2
   refine bodyPost_ret (results_ct rfl _ _ gb245 24 #[.slice Ao22 t257.length co22, .string t260, .bool t261] (0, 0) _ rfl (by (with_reducible repeat (first | refine blk_drewN ?_ _ | refine blk_drew ?_ | refine blk_alloc ?_ _)); refine blk_put (cs := #[.slice Ao22 t257.length co22, .string t260, .bool false]) ?_ 2 _ rfl; (with_reducible repeat (first | refine blk_drewN ?_ _ | refine blk_drew ?_ | refine blk_alloc ?_ _)); refine blk_put (cs := #[.slice Ao22 t257.length co22, .string (⟨#[]⟩ : ByteArray), .bool false]) ?_ 1 _ rfl; (with_reducible repeat (first | refine blk_drewN ?_ _ | refine blk_drew ?_ | refine blk_alloc ?_ _)); refine blk_put (cs := #[.slice none 0 0, .string (⟨#[]⟩ : ByteArray), .bool false]) ?_ 0 _ rfl; (with_reducible repeat (first | refine blk_drewN ?_ _ | refine blk_drew ?_ | refine blk_alloc ?_ _)); exact BK245.out) Tryd.underlying24 rfl (by kernel_rfl)) rfl ?_
   exact ⟨_, by first | rfl | (simp [errW_none, errW_some] <;> rfl) | (simp [*, errW_none, errW_some] <;> rfl), by (with_reducible repeat (first | apply Kd.R_alloc | apply Kd.R_drewN | apply Kd.R_drew)); exact Kd.R_mono (Kd.R_far (p := ⟨gb245, 2, none⟩) (Kd.R_far (p := ⟨gb245, 1, none⟩) (Kd.R_far (p := ⟨gb245, 0, none⟩) (Kd.R_types HO259.out BK245.out (by decide)) (fun _ hk => hk.2) (.slice Ao22 t257.length co22)) (fun _ hk => hk.2) (.string t260)) (fun _ hk => hk.2) (.bool t261)) (fun _ hk => trivial), by repeat (first | (with_reducible first | exact HB.out | apply below_alloc | apply pw_below_drewN | apply below_drew1 | refine below_set ?_ GE244.out | refine below_set ?_ GE245.out | refine below_set ?_ GE250.out) | exact HB.out)⟩
  ·rw [if_neg c6] at H
   exact absurd H (by simp)
 ·rw [if_neg c5] at H
  have c5b0 : (t249 == 0) = false := beq_eq_false_iff_ne.mpr c5
  have c5b1 : (t249 != 0) = true := bne_iff_ne.mpr c5
  simp only [Option.some.injEq, Prod.mk.injEq] at H
  obtain ⟨rfl, rfl, rfl, rfl⟩ := H
  go_enter Tryd.func31, Tryd.ntmps31
  go_wp2_with (first | ((with_reducible refine gate_dst (N := 3) rfl ?_); refine box_event ?hg (N := 3) ?hd (cs := #[.slice A0_0 l0_0.length c0_0, .string a0_1, .bool a0_2]) (t := 24) ?hr ?_; (case hd => rfl); (case hg => rfl); (case hr => first | (go_simp; done) | (go_simp; rfl)); intro gb244 hg w26 hbox hb; have n0_ := Aside0.mk (below_step bl hb); have n1_ := Aside0.mk (hbox); have n2_ := Aside0.mk ((by rw [hg]; exact (below_size bl) : w.heap.size ≤ gb244)); have n3_ := Aside0.mk ((by rw [hg]; exact (below_size bl) : w.heap.size ≤ gb244)); clear HB; have HB := n0_; have BK244 := n1_; have GW244 := n2_; have GE244 := n3_; clear n0_ n1_ n2_ n3_; clear hb hbox hg) | ((with_reducible refine gate_dst (N := 6) rfl ?_); refine box_event ?hg (N := 6) ?hd (cs := #[.slice none 0 0, .string (⟨#[]⟩ : ByteArray), .bool false]) (t := 24) ?hr ?_; (case hd => rfl); (case hg => rfl); (case hr => first | (go_simp; done) | (go_simp; rfl)); intro gb245 hg w27 hbox hb; have n0_ := Aside0.mk (kb BK244.out hb); have n1_ := Aside0.mk (below_step bl hb); have n2_ := Aside0.mk (hbox); have n3_ := Aside0.mk ((by rw [hg]; exact (below_size bl) : w.heap.size ≤ gb245)); have n4_ := Aside0.mk ((by rw [hg]; exact (below_size bl) : w.heap.size ≤ gb245)); have n5_ := Aside0.mk ((by rw [hg]; exact Nat.ne_of_lt (blk_lt (bk BK244.out)) : gb244 ≠ gb245)); have n6_ := Aside0.mk ((by rw [hg]; exact Nat.ne_of_gt (blk_lt (bk BK244.out)) : gb245 ≠ gb244)); clear BK244; clear HB; have BK244 := n0_; have HB := n1_; have BK245 := n2_; have GW245 := n3_; have GE245 := n4_; have NB244_245 := n5_; have NB245_244 := n6_; clear n0_ n1_ n2_ n3_ n4_ n5_ n6_; clear hb hbox hg) | ((with_reducible refine gate_callee (f := 14) rfl ?_); refine goesL_ (some 13) rfl rfl Tryd.func14 (by kernel_rfl) rfl #[.string a1, .string a2] rfl ml ?_; (with_reducible refine (head_Lay.calls k a1 a2 t246 t247 t248 t249 _ ?side1 A4.out).mono ?_); (case side1 => exact Glob.below HG.out bl); rintro e w28 ⟨rfl, hb⟩; refine ⟨_, rfl, ?_⟩; have n0_ := Aside0.mk (kb BK244.out hb); have n1_ := Aside0.mk (kb BK245.out hb); have n2_ := Aside0.mk (below_step bl hb); clear BK244; clear BK245; clear HB; have BK244 := n0_; have BK245 := n1_; have HB := n2_; clear n0_ n1_ n2_; (try clear hb); (try clear hb2); (try clear hk); (try clear hi)) | ((with_reducible refine gate_dst (N := 8) rfl ?_); refine box_event ?hg (N := 8) ?hd (cs := #[.string (⟨#[]⟩ : ByteArray), .string (⟨#[]⟩ : ByteArray), .string (⟨#[]⟩ : ByteArray)]) (t := 41) ?hr ?_; (case hd => rfl); (case hg => rfl); (case hr => first | (go_simp; done) | (go_simp; rfl)); intro gb250 hg w29 hbox hb; have n0_ := Aside0.mk (kb BK244.out hb); have n1_ := Aside0.mk (kb BK245.out hb); have n2_ := Aside0.mk (below_step bl hb); have n3_ := Aside0.mk (hbox); have n4_ := Aside0.mk ((by rw [hg]; exact (below_size bl) : w.heap.size ≤ gb250)); have n5_ := Aside0.mk ((by rw [hg]; exact (below_size bl) : w.heap.size ≤ gb250)); have n6_ := Aside0.mk ((by rw [hg]; exact Nat.ne_of_lt (blk_lt (bk BK244.out)) : gb244 ≠ gb250)); have n7_ := Aside0.mk ((by rw [hg]; exact Nat.ne_of_gt (blk_lt (bk BK244.out)) : gb250 ≠ gb244)); have n8_ := Aside0.mk ((by rw [hg]; exact Nat.ne_of_lt (blk_lt (bk BK245.out)) : gb245 ≠ gb250)); have n9_ := Aside0.mk ((by rw [hg]; exact Nat.ne_of_gt (blk_lt (bk BK245.out)) : gb250 ≠ gb245)); clear BK244; clear BK245; clear HB; have BK244 := n0_; have BK245 := n1_; have HB := n2_; have BK250 := n3_; have GW250 := n4_; have GE250 := n5_; have NB244_250 := n6_; have NB250_244 := n7_; have NB245_250 := n8_; have NB250_245 := n9_; clear n0_ n1_ n2_ n3_ n4_ n5_ n6_ n7_ n8_ n9_; clear hb hbox hg; have hnb30 := NB250_244.out; have hnc30 := NB244_250.out; have hnb31 := NB250_245.out; have hnc31 := NB245_250.out; have hcz32_0 : w29.cell? ⟨gb250, 0, none⟩ = some (.string (⟨#[]⟩ : ByteArray)) := (blk_cell BK250.out 0).trans rfl; have hcz32_1 : w29.cell? ⟨gb250, 1, none⟩ = some (.string (⟨#[]⟩ : ByteArray)) := (blk_cell BK250.out 1).trans rfl; have hcz32_2 : w29.cell? ⟨gb250, 2, none⟩ = some (.string (⟨#[]⟩ : ByteArray)) := (blk_cell BK250.out 2).trans rfl; have hfz32_0 := blk_frozen BK250.out 0; have hfz32_1 := blk_frozen BK250.out 1; have hfz32_2 := blk_frozen BK250.out 2; have hnb33 := NB245_244.out; have hnc33 := NB244_245.out; have hcz34_0 : w29.cell? ⟨gb245, 0, none⟩ = some (.slice none 0 0) := (blk_cell BK245.out 0).trans rfl; have hcz34_1 : w29.cell? ⟨gb245, 1, none⟩ = some (.string (⟨#[]⟩ : ByteArray)) := (blk_cell BK245.out 1).trans rfl; have hcz34_2 : w29.cell? ⟨gb245, 2, none⟩ = some (.bool false) := (blk_cell BK245.out 2).trans rfl; have hfz34_0 := blk_frozen BK245.out 0; have hfz34_1 := blk_frozen BK245.out 1; have hfz34_2 := blk_frozen BK245.out 2))
  refine bodyPost_ret (results_ct rfl _ _ gb245 24 #[.slice none 0 0, .string (⟨#[]⟩ : ByteArray), .bool false] (0, 0) _ rfl (by (with_reducible repeat (first | refine blk_drewN ?_ _ | refine blk_drew ?_ | refine blk_alloc ?_ _)); refine blk_put (cs := #[.slice none 0 0, .string (⟨#[]⟩ : ByteArray), .bool false]) ?_ 2 _ rfl; (with_reducible repeat (first | refine blk_drewN ?_ _ | refine blk_drew ?_ | refine blk_alloc ?_ _)); refine blk_put (cs := #[.slice none 0 0, .string (⟨#[]⟩ : ByteArray), .bool false]) ?_ 1 _ rfl; (with_reducible repeat (first | refine blk_drewN ?_ _ | refine blk_drew ?_ | refine blk_alloc ?_ _)); refine blk_put (cs := #[.slice none 0 0, .string (⟨#[]⟩ : ByteArray), .bool false]) ?_ 0 _ rfl; (with_reducible repeat (first | refine blk_drewN ?_ _ | refine blk_drew ?_ | refine blk_alloc ?_ _)); refine blk_far ?_ NB245_250.out _; (with_reducible repeat (first | refine blk_drewN ?_ _ | refine blk_drew ?_ | refine blk_alloc ?_ _)); refine blk_far ?_ NB245_250.out _; (with_reducible repeat (first | refine blk_drewN ?_ _ | refine blk_drew ?_ | refine blk_alloc ?_ _)); refine blk_far ?_ NB245_250.out _; (with_reducible repeat (first | refine blk_drewN ?_ _ | refine blk_drew ?_ | refine blk_alloc ?_ _)); exact BK245.out) Tryd.underlying24 rfl (by kernel_rfl)) rfl ?_
  exact ⟨_, by first | rfl | (simp [errW_none, errW_some] <;> rfl) | (simp [*, errW_none, errW_some] <;> rfl), by first | exact Kd.R_nil _ _ _ _ _ | exact Kd.N_nil _ _ _ _ _ | exact Kd.V_nil _ _ _ _ _ | exact Kd.Q_nil _ _ _ _ _ | exact Kd.S_nil _ _ _ _ _, by repeat (first | (with_reducible first | exact HB.out | apply below_alloc | apply pw_below_drewN | apply below_drew1 | refine below_set ?_ GE244.out | refine below_set ?_ GE245.out | refine below_set ?_ GE250.out) | exact HB.out)⟩

/-! ### postriderref07_Text: function 26 -/
def postriderref07_Text.l0 : Nat → ByteArray → Int → List (S60) → ByteArray → Bool → Option (ByteArray)
  | 0, _, _, _, _, _ => none
  | k + 1, x3, x4, x264000, x264001, x264002 => if x4 < (x264000.length : Int) then (if 0 ≤ x4 then (if x3.size + ((rd_T60 x264000 x4).f2).size ≤ 9223372036854775807 then (postriderref07_Text.l0 k (x3 ++ ((rd_T60 x264000 x4).f2)) (wrap64 (x4 + 1)) x264000 x264001 x264002) else (none)) else (none)) else (if x264002 = true then (some x3) else (if x3.size + 2 ≤ 9223372036854775807 then (if (x3 ++ (⟨#[13, 10]⟩ : ByteArray)).size + x264001.size ≤ 9223372036854775807 then (some ((x3 ++ (⟨#[13, 10]⟩ : ByteArray)) ++ x264001)) else (none)) else (none)))
def postriderref07_Text.f (k : Nat) (l0_0 : List (S60)) (a0_1 : ByteArray) (a0_2 : Bool) : Option (ByteArray) := postriderref07_Text.l0 k (⟨#[]⟩ : ByteArray) 0 l0_0 a0_1 a0_2
theorem postriderref07_Text.mono_l : ∀ k, (∀ y0 y1 y2 y3 y4, LeO (postriderref07_Text.l0 k y0 y1 y2 y3 y4) (postriderref07_Text.l0 (k + 1) y0 y1 y2 y3 y4))
  | 0 => fun _ _ _ _ _ r h => by simp [postriderref07_Text.l0] at h
  | k + 1 => by
    have ih0 := postriderref07_Text.mono_l k
    · intro y0 y1 y2 y3 y4
      unfold postriderref07_Text.l0
      repeat' first
      | (with_reducible exact ih0 _ _ _ _ _)
      | (with_reducible exact LeO.refl _)
      | (with_reducible exact LeO.none _)
      | (with_reducible refine LeO.ite ?_ ?_)
      | (with_reducible refine LeO.bind ?_ (fun _ => ?_))
      | exact ih0 _ _ _ _ _
      | exact LeO.none _
      | refine LeO.ite ?_ ?_
      | refine LeO.bind ?_ (fun _ => ?_)
theorem postriderref07_Text.mono : ∀ a0 a1 a2 k, LeO (postriderref07_Text.f k a0 a1 a2) (postriderref07_Text.f (k + 1) a0 a1 a2) := by
  intro a0 a1 a2 k
  have ih0 := postriderref07_Text.mono_l k
  unfold postriderref07_Text.f
  repeat' first
      | (with_reducible exact ih0 _ _ _ _ _)
      | (with_reducible exact LeO.refl _)
      | (with_reducible exact LeO.none _)
      | (with_reducible refine LeO.ite ?_ ?_)
      | (with_reducible refine LeO.bind ?_ (fun _ => ?_))
      | exact ih0 _ _ _ _ _
      | exact LeO.none _
      | refine LeO.ite ?_ ?_
      | refine LeO.bind ?_ (fun _ => ?_)
set_option maxHeartbeats 8000000 in
set_option maxRecDepth 100000 in
theorem postriderref07_Text.calls (k : Nat) (A0_0 : Option Addr) (c0_0 : Nat) (l0_0 : List (S60)) (a0_1 : ByteArray) (a0_2 : Bool) (r : ByteArray) (w : World) (hr0_0 : Kd.C k60 w A0_0 l0_0.length l0_0) (hc0_0 : l0_0.length ≤ c0_0) (h : postriderref07_Text.f k l0_0 a0_1 a0_2 = some r) :
    Calls Tryd.prog 26 #[.agg #[.slice A0_0 l0_0.length c0_0, .string a0_1, .bool a0_2]] w fun e w' => e = .returned (.string r) ∧ Below w.heap.size w w' := by
  have hu30 := Tryd.underlying30
  have HR0_0 := Aside0.mk hr0_0
  have HC0_0 := Aside0.mk hc0_0
  clear hr0_0 hc0_0
  have HB := Aside0.mk (Below.refl w.heap.size w)
  have H : (postriderref07_Text.l0 k (⟨#[]⟩ : ByteArray) 0 l0_0 a0_1 a0_2) = some r := h
  clear h
  have H' := Aside0.mk H
  clear H
  go_enter Tryd.func26, Tryd.ntmps26
  go_wp2_with (first | ((with_reducible refine gate_dst (N := 1) rfl ?_); refine box_event ?hg (N := 1) ?hd (cs := #[.slice A0_0 l0_0.length c0_0, .string a0_1, .bool a0_2]) (t := 30) ?hr ?_; (case hd => rfl); (case hg => rfl); (case hr => first | (go_simp; done) | (go_simp; rfl)); intro gb263 hg w2 hbox hb; have n0_ := Aside0.mk (below_step (by repeat (first | (with_reducible first | exact HB.out | apply below_alloc | apply pw_below_drewN | apply below_drew1) | exact HB.out)) hb); have n1_ := Aside0.mk (hbox); have n2_ := Aside0.mk ((by rw [hg]; exact (below_size (by repeat (first | (with_reducible first | exact HB.out | apply below_alloc | apply pw_below_drewN | apply below_drew1) | exact HB.out))) : w.heap.size ≤ gb263)); have n3_ := Aside0.mk ((by rw [hg]; exact (below_size (by repeat (first | (with_reducible first | exact HB.out | apply below_alloc | apply pw_below_drewN | apply below_drew1) | exact HB.out))) : w.heap.size ≤ gb263)); clear HB; have HB := n0_; have BK263 := n1_; have GW263 := n2_; have GE263 := n3_; clear n0_ n1_ n2_ n3_; clear hb hbox hg))
  go_loopg [3, 4] k (fun kq v3 v4 w' => ∃ (x3_1 : ByteArray) (x4_1 : Int), v3 = .string x3_1 ∧ v4 = .int .i64 x4_1 ∧ Aside0 (postriderref07_Text.l0 kq x3_1 x4_1 l0_0 a0_1 a0_2 = some r) ∧ Aside0 (kq ≤ k) ∧ Aside0 (w'.heap[gb263]? = some (.cells #[(.slice A0_0 l0_0.length c0_0), .string a0_1, .bool a0_2] 30 (0, 0))) ∧ Aside0 (Below w.heap.size w w'))
  case atStart => exact ⟨((⟨#[]⟩ : ByteArray)), (0), (by first | rfl | (simp; done) | (simp [*]; done)), (by first | rfl | (simp; done) | (simp [*]; done)), H', ⟨Nat.le_refl _⟩, ⟨by (with_reducible repeat (first | refine blk_drewN ?_ _ | refine blk_drew ?_ | refine blk_alloc ?_ _)); exact BK263.out⟩, ⟨by repeat (first | (with_reducible first | exact HB.out | apply below_alloc | apply pw_below_drewN | apply below_drew1 | refine below_set ?_ GE263.out) | exact HB.out)⟩⟩
  case round =>
    clear H'
    try clear c2
    try clear p2
    obtain ⟨x3_1, x4_1, rfl, rfl, HA, HK1, BK263, HB⟩ := hrel
    cases gk with
    | zero => exact absurd HA.out (by simp [postriderref07_Text.l0])
    | succ k1 =>
      have H := HA.out
      clear HA
      simp only [postriderref07_Text.l0] at H
      by_cases c3 : x4_1 < (l0_0.length : Int)
      · rw [if_pos c3] at H
        have c3b0 : decide (x4_1 < (l0_0.length : Int)) = true := decide_eq_true c3
        clear c3
        by_cases c4 : 0 ≤ x4_1
        · rw [if_pos c4] at H
          have c4b0 : decide (0 ≤ x4_1) = true := decide_eq_true c4
          clear c4
          by_cases c5 : x3_1.size + ((rd_T60 l0_0 x4_1).f2).size ≤ 9223372036854775807
          · rw [if_pos c5] at H
            have c5b0 := eq_true c5
            have c5b1 : decide (x3_1.size + ((rd_T60 l0_0 x4_1).f2).size ≤ 9223372036854775807) = true := decide_eq_true c5
            try have c5b2 : (9223372036854775807 < x3_1.size + ((rd_T60 l0_0 x4_1).f2).size) = False := eq_false (Nat.not_lt.2 c5)
            have H' := Aside0.mk H
            clear H
            have hcz6_0 : wr.cell? ⟨gb263, 0, none⟩ = some (.slice A0_0 l0_0.length c0_0) := (blk_cell BK263.out 0).trans rfl
            have hcz6_1 : wr.cell? ⟨gb263, 1, none⟩ = some (.string a0_1) := (blk_cell BK263.out 1).trans rfl
            have hcz6_2 : wr.cell? ⟨gb263, 2, none⟩ = some (.bool a0_2) := (blk_cell BK263.out 2).trans rfl
            have hfz6_0 := blk_frozen BK263.out 0
            have hfz6_1 := blk_frozen BK263.out 1
            have hfz6_2 := blk_frozen BK263.out 2
            have p264 : 0 ≤ (x4_1 : Int) := of_decide_eq_true (by first | (with_reducible assumption) | assumption)
            have q264 : x4_1 < (l0_0.length : Int) := of_decide_eq_true (by first | (with_reducible assumption) | assumption)
            obtain ⟨ad264, e264, hx264_0, hx264_1, hx264_2⟩ := at_T60 HR0_0.out x4_1 p264 q264
            cases e264
            replace hx264_0 := (HB.out.cell (World.block_lt_of_cell? w _ hx264_0)).trans hx264_0
            replace hx264_1 := (HB.out.cell (World.block_lt_of_cell? w _ hx264_1)).trans hx264_1
            replace hx264_2 := (HB.out.cell (World.block_lt_of_cell? w _ hx264_2)).trans hx264_2
            replace p264 := eq_true p264
            replace q264 := eq_true q264
            go_wp2
            go_roundg k1
            case measure => have := HK1.out; omega
            case rel => exact ⟨(x3_1 ++ ((rd_T60 l0_0 x4_1).f2)), (wrap64 (x4_1 + 1)), (by first | rfl | (simp; done) | (simp [*]; done)), (by first | rfl | (simp; done) | (simp [*]; done)), H', ⟨by have := HK1.out; omega⟩, ⟨by (with_reducible repeat (first | refine blk_drewN ?_ _ | refine blk_drew ?_ | refine blk_alloc ?_ _)); exact BK263.out⟩, ⟨by repeat (first | (with_reducible first | exact HB.out | apply below_alloc | apply pw_below_drewN | apply below_drew1 | refine below_set ?_ GE263.out) | exact HB.out)⟩⟩
          · rw [if_neg c5] at H
            exact absurd H (by simp)
        · rw [if_neg c4] at H
          exact absurd H (by simp)
      · rw [if_neg c3] at H
        have c3b0 : decide (x4_1 < (l0_0.length : Int)) = false := decide_eq_false c3
        clear c3
        by_cases c7 : a0_2 = true
        · subst c7
          have H1 : (some x3_1) = some r := by rw [if_pos rfl] at H; exact H
          clear H
          have H := H1
          clear H1
          obtain rfl := Option.some.inj H
          have hcz8_0 : wr.cell? ⟨gb263, 0, none⟩ = some (.slice A0_0 l0_0.length c0_0) := (blk_cell BK263.out 0).trans rfl
          have hcz8_1 : wr.cell? ⟨gb263, 1, none⟩ = some (.string a0_1) := (blk_cell BK263.out 1).trans rfl
          have hcz8_2 : wr.cell? ⟨gb263, 2, none⟩ = some (.bool true) := (blk_cell BK263.out 2).trans rfl
          have hfz8_0 := blk_frozen BK263.out 0
          have hfz8_1 := blk_frozen BK263.out 1
          have hfz8_2 := blk_frozen BK263.out 2
          go_wp2
          go_ret
          exact ⟨by first | rfl | (simp [bneNil]; done) | (simp [errW_none, errW_some] <;> rfl) | (simp [*, errW_none, errW_some] <;> rfl), by repeat (first | (with_reducible first | exact HB.out | apply below_alloc | apply pw_below_drewN | apply below_drew1 | refine below_set ?_ GE263.out) | exact HB.out)⟩
        · replace c7 := Bool.eq_false_iff.mpr c7
          subst c7
          have H1 : (if x3_1.size + 2 ≤ 9223372036854775807 then (if (x3_1 ++ (⟨#[13, 10]⟩ : ByteArray)).size + a0_1.size ≤ 9223372036854775807 then (some ((x3_1 ++ (⟨#[13, 10]⟩ : ByteArray)) ++ a0_1)) else (none)) else (none)) = some r := by rw [if_neg (show ¬ (false = true) by decide)] at H; exact H
          clear H
          have H := H1
          clear H1
          by_cases c9 : x3_1.size + 2 ≤ 9223372036854775807
          · rw [if_pos c9] at H
            have c9b0 := eq_true c9
            have c9b1 : decide (x3_1.size + 2 ≤ 9223372036854775807) = true := decide_eq_true c9
            try have c9b2 : (9223372036854775807 < x3_1.size + 2) = False := eq_false (Nat.not_lt.2 c9)
            by_cases c10 : (x3_1 ++ (⟨#[13, 10]⟩ : ByteArray)).size + a0_1.size ≤ 9223372036854775807
            · rw [if_pos c10] at H
              have c10b0 := eq_true c10
              have c10b1 : decide ((x3_1 ++ (⟨#[13, 10]⟩ : ByteArray)).size + a0_1.size ≤ 9223372036854775807) = true := decide_eq_true c10
              try have c10b2 : (9223372036854775807 < (x3_1 ++ (⟨#[13, 10]⟩ : ByteArray)).size + a0_1.size) = False := eq_false (Nat.not_lt.2 c10)
              try (have c10b2y := c10b2; rw [ByteArray.size_append] at c10b2y)
              try have c10b2z : (9223372036854775807 < x3_1.size + 2 + a0_1.size) = False := eq_false (fun h_ => by have g_ := c10; simp only [ByteArray.size_append, show (⟨#[13, 10]⟩ : ByteArray).size = 2 from rfl] at g_; omega)
              obtain rfl := Option.some.inj H
              have hcz11_0 : wr.cell? ⟨gb263, 0, none⟩ = some (.slice A0_0 l0_0.length c0_0) := (blk_cell BK263.out 0).trans rfl
              have hcz11_1 : wr.cell? ⟨gb263, 1, none⟩ = some (.string a0_1) := (blk_cell BK263.out 1).trans rfl
              have hcz11_2 : wr.cell? ⟨gb263, 2, none⟩ = some (.bool false) := (blk_cell BK263.out 2).trans rfl
              have hfz11_0 := blk_frozen BK263.out 0
              have hfz11_1 := blk_frozen BK263.out 1
              have hfz11_2 := blk_frozen BK263.out 2
              go_wp2
              go_ret
              exact ⟨by first | rfl | (simp [bneNil]; done) | (simp [errW_none, errW_some] <;> rfl) | (simp [*, errW_none, errW_some] <;> rfl), by repeat (first | (with_reducible first | exact HB.out | apply below_alloc | apply pw_below_drewN | apply below_drew1 | refine below_set ?_ GE263.out) | exact HB.out)⟩
            · rw [if_neg c10] at H
              exact absurd H (by simp)
          · rw [if_neg c9] at H
            exact absurd H (by simp)

/-! ### postriderref07_with: function 69 -/
def postriderref07_with.f (k : Nat) (l0_0 : List (S60)) (a0_1 : ByteArray) (a0_2 : Bool) (l1 : List (S60)) : Option ((List (S60)) × ByteArray × Bool × Int) := (postriderref07_Text.f k l1 a0_1 a0_2).bind fun t267 => (if (t267.size : Int) > 8192 then (some (([] : List (S60)), (⟨#[]⟩ : ByteArray), false, 3)) else (some (l1, a0_1, a0_2, 0)))
theorem postriderref07_with.mono : ∀ a0 a1 a2 a3 k, LeO (postriderref07_with.f k a0 a1 a2 a3) (postriderref07_with.f (k + 1) a0 a1 a2 a3) := by
 intro a0 a1 a2 a3 k
 unfold postriderref07_with.f
 repeat' first
   | (with_reducible exact postriderref07_Text.mono _ _ _ _)
   | (with_reducible exact LeO.refl _)
   | (with_reducible exact LeO.none _)
   | (with_reducible refine LeO.ite ?_ ?_)
   | (with_reducible refine LeO.bind ?_ (fun _ => ?_))
   | exact postriderref07_Text.mono _ _ _ _
   | exact LeO.none _
   | refine LeO.ite ?_ ?_
   | refine LeO.bind ?_ (fun _ => ?_)
set_option maxHeartbeats 8000000 in
set_option maxRecDepth 100000 in
theorem postriderref07_with.calls (k : Nat) (A0_0 : Option Addr) (c0_0 : Nat) (l0_0 : List (S60)) (a0_1 : ByteArray) (a0_2 : Bool) (P1_ : Nat → Prop) (u9000_ : Value) (l1 : List (S60)) (r1 : List (S60)) (r2 : ByteArray) (r3 : Bool) (r4 : Int) (w0 w : World) (hB : Below w0.heap.size w0 w) (hr0_0 : ∀ W_, Kept w W_ (fun k_ => P1_ k_) → Kd.C k60 W_ A0_0 l0_0.length l0_0) (hc0_0 : l0_0.length ≤ c0_0) (ho1 : Kd.R k60 60 w w0.heap.size P1_ u9000_ l1) (h : postriderref07_with.f k l0_0 a0_1 a0_2 l1 = some (r1, r2, r3, r4)) :
  Calls Tryd.prog 69 #[.agg #[.slice A0_0 l0_0.length c0_0, .string a0_1, .bool a0_2], u9000_] w fun e w' => ∃ v0_ : Value, e = .returned (.tuple #[.agg #[v0_, .string r2, .bool r3], .int .i64 r4]) ∧ Kd.R k60 60 w' w0.heap.size (fun k_ => (P1_ k_ ∨ w.heap.size ≤ k_)) v0_ r1 ∧ Below w0.heap.size w0 w' ∧ Kept w w' (fun k_ => P1_ k_) := by
 have hu30 := Tryd.underlying30
 have HR0_0 := Aside0.mk hr0_0
 have HC0_0 := Aside0.mk hc0_0
 clear hr0_0 hc0_0
 have HO1 := Aside0.mk (show Kd.R k60 60 w w0.heap.size (fun k_ => (P1_ k_ ∨ w.heap.size ≤ k_)) u9000_ l1 from Kd.R_mono ho1 (fun k_ hk => (.inl hk)))
 have HK := Aside0.mk (Kept.refl w (fun k_ => P1_ k_))
 have HW0 := Aside0.mk hB.size
 have HB := Aside0.mk hB
 clear hB
 have H : ((postriderref07_Text.f k l1 a0_1 a0_2).bind fun t267 => (if (t267.size : Int) > 8192 then (some (([] : List (S60)), (⟨#[]⟩ : ByteArray), false, 3)) else (some (l1, a0_1, a0_2, 0)))) = some (r1, r2, r3, r4) := h
 clear h
 replace H := Option.bind_eq_some_iff.mp H
 obtain ⟨t267, A30, H⟩ := H
 replace H : (if (t267.size : Int) > 8192 then (some (([] : List (S60)), (⟨#[]⟩ : ByteArray), false, 3)) else (some (l1, a0_1, a0_2, 0))) = some (r1, r2, r3, r4) := H
 have A3 := Aside0.mk A30
 clear A30
 by_cases c4 : (t267.size : Int) > 8192
 ·rw [if_pos c4] at H
  have c4b0 : decide (8192 < (t267.size : Int)) = true := decide_eq_true c4
  have c4b1 : decide (8192 < t267.size) = true := decide_eq_true (by omega)
  clear c4
  simp only [Option.some.injEq, Prod.mk.injEq] at H
  obtain ⟨rfl, rfl, rfl, rfl⟩ := H
  go_enter Tryd.func69, Tryd.ntmps69
  go_wp2_with (first | ((with_reducible refine gate_dst (N := 2) rfl ?_); refine box_event ?hg (N := 2) ?hd (cs := #[.slice A0_0 l0_0.length c0_0, .string a0_1, .bool a0_2]) (t := 30) ?hr ?_; (case hd => rfl); (case hg => rfl); (case hr => first | (go_simp; done) | (go_simp; rfl)); intro gb265 hg w5 hbox hb; have n0_ := Aside0.mk (Kd.R_below (kr HO1.out) hb); have n1_ := Aside0.mk (Kept.below (S := (fun k_ => P1_ k_)) (by repeat (first | (with_reducible first | exact HK.out | apply Kept.alloc | apply Kept.drewN | apply Kept.drew) | exact HK.out)) hb); have n2_ := Aside0.mk (below_step bl hb); have n3_ := Aside0.mk (hbox); have n4_ := Aside0.mk ((by rw [hg]; exact (by first | exact HK.out.1 | exact (show Kept w _ (fun k_ => P1_ k_) from by repeat (first | (with_reducible first | exact HK.out | apply Kept.alloc | apply Kept.drewN | apply Kept.drew) | exact HK.out)).1) : w.heap.size ≤ gb265)); have n5_ := Aside0.mk ((by rw [hg]; exact (below_size bl) : w0.heap.size ≤ gb265)); clear HO1; clear HK; clear HB; have HO1 := n0_; have HK := n1_; have HB := n2_; have BK265 := n3_; have GW265 := n4_; have GE265 := n5_; clear n0_ n1_ n2_ n3_ n4_ n5_; clear hb hbox hg) | ((with_reducible refine gate_dst (N := 4) rfl ?_); refine box_event ?hg (N := 4) ?hd (cs := #[.slice none 0 0, .string (⟨#[]⟩ : ByteArray), .bool false]) (t := 30) ?hr ?_; (case hd => rfl); (case hg => rfl); (case hr => first | (go_simp; done) | (go_simp; rfl)); intro gb266 hg w6 hbox hb; have n0_ := Aside0.mk (Kd.R_below (kr HO1.out) hb); have n1_ := Aside0.mk (kb BK265.out hb); have n2_ := Aside0.mk (Kept.below (S := (fun k_ => P1_ k_)) (by repeat (first | (with_reducible first | exact HK.out | apply Kept.alloc | apply Kept.drewN | apply Kept.drew | refine Kept.setCell ?_ (.inr GW265.out) _) | exact HK.out)) hb); have n3_ := Aside0.mk (below_step bl hb); have n4_ := Aside0.mk (hbox); have n5_ := Aside0.mk ((by rw [hg]; exact (by first | exact HK.out.1 | exact (show Kept w _ (fun k_ => P1_ k_) from by repeat (first | (with_reducible first | exact HK.out | apply Kept.alloc | apply Kept.drewN | apply Kept.drew | refine Kept.setCell ?_ (.inr GW265.out) _) | exact HK.out)).1) : w.heap.size ≤ gb266)); have n6_ := Aside0.mk ((by rw [hg]; exact (below_size bl) : w0.heap.size ≤ gb266)); have n7_ := Aside0.mk ((by rw [hg]; exact Nat.ne_of_lt (blk_lt (bk BK265.out)) : gb265 ≠ gb266)); have n8_ := Aside0.mk ((by rw [hg]; exact Nat.ne_of_gt (blk_lt (bk BK265.out)) : gb266 ≠ gb265)); clear HO1; clear BK265; clear HK; clear HB; have HO1 := n0_; have BK265 := n1_; have HK := n2_; have HB := n3_; have BK266 := n4_; have GW266 := n5_; have GE266 := n6_; have NB265_266 := n7_; have NB266_265 := n8_; clear n0_ n1_ n2_ n3_ n4_ n5_ n6_ n7_ n8_; clear hb hbox hg; obtain ⟨Ao7, co7, eo7⟩ := Kd.R_slice HO1.out; subst eo7; have hnb8 := NB265_266.out; have hnc8 := NB266_265.out; have hcz9_0 : w6.cell? ⟨gb265, 0, none⟩ = some (.slice A0_0 l0_0.length c0_0) := (blk_cell BK265.out 0).trans rfl; have hcz9_1 : w6.cell? ⟨gb265, 1, none⟩ = some (.string a0_1) := (blk_cell BK265.out 1).trans rfl; have hcz9_2 : w6.cell? ⟨gb265, 2, none⟩ = some (.bool a0_2) := (blk_cell BK265.out 2).trans rfl; have hfz9_0 := blk_frozen BK265.out 0; have hfz9_1 := blk_frozen BK265.out 1; have hfz9_2 := blk_frozen BK265.out 2) | ((with_reducible refine gate_callee (f := 26) rfl ?_); refine goesL_ (some 9) rfl rfl Tryd.func26 (by kernel_rfl) rfl #[.agg #[.slice Ao7 l1.length co7, .string a0_1, .bool a0_2]] rfl ml ?_; (with_reducible refine (postriderref07_Text.calls k _ _ l1 a0_1 a0_2 t267 _ ?side1 ?side2 A3.out).mono ?_); (case side1 => refine (Kd.R_reads' (e := 60) (base := w0.heap.size) (ok := fun k_ => (P1_ k_ ∨ w.heap.size ≤ k_)) (n := l1.length) (c := co7) ?_).2.2; exact (by (with_reducible repeat (first | apply Kd.R_alloc | apply Kd.R_drewN | apply Kd.R_drew)); exact (Kd.R_mono (Kd.R_far (p := ⟨gb265, 0, none⟩) (Kd.R_types HO1.out BK265.out (by decide)) (fun _ hk => hk.2) (.slice Ao7 l1.length co7)) (fun _ h_ => h_.1)))); (case side2 => exact (Kd.R_reads' HO1.out).2.1); rintro e w10 ⟨rfl, hb⟩; refine ⟨_, rfl, ?_⟩; have n0_ := Aside0.mk (Kd.R_below (by (with_reducible repeat (first | apply Kd.R_alloc | apply Kd.R_drewN | apply Kd.R_drew)); exact (Kd.R_mono (Kd.R_far (p := ⟨gb265, 0, none⟩) (Kd.R_types HO1.out BK265.out (by decide)) (fun _ hk => hk.2) (.slice Ao7 l1.length co7)) (fun _ h_ => h_.1))) hb); have n1_ := Aside0.mk (blk_below (g := gb265) (o := .cells #[.slice Ao7 l1.length co7, .string a0_1, .bool a0_2] 30 (0, 0)) (by (with_reducible repeat (first | refine blk_drewN ?_ _ | refine blk_drew ?_ | refine blk_alloc ?_ _)); refine blk_put (cs := #[.slice A0_0 l0_0.length c0_0, .string a0_1, .bool a0_2]) ?_ 0 _ rfl; (with_reducible repeat (first | refine blk_drewN ?_ _ | refine blk_drew ?_ | refine blk_alloc ?_ _)); exact BK265.out) hb); have n2_ := Aside0.mk (kb BK266.out hb); have n3_ := Aside0.mk (Kept.below (S := (fun k_ => P1_ k_)) (by repeat (first | (with_reducible first | exact HK.out | apply Kept.alloc | apply Kept.drewN | apply Kept.drew | refine Kept.setCell ?_ (.inr GW265.out) _ | refine Kept.setCell ?_ (.inr GW266.out) _) | exact HK.out)) hb); have n4_ := Aside0.mk (below_step bl hb); clear HO1; clear BK265; clear BK266; clear HK; clear HB; have HO1 := n0_; have BK265 := n1_; have BK266 := n2_; have HK := n3_; have HB := n4_; clear n0_ n1_ n2_ n3_ n4_; (try clear hb); (try clear hb2); (try clear hk); (try clear hi); have hcz11_0 : w10.cell? ⟨gb266, 0, none⟩ = some (.slice none 0 0) := (blk_cell BK266.out 0).trans rfl; have hcz11_1 : w10.cell? ⟨gb266, 1, none⟩ = some (.string (⟨#[]⟩ : ByteArray)) := (blk_cell BK266.out 1).trans rfl; have hcz11_2 : w10.cell? ⟨gb266, 2, none⟩ = some (.bool false) := (blk_cell BK266.out 2).trans rfl; have hfz11_0 := blk_frozen BK266.out 0; have hfz11_1 := blk_frozen BK266.out 1; have hfz11_2 := blk_frozen BK266.out 2))
  refine bodyPost_ret (results_ct rfl _ _ gb266 30 #[.slice none 0 0, .string (⟨#[]⟩ : ByteArray), .bool false] (0, 0) _ rfl (by (with_reducible repeat (first | refine blk_drewN ?_ _ | refine blk_drew ?_ | refine blk_alloc ?_ _)); refine blk_put (cs := #[.slice none 0 0, .string (⟨#[]⟩ : ByteArray), .bool false]) ?_ 2 _ rfl; (with_reducible repeat (first | refine blk_drewN ?_ _ | refine blk_drew ?_ | refine blk_alloc ?_ _)); refine blk_put (cs := #[.slice none 0 0, .string (⟨#[]⟩ : ByteArray), .bool false]) ?_ 1 _ rfl; (with_reducible repeat (first | refine blk_drewN ?_ _ | refine blk_drew ?_ | refine blk_alloc ?_ _)); refine blk_put (cs := #[.slice none 0 0, .string (⟨#[]⟩ : ByteArray), .bool false]) ?_ 0 _ rfl; (with_reducible repeat (first | refine blk_drewN ?_ _ | refine blk_drew ?_ | refine blk_alloc ?_ _)); exact BK266.out) Tryd.underlying30 rfl (by kernel_rfl)) rfl ?_
  exact ⟨_, by first | rfl | (simp [errW_none, errW_some] <;> rfl) | (simp [*, errW_none, errW_some] <;> rfl), by first | exact Kd.R_nil _ _ _ _ _ | exact Kd.N_nil _ _ _ _ _ | exact Kd.V_nil _ _ _ _ _ | exact Kd.Q_nil _ _ _ _ _ | exact Kd.S_nil _ _ _ _ _, by repeat (first | (with_reducible first | exact HB.out | apply below_alloc | apply pw_below_drewN | apply below_drew1 | refine below_set ?_ GE265.out | refine below_set ?_ GE266.out) | exact HB.out), by repeat (first | (with_reducible first | exact HK.out | apply Kept.alloc | apply Kept.drewN | apply Kept.drew | refine Kept.setCell ?_ (.inr GW265.out) _ | refine Kept.setCell ?_ (.inr GW266.out) _) | exact HK.out)⟩
 ·rw [if_neg c4] at H
  have c4b0 : decide (8192 < (t267.size : Int)) = false := decide_eq_false c4
  have c4b1 : decide (8192 < t267.size) = false := decide_eq_false (by omega)
  clear c4
  simp only [Option.some.injEq, Prod.mk.injEq] at H
  obtain ⟨rfl, rfl, rfl, rfl⟩ := H
  go_enter Tryd.func69, Tryd.ntmps69
  go_wp2_with (first | ((with_reducible refine gate_dst (N := 2) rfl ?_); refine box_event ?hg (N := 2) ?hd (cs := #[.slice A0_0 l0_0.length c0_0, .string a0_1, .bool a0_2]) (t := 30) ?hr ?_; (case hd => rfl); (case hg => rfl); (case hr => first | (go_simp; done) | (go_simp; rfl)); intro gb265 hg w12 hbox hb; have n0_ := Aside0.mk (Kd.R_below (kr HO1.out) hb); have n1_ := Aside0.mk (Kept.below (S := (fun k_ => P1_ k_)) (by repeat (first | (with_reducible first | exact HK.out | apply Kept.alloc | apply Kept.drewN | apply Kept.drew) | exact HK.out)) hb); have n2_ := Aside0.mk (below_step bl hb); have n3_ := Aside0.mk (hbox); have n4_ := Aside0.mk ((by rw [hg]; exact (by first | exact HK.out.1 | exact (show Kept w _ (fun k_ => P1_ k_) from by repeat (first | (with_reducible first | exact HK.out | apply Kept.alloc | apply Kept.drewN | apply Kept.drew) | exact HK.out)).1) : w.heap.size ≤ gb265)); have n5_ := Aside0.mk ((by rw [hg]; exact (below_size bl) : w0.heap.size ≤ gb265)); clear HO1; clear HK; clear HB; have HO1 := n0_; have HK := n1_; have HB := n2_; have BK265 := n3_; have GW265 := n4_; have GE265 := n5_; clear n0_ n1_ n2_ n3_ n4_ n5_; clear hb hbox hg) | ((with_reducible refine gate_dst (N := 4) rfl ?_); refine box_event ?hg (N := 4) ?hd (cs := #[.slice none 0 0, .string (⟨#[]⟩ : ByteArray), .bool false]) (t := 30) ?hr ?_; (case hd => rfl); (case hg => rfl); (case hr => first | (go_simp; done) | (go_simp; rfl)); intro gb266 hg w13 hbox hb; have n0_ := Aside0.mk (Kd.R_below (kr HO1.out) hb); have n1_ := Aside0.mk (kb BK265.out hb); have n2_ := Aside0.mk (Kept.below (S := (fun k_ => P1_ k_)) (by repeat (first | (with_reducible first | exact HK.out | apply Kept.alloc | apply Kept.drewN | apply Kept.drew | refine Kept.setCell ?_ (.inr GW265.out) _) | exact HK.out)) hb); have n3_ := Aside0.mk (below_step bl hb); have n4_ := Aside0.mk (hbox); have n5_ := Aside0.mk ((by rw [hg]; exact (by first | exact HK.out.1 | exact (show Kept w _ (fun k_ => P1_ k_) from by repeat (first | (with_reducible first | exact HK.out | apply Kept.alloc | apply Kept.drewN | apply Kept.drew | refine Kept.setCell ?_ (.inr GW265.out) _) | exact HK.out)).1) : w.heap.size ≤ gb266)); have n6_ := Aside0.mk ((by rw [hg]; exact (below_size bl) : w0.heap.size ≤ gb266)); have n7_ := Aside0.mk ((by rw [hg]; exact Nat.ne_of_lt (blk_lt (bk BK265.out)) : gb265 ≠ gb266)); have n8_ := Aside0.mk ((by rw [hg]; exact Nat.ne_of_gt (blk_lt (bk BK265.out)) : gb266 ≠ gb265)); clear HO1; clear BK265; clear HK; clear HB; have HO1 := n0_; have BK265 := n1_; have HK := n2_; have HB := n3_; have BK266 := n4_; have GW266 := n5_; have GE266 := n6_; have NB265_266 := n7_; have NB266_265 := n8_; clear n0_ n1_ n2_ n3_ n4_ n5_ n6_ n7_ n8_; clear hb hbox hg; obtain ⟨Ao14, co14, eo14⟩ := Kd.R_slice HO1.out; subst eo14; have hnb15 := NB265_266.out; have hnc15 := NB266_265.out; have hcz16_0 : w13.cell? ⟨gb265, 0, none⟩ = some (.slice A0_0 l0_0.length c0_0) := (blk_cell BK265.out 0).trans rfl; have hcz16_1 : w13.cell? ⟨gb265, 1, none⟩ = some (.string a0_1) := (blk_cell BK265.out 1).trans rfl; have hcz16_2 : w13.cell? ⟨gb265, 2, none⟩ = some (.bool a0_2) := (blk_cell BK265.out 2).trans rfl; have hfz16_0 := blk_frozen BK265.out 0; have hfz16_1 := blk_frozen BK265.out 1; have hfz16_2 := blk_frozen BK265.out 2) | ((with_reducible refine gate_callee (f := 26) rfl ?_); refine goesL_ (some 9) rfl rfl Tryd.func26 (by kernel_rfl) rfl #[.agg #[.slice Ao14 l1.length co14, .string a0_1, .bool a0_2]] rfl ml ?_; (with_reducible refine (postriderref07_Text.calls k _ _ l1 a0_1 a0_2 t267 _ ?side1 ?side2 A3.out).mono ?_); (case side1 => refine (Kd.R_reads' (e := 60) (base := w0.heap.size) (ok := fun k_ => (P1_ k_ ∨ w.heap.size ≤ k_)) (n := l1.length) (c := co14) ?_).2.2; exact (by (with_reducible repeat (first | apply Kd.R_alloc | apply Kd.R_drewN | apply Kd.R_drew)); exact (Kd.R_mono (Kd.R_far (p := ⟨gb265, 0, none⟩) (Kd.R_types HO1.out BK265.out (by decide)) (fun _ hk => hk.2) (.slice Ao14 l1.length co14)) (fun _ h_ => h_.1)))); (case side2 => exact (Kd.R_reads' HO1.out).2.1); rintro e w17 ⟨rfl, hb⟩; refine ⟨_, rfl, ?_⟩; have n0_ := Aside0.mk (Kd.R_below (by (with_reducible repeat (first | apply Kd.R_alloc | apply Kd.R_drewN | apply Kd.R_drew)); exact (Kd.R_mono (Kd.R_far (p := ⟨gb265, 0, none⟩) (Kd.R_types HO1.out BK265.out (by decide)) (fun _ hk => hk.2) (.slice Ao14 l1.length co14)) (fun _ h_ => h_.1))) hb); have n1_ := Aside0.mk (blk_below (g := gb265) (o := .cells #[.slice Ao14 l1.length co14, .string a0_1, .bool a0_2] 30 (0, 0)) (by (with_reducible repeat (first | refine blk_drewN ?_ _ | refine blk_drew ?_ | refine blk_alloc ?_ _)); refine blk_put (cs := #[.slice A0_0 l0_0.length c0_0, .string a0_1, .bool a0_2]) ?_ 0 _ rfl; (with_reducible repeat (first | refine blk_drewN ?_ _ | refine blk_drew ?_ | refine blk_alloc ?_ _)); exact BK265.out) hb); have n2_ := Aside0.mk (kb BK266.out hb); have n3_ := Aside0.mk (Kept.below (S := (fun k_ => P1_ k_)) (by repeat (first | (with_reducible first | exact HK.out | apply Kept.alloc | apply Kept.drewN | apply Kept.drew | refine Kept.setCell ?_ (.inr GW265.out) _ | refine Kept.setCell ?_ (.inr GW266.out) _) | exact HK.out)) hb); have n4_ := Aside0.mk (below_step bl hb); clear HO1; clear BK265; clear BK266; clear HK; clear HB; have HO1 := n0_; have BK265 := n1_; have BK266 := n2_; have HK := n3_; have HB := n4_; clear n0_ n1_ n2_ n3_ n4_; (try clear hb); (try clear hb2); (try clear hk); (try clear hi); have hcz18_0 : w17.cell? ⟨gb265, 0, none⟩ = some (.slice Ao14 l1.length co14) := (blk_cell BK265.out 0).trans rfl; have hcz18_1 : w17.cell? ⟨gb265, 1, none⟩ = some (.string a0_1) := (blk_cell BK265.out 1).trans rfl; have hcz18_2 : w17.cell? ⟨gb265, 2, none⟩ = some (.bool a0_2) := (blk_cell BK265.out 2).trans rfl; have hfz18_0 := blk_frozen BK265.out 0; have hfz18_1 := blk_frozen BK265.out 1; have hfz18_2 := blk_frozen BK265.out 2; have hcz19_0 : w17.cell? ⟨gb266, 0, none⟩ = some (.slice none 0 0) := (blk_cell BK266.out 0).trans rfl; have hcz19_1 : w17.cell? ⟨gb266, 1, none⟩ = some (.string (⟨#[]⟩ : ByteArray)) := (blk_cell BK266.out 1).trans rfl; have hcz19_2 : w17.cell? ⟨gb266, 2, none⟩ = some (.bool false) := (blk_cell BK266.out 2).trans rfl; have hfz19_0 := blk_frozen BK266.out 0; have hfz19_1 := blk_frozen BK266.out 1; have hfz19_2 := blk_frozen BK266.out 2))
  refine bodyPost_ret (results_ct rfl _ _ gb266 30 #[.slice Ao14 l1.length co14, .string a0_1, .bool a0_2] (0, 0) _ rfl (by (with_reducible repeat (first | refine blk_drewN ?_ _ | refine blk_drew ?_ | refine blk_alloc ?_ _)); refine blk_put (cs := #[.slice Ao14 l1.length co14, .string a0_1, .bool false]) ?_ 2 _ rfl; (with_reducible repeat (first | refine blk_drewN ?_ _ | refine blk_drew ?_ | refine blk_alloc ?_ _)); refine blk_put (cs := #[.slice Ao14 l1.length co14, .string (⟨#[]⟩ : ByteArray), .bool false]) ?_ 1 _ rfl; (with_reducible repeat (first | refine blk_drewN ?_ _ | refine blk_drew ?_ | refine blk_alloc ?_ _)); refine blk_put (cs := #[.slice none 0 0, .string (⟨#[]⟩ : ByteArray), .bool false]) ?_ 0 _ rfl; (with_reducible repeat (first | refine blk_drewN ?_ _ | refine blk_drew ?_ | refine blk_alloc ?_ _)); exact BK266.out) Tryd.underlying30 rfl (by kernel_rfl)) rfl ?_
  exact ⟨_, by first | rfl | (simp [errW_none, errW_some] <;> rfl) | (simp [*, errW_none, errW_some] <;> rfl), by (with_reducible repeat (first | apply Kd.R_alloc | apply Kd.R_drewN | apply Kd.R_drew)); exact Kd.R_mono (Kd.R_far (p := ⟨gb266, 2, none⟩) (Kd.R_far (p := ⟨gb266, 1, none⟩) (Kd.R_far (p := ⟨gb266, 0, none⟩) (Kd.R_types HO1.out BK266.out (by decide)) (fun _ hk => hk.2) (.slice Ao14 l1.length co14)) (fun _ hk => hk.2) (.string a0_1)) (fun _ hk => hk.2) (.bool a0_2)) (fun _ hk => hk.1), by repeat (first | (with_reducible first | exact HB.out | apply below_alloc | apply pw_below_drewN | apply below_drew1 | refine below_set ?_ GE265.out | refine below_set ?_ GE266.out) | exact HB.out), by repeat (first | (with_reducible first | exact HK.out | apply Kept.alloc | apply Kept.drewN | apply Kept.drew | refine Kept.setCell ?_ (.inr GW265.out) _ | refine Kept.setCell ?_ (.inr GW266.out) _) | exact HK.out)⟩

/-! ### postriderref07_Ahead: function 32 -/
def postriderref07_Ahead.f (k : Nat) (l0_0 : List (S60)) (a0_1 : ByteArray) (a0_2 : Bool) (a1 : ByteArray) (a2 : ByteArray) : Option ((List (S60)) × ByteArray × Bool × Int) := (postriderref07_Lay.f k a1 a2).bind fun bt270 => (if bt270.2.2.2 = 0 then (if ([] : List (S60)).length < 2932031007402 then ((some (([] : List (S60)) ++ [(⟨bt270.1, bt270.2.1, bt270.2.2.1⟩ : S60)] : List (S60))).bind fun y275 => (if y275.length + l0_0.length < 2932031007402 then ((postriderref07_with.f k l0_0 a0_1 a0_2 (y275 ++ l0_0)).bind fun bt281 => (some (bt281.1, bt281.2.1, bt281.2.2.1, bt281.2.2.2))) else (none))) else (none)) else (some (([] : List (S60)), (⟨#[]⟩ : ByteArray), false, bt270.2.2.2)))
theorem postriderref07_Ahead.mono : ∀ a0 a1 a2 a3 a4 k, LeO (postriderref07_Ahead.f k a0 a1 a2 a3 a4) (postriderref07_Ahead.f (k + 1) a0 a1 a2 a3 a4) := by
 intro a0 a1 a2 a3 a4 k
 unfold postriderref07_Ahead.f
 repeat' first
   | (with_reducible exact postriderref07_Lay.mono _ _ _)
   | (with_reducible exact postriderref07_with.mono _ _ _ _ _)
   | (with_reducible exact LeO.refl _)
   | (with_reducible exact LeO.none _)
   | (with_reducible refine LeO.ite ?_ ?_)
   | (with_reducible refine LeO.bind ?_ (fun _ => ?_))
   | exact postriderref07_Lay.mono _ _ _
   | exact postriderref07_with.mono _ _ _ _ _
   | exact LeO.none _
   | refine LeO.ite ?_ ?_
   | refine LeO.bind ?_ (fun _ => ?_)
def postriderref07_Ahead.T6 : Bool × List (List Nat × List Nat) := (true, [([], []), ([], []), ([], []), ([2], [2]), ([1, 3], [1, 3]), ([0, 4, 4], [0, 4]), ([5], [5]), ([5], [5]), ([6, 5, 0, 1, 2, 3, 4, 5, 6, 7], [6]), ([7, 8, 0, 1, 2, 3, 4, 5, 6, 7, 8], [7])])
def postriderref07_Ahead.B6 : List Nat := [0, 0, 0, 4, 14, 31, 63, 63, 255, 511]
theorem postriderref07_Ahead.tab6 : rtab .any (opsOf Tryd.f32 6) = postriderref07_Ahead.T6 := by kernel_rfl
theorem postriderref07_Ahead.bits6 : waitsOk postriderref07_Ahead.T6.2 postriderref07_Ahead.B6 = true := by kernel_rfl
set_option maxHeartbeats 8000000 in
set_option maxRecDepth 100000 in
theorem postriderref07_Ahead.calls (k : Nat) (A0_0 : Option Addr) (c0_0 : Nat) (l0_0 : List (S60)) (a0_1 : ByteArray) (a0_2 : Bool) (a1 : ByteArray) (a2 : ByteArray) (r1 : List (S60)) (r2 : ByteArray) (r3 : Bool) (r4 : Int) (w : World) (hr0_0 : Kd.C k60 w A0_0 l0_0.length l0_0) (hc0_0 : l0_0.length ≤ c0_0) (h : postriderref07_Ahead.f k l0_0 a0_1 a0_2 a1 a2 = some (r1, r2, r3, r4)) :
  Calls Tryd.prog 32 #[.agg #[.slice A0_0 l0_0.length c0_0, .string a0_1, .bool a0_2], .string a1, .string a2] w fun e w' => ∃ v0_ : Value, e = .returned (.tuple #[.agg #[v0_, .string r2, .bool r3], .int .i64 r4]) ∧ Kd.R k60 60 w' w.heap.size (fun _ => True) v0_ r1 ∧ Below w.heap.size w w' := by
 have hu30 := Tryd.underlying30
 have hu60 := Tryd.underlying60
 have HR0_0 := Aside0.mk hr0_0
 have HC0_0 := Aside0.mk hc0_0
 clear hr0_0 hc0_0
 have HB := Aside0.mk (Below.refl w.heap.size w)
 have H : ((postriderref07_Lay.f k a1 a2).bind fun bt270 => (if bt270.2.2.2 = 0 then (if ([] : List (S60)).length < 2932031007402 then ((some (([] : List (S60)) ++ [(⟨bt270.1, bt270.2.1, bt270.2.2.1⟩ : S60)] : List (S60))).bind fun y275 => (if y275.length + l0_0.length < 2932031007402 then ((postriderref07_with.f k l0_0 a0_1 a0_2 (y275 ++ l0_0)).bind fun bt281 => (some (bt281.1, bt281.2.1, bt281.2.2.1, bt281.2.2.2))) else (none))) else (none)) else (some (([] : List (S60)), (⟨#[]⟩ : ByteArray), false, bt270.2.2.2)))) = some (r1, r2, r3, r4) := h
 clear h
 replace H := Option.bind_eq_some_iff.mp H
 obtain ⟨⟨t270, t271, t272, t273⟩, A40, H⟩ := H
 replace H : (if t273 = 0 then (if ([] : List (S60)).length < 2932031007402 then ((some (([] : List (S60)) ++ [(⟨t270, t271, t272⟩ : S60)] : List (S60))).bind fun y275 => (if y275.length + l0_0.length < 2932031007402 then ((postriderref07_with.f k l0_0 a0_1 a0_2 (y275 ++ l0_0)).bind fun bt281 => (some (bt281.1, bt281.2.1, bt281.2.2.1, bt281.2.2.2))) else (none))) else (none)) else (some (([] : List (S60)), (⟨#[]⟩ : ByteArray), false, t273))) = some (r1, r2, r3, r4) := H
 have A4 := Aside0.mk A40
 clear A40
 by_cases c5 : t273 = 0
 ·rw [if_pos c5] at H
  have c5b0 : (t273 == 0) = true := beq_iff_eq.mpr c5
  have c5b1 : (t273 != 0) = false := bne_eq_false_iff_eq.mpr c5
  clear c5
  by_cases c6 : ([] : List (S60)).length < 2932031007402
  ·rw [if_pos c6] at H
   have LMc6 := Aside0.mk c6
   clear c6
   obtain ⟨y275, hy275⟩ : ∃ y_ : List (S60), y_ = (([] : List (S60)) ++ [(⟨t270, t271, t272⟩ : S60)]) := ⟨_, rfl⟩
   replace H : (if y275.length + l0_0.length < 2932031007402 then ((postriderref07_with.f k l0_0 a0_1 a0_2 (y275 ++ l0_0)).bind fun bt281 => (some (bt281.1, bt281.2.1, bt281.2.2.1, bt281.2.2.2))) else (none)) = some (r1, r2, r3, r4) := by first | (rw [hy275]; with_reducible exact H) | (have H2_ := (Option.bind_some _ _).symm.trans H; rw [hy275]; with_reducible exact H2_) | (have H2_ := (Option.bind_some _ _).symm.trans H; with_reducible exact H2_) | with_reducible exact H | (rw [hy275]; exact H) | exact H
   have Ny275 := Aside0.mk hy275
   clear hy275
   by_cases c7 : y275.length + l0_0.length < 2932031007402
   ·rw [if_pos c7] at H
    have LMc7 := Aside0.mk c7
    clear c7
    obtain ⟨y278, hy278⟩ : ∃ y_ : List (S60), y_ = (y275 ++ l0_0) := ⟨_, rfl⟩
    replace H : ((postriderref07_with.f k l0_0 a0_1 a0_2 y278).bind fun bt281 => (some (bt281.1, bt281.2.1, bt281.2.2.1, bt281.2.2.2))) = some (r1, r2, r3, r4) := by first | (rw [hy278]; with_reducible exact H) | (have H2_ := (Option.bind_some _ _).symm.trans H; rw [hy278]; with_reducible exact H2_) | (have H2_ := (Option.bind_some _ _).symm.trans H; with_reducible exact H2_) | with_reducible exact H | (rw [hy278]; exact H) | exact H
    have Ny278 := Aside0.mk hy278
    clear hy278
    replace H := Option.bind_eq_some_iff.mp H
    obtain ⟨⟨t281, t284, t285, t286⟩, A80, H⟩ := H
    replace H : (some (t281, t284, t285, t286)) = some (r1, r2, r3, r4) := H
    have A8 := Aside0.mk A80
    clear A80
    simp only [Option.some.injEq, Prod.mk.injEq] at H
    obtain ⟨rfl, rfl, rfl, rfl⟩ := H
    go_enter Tryd.func32, Tryd.ntmps32
    try go_wp2_with (first | ((with_reducible refine gate_dst (N := 3) rfl ?_); refine box_event ?hg (N := 3) ?hd (cs := #[.slice A0_0 l0_0.length c0_0, .string a0_1, .bool a0_2]) (t := 30) ?hr ?_; (case hd => rfl); (case hg => rfl); (case hr => first | (go_simp; done) | (go_simp; rfl)); intro gb268 hg w9 hbox hb; have n0_ := Aside0.mk (below_step bl hb); have n1_ := Aside0.mk (hbox); have n2_ := Aside0.mk ((by rw [hg]; exact (below_size bl) : w.heap.size ≤ gb268)); have n3_ := Aside0.mk ((by rw [hg]; exact (below_size bl) : w.heap.size ≤ gb268)); clear HB; have HB := n0_; have BK268 := n1_; have GW268 := n2_; have GE268 := n3_; clear n0_ n1_ n2_ n3_; clear hb hbox hg) | ((with_reducible refine gate_dst (N := 6) rfl ?_); refine box_event ?hg (N := 6) ?hd (cs := #[.slice none 0 0, .string (⟨#[]⟩ : ByteArray), .bool false]) (t := 30) ?hr ?_; (case hd => rfl); (case hg => rfl); (case hr => first | (go_simp; done) | (go_simp; rfl)); intro gb269 hg w10 hbox hb; have n0_ := Aside0.mk (kb BK268.out hb); have n1_ := Aside0.mk (below_step bl hb); have n2_ := Aside0.mk (hbox); have n3_ := Aside0.mk ((by rw [hg]; exact (below_size bl) : w.heap.size ≤ gb269)); have n4_ := Aside0.mk ((by rw [hg]; exact (below_size bl) : w.heap.size ≤ gb269)); have n5_ := Aside0.mk ((by rw [hg]; exact Nat.ne_of_lt (blk_lt (bk BK268.out)) : gb268 ≠ gb269)); have n6_ := Aside0.mk ((by rw [hg]; exact Nat.ne_of_gt (blk_lt (bk BK268.out)) : gb269 ≠ gb268)); clear BK268; clear HB; have BK268 := n0_; have HB := n1_; have BK269 := n2_; have GW269 := n3_; have GE269 := n4_; have NB268_269 := n5_; have NB269_268 := n6_; clear n0_ n1_ n2_ n3_ n4_ n5_ n6_; clear hb hbox hg) | ((with_reducible refine gate_callee (f := 30) rfl ?_); refine goesL_ (some 14) rfl rfl Tryd.func30 (by kernel_rfl) rfl #[.string a1, .string a2] rfl ml ?_; (with_reducible refine (postriderref07_Lay.calls k a1 a2 t270 t271 t272 t273 _ A4.out).mono ?_); rintro e w11 ⟨rfl, hb⟩; refine ⟨_, rfl, ?_⟩; have n0_ := Aside0.mk (kb BK268.out hb); have n1_ := Aside0.mk (kb BK269.out hb); have n2_ := Aside0.mk (below_step bl hb); clear BK268; clear BK269; clear HB; have BK268 := n0_; have BK269 := n1_; have HB := n2_; clear n0_ n1_ n2_; (try clear hb); (try clear hb2); (try clear hk); (try clear hi)) | ((with_reducible refine gate_dst (N := 8) rfl ?_); refine box_event ?hg (N := 8) ?hd (cs := #[.string (⟨#[]⟩ : ByteArray), .string (⟨#[]⟩ : ByteArray), .string (⟨#[]⟩ : ByteArray)]) (t := 60) ?hr ?_; (case hd => rfl); (case hg => rfl); (case hr => first | (go_simp; done) | (go_simp; rfl)); intro gb274 hg w12 hbox hb; have n0_ := Aside0.mk (kb BK268.out hb); have n1_ := Aside0.mk (kb BK269.out hb); have n2_ := Aside0.mk (below_step bl hb); have n3_ := Aside0.mk (hbox); have n4_ := Aside0.mk ((by rw [hg]; exact (below_size bl) : w.heap.size ≤ gb274)); have n5_ := Aside0.mk ((by rw [hg]; exact (below_size bl) : w.heap.size ≤ gb274)); have n6_ := Aside0.mk ((by rw [hg]; exact Nat.ne_of_lt (blk_lt (bk BK268.out)) : gb268 ≠ gb274)); have n7_ := Aside0.mk ((by rw [hg]; exact Nat.ne_of_gt (blk_lt (bk BK268.out)) : gb274 ≠ gb268)); have n8_ := Aside0.mk ((by rw [hg]; exact Nat.ne_of_lt (blk_lt (bk BK269.out)) : gb269 ≠ gb274)); have n9_ := Aside0.mk ((by rw [hg]; exact Nat.ne_of_gt (blk_lt (bk BK269.out)) : gb274 ≠ gb269)); clear BK268; clear BK269; clear HB; have BK268 := n0_; have BK269 := n1_; have HB := n2_; have BK274 := n3_; have GW274 := n4_; have GE274 := n5_; have NB268_274 := n6_; have NB274_268 := n7_; have NB269_274 := n8_; have NB274_269 := n9_; clear n0_ n1_ n2_ n3_ n4_ n5_ n6_ n7_ n8_ n9_; clear hb hbox hg; have hnb13 := NB274_268.out; have hnc13 := NB268_274.out; have hnb14 := NB274_269.out; have hnc14 := NB269_274.out; have hcz15_0 : w12.cell? ⟨gb274, 0, none⟩ = some (.string (⟨#[]⟩ : ByteArray)) := (blk_cell BK274.out 0).trans rfl; have hcz15_1 : w12.cell? ⟨gb274, 1, none⟩ = some (.string (⟨#[]⟩ : ByteArray)) := (blk_cell BK274.out 1).trans rfl; have hcz15_2 : w12.cell? ⟨gb274, 2, none⟩ = some (.string (⟨#[]⟩ : ByteArray)) := (blk_cell BK274.out 2).trans rfl; have hfz15_0 := blk_frozen BK274.out 0; have hfz15_1 := blk_frozen BK274.out 1; have hfz15_2 := blk_frozen BK274.out 2) | ((with_reducible refine gate_builtin (b := .append) (xs := #[.tmp 21, .tmp 23]) rfl ?_); at_builtin; refine Kd.R_append k60 (w0 := w) w.heap.size rfl (.tmp 21) (.tmp 23) 28 60 (.agg #[(.string ⟨#[]⟩), (.string ⟨#[]⟩), (.string ⟨#[]⟩)]) 48 rfl Tryd.underlying28 info60 rfl (by decide) (by omega) (.slice none 0 0) ([] : List (S60)) (⟨t270, t271, t272⟩ : S60) [.string t270, .string t271, .string t272] (fun k_ => k_ ≠ gb274) (fun _ => False) rfl (by first | (go_simp; done) | (go_simp; rfl)) ?aP (fun _ hk => hk.elim) ?aF ?aO ?aB ?aS ?aL ?_; (case aP => exact k60_mkM _ _ _ (⟨t270, t271, t272⟩ : S60)); (case aB => exact bl); (case aF => exact (fun k_ hk => Kd.freshB (g := gb274) (o := .cells #[.string t270, .string t271, .string t272] 60 (0, 0)) (by (with_reducible repeat (first | refine blk_drewN ?_ _ | refine blk_drew ?_ | refine blk_alloc ?_ _)); refine blk_put (cs := #[.string t270, .string t271, .string (⟨#[]⟩ : ByteArray)]) ?_ 2 _ rfl; (with_reducible repeat (first | refine blk_drewN ?_ _ | refine blk_drew ?_ | refine blk_alloc ?_ _)); refine blk_put (cs := #[.string t270, .string (⟨#[]⟩ : ByteArray), .string (⟨#[]⟩ : ByteArray)]) ?_ 1 _ rfl; (with_reducible repeat (first | refine blk_drewN ?_ _ | refine blk_drew ?_ | refine blk_alloc ?_ _)); refine blk_put (cs := #[.string (⟨#[]⟩ : ByteArray), .string (⟨#[]⟩ : ByteArray), .string (⟨#[]⟩ : ByteArray)]) ?_ 0 _ rfl; (with_reducible repeat (first | refine blk_drewN ?_ _ | refine blk_drew ?_ | refine blk_alloc ?_ _)); exact BK274.out) k_ hk)); (case aO => exact ((Kd.R_nil _ _ _ _ (fun k_ => k_ ≠ gb274)))); (case aS => exact (below_size bl)); (case aL => have := LMc6.out; omega); intro v276 w16 ho hb hg hat; rw [← Ny275.out] at ho; have n0_ := Aside0.mk (blk_grown (g := gb268) (o := .cells #[.slice A0_0 l0_0.length c0_0, .string a0_1, .bool a0_2] 30 (0, 0)) (bk BK268.out) hg (by simp [Value.ownBlock])); have n1_ := Aside0.mk (blk_grown (g := gb269) (o := .cells #[.slice none 0 0, .string (⟨#[]⟩ : ByteArray), .bool false] 30 (0, 0)) (bk BK269.out) hg (by simp [Value.ownBlock])); have n2_ := Aside0.mk (blk_grown (g := gb274) (o := .cells #[.string t270, .string t271, .string t272] 60 (0, 0)) (by (with_reducible repeat (first | refine blk_drewN ?_ _ | refine blk_drew ?_ | refine blk_alloc ?_ _)); refine blk_put (cs := #[.string t270, .string t271, .string (⟨#[]⟩ : ByteArray)]) ?_ 2 _ rfl; (with_reducible repeat (first | refine blk_drewN ?_ _ | refine blk_drew ?_ | refine blk_alloc ?_ _)); refine blk_put (cs := #[.string t270, .string (⟨#[]⟩ : ByteArray), .string (⟨#[]⟩ : ByteArray)]) ?_ 1 _ rfl; (with_reducible repeat (first | refine blk_drewN ?_ _ | refine blk_drew ?_ | refine blk_alloc ?_ _)); refine blk_put (cs := #[.string (⟨#[]⟩ : ByteArray), .string (⟨#[]⟩ : ByteArray), .string (⟨#[]⟩ : ByteArray)]) ?_ 0 _ rfl; (with_reducible repeat (first | refine blk_drewN ?_ _ | refine blk_drew ?_ | refine blk_alloc ?_ _)); exact BK274.out) hg (by simp [Value.ownBlock])); have n3_ := Aside0.mk (hb); have n4_ := Aside0.mk (ho); clear BK268; clear BK269; clear BK274; clear HB; have BK268 := n0_; have BK269 := n1_; have BK274 := n2_; have HB := n3_; have HO277 := n4_; clear n0_ n1_ n2_ n3_ n4_; clear ho hb hg hat))
    have n0_ := Aside0.mk (Kd.R_drew HO277.out)
    have n1_ := Aside0.mk (blk_drew BK268.out)
    have n2_ := Aside0.mk (blk_drew BK269.out)
    have n3_ := Aside0.mk (blk_drew BK274.out)
    have n4_ := Aside0.mk (below_drew1 HB.out)
    clear HO277
    clear BK268
    clear BK269
    clear BK274
    clear HB
    have HO277 := n0_
    have BK268 := n1_
    have BK269 := n2_
    have BK274 := n3_
    have HB := n4_
    clear n0_ n1_ n2_ n3_ n4_
    refine start_ (n := 10) (S := fun w' => w'.cell? ⟨gb268, 0, none⟩ = some (.slice A0_0 l0_0.length c0_0) ∧ w'.cell? ⟨gb268, 1, none⟩ = some (.string a0_1) ∧ w'.cell? ⟨gb268, 2, none⟩ = some (.bool a0_2)) (ds := []) #[false, false, false, false, false, false, false, false, false, false] (by kernel_rfl) rfl rfl ⟨(blk_cell BK268.out 0).trans rfl, (blk_cell BK268.out 1).trans rfl, (blk_cell BK268.out 2).trans rfl⟩ (fun hHeld => ?_); refine with_tabW postriderref07_Ahead.tab6 postriderref07_Ahead.bits6 (fun HT_ HW_ => ?_)
    generalize w16.drew = w17 at HO277 BK268 BK269 BK274 HB hHeld ⊢
    refine pure_ (i := 1) (N := some 26) (v := ?_) (a' := ?_) #[false, true, false, false, false, false, false, false, false, false] rfl rfl (any_of HT_.out (by kernel_rfl)) (fun _ _ _ h => h) (Or.inl ⟨by rfl, ?_⟩) ?_ ?_
    rotate_left
    ·intro w'
     go_simp
     with_reducible rfl
    rotate_left
    ·simp only [Act.put, List.setIfInBounds_toArray, List.set_cons_zero, List.set_cons_succ, i64_w, i32_w]
     rfl
    refine pure_ (i := 2) (N := some 27) (v := ?_) (a' := ?_) #[false, true, true, false, false, false, false, false, false, false] rfl rfl (any_of HT_.out (by kernel_rfl)) (fun _ _ _ h => h) (Or.inl ⟨by rfl, ?_⟩) ?_ ?_
    rotate_left
    ·intro w'
     go_simp
     with_reducible rfl
    rotate_left
    ·simp only [Act.put, List.setIfInBounds_toArray, List.set_cons_zero, List.set_cons_succ, i64_w, i32_w]
     rfl
    refine take_ (i := 0) (N := some 25) (v := ?_) (a' := ?_) #[true, true, true, false, false, false, false, false, false, false] rfl rfl (take_ofW HT_.out HW_.out (by kernel_rfl)) (fun _ _ _ h => h) (Or.inl ⟨by rfl, ?_⟩) hHeld ?_ ?_
    rotate_left
    ·rintro w' ⟨s0, s1, s2⟩
     go_simp
     with_reducible rfl
    rotate_left
    ·simp only [Act.put, List.setIfInBounds_toArray, List.set_cons_zero, List.set_cons_succ, i64_w, i32_w]
     rfl
    refine take_ (i := 3) (N := some 28) (v := ?_) (a' := ?_) #[true, true, true, true, false, false, false, false, false, false] rfl rfl (take_ofW HT_.out HW_.out (by kernel_rfl)) (fun _ _ _ h => h) (Or.inl ⟨by rfl, ?_⟩) hHeld ?_ ?_
    rotate_left
    ·rintro w' ⟨s0, s1, s2⟩
     go_simp
     with_reducible rfl
    rotate_left
    ·simp only [Act.put, List.setIfInBounds_toArray, List.set_cons_zero, List.set_cons_succ, i64_w, i32_w]
     rfl
    refine one_ (i := 4) (N := some 29) #[true, true, true, true, true, false, false, false, false, false] rfl rfl (one_of HT_.out (by kernel_rfl)) (by decide) (fun K hK => ?_)
    refine Kd.R_append_rows_step k60 (w0 := w) w.heap.size (by rfl) (.tmp 26) (.tmp 28) 28 60 (.agg #[(.string ⟨#[]⟩), (.string ⟨#[]⟩), (.string ⟨#[]⟩)]) 48 rfl Tryd.underlying28 info60 rfl (by decide) (by omega) v276 y275 l0_0 _ _ _ (fun k_ => k_ ≠ gb274) (fun _ => False) rfl rfl ?aO ?aR (fun _ _ h => h) (fun _ h => h.elim) ?aF ?aB ?aS ?aL ?_
    (case aR => repeat (first | exact (Kd.C_below HR0_0.out HB.out) | (with_reducible refine Kd.C_alloc ?_ _) | (with_reducible refine Kd.C_drewN ?_ _) | (with_reducible refine Kd.C_drew ?_)))
    (case aB => exact bl)
    (case aF => exact (fun k_ hk => Kd.freshB (g := gb274) (o := .cells #[.string t270, .string t271, .string t272] 60 (0, 0)) (bk BK274.out) k_ hk))
    (case aO => exact (kr HO277.out))
    (case aS => exact (below_size bl))
    (case aL => have := LMc7.out; omega)
    intro v279 w18 ho hb hg hat
    rw [← Ny278.out] at ho
    have n0_ := Aside0.mk (blk_grown (g := gb268) (o := .cells #[.slice A0_0 l0_0.length c0_0, .string a0_1, .bool a0_2] 30 (0, 0)) (bk BK268.out) hg (Kd.R_ne HO277.out BK268.out (by decide)))
    have n1_ := Aside0.mk (blk_grown (g := gb269) (o := .cells #[.slice none 0 0, .string (⟨#[]⟩ : ByteArray), .bool false] 30 (0, 0)) (bk BK269.out) hg (Kd.R_ne HO277.out BK269.out (by decide)))
    have n2_ := Aside0.mk (blk_grown (g := gb274) (o := .cells #[.string t270, .string t271, .string t272] 60 (0, 0)) (bk BK274.out) hg (Kd.R_away HO277.out (fun _ hk => hk)))
    have n3_ := Aside0.mk (hb)
    have n4_ := Aside0.mk (ho)
    clear BK268
    clear BK269
    clear BK274
    clear HB
    clear HO277
    have BK268 := n0_
    have BK269 := n1_
    have BK274 := n2_
    have HB := n3_
    have HO280 := n4_
    clear n0_ n1_ n2_ n3_ n4_
    clear ho hb hg hat
    obtain ⟨Ao19, co19, eo19⟩ := Kd.R_slice HO280.out
    (first | subst eo19 | (injection eo19 with f1_ f2_ f3_; have f4_ := f1_.symm; have f5_ := f3_.symm; clear f1_ f2_ f3_; subst f4_; subst f5_))
    refine hK.out _ _ ⟨(blk_cell BK268.out 0).trans rfl, (blk_cell BK268.out 1).trans rfl, (blk_cell BK268.out 2).trans rfl⟩ (fun hHeld => ?_)
    clear hK K
    refine norm_ (a' := ?_) ?_ ?_
    rotate_left
    ·show Act.put _ (some 29) _ = _
     simp only [Act.put, List.setIfInBounds_toArray, List.set_cons_zero, List.set_cons_succ, i64_w, i32_w]
     rfl
    refine one_ (i := 5) (N := some 30) #[true, true, true, true, true, true, false, false, false, false] rfl rfl (one_of HT_.out (by kernel_rfl)) (by decide) (fun K hK => ?_)
    refine goes_ Tryd.func69 (by kernel_rfl) rfl #[.agg #[.slice A0_0 l0_0.length c0_0, .string a0_1, .bool a0_2], .slice Ao19 y278.length co19] (by rfl) rfl rfl ml ?_
    with_reducible refine (postriderref07_with.calls k _ _ l0_0 a0_1 a0_2 (fun k_ => some k_ = (.slice Ao19 y278.length co19 : Value).ownBlock) (.slice Ao19 y278.length co19) y278 t281 t284 t285 t286 w _ ?side1 ?side2 ?side3 ?side4 A8.out).mono ?_
    (case side1 => repeat (first | (with_reducible first | exact HB.out | apply below_alloc | apply pw_below_drewN | apply below_drew1 | refine below_set ?_ GE268.out | refine below_set ?_ GE269.out | refine below_set ?_ GE274.out) | exact HB.out))
    (case side2 => exact Kd.C_kept_came k60_heap HR0_0.out bl (fun k_ hs_ => (fun e_ => Kd.R_base HO280.out k_ e_.symm) hs_))
    (case side3 => exact HC0_0.out)
    (case side4 => exact Kd.R_tight rfl HO280.out)
    rintro e w20 ⟨v282, rfl, ho0, hb, hkp⟩
    refine ⟨_, rfl, ?_⟩
    have n0_ := Aside0.mk (blk_kept (bk BK268.out) hkp (fun hs_ => (fun e_ => (Kd.R_ne HO280.out BK268.out (by decide)) e_) hs_))
    have n1_ := Aside0.mk (blk_kept (bk BK269.out) hkp (fun hs_ => (fun e_ => (Kd.R_ne HO280.out BK269.out (by decide)) e_) hs_))
    have n2_ := Aside0.mk (blk_kept (bk BK274.out) hkp (fun hs_ => (fun e_ => (Kd.R_away HO280.out (fun _ hk => hk)) e_) hs_))
    have n3_ := Aside0.mk (Kd.R_mono (ok' := fun k_ => k_ ≠ gb274) ho0 (fun k_ hk_ => Or.elim hk_ (fun hs_ => fun e_ => (Kd.R_away HO280.out (fun _ hk => hk)) (by rw [← e_]; exact hs_)) (fun hn_ => (Kd.freshB (g := gb274) (o := .cells #[.string t270, .string t271, .string t272] 60 (0, 0)) (bk BK274.out) k_ hn_))))
    have n4_ := Aside0.mk (hb)
    clear BK268
    clear BK269
    clear BK274
    clear HB
    clear HO280
    have BK268 := n0_
    have BK269 := n1_
    have BK274 := n2_
    have HO283 := n3_
    have HB := n4_
    clear n0_ n1_ n2_ n3_ n4_
    (try clear hb)
    (try clear hkp)
    (try clear ho0)
    obtain ⟨Ao21, co21, eo21⟩ := Kd.R_slice HO283.out
    (first | subst eo21 | (injection eo21 with f1_ f2_ f3_; have f4_ := f1_.symm; have f5_ := f3_.symm; clear f1_ f2_ f3_; subst f4_; subst f5_))
    refine hK.out _ _ ⟨(blk_cell BK268.out 0).trans rfl, (blk_cell BK268.out 1).trans rfl, (blk_cell BK268.out 2).trans rfl⟩ (fun hHeld => ?_)
    clear hK K
    refine norm_ (a' := ?_) ?_ ?_
    rotate_left
    ·show Act.put _ (some 30) _ = _
     simp only [Act.put, List.setIfInBounds_toArray, List.set_cons_zero, List.set_cons_succ, i64_w, i32_w]
     rfl
    refine pure_ (i := 6) (N := some 31) (v := ?_) (a' := ?_) #[true, true, true, true, true, true, true, false, false, false] rfl rfl (any_of HT_.out (by kernel_rfl)) (fun _ _ _ h => h) (Or.inl ⟨by rfl, ?_⟩) ?_ ?_
    rotate_left
    ·intro w'
     go_simp
     with_reducible rfl
    rotate_left
    ·simp only [Act.put, List.setIfInBounds_toArray, List.set_cons_zero, List.set_cons_succ, i64_w, i32_w]
     rfl
    refine pure_ (i := 7) (N := some 32) (v := ?_) (a' := ?_) #[true, true, true, true, true, true, true, true, false, false] rfl rfl (any_of HT_.out (by kernel_rfl)) (fun _ _ _ h => h) (Or.inl ⟨by rfl, ?_⟩) ?_ ?_
    rotate_left
    ·intro w'
     go_simp
     with_reducible rfl
    rotate_left
    ·simp only [Act.put, List.setIfInBounds_toArray, List.set_cons_zero, List.set_cons_succ, i64_w, i32_w]
     rfl
    refine one_ (i := 8) (N := none) #[true, true, true, true, true, true, true, true, true, false] rfl rfl (one_of HT_.out (by kernel_rfl)) (by decide) (fun K hK => ?_)
    have hs22 : w20.cell? ⟨gb269, 0, none⟩ = some (.slice none 0 0) := (blk_cell BK269.out 0).trans rfl
    have hfs22 := blk_frozen BK269.out 0
    have hns22_0 := NB268_269.out
    have hns22_2 := NB274_269.out
    have hms22_0 := NB269_268.out
    have hms22_2 := NB269_274.out
    have hs23 : w20.cell? ⟨gb269, 1, none⟩ = some (.string (⟨#[]⟩ : ByteArray)) := (blk_cell BK269.out 1).trans rfl
    have hfs23 := blk_frozen BK269.out 1
    have hns23_0 := NB268_269.out
    have hns23_2 := NB274_269.out
    have hms23_0 := NB269_268.out
    have hms23_2 := NB269_274.out
    have hs24 : w20.cell? ⟨gb269, 2, none⟩ = some (.bool false) := (blk_cell BK269.out 2).trans rfl
    have hfs24 := blk_frozen BK269.out 2
    have hns24_0 := NB268_269.out
    have hns24_2 := NB274_269.out
    have hms24_0 := NB269_268.out
    have hms24_2 := NB269_274.out
    refine skip_ (w1 := ?_) (by rfl) rfl ?_ ?_
    rotate_left
    ·go_simp
     rfl
    refine hK.out _ _ ⟨((cell_far (p := ⟨gb269, _, none⟩) NB268_269.out _).trans (((cell_far (p := ⟨gb269, _, none⟩) NB268_269.out _).trans (((cell_far (p := ⟨gb269, _, none⟩) NB268_269.out _).trans (hHeld.1)))))), ((cell_far (p := ⟨gb269, _, none⟩) NB268_269.out _).trans (((cell_far (p := ⟨gb269, _, none⟩) NB268_269.out _).trans (((cell_far (p := ⟨gb269, _, none⟩) NB268_269.out _).trans (hHeld.2.1)))))), ((cell_far (p := ⟨gb269, _, none⟩) NB268_269.out _).trans (((cell_far (p := ⟨gb269, _, none⟩) NB268_269.out _).trans (((cell_far (p := ⟨gb269, _, none⟩) NB268_269.out _).trans (hHeld.2.2))))))⟩ (fun hHeld => ?_)
    clear hK K
    refine pure_ (i := 9) (N := some 7) (v := ?_) (a' := ?_) #[true, true, true, true, true, true, true, true, true, true] rfl rfl (any_of HT_.out (by kernel_rfl)) (fun _ _ _ h => h) (Or.inl ⟨by rfl, ?_⟩) ?_ ?_
    rotate_left
    ·intro w'
     go_simp
     with_reducible rfl
    rotate_left
    ·simp only [Act.put, List.setIfInBounds_toArray, List.set_cons_zero, List.set_cons_succ, i64_w, i32_w]
     rfl
    refine done_ (done_of HT_.out (by kernel_rfl)) ?_
    try go_wp2
    refine bodyPost_ret (results_ct rfl _ _ gb269 30 #[.slice Ao21 t281.length co21, .string t284, .bool t285] (0, 0) _ rfl (by (with_reducible repeat (first | refine blk_drewN ?_ _ | refine blk_drew ?_ | refine blk_alloc ?_ _)); refine blk_put (cs := #[.slice Ao21 t281.length co21, .string t284, .bool false]) ?_ 2 _ rfl; (with_reducible repeat (first | refine blk_drewN ?_ _ | refine blk_drew ?_ | refine blk_alloc ?_ _)); refine blk_put (cs := #[.slice Ao21 t281.length co21, .string (⟨#[]⟩ : ByteArray), .bool false]) ?_ 1 _ rfl; (with_reducible repeat (first | refine blk_drewN ?_ _ | refine blk_drew ?_ | refine blk_alloc ?_ _)); refine blk_put (cs := #[.slice none 0 0, .string (⟨#[]⟩ : ByteArray), .bool false]) ?_ 0 _ rfl; (with_reducible repeat (first | refine blk_drewN ?_ _ | refine blk_drew ?_ | refine blk_alloc ?_ _)); exact BK269.out) Tryd.underlying30 rfl (by kernel_rfl)) rfl ?_
    exact ⟨_, by first | rfl | (simp [errW_none, errW_some] <;> rfl) | (simp [*, errW_none, errW_some] <;> rfl), by (with_reducible repeat (first | apply Kd.R_alloc | apply Kd.R_drewN | apply Kd.R_drew)); exact Kd.R_mono (Kd.R_far (p := ⟨gb269, 2, none⟩) (Kd.R_far (p := ⟨gb269, 1, none⟩) (Kd.R_far (p := ⟨gb269, 0, none⟩) (Kd.R_types HO283.out BK269.out (by decide)) (fun _ hk => hk.2) (.slice Ao21 t281.length co21)) (fun _ hk => hk.2) (.string t284)) (fun _ hk => hk.2) (.bool t285)) (fun _ hk => trivial), by repeat (first | (with_reducible first | exact HB.out | apply below_alloc | apply pw_below_drewN | apply below_drew1 | refine below_set ?_ GE268.out | refine below_set ?_ GE269.out | refine below_set ?_ GE274.out) | exact HB.out)⟩
   ·rw [if_neg c7] at H
    exact absurd H (by simp)
  ·rw [if_neg c6] at H
   exact absurd H (by simp)
 ·rw [if_neg c5] at H
  have c5b0 : (t273 == 0) = false := beq_eq_false_iff_ne.mpr c5
  have c5b1 : (t273 != 0) = true := bne_iff_ne.mpr c5
  simp only [Option.some.injEq, Prod.mk.injEq] at H
  obtain ⟨rfl, rfl, rfl, rfl⟩ := H
  go_enter Tryd.func32, Tryd.ntmps32
  go_wp2_with (first | ((with_reducible refine gate_dst (N := 3) rfl ?_); refine box_event ?hg (N := 3) ?hd (cs := #[.slice A0_0 l0_0.length c0_0, .string a0_1, .bool a0_2]) (t := 30) ?hr ?_; (case hd => rfl); (case hg => rfl); (case hr => first | (go_simp; done) | (go_simp; rfl)); intro gb268 hg w25 hbox hb; have n0_ := Aside0.mk (below_step bl hb); have n1_ := Aside0.mk (hbox); have n2_ := Aside0.mk ((by rw [hg]; exact (below_size bl) : w.heap.size ≤ gb268)); have n3_ := Aside0.mk ((by rw [hg]; exact (below_size bl) : w.heap.size ≤ gb268)); clear HB; have HB := n0_; have BK268 := n1_; have GW268 := n2_; have GE268 := n3_; clear n0_ n1_ n2_ n3_; clear hb hbox hg) | ((with_reducible refine gate_dst (N := 6) rfl ?_); refine box_event ?hg (N := 6) ?hd (cs := #[.slice none 0 0, .string (⟨#[]⟩ : ByteArray), .bool false]) (t := 30) ?hr ?_; (case hd => rfl); (case hg => rfl); (case hr => first | (go_simp; done) | (go_simp; rfl)); intro gb269 hg w26 hbox hb; have n0_ := Aside0.mk (kb BK268.out hb); have n1_ := Aside0.mk (below_step bl hb); have n2_ := Aside0.mk (hbox); have n3_ := Aside0.mk ((by rw [hg]; exact (below_size bl) : w.heap.size ≤ gb269)); have n4_ := Aside0.mk ((by rw [hg]; exact (below_size bl) : w.heap.size ≤ gb269)); have n5_ := Aside0.mk ((by rw [hg]; exact Nat.ne_of_lt (blk_lt (bk BK268.out)) : gb268 ≠ gb269)); have n6_ := Aside0.mk ((by rw [hg]; exact Nat.ne_of_gt (blk_lt (bk BK268.out)) : gb269 ≠ gb268)); clear BK268; clear HB; have BK268 := n0_; have HB := n1_; have BK269 := n2_; have GW269 := n3_; have GE269 := n4_; have NB268_269 := n5_; have NB269_268 := n6_; clear n0_ n1_ n2_ n3_ n4_ n5_ n6_; clear hb hbox hg) | ((with_reducible refine gate_callee (f := 30) rfl ?_); refine goesL_ (some 14) rfl rfl Tryd.func30 (by kernel_rfl) rfl #[.string a1, .string a2] rfl ml ?_; (with_reducible refine (postriderref07_Lay.calls k a1 a2 t270 t271 t272 t273 _ A4.out).mono ?_); rintro e w27 ⟨rfl, hb⟩; refine ⟨_, rfl, ?_⟩; have n0_ := Aside0.mk (kb BK268.out hb); have n1_ := Aside0.mk (kb BK269.out hb); have n2_ := Aside0.mk (below_step bl hb); clear BK268; clear BK269; clear HB; have BK268 := n0_; have BK269 := n1_; have HB := n2_; clear n0_ n1_ n2_; (try clear hb); (try clear hb2); (try clear hk); (try clear hi)) | ((with_reducible refine gate_dst (N := 8) rfl ?_); refine box_event ?hg (N := 8) ?hd (cs := #[.string (⟨#[]⟩ : ByteArray), .string (⟨#[]⟩ : ByteArray), .string (⟨#[]⟩ : ByteArray)]) (t := 60) ?hr ?_; (case hd => rfl); (case hg => rfl); (case hr => first | (go_simp; done) | (go_simp; rfl)); intro gb274 hg w28 hbox hb; have n0_ := Aside0.mk (kb BK268.out hb); have n1_ := Aside0.mk (kb BK269.out hb); have n2_ := Aside0.mk (below_step bl hb); have n3_ := Aside0.mk (hbox); have n4_ := Aside0.mk ((by rw [hg]; exact (below_size bl) : w.heap.size ≤ gb274)); have n5_ := Aside0.mk ((by rw [hg]; exact (below_size bl) : w.heap.size ≤ gb274)); have n6_ := Aside0.mk ((by rw [hg]; exact Nat.ne_of_lt (blk_lt (bk BK268.out)) : gb268 ≠ gb274)); have n7_ := Aside0.mk ((by rw [hg]; exact Nat.ne_of_gt (blk_lt (bk BK268.out)) : gb274 ≠ gb268)); have n8_ := Aside0.mk ((by rw [hg]; exact Nat.ne_of_lt (blk_lt (bk BK269.out)) : gb269 ≠ gb274)); have n9_ := Aside0.mk ((by rw [hg]; exact Nat.ne_of_gt (blk_lt (bk BK269.out)) : gb274 ≠ gb269)); clear BK268; clear BK269; clear HB; have BK268 := n0_; have BK269 := n1_; have HB := n2_; have BK274 := n3_; have GW274 := n4_; have GE274 := n5_; have NB268_274 := n6_; have NB274_268 := n7_; have NB269_274 := n8_; have NB274_269 := n9_; clear n0_ n1_ n2_ n3_ n4_ n5_ n6_ n7_ n8_ n9_; clear hb hbox hg; have hnb29 := NB274_268.out; have hnc29 := NB268_274.out; have hnb30 := NB274_269.out; have hnc30 := NB269_274.out; have hcz31_0 : w28.cell? ⟨gb274, 0, none⟩ = some (.string (⟨#[]⟩ : ByteArray)) := (blk_cell BK274.out 0).trans rfl; have hcz31_1 : w28.cell? ⟨gb274, 1, none⟩ = some (.string (⟨#[]⟩ : ByteArray)) := (blk_cell BK274.out 1).trans rfl; have hcz31_2 : w28.cell? ⟨gb274, 2, none⟩ = some (.string (⟨#[]⟩ : ByteArray)) := (blk_cell BK274.out 2).trans rfl; have hfz31_0 := blk_frozen BK274.out 0; have hfz31_1 := blk_frozen BK274.out 1; have hfz31_2 := blk_frozen BK274.out 2; have hnb32 := NB269_268.out; have hnc32 := NB268_269.out; have hcz33_0 : w28.cell? ⟨gb269, 0, none⟩ = some (.slice none 0 0) := (blk_cell BK269.out 0).trans rfl; have hcz33_1 : w28.cell? ⟨gb269, 1, none⟩ = some (.string (⟨#[]⟩ : ByteArray)) := (blk_cell BK269.out 1).trans rfl; have hcz33_2 : w28.cell? ⟨gb269, 2, none⟩ = some (.bool false) := (blk_cell BK269.out 2).trans rfl; have hfz33_0 := blk_frozen BK269.out 0; have hfz33_1 := blk_frozen BK269.out 1; have hfz33_2 := blk_frozen BK269.out 2))
  refine bodyPost_ret (results_ct rfl _ _ gb269 30 #[.slice none 0 0, .string (⟨#[]⟩ : ByteArray), .bool false] (0, 0) _ rfl (by (with_reducible repeat (first | refine blk_drewN ?_ _ | refine blk_drew ?_ | refine blk_alloc ?_ _)); refine blk_put (cs := #[.slice none 0 0, .string (⟨#[]⟩ : ByteArray), .bool false]) ?_ 2 _ rfl; (with_reducible repeat (first | refine blk_drewN ?_ _ | refine blk_drew ?_ | refine blk_alloc ?_ _)); refine blk_put (cs := #[.slice none 0 0, .string (⟨#[]⟩ : ByteArray), .bool false]) ?_ 1 _ rfl; (with_reducible repeat (first | refine blk_drewN ?_ _ | refine blk_drew ?_ | refine blk_alloc ?_ _)); refine blk_put (cs := #[.slice none 0 0, .string (⟨#[]⟩ : ByteArray), .bool false]) ?_ 0 _ rfl; (with_reducible repeat (first | refine blk_drewN ?_ _ | refine blk_drew ?_ | refine blk_alloc ?_ _)); refine blk_far ?_ NB269_274.out _; (with_reducible repeat (first | refine blk_drewN ?_ _ | refine blk_drew ?_ | refine blk_alloc ?_ _)); refine blk_far ?_ NB269_274.out _; (with_reducible repeat (first | refine blk_drewN ?_ _ | refine blk_drew ?_ | refine blk_alloc ?_ _)); refine blk_far ?_ NB269_274.out _; (with_reducible repeat (first | refine blk_drewN ?_ _ | refine blk_drew ?_ | refine blk_alloc ?_ _)); exact BK269.out) Tryd.underlying30 rfl (by kernel_rfl)) rfl ?_
  exact ⟨_, by first | rfl | (simp [errW_none, errW_some] <;> rfl) | (simp [*, errW_none, errW_some] <;> rfl), by first | exact Kd.R_nil _ _ _ _ _ | exact Kd.N_nil _ _ _ _ _ | exact Kd.V_nil _ _ _ _ _ | exact Kd.Q_nil _ _ _ _ _ | exact Kd.S_nil _ _ _ _ _, by repeat (first | (with_reducible first | exact HB.out | apply below_alloc | apply pw_below_drewN | apply below_drew1 | refine below_set ?_ GE268.out | refine below_set ?_ GE269.out | refine below_set ?_ GE274.out) | exact HB.out)⟩

/-! ### slices_Clone_head_Field_head_Field: function 70 (by hand) -/
def slices_Clone_head_Field_head_Field.f (l0 : List S41) : Option (List S41) := if l0.length * 48 ≤ 140737488355328 then some l0 else none
set_option maxHeartbeats 1000000 in
set_option maxRecDepth 100000 in
theorem slices_Clone_head_Field_head_Field.calls (A0 : Option Addr) (c0 : Nat) (l0 : List S41) (r : List S41) (w : World) (hr0 : Kd.C k41 w A0 l0.length l0) (hc0 : l0.length ≤ c0) (h : slices_Clone_head_Field_head_Field.f l0 = some r) :
    Calls Tryd.prog 70 #[.slice A0 l0.length c0] w fun e w' => ∃ v0_ : Value, e = .returned (v0_) ∧ Kd.R k41 41 w' w.heap.size (fun _ => True) v0_ r ∧ Below w.heap.size w w' := by
  unfold slices_Clone_head_Field_head_Field.f at h
  by_cases hsz : l0.length * 48 ≤ 140737488355328
  · rw [if_pos hsz] at h
    obtain rfl := Option.some.inj h
    clear h
    have HS := Aside0.mk hsz
    clear hsz
    have HC := Aside0.mk hc0
    have hu := Tryd.underlying22
    clear hc0
    cases A0 with
    | none =>
      have h0 : l0 = [] := by
        rcases Nat.eq_zero_or_pos l0.length with h0 | h0
        · exact List.length_eq_zero_iff.mp h0
        · obtain ⟨ad, h, _⟩ := hr0.2.2 h0
          cases h
      subst h0
      clear hr0
      have hq := fun W => Lib.run_eql_slice_nil (P := Tryd.prog) W 22 41 none 0 c0 0 0 hu
      go_enter Tryd.func70, Tryd.ntmps70
      go_wp2
      go_ret
      exact ⟨_, rfl, Kd.R_nil _ _ _ _ _, Below.refl _ _⟩
    | some ad =>
      have hq := fun W => Lib.run_eql_slice_nil (P := Tryd.prog) W 22 41 (some ad) l0.length c0 0 0 hu
      have HR := Aside0.mk hr0
      clear hr0
      go_enter Tryd.func70, Tryd.ntmps70
      go_wp2_with (first | ((with_reducible refine gate_dst (N := 5) rfl ?_); refine Kd.R_lit k41 w.heap.size 41 rfl (N := 5) rfl (xs := []) (inner := []) (ok := fun _ => True) (okp := fun _ => False) (by first | (go_simp; done) | (go_simp; rfl)) (Reps.none _ _) (fun _ h => h.elim) trivial (Below.refl _ _) (Nat.le_refl _) (by simp) ?_; intro v1 w1 ho1 hb1 hg1 hat1; have HO1 := Aside0.mk ho1; have HB1 := Aside0.mk hb1; clear ho1 hb1 hg1 hat1) | ((with_reducible refine gate_builtin (b := .append) (xs := #[.tmp 5, .tmp 6]) rfl ?_); at_builtin; refine Kd.R_append_rows k41 (w0 := w) w.heap.size rfl (.tmp 5) (.tmp 6) 22 41 (.agg #[(.string ⟨#[]⟩), (.string ⟨#[]⟩), (.string ⟨#[]⟩)]) 48 rfl hu info41 rfl (by decide) (by omega) v1 ([] : List S41) l0 _ _ _ (fun _ => True) (fun _ => False) rfl rfl HO1.out (Kd.C_below HR.out HB1.out) (fun x cs h => by obtain rfl := k41_open h; exact k41_mkM _ _ _ _) (fun _ h => h.elim) (fun _ _ => trivial) HB1.out HB1.out.size (by have := HS.out; simp; omega) ?_; intro v2 w2 ho2 hb2 hg2 hat2))
      go_ret
      exact ⟨_, rfl, by simpa using ho2, hb2⟩
  · rw [if_neg hsz] at h; cases h


end Go.Proofs.YtdciiahlakgikaaDoor.Q
end
section
namespace Go.Proofs.YtdciiahlakgikaaDoor.Q
open Go.RowKit Go.Proofs.YtdciiahlakgikaaDoorW.PrintWords Go.Proofs.YtdciiahlakgikaaDoorW.PrintLast Go.Proofs.YtdciiahlakgikaaDoorW.PrintMore
attribute [local go_sem] max2_int min2_int max_two min_two max_three min_three max_four min_four   -- for this text's walks alone
set_option linter.unusedVariables false
set_option linter.unusedSimpArgs false

/-! ### head_Message_Put: function 33 -/
def head_Message_Put.j0 : Nat → Int → ByteArray → Bool → List (S41) → ByteArray → Bool → Option ((List (S41)) × ByteArray × Bool × Int)
 | 0, _, _, _, _, _, _ => none
 | k + 1, x1, x2, x19, x288000, x288001, x288002 => if x19 = true then (some (([] : List (S41)), (⟨#[]⟩ : ByteArray), false, 1)) else (if 0 ≤ x1 then (if x1 < (x288000.length : Int) then ((head_Lay.f k ((rd_T41 x288000 x1).f0) x2).bind fun bt290 => (if bt290.2.2.2 = 0 then ((slices_Clone_head_Field_head_Field.f x288000).bind fun t295 => (if x1 < (t295.length : Int) then ((head_Message_with.f x288000 x288001 x288002 (t295.set (x1 : Int).toNat (⟨bt290.1, bt290.2.1, bt290.2.2.1⟩ : S41))).bind fun bt299 => (some (bt299.1, bt299.2.1, bt299.2.2.1, bt299.2.2.2))) else (none))) else (some (([] : List (S41)), (⟨#[]⟩ : ByteArray), false, bt290.2.2.2)))) else (none)) else (none))
def head_Message_Put.f (k : Nat) (l0_0 : List (S41)) (a0_1 : ByteArray) (a0_2 : Bool) (a1 : Int) (a2 : ByteArray) : Option ((List (S41)) × ByteArray × Bool × Int) := if a1 < 0 then (head_Message_Put.j0 k a1 a2 true l0_0 a0_1 a0_2) else (head_Message_Put.j0 k a1 a2 (decide (a1 ≥ (l0_0.length : Int))) l0_0 a0_1 a0_2)
theorem head_Message_Put.mono_l : ∀ k, (∀ y0 y1 y2 y3 y4 y5, LeO (head_Message_Put.j0 k y0 y1 y2 y3 y4 y5) (head_Message_Put.j0 (k + 1) y0 y1 y2 y3 y4 y5))
 | 0 => fun _ _ _ _ _ _ r h => by simp [head_Message_Put.j0] at h
 | k + 1 => by
  have ih0 := head_Message_Put.mono_l k
  ·intro y0 y1 y2 y3 y4 y5
   unfold head_Message_Put.j0
   repeat' first
   | (with_reducible exact ih0 _ _ _ _ _ _)
   | (with_reducible exact head_Lay.mono _ _ _)
   | (with_reducible exact LeO.refl _)
   | (with_reducible exact LeO.none _)
   | (with_reducible refine LeO.ite ?_ ?_)
   | (with_reducible refine LeO.bind ?_ (fun _ => ?_))
   | exact ih0 _ _ _ _ _ _
   | exact head_Lay.mono _ _ _
   | exact LeO.none _
   | refine LeO.ite ?_ ?_
   | refine LeO.bind ?_ (fun _ => ?_)
theorem head_Message_Put.mono : ∀ a0 a1 a2 a3 a4 k, LeO (head_Message_Put.f k a0 a1 a2 a3 a4) (head_Message_Put.f (k + 1) a0 a1 a2 a3 a4) := by
 intro a0 a1 a2 a3 a4 k
 have ih0 := head_Message_Put.mono_l k
 unfold head_Message_Put.f
 repeat' first
   | (with_reducible exact ih0 _ _ _ _ _ _)
   | (with_reducible exact head_Lay.mono _ _ _)
   | (with_reducible exact LeO.refl _)
   | (with_reducible exact LeO.none _)
   | (with_reducible refine LeO.ite ?_ ?_)
   | (with_reducible refine LeO.bind ?_ (fun _ => ?_))
   | exact ih0 _ _ _ _ _ _
   | exact head_Lay.mono _ _ _
   | exact LeO.none _
   | refine LeO.ite ?_ ?_
   | refine LeO.bind ?_ (fun _ => ?_)
set_option maxHeartbeats 8000000 in
set_option maxRecDepth 100000 in
theorem head_Message_Put.calls (k : Nat) (A0_0 : Option Addr) (c0_0 : Nat) (l0_0 : List (S41)) (a0_1 : ByteArray) (a0_2 : Bool) (a1 : Int) (a2 : ByteArray) (r1 : List (S41)) (r2 : ByteArray) (r3 : Bool) (r4 : Int) (w : World) (hr0_0 : Kd.C k41 w A0_0 l0_0.length l0_0) (hc0_0 : l0_0.length ≤ c0_0) (hG : Glob w) (h : head_Message_Put.f k l0_0 a0_1 a0_2 a1 a2 = some (r1, r2, r3, r4)) :
  Calls Tryd.prog 33 #[.agg #[.slice A0_0 l0_0.length c0_0, .string a0_1, .bool a0_2], .int .i64 a1, .string a2] w fun e w' => ∃ v0_ : Value, e = .returned (.tuple #[.agg #[v0_, .string r2, .bool r3], .int .i64 r4]) ∧ Kd.R k41 41 w' w.heap.size (fun _ => True) v0_ r1 ∧ Below w.heap.size w w' := by
 have hu24 := Tryd.underlying24
 have hu41 := Tryd.underlying41
 have HR0_0 := Aside0.mk hr0_0
 have HC0_0 := Aside0.mk hc0_0
 clear hr0_0 hc0_0
 have HB := Aside0.mk (Below.refl w.heap.size w)
 have HG := Aside0.mk hG
 clear hG
 have H : (if a1 < 0 then (head_Message_Put.j0 k a1 a2 true l0_0 a0_1 a0_2) else (head_Message_Put.j0 k a1 a2 (decide (a1 ≥ (l0_0.length : Int))) l0_0 a0_1 a0_2)) = some (r1, r2, r3, r4) := h
 clear h
 have HC4 := Aside0.mk H
 clear H
 go_enter Tryd.func33, Tryd.ntmps33
 go_upto_region 1 with (first | ((with_reducible refine gate_dst (N := 3) rfl ?_); (try (refine gate_guard (by rfl) ?_; dsimp only)); refine box_event ?hg (N := 3) ?hd (cs := #[.slice A0_0 l0_0.length c0_0, .string a0_1, .bool a0_2]) (t := 24) ?hr ?_; (case hd => rfl); (case hg => rfl); (case hr => first | (go_simp; done) | (go_simp; rfl)); intro gb287 hg w5 hbox hb; have n0_ := Aside0.mk (below_step bl hb); have n1_ := Aside0.mk (hbox); have n2_ := Aside0.mk ((by rw [hg]; exact (below_size bl) : w.heap.size ≤ gb287)); have n3_ := Aside0.mk ((by rw [hg]; exact (below_size bl) : w.heap.size ≤ gb287)); clear HB; have HB := n0_; have BK287 := n1_; have GW287 := n2_; have GE287 := n3_; clear n0_ n1_ n2_ n3_; clear hb hbox hg) | ((with_reducible refine gate_dst (N := 6) rfl ?_); (try (refine gate_guard (by rfl) ?_; dsimp only)); refine box_event ?hg (N := 6) ?hd (cs := #[.slice none 0 0, .string (⟨#[]⟩ : ByteArray), .bool false]) (t := 24) ?hr ?_; (case hd => rfl); (case hg => rfl); (case hr => first | (go_simp; done) | (go_simp; rfl)); intro gb288 hg w6 hbox hb; have n0_ := Aside0.mk (kb BK287.out hb); have n1_ := Aside0.mk (below_step bl hb); have n2_ := Aside0.mk (hbox); have n3_ := Aside0.mk ((by rw [hg]; exact (below_size bl) : w.heap.size ≤ gb288)); have n4_ := Aside0.mk ((by rw [hg]; exact (below_size bl) : w.heap.size ≤ gb288)); have n5_ := Aside0.mk ((by rw [hg]; exact Nat.ne_of_lt (blk_lt (bk BK287.out)) : gb287 ≠ gb288)); have n6_ := Aside0.mk ((by rw [hg]; exact Nat.ne_of_gt (blk_lt (bk BK287.out)) : gb288 ≠ gb287)); clear BK287; clear HB; have BK287 := n0_; have HB := n1_; have BK288 := n2_; have GW288 := n3_; have GE288 := n4_; have NB287_288 := n5_; have NB288_287 := n6_; clear n0_ n1_ n2_ n3_ n4_ n5_ n6_; clear hb hbox hg))
 (try simp only [Act.put, List.setIfInBounds_toArray, List.set_cons_zero, List.set_cons_succ])
 go_cut [19] (fun v19 wc => ∃ (kq : Nat) (x19_3 : Bool), v19 = .bool x19_3 ∧ Aside0 (head_Message_Put.j0 kq a1 a2 x19_3 l0_0 a0_1 a0_2 = some (r1, r2, r3, r4)) ∧ Aside0 (kq ≤ k) ∧ Aside0 (wc.heap[gb287]? = some (.cells #[(.slice A0_0 l0_0.length c0_0), .string a0_1, .bool a0_2] 24 (0, 0))) ∧ Aside0 (wc.heap[gb288]? = some (.cells #[(.slice none 0 0), .string (⟨#[]⟩ : ByteArray), .bool false] 24 (0, 0))) ∧ Aside0 (Below w.heap.size w wc))
 case first =>
  have H := HC4.out
  clear HC4
  by_cases c7 : a1 < 0
  ·rw [if_pos c7] at H
   have c7b0 : decide (a1 < 0) = true := decide_eq_true c7
   clear c7
   (first | rw [c7b0] | (simp only [i64_w, i32_w]; rw [c7b0]) | skip)
   have H' := Aside0.mk H
   clear H
   go_wp2
   go_meet
   case rel => exact ⟨_, (true), (by first | rfl | (simp; done) | (simp [*]; done)), H', ⟨by first | omega | exact Nat.le_refl _⟩, ⟨by (with_reducible repeat (first | refine blk_drewN ?_ _ | refine blk_drew ?_ | refine blk_alloc ?_ _)); exact BK287.out⟩, ⟨by (with_reducible repeat (first | refine blk_drewN ?_ _ | refine blk_drew ?_ | refine blk_alloc ?_ _)); exact BK288.out⟩, ⟨by repeat (first | (with_reducible first | exact HB.out | apply below_alloc | apply pw_below_drewN | apply below_drew1 | refine below_set ?_ GE287.out | refine below_set ?_ GE288.out) | exact HB.out)⟩⟩
  ·rw [if_neg c7] at H
   have c7b0 : decide (a1 < 0) = false := decide_eq_false c7
   clear c7
   (first | rw [c7b0] | (simp only [i64_w, i32_w]; rw [c7b0]) | skip)
   have H' := Aside0.mk H
   clear H
   have hnb8 := NB287_288.out
   have hnc8 := NB288_287.out
   have hcz9_0 : w6.cell? ⟨gb287, 0, none⟩ = some (.slice A0_0 l0_0.length c0_0) := (blk_cell BK287.out 0).trans rfl
   have hcz9_1 : w6.cell? ⟨gb287, 1, none⟩ = some (.string a0_1) := (blk_cell BK287.out 1).trans rfl
   have hcz9_2 : w6.cell? ⟨gb287, 2, none⟩ = some (.bool a0_2) := (blk_cell BK287.out 2).trans rfl
   have hfz9_0 := blk_frozen BK287.out 0
   have hfz9_1 := blk_frozen BK287.out 1
   have hfz9_2 := blk_frozen BK287.out 2
   go_wp2
   go_meet
   case rel => exact ⟨_, (decide (a1 ≥ (l0_0.length : Int))), (by first | rfl | (simp; done) | (simp [*]; done)), H', ⟨by first | omega | exact Nat.le_refl _⟩, ⟨by (with_reducible repeat (first | refine blk_drewN ?_ _ | refine blk_drew ?_ | refine blk_alloc ?_ _)); exact BK287.out⟩, ⟨by (with_reducible repeat (first | refine blk_drewN ?_ _ | refine blk_drew ?_ | refine blk_alloc ?_ _)); exact BK288.out⟩, ⟨by repeat (first | (with_reducible first | exact HB.out | apply below_alloc | apply pw_below_drewN | apply below_drew1 | refine below_set ?_ GE287.out | refine below_set ?_ GE288.out) | exact HB.out)⟩⟩
 case rest =>
  clear HC4
  try clear p2
  try clear c3
  try clear c7
  try clear c7b0
  try clear c8
  try clear hcz9_0
  try clear hcz9_1
  try clear hcz9_2
  try clear hfz9_0
  try clear hfz9_1
  try clear hfz9_2
  obtain ⟨kq, x19_3, rfl, HA, HJ3, BK287, BK288, HB⟩ := hcut
  cases kq with
  | zero => exact absurd HA.out (by simp [head_Message_Put.j0])
  | succ kj3 =>
   have H := HA.out
   clear HA
   simp only [head_Message_Put.j0] at H
   by_cases c10 : x19_3 = true
   ·subst c10
    have H1 : (some (([] : List (S41)), (⟨#[]⟩ : ByteArray), false, 1)) = some (r1, r2, r3, r4) := by rw [if_pos rfl] at H; exact H
    clear H
    have H := H1
    clear H1
    simp only [Option.some.injEq, Prod.mk.injEq] at H
    obtain ⟨rfl, rfl, rfl, rfl⟩ := H
    have hnb11 := NB288_287.out
    have hnc11 := NB287_288.out
    have hcz12_0 : wc.cell? ⟨gb288, 0, none⟩ = some (.slice none 0 0) := (blk_cell BK288.out 0).trans rfl
    have hcz12_1 : wc.cell? ⟨gb288, 1, none⟩ = some (.string (⟨#[]⟩ : ByteArray)) := (blk_cell BK288.out 1).trans rfl
    have hcz12_2 : wc.cell? ⟨gb288, 2, none⟩ = some (.bool false) := (blk_cell BK288.out 2).trans rfl
    have hfz12_0 := blk_frozen BK288.out 0
    have hfz12_1 := blk_frozen BK288.out 1
    have hfz12_2 := blk_frozen BK288.out 2
    go_wp2
    refine bodyPost_ret (results_ct rfl _ _ gb288 24 #[.slice none 0 0, .string (⟨#[]⟩ : ByteArray), .bool false] (0, 0) _ rfl (by (with_reducible repeat (first | refine blk_drewN ?_ _ | refine blk_drew ?_ | refine blk_alloc ?_ _)); refine blk_put (cs := #[.slice none 0 0, .string (⟨#[]⟩ : ByteArray), .bool false]) ?_ 2 _ rfl; (with_reducible repeat (first | refine blk_drewN ?_ _ | refine blk_drew ?_ | refine blk_alloc ?_ _)); refine blk_put (cs := #[.slice none 0 0, .string (⟨#[]⟩ : ByteArray), .bool false]) ?_ 1 _ rfl; (with_reducible repeat (first | refine blk_drewN ?_ _ | refine blk_drew ?_ | refine blk_alloc ?_ _)); refine blk_put (cs := #[.slice none 0 0, .string (⟨#[]⟩ : ByteArray), .bool false]) ?_ 0 _ rfl; (with_reducible repeat (first | refine blk_drewN ?_ _ | refine blk_drew ?_ | refine blk_alloc ?_ _)); exact BK288.out) Tryd.underlying24 rfl (by kernel_rfl)) rfl ?_
    exact ⟨_, by first | rfl | (simp [errW_none, errW_some] <;> rfl) | (simp [*, errW_none, errW_some] <;> rfl), by first | exact Kd.R_nil _ _ _ _ _ | exact Kd.N_nil _ _ _ _ _ | exact Kd.V_nil _ _ _ _ _ | exact Kd.Q_nil _ _ _ _ _ | exact Kd.S_nil _ _ _ _ _, by repeat (first | (with_reducible first | exact HB.out | apply below_alloc | apply pw_below_drewN | apply below_drew1 | refine below_set ?_ GE287.out | refine below_set ?_ GE288.out) | exact HB.out)⟩
   ·replace c10 := Bool.eq_false_iff.mpr c10
    subst c10
    have H1 : (if 0 ≤ a1 then (if a1 < (l0_0.length : Int) then ((head_Lay.f kj3 ((rd_T41 l0_0 a1).f0) a2).bind fun bt290 => (if bt290.2.2.2 = 0 then ((slices_Clone_head_Field_head_Field.f l0_0).bind fun t295 => (if a1 < (t295.length : Int) then ((head_Message_with.f l0_0 a0_1 a0_2 (t295.set (a1 : Int).toNat (⟨bt290.1, bt290.2.1, bt290.2.2.1⟩ : S41))).bind fun bt299 => (some (bt299.1, bt299.2.1, bt299.2.2.1, bt299.2.2.2))) else (none))) else (some (([] : List (S41)), (⟨#[]⟩ : ByteArray), false, bt290.2.2.2)))) else (none)) else (none)) = some (r1, r2, r3, r4) := by rw [if_neg (show ¬ (false = true) by decide)] at H; exact H
    clear H
    have H := H1
    clear H1
    by_cases c13 : 0 ≤ a1
    ·rw [if_pos c13] at H
     have c13b0 : decide (0 ≤ a1) = true := decide_eq_true c13
     clear c13
     by_cases c14 : a1 < (l0_0.length : Int)
     ·rw [if_pos c14] at H
      have c14b0 : decide (a1 < (l0_0.length : Int)) = true := decide_eq_true c14
      clear c14
      replace H := Option.bind_eq_some_iff.mp H
      obtain ⟨⟨t290, t291, t292, t293⟩, A150, H⟩ := H
      replace H : (if t293 = 0 then ((slices_Clone_head_Field_head_Field.f l0_0).bind fun t295 => (if a1 < (t295.length : Int) then ((head_Message_with.f l0_0 a0_1 a0_2 (t295.set (a1 : Int).toNat (⟨t290, t291, t292⟩ : S41))).bind fun bt299 => (some (bt299.1, bt299.2.1, bt299.2.2.1, bt299.2.2.2))) else (none))) else (some (([] : List (S41)), (⟨#[]⟩ : ByteArray), false, t293))) = some (r1, r2, r3, r4) := H
      have A15 := Aside0.mk A150
      clear A150
      by_cases c16 : t293 = 0
      ·rw [if_pos c16] at H
       have c16b0 : (t293 == 0) = true := beq_iff_eq.mpr c16
       have c16b1 : (t293 != 0) = false := bne_eq_false_iff_eq.mpr c16
       clear c16
       replace H := Option.bind_eq_some_iff.mp H
       obtain ⟨t295, A170, H⟩ := H
       replace H : (if a1 < (t295.length : Int) then ((head_Message_with.f l0_0 a0_1 a0_2 (t295.set (a1 : Int).toNat (⟨t290, t291, t292⟩ : S41))).bind fun bt299 => (some (bt299.1, bt299.2.1, bt299.2.2.1, bt299.2.2.2))) else (none)) = some (r1, r2, r3, r4) := H
       have A17 := Aside0.mk A170
       clear A170
       by_cases c18 : a1 < (t295.length : Int)
       ·rw [if_pos c18] at H
        have c18b0 : decide (a1 < (t295.length : Int)) = true := decide_eq_true c18
        clear c18
        obtain ⟨y298, hy298⟩ : ∃ y_ : List (S41), y_ = (t295.set (a1 : Int).toNat (⟨t290, t291, t292⟩ : S41)) := ⟨_, rfl⟩
        replace H : ((head_Message_with.f l0_0 a0_1 a0_2 y298).bind fun bt299 => (some (bt299.1, bt299.2.1, bt299.2.2.1, bt299.2.2.2))) = some (r1, r2, r3, r4) := by first | (rw [hy298]; with_reducible exact H) | (have H2_ := (Option.bind_some _ _).symm.trans H; rw [hy298]; with_reducible exact H2_) | (have H2_ := (Option.bind_some _ _).symm.trans H; with_reducible exact H2_) | with_reducible exact H | (rw [hy298]; exact H) | exact H
        have Ny298 := Aside0.mk hy298
        clear hy298
        replace H := Option.bind_eq_some_iff.mp H
        obtain ⟨⟨t299, t302, t303, t304⟩, A200, H⟩ := H
        replace H : (some (t299, t302, t303, t304)) = some (r1, r2, r3, r4) := H
        have A20 := Aside0.mk A200
        clear A200
        simp only [Option.some.injEq, Prod.mk.injEq] at H
        obtain ⟨rfl, rfl, rfl, rfl⟩ := H
        have hnb21 := NB287_288.out
        have hnc21 := NB288_287.out
        have hcz22_0 : wc.cell? ⟨gb287, 0, none⟩ = some (.slice A0_0 l0_0.length c0_0) := (blk_cell BK287.out 0).trans rfl
        have hcz22_1 : wc.cell? ⟨gb287, 1, none⟩ = some (.string a0_1) := (blk_cell BK287.out 1).trans rfl
        have hcz22_2 : wc.cell? ⟨gb287, 2, none⟩ = some (.bool a0_2) := (blk_cell BK287.out 2).trans rfl
        have hfz22_0 := blk_frozen BK287.out 0
        have hfz22_1 := blk_frozen BK287.out 1
        have hfz22_2 := blk_frozen BK287.out 2
        have p289 : 0 ≤ (a1 : Int) := od
        have q289 : a1 < (l0_0.length : Int) := od
        obtain ⟨ad289, e289, hx289_0, hx289_1, hx289_2⟩ := at_T41 HR0_0.out a1 p289 q289
        cases e289
        replace hx289_0 := (HB.out.cell (World.block_lt_of_cell? w _ hx289_0)).trans hx289_0
        replace hx289_1 := (HB.out.cell (World.block_lt_of_cell? w _ hx289_1)).trans hx289_1
        replace hx289_2 := (HB.out.cell (World.block_lt_of_cell? w _ hx289_2)).trans hx289_2
        replace p289 := eq_true p289
        replace q289 := eq_true q289
        go_wp2_with (first | ((with_reducible refine gate_callee (f := 14) rfl ?_); refine goesL_ (some 29) rfl rfl Tryd.func14 (by kernel_rfl) rfl #[.string ((rd_T41 l0_0 a1).f0), .string a2] rfl ml ?_; (with_reducible refine (head_Lay.calls kj3 ((rd_T41 l0_0 a1).f0) a2 t290 t291 t292 t293 _ ?side1 A15.out).mono ?_); (case side1 => exact Glob.below HG.out bl); rintro e w23 ⟨rfl, hb⟩; refine ⟨_, rfl, ?_⟩; have n0_ := Aside0.mk (kb BK287.out hb); have n1_ := Aside0.mk (kb BK288.out hb); have n2_ := Aside0.mk (below_step bl hb); clear BK287; clear BK288; clear HB; have BK287 := n0_; have BK288 := n1_; have HB := n2_; clear n0_ n1_ n2_; (try clear hb); (try clear hb2); (try clear hk); (try clear hi)) | ((with_reducible refine gate_dst (N := 8) rfl ?_); (try (refine gate_guard (by rfl) ?_; dsimp only)); refine box_event ?hg (N := 8) ?hd (cs := #[.string (⟨#[]⟩ : ByteArray), .string (⟨#[]⟩ : ByteArray), .string (⟨#[]⟩ : ByteArray)]) (t := 41) ?hr ?_; (case hd => rfl); (case hg => rfl); (case hr => first | (go_simp; done) | (go_simp; rfl)); intro gb294 hg w24 hbox hb; have n0_ := Aside0.mk (kb BK287.out hb); have n1_ := Aside0.mk (kb BK288.out hb); have n2_ := Aside0.mk (below_step bl hb); have n3_ := Aside0.mk (hbox); have n4_ := Aside0.mk ((by rw [hg]; exact (below_size bl) : w.heap.size ≤ gb294)); have n5_ := Aside0.mk ((by rw [hg]; exact (below_size bl) : w.heap.size ≤ gb294)); have n6_ := Aside0.mk ((by rw [hg]; exact Nat.ne_of_lt (blk_lt (bk BK287.out)) : gb287 ≠ gb294)); have n7_ := Aside0.mk ((by rw [hg]; exact Nat.ne_of_gt (blk_lt (bk BK287.out)) : gb294 ≠ gb287)); have n8_ := Aside0.mk ((by rw [hg]; exact Nat.ne_of_lt (blk_lt (bk BK288.out)) : gb288 ≠ gb294)); have n9_ := Aside0.mk ((by rw [hg]; exact Nat.ne_of_gt (blk_lt (bk BK288.out)) : gb294 ≠ gb288)); clear BK287; clear BK288; clear HB; have BK287 := n0_; have BK288 := n1_; have HB := n2_; have BK294 := n3_; have GW294 := n4_; have GE294 := n5_; have NB287_294 := n6_; have NB294_287 := n7_; have NB288_294 := n8_; have NB294_288 := n9_; clear n0_ n1_ n2_ n3_ n4_ n5_ n6_ n7_ n8_ n9_; clear hb hbox hg; have hnb25 := NB294_287.out; have hnc25 := NB287_294.out; have hnb26 := NB294_288.out; have hnc26 := NB288_294.out; have hcz27_0 : w24.cell? ⟨gb294, 0, none⟩ = some (.string (⟨#[]⟩ : ByteArray)) := (blk_cell BK294.out 0).trans rfl; have hcz27_1 : w24.cell? ⟨gb294, 1, none⟩ = some (.string (⟨#[]⟩ : ByteArray)) := (blk_cell BK294.out 1).trans rfl; have hcz27_2 : w24.cell? ⟨gb294, 2, none⟩ = some (.string (⟨#[]⟩ : ByteArray)) := (blk_cell BK294.out 2).trans rfl; have hfz27_0 := blk_frozen BK294.out 0; have hfz27_1 := blk_frozen BK294.out 1; have hfz27_2 := blk_frozen BK294.out 2; have hcz28_0 : w24.cell? ⟨gb287, 0, none⟩ = some (.slice (some ad289) l0_0.length c0_0) := (blk_cell BK287.out 0).trans rfl; have hcz28_1 : w24.cell? ⟨gb287, 1, none⟩ = some (.string a0_1) := (blk_cell BK287.out 1).trans rfl; have hcz28_2 : w24.cell? ⟨gb287, 2, none⟩ = some (.bool a0_2) := (blk_cell BK287.out 2).trans rfl; have hfz28_0 := blk_frozen BK287.out 0; have hfz28_1 := blk_frozen BK287.out 1; have hfz28_2 := blk_frozen BK287.out 2) | ((with_reducible refine gate_callee (f := 70) rfl ?_); refine goesL_ (some 38) rfl rfl Tryd.func70 (by kernel_rfl) rfl #[.slice (some ad289) l0_0.length c0_0] rfl ml ?_; (with_reducible refine (slices_Clone_head_Field_head_Field.calls _ _ l0_0 t295 _ ?side1 ?side2 A17.out).mono ?_); (case side1 => exact Kd.C_below HR0_0.out bl); (case side2 => exact HC0_0.out); rintro e w29 ⟨v296, rfl, ho0, hb⟩; refine ⟨_, rfl, ?_⟩; have n0_ := Aside0.mk (Kd.R_lower (Kd.R_newB ho0 (g := gb294) (o := .cells #[.string t290, .string t291, .string t292] 41 (0, 0)) (by (with_reducible repeat (first | refine blk_drewN ?_ _ | refine blk_drew ?_ | refine blk_alloc ?_ _)); refine blk_put (cs := #[.string t290, .string t291, .string (⟨#[]⟩ : ByteArray)]) ?_ 2 _ rfl; (with_reducible repeat (first | refine blk_drewN ?_ _ | refine blk_drew ?_ | refine blk_alloc ?_ _)); refine blk_put (cs := #[.string t290, .string (⟨#[]⟩ : ByteArray), .string (⟨#[]⟩ : ByteArray)]) ?_ 1 _ rfl; (with_reducible repeat (first | refine blk_drewN ?_ _ | refine blk_drew ?_ | refine blk_alloc ?_ _)); refine blk_put (cs := #[.string (⟨#[]⟩ : ByteArray), .string (⟨#[]⟩ : ByteArray), .string (⟨#[]⟩ : ByteArray)]) ?_ 0 _ rfl; (with_reducible repeat (first | refine blk_drewN ?_ _ | refine blk_drew ?_ | refine blk_alloc ?_ _)); exact BK294.out)) (below_size bl)); have n1_ := Aside0.mk (kb BK287.out hb); have n2_ := Aside0.mk (kb BK288.out hb); have n3_ := Aside0.mk (blk_below (g := gb294) (o := .cells #[.string t290, .string t291, .string t292] 41 (0, 0)) (by (with_reducible repeat (first | refine blk_drewN ?_ _ | refine blk_drew ?_ | refine blk_alloc ?_ _)); refine blk_put (cs := #[.string t290, .string t291, .string (⟨#[]⟩ : ByteArray)]) ?_ 2 _ rfl; (with_reducible repeat (first | refine blk_drewN ?_ _ | refine blk_drew ?_ | refine blk_alloc ?_ _)); refine blk_put (cs := #[.string t290, .string (⟨#[]⟩ : ByteArray), .string (⟨#[]⟩ : ByteArray)]) ?_ 1 _ rfl; (with_reducible repeat (first | refine blk_drewN ?_ _ | refine blk_drew ?_ | refine blk_alloc ?_ _)); refine blk_put (cs := #[.string (⟨#[]⟩ : ByteArray), .string (⟨#[]⟩ : ByteArray), .string (⟨#[]⟩ : ByteArray)]) ?_ 0 _ rfl; (with_reducible repeat (first | refine blk_drewN ?_ _ | refine blk_drew ?_ | refine blk_alloc ?_ _)); exact BK294.out) hb); have n4_ := Aside0.mk (below_step bl hb); clear BK287; clear BK288; clear BK294; clear HB; have HO297 := n0_; have BK287 := n1_; have BK288 := n2_; have BK294 := n3_; have HB := n4_; clear n0_ n1_ n2_ n3_ n4_; (try clear hb); (try clear hb2); (try clear hk); (try clear hi); (try clear ho0); have hcz30_0 : w29.cell? ⟨gb294, 0, none⟩ = some (.string t290) := (blk_cell BK294.out 0).trans rfl; have hcz30_1 : w29.cell? ⟨gb294, 1, none⟩ = some (.string t291) := (blk_cell BK294.out 1).trans rfl; have hcz30_2 : w29.cell? ⟨gb294, 2, none⟩ = some (.string t292) := (blk_cell BK294.out 2).trans rfl; have hfz30_0 := blk_frozen BK294.out 0; have hfz30_1 := blk_frozen BK294.out 1; have hfz30_2 := blk_frozen BK294.out 2; have p19 : 0 ≤ (a1 : Int) := od; have q19 : (a1 : Int) < ((t295.length : Int) : Int) := od; obtain ⟨go19, co19, eo19, gb19, gl19, cl19, HG19⟩ := Kd.R_form HO297.out (by omega); (first | cases eo19 | (injection eo19 with ea_ en_ ec_; (first | subst ea_ | (injection ea_ with ea_; subst ea_)); subst ec_; clear en_)); have GB19 := Aside0.mk gb19; have GG19 := Aside0.mk HG19; clear gb19 gl19 HG19; obtain ⟨ce19, hcl19, hM19, hcc19, hfr19⟩ := Kd.R_elem HO297.out z41 (a1 : Int) p19 q19; obtain rfl := k41_openM hM19; have hx19_0 : w29.cell? ⟨go19, (a1 : Int).toNat * 3, none⟩ = some (.string ((rd_T41 t295 a1).f0)) := hcc19 0 _ rfl; have hx19_1 : w29.cell? ⟨go19, (a1 : Int).toNat * 3 + 1, none⟩ = some (.string ((rd_T41 t295 a1).f1)) := hcc19 1 _ rfl; have hx19_2 : w29.cell? ⟨go19, (a1 : Int).toNat * 3 + 2, none⟩ = some (.string ((rd_T41 t295 a1).f2)) := hcc19 2 _ rfl; have hf19_0 : w29.frozen? ⟨go19, (a1 : Int).toNat * 3, none⟩ = false := hfr19 0; have hf19_1 : w29.frozen? ⟨go19, (a1 : Int).toNat * 3 + 1, none⟩ = false := hfr19 1; have hf19_2 : w29.frozen? ⟨go19, (a1 : Int).toNat * 3 + 2, none⟩ = false := hfr19 2; clear hcl19 hcc19 hfr19 hM19; replace p19 := eq_true p19; replace q19 := eq_true q19; have n_ := Aside0.mk (Kd.R_mono (ok' := (fun k_ => k_ ≠ gb294)) HO297.out (fun k_ hk => hk.2)); clear HO297; have HO297 := n_; clear n_; have HX31 := Aside0.mk (show Kd.R k41 41 w29 w.heap.size (fun k_ => k_ ≠ gb294) (.slice (some ⟨go19, 0, none⟩) t295.length co19) t295 from (kr HO297.out)); obtain ⟨ce31, hcl31, hM31, hcc31, hfr31⟩ := Kd.R_elem HX31.out z41 (a1 : Int) (od) (by have h_ : (a1 : Int) < ((t295.length : Int) : Int) := od; first | exact h_ | (have e_ := (Kd.R_reads' HO297.out).1; omega) | simpa using h_); obtain rfl := k41_openM hM31; have HP31 := Kd.R_seg HX31.out (a1 : Int) (od) (by have h_ : (a1 : Int) < ((t295.length : Int) : Int) := od; first | exact h_ | (have e_ := (Kd.R_reads' HO297.out).1; omega) | simpa using h_) (seg := [.string t290, .string t291, .string t292]) (j := 0) hcl31 hcc31 (show 3 ≤ 3 from by decide) (x' := (⟨t290, t291, t292⟩ : S41)) (k41_mkM _ _ _ (⟨t290, t291, t292⟩ : S41) ) (fun _ hk => hk); have hx31_0 := hcc31 0 _ rfl; (try simp only [show (k41).sz = 3 from rfl, Nat.mul_one, Nat.add_zero] at hx31_0); have hf31_0 := hfr31 0; (try simp only [show (k41).sz = 3 from rfl, Nat.mul_one, Nat.add_zero] at hf31_0); have hx31_1 := hcc31 1 _ rfl; (try simp only [show (k41).sz = 3 from rfl, Nat.mul_one, Nat.add_zero] at hx31_1); have hf31_1 := hfr31 1; (try simp only [show (k41).sz = 3 from rfl, Nat.mul_one, Nat.add_zero] at hf31_1); have hx31_2 := hcc31 2 _ rfl; (try simp only [show (k41).sz = 3 from rfl, Nat.mul_one, Nat.add_zero] at hx31_2); have hf31_2 := hfr31 2; (try simp only [show (k41).sz = 3 from rfl, Nat.mul_one, Nat.add_zero] at hf31_2); clear hcl31 hcc31 hfr31 hM31) | ((with_reducible refine gate_store (t := 41) (p := 42) rfl ?_); refine store_event (t := 41) (p := 42) (v := ?vo_w32) (w1 := (((w29.setCell ⟨go19, (a1 : Int).toNat * 3, none⟩ (.string t290)).setCell ⟨go19, (a1 : Int).toNat * 3 + 1, none⟩ (.string t291)).setCell ⟨go19, (a1 : Int).toNat * 3 + 2, none⟩ (.string t292))) ?hg ?ho ?hn ?hr ?_; (case ho => rfl); (case hg => rfl); (case hn => rfl); (case hr => first | (go_simp; done) | (go_simp; rfl)); intro w32 hw; have hg : w29.grownBy w32 (some go19) := (by rw [hw]; exact HP31.2); have hp_ : Kd.R k41 41 w32 w.heap.size (fun k_ => k_ ≠ gb294) (.slice (some ⟨go19, 0, none⟩) t295.length co19) y298 := (by rw [hw, Ny298.out]; exact HP31.1); clear HP31; have n0_ := Aside0.mk (blk_grown (g := gb287) (o := .cells #[.slice (some ad289) l0_0.length c0_0, .string a0_1, .bool a0_2] 24 (0, 0)) (bk BK287.out) hg (Kd.R_ne HO297.out BK287.out (by decide))); have n1_ := Aside0.mk (blk_grown (g := gb288) (o := .cells #[.slice none 0 0, .string (⟨#[]⟩ : ByteArray), .bool false] 24 (0, 0)) (bk BK288.out) hg (Kd.R_ne HO297.out BK288.out (by decide))); have n2_ := Aside0.mk (blk_grown (g := gb294) (o := .cells #[.string t290, .string t291, .string t292] 41 (0, 0)) (bk BK294.out) hg (Kd.R_away HO297.out (fun _ hk => hk))); have n3_ := Aside0.mk (hp_); have n4_ := Aside0.mk ((by rw [hw]; exact below_set (below_set (below_set (HB.out) GB19.out) GB19.out) GB19.out : Below w.heap.size w w32)); clear BK287; clear BK288; clear BK294; clear HO297; clear HB; have BK287 := n0_; have BK288 := n1_; have BK294 := n2_; have HO297 := n3_; have HB := n4_; clear n0_ n1_ n2_ n3_ n4_; clear hg hw hp_; have hcz33_0 : w32.cell? ⟨gb287, 0, none⟩ = some (.slice (some ad289) l0_0.length c0_0) := (blk_cell BK287.out 0).trans rfl; have hcz33_1 : w32.cell? ⟨gb287, 1, none⟩ = some (.string a0_1) := (blk_cell BK287.out 1).trans rfl; have hcz33_2 : w32.cell? ⟨gb287, 2, none⟩ = some (.bool a0_2) := (blk_cell BK287.out 2).trans rfl; have hfz33_0 := blk_frozen BK287.out 0; have hfz33_1 := blk_frozen BK287.out 1; have hfz33_2 := blk_frozen BK287.out 2) | ((with_reducible refine gate_callee (f := 68) rfl ?_); refine goesL_ (some 45) rfl rfl Tryd.func68 (by kernel_rfl) rfl #[.agg #[.slice (some ad289) l0_0.length c0_0, .string a0_1, .bool a0_2], .slice (some ⟨go19, 0, none⟩) t295.length co19] rfl ml ?_; (with_reducible refine (head_Message_with.calls _ _ l0_0 a0_1 a0_2 (fun k_ => some k_ = (.slice (some ⟨go19, 0, none⟩) t295.length co19 : Value).ownBlock) (.slice (some ⟨go19, 0, none⟩) t295.length co19) y298 t299 t302 t303 t304 w _ ?side1 ?side2 ?side3 ?side4 A20.out).mono ?_); (case side1 => repeat (first | (with_reducible first | exact HB.out | apply below_alloc | apply pw_below_drewN | apply below_drew1 | refine below_set ?_ GE287.out | refine below_set ?_ GE288.out | refine below_set ?_ GE294.out) | exact HB.out)); (case side2 => exact Kd.C_kept_came k41_heap HR0_0.out bl (fun k_ hs_ => (fun e_ => Kd.R_base HO297.out k_ e_.symm) hs_)); (case side3 => exact HC0_0.out); (case side4 => exact Kd.R_tight rfl HO297.out); rintro e w34 ⟨v300, rfl, ho0, hb, hkp⟩; refine ⟨_, rfl, ?_⟩; have n0_ := Aside0.mk (blk_kept (bk BK287.out) hkp (fun hs_ => (fun e_ => (Kd.R_ne HO297.out BK287.out (by decide)) e_) hs_)); have n1_ := Aside0.mk (blk_kept (bk BK288.out) hkp (fun hs_ => (fun e_ => (Kd.R_ne HO297.out BK288.out (by decide)) e_) hs_)); have n2_ := Aside0.mk (blk_kept (bk BK294.out) hkp (fun hs_ => (fun e_ => (Kd.R_away HO297.out (fun _ hk => hk)) e_) hs_)); have n3_ := Aside0.mk (Kd.R_mono (ok' := fun k_ => k_ ≠ gb294) ho0 (fun k_ hk_ => Or.elim hk_ (fun hs_ => fun e_ => (Kd.R_away HO297.out (fun _ hk => hk)) (by rw [← e_]; exact hs_)) (fun hn_ => (Kd.freshB (g := gb294) (o := .cells #[.string t290, .string t291, .string t292] 41 (0, 0)) (bk BK294.out) k_ hn_)))); have n4_ := Aside0.mk (hb); clear BK287; clear BK288; clear BK294; clear HB; clear HO297; have BK287 := n0_; have BK288 := n1_; have BK294 := n2_; have HO301 := n3_; have HB := n4_; clear n0_ n1_ n2_ n3_ n4_; (try clear hb); (try clear hkp); (try clear ho0); obtain ⟨Ao35, co35, eo35⟩ := Kd.R_slice HO301.out; subst eo35; have hcz36_0 : w34.cell? ⟨gb288, 0, none⟩ = some (.slice none 0 0) := (blk_cell BK288.out 0).trans rfl; have hcz36_1 : w34.cell? ⟨gb288, 1, none⟩ = some (.string (⟨#[]⟩ : ByteArray)) := (blk_cell BK288.out 1).trans rfl; have hcz36_2 : w34.cell? ⟨gb288, 2, none⟩ = some (.bool false) := (blk_cell BK288.out 2).trans rfl; have hfz36_0 := blk_frozen BK288.out 0; have hfz36_1 := blk_frozen BK288.out 1; have hfz36_2 := blk_frozen BK288.out 2))
        refine bodyPost_ret (results_ct rfl _ _ gb288 24 #[.slice Ao35 t299.length co35, .string t302, .bool t303] (0, 0) _ rfl (by (with_reducible repeat (first | refine blk_drewN ?_ _ | refine blk_drew ?_ | refine blk_alloc ?_ _)); refine blk_put (cs := #[.slice Ao35 t299.length co35, .string t302, .bool false]) ?_ 2 _ rfl; (with_reducible repeat (first | refine blk_drewN ?_ _ | refine blk_drew ?_ | refine blk_alloc ?_ _)); refine blk_put (cs := #[.slice Ao35 t299.length co35, .string (⟨#[]⟩ : ByteArray), .bool false]) ?_ 1 _ rfl; (with_reducible repeat (first | refine blk_drewN ?_ _ | refine blk_drew ?_ | refine blk_alloc ?_ _)); refine blk_put (cs := #[.slice none 0 0, .string (⟨#[]⟩ : ByteArray), .bool false]) ?_ 0 _ rfl; (with_reducible repeat (first | refine blk_drewN ?_ _ | refine blk_drew ?_ | refine blk_alloc ?_ _)); exact BK288.out) Tryd.underlying24 rfl (by kernel_rfl)) rfl ?_
        exact ⟨_, by first | rfl | (simp [errW_none, errW_some] <;> rfl) | (simp [*, errW_none, errW_some] <;> rfl), by (with_reducible repeat (first | apply Kd.R_alloc | apply Kd.R_drewN | apply Kd.R_drew)); exact Kd.R_mono (Kd.R_far (p := ⟨gb288, 2, none⟩) (Kd.R_far (p := ⟨gb288, 1, none⟩) (Kd.R_far (p := ⟨gb288, 0, none⟩) (Kd.R_types HO301.out BK288.out (by decide)) (fun _ hk => hk.2) (.slice Ao35 t299.length co35)) (fun _ hk => hk.2) (.string t302)) (fun _ hk => hk.2) (.bool t303)) (fun _ hk => trivial), by repeat (first | (with_reducible first | exact HB.out | apply below_alloc | apply pw_below_drewN | apply below_drew1 | refine below_set ?_ GE287.out | refine below_set ?_ GE288.out | refine below_set ?_ GE294.out) | exact HB.out)⟩
       ·rw [if_neg c18] at H
        exact absurd H (by simp)
      ·rw [if_neg c16] at H
       have c16b0 : (t293 == 0) = false := beq_eq_false_iff_ne.mpr c16
       have c16b1 : (t293 != 0) = true := bne_iff_ne.mpr c16
       simp only [Option.some.injEq, Prod.mk.injEq] at H
       obtain ⟨rfl, rfl, rfl, rfl⟩ := H
       have hnb37 := NB287_288.out
       have hnc37 := NB288_287.out
       have hcz38_0 : wc.cell? ⟨gb287, 0, none⟩ = some (.slice A0_0 l0_0.length c0_0) := (blk_cell BK287.out 0).trans rfl
       have hcz38_1 : wc.cell? ⟨gb287, 1, none⟩ = some (.string a0_1) := (blk_cell BK287.out 1).trans rfl
       have hcz38_2 : wc.cell? ⟨gb287, 2, none⟩ = some (.bool a0_2) := (blk_cell BK287.out 2).trans rfl
       have hfz38_0 := blk_frozen BK287.out 0
       have hfz38_1 := blk_frozen BK287.out 1
       have hfz38_2 := blk_frozen BK287.out 2
       have p289 : 0 ≤ (a1 : Int) := od
       have q289 : a1 < (l0_0.length : Int) := od
       obtain ⟨ad289, e289, hx289_0, hx289_1, hx289_2⟩ := at_T41 HR0_0.out a1 p289 q289
       cases e289
       replace hx289_0 := (HB.out.cell (World.block_lt_of_cell? w _ hx289_0)).trans hx289_0
       replace hx289_1 := (HB.out.cell (World.block_lt_of_cell? w _ hx289_1)).trans hx289_1
       replace hx289_2 := (HB.out.cell (World.block_lt_of_cell? w _ hx289_2)).trans hx289_2
       replace p289 := eq_true p289
       replace q289 := eq_true q289
       go_wp2_with (first | ((with_reducible refine gate_callee (f := 14) rfl ?_); refine goesL_ (some 29) rfl rfl Tryd.func14 (by kernel_rfl) rfl #[.string ((rd_T41 l0_0 a1).f0), .string a2] rfl ml ?_; (with_reducible refine (head_Lay.calls kj3 ((rd_T41 l0_0 a1).f0) a2 t290 t291 t292 t293 _ ?side1 A15.out).mono ?_); (case side1 => exact Glob.below HG.out bl); rintro e w39 ⟨rfl, hb⟩; refine ⟨_, rfl, ?_⟩; have n0_ := Aside0.mk (kb BK287.out hb); have n1_ := Aside0.mk (kb BK288.out hb); have n2_ := Aside0.mk (below_step bl hb); clear BK287; clear BK288; clear HB; have BK287 := n0_; have BK288 := n1_; have HB := n2_; clear n0_ n1_ n2_; (try clear hb); (try clear hb2); (try clear hk); (try clear hi)) | ((with_reducible refine gate_dst (N := 8) rfl ?_); (try (refine gate_guard (by rfl) ?_; dsimp only)); refine box_event ?hg (N := 8) ?hd (cs := #[.string (⟨#[]⟩ : ByteArray), .string (⟨#[]⟩ : ByteArray), .string (⟨#[]⟩ : ByteArray)]) (t := 41) ?hr ?_; (case hd => rfl); (case hg => rfl); (case hr => first | (go_simp; done) | (go_simp; rfl)); intro gb294 hg w40 hbox hb; have n0_ := Aside0.mk (kb BK287.out hb); have n1_ := Aside0.mk (kb BK288.out hb); have n2_ := Aside0.mk (below_step bl hb); have n3_ := Aside0.mk (hbox); have n4_ := Aside0.mk ((by rw [hg]; exact (below_size bl) : w.heap.size ≤ gb294)); have n5_ := Aside0.mk ((by rw [hg]; exact (below_size bl) : w.heap.size ≤ gb294)); have n6_ := Aside0.mk ((by rw [hg]; exact Nat.ne_of_lt (blk_lt (bk BK287.out)) : gb287 ≠ gb294)); have n7_ := Aside0.mk ((by rw [hg]; exact Nat.ne_of_gt (blk_lt (bk BK287.out)) : gb294 ≠ gb287)); have n8_ := Aside0.mk ((by rw [hg]; exact Nat.ne_of_lt (blk_lt (bk BK288.out)) : gb288 ≠ gb294)); have n9_ := Aside0.mk ((by rw [hg]; exact Nat.ne_of_gt (blk_lt (bk BK288.out)) : gb294 ≠ gb288)); clear BK287; clear BK288; clear HB; have BK287 := n0_; have BK288 := n1_; have HB := n2_; have BK294 := n3_; have GW294 := n4_; have GE294 := n5_; have NB287_294 := n6_; have NB294_287 := n7_; have NB288_294 := n8_; have NB294_288 := n9_; clear n0_ n1_ n2_ n3_ n4_ n5_ n6_ n7_ n8_ n9_; clear hb hbox hg; have hnb41 := NB294_287.out; have hnc41 := NB287_294.out; have hnb42 := NB294_288.out; have hnc42 := NB288_294.out; have hcz43_0 : w40.cell? ⟨gb294, 0, none⟩ = some (.string (⟨#[]⟩ : ByteArray)) := (blk_cell BK294.out 0).trans rfl; have hcz43_1 : w40.cell? ⟨gb294, 1, none⟩ = some (.string (⟨#[]⟩ : ByteArray)) := (blk_cell BK294.out 1).trans rfl; have hcz43_2 : w40.cell? ⟨gb294, 2, none⟩ = some (.string (⟨#[]⟩ : ByteArray)) := (blk_cell BK294.out 2).trans rfl; have hfz43_0 := blk_frozen BK294.out 0; have hfz43_1 := blk_frozen BK294.out 1; have hfz43_2 := blk_frozen BK294.out 2; have hcz44_0 : w40.cell? ⟨gb288, 0, none⟩ = some (.slice none 0 0) := (blk_cell BK288.out 0).trans rfl; have hcz44_1 : w40.cell? ⟨gb288, 1, none⟩ = some (.string (⟨#[]⟩ : ByteArray)) := (blk_cell BK288.out 1).trans rfl; have hcz44_2 : w40.cell? ⟨gb288, 2, none⟩ = some (.bool false) := (blk_cell BK288.out 2).trans rfl; have hfz44_0 := blk_frozen BK288.out 0; have hfz44_1 := blk_frozen BK288.out 1; have hfz44_2 := blk_frozen BK288.out 2))
       refine bodyPost_ret (results_ct rfl _ _ gb288 24 #[.slice none 0 0, .string (⟨#[]⟩ : ByteArray), .bool false] (0, 0) _ rfl (by (with_reducible repeat (first | refine blk_drewN ?_ _ | refine blk_drew ?_ | refine blk_alloc ?_ _)); refine blk_put (cs := #[.slice none 0 0, .string (⟨#[]⟩ : ByteArray), .bool false]) ?_ 2 _ rfl; (with_reducible repeat (first | refine blk_drewN ?_ _ | refine blk_drew ?_ | refine blk_alloc ?_ _)); refine blk_put (cs := #[.slice none 0 0, .string (⟨#[]⟩ : ByteArray), .bool false]) ?_ 1 _ rfl; (with_reducible repeat (first | refine blk_drewN ?_ _ | refine blk_drew ?_ | refine blk_alloc ?_ _)); refine blk_put (cs := #[.slice none 0 0, .string (⟨#[]⟩ : ByteArray), .bool false]) ?_ 0 _ rfl; (with_reducible repeat (first | refine blk_drewN ?_ _ | refine blk_drew ?_ | refine blk_alloc ?_ _)); refine blk_far ?_ NB288_294.out _; (with_reducible repeat (first | refine blk_drewN ?_ _ | refine blk_drew ?_ | refine blk_alloc ?_ _)); refine blk_far ?_ NB288_294.out _; (with_reducible repeat (first | refine blk_drewN ?_ _ | refine blk_drew ?_ | refine blk_alloc ?_ _)); refine blk_far ?_ NB288_294.out _; (with_reducible repeat (first | refine blk_drewN ?_ _ | refine blk_drew ?_ | refine blk_alloc ?_ _)); exact BK288.out) Tryd.underlying24 rfl (by kernel_rfl)) rfl ?_
       exact ⟨_, by first | rfl | (simp [errW_none, errW_some] <;> rfl) | (simp [*, errW_none, errW_some] <;> rfl), by first | exact Kd.R_nil _ _ _ _ _ | exact Kd.N_nil _ _ _ _ _ | exact Kd.V_nil _ _ _ _ _ | exact Kd.Q_nil _ _ _ _ _ | exact Kd.S_nil _ _ _ _ _, by repeat (first | (with_reducible first | exact HB.out | apply below_alloc | apply pw_below_drewN | apply below_drew1 | refine below_set ?_ GE287.out | refine below_set ?_ GE288.out | refine below_set ?_ GE294.out) | exact HB.out)⟩
     ·rw [if_neg c14] at H
      exact absurd H (by simp)
    ·rw [if_neg c13] at H
     exact absurd H (by simp)

/-! ### postriderref07_Put: function 34 -/
def postriderref07_Put.j0 : Nat → Int → ByteArray → Bool → List (S60) → ByteArray → Bool → Option ((List (S60)) × ByteArray × Bool × Int)
 | 0, _, _, _, _, _, _ => none
 | k + 1, x1, x2, x19, x306000, x306001, x306002 => if x19 = true then (some (([] : List (S60)), (⟨#[]⟩ : ByteArray), false, 1)) else (if 0 ≤ x1 then (if x1 < (x306000.length : Int) then ((postriderref07_Lay.f k ((rd_T60 x306000 x1).f0) x2).bind fun bt308 => (if bt308.2.2.2 = 0 then (if ([] : List (S60)).length + x306000.length < 2932031007402 then ((some (([] : List (S60)) ++ x306000 : List (S60))).bind fun y313 => (if x1 < (y313.length : Int) then ((postriderref07_with.f k x306000 x306001 x306002 (y313.set (x1 : Int).toNat (⟨bt308.1, bt308.2.1, bt308.2.2.1⟩ : S60))).bind fun bt317 => (some (bt317.1, bt317.2.1, bt317.2.2.1, bt317.2.2.2))) else (none))) else (none)) else (some (([] : List (S60)), (⟨#[]⟩ : ByteArray), false, bt308.2.2.2)))) else (none)) else (none))
def postriderref07_Put.f (k : Nat) (l0_0 : List (S60)) (a0_1 : ByteArray) (a0_2 : Bool) (a1 : Int) (a2 : ByteArray) : Option ((List (S60)) × ByteArray × Bool × Int) := if a1 < 0 then (postriderref07_Put.j0 k a1 a2 true l0_0 a0_1 a0_2) else (postriderref07_Put.j0 k a1 a2 (decide (a1 ≥ (l0_0.length : Int))) l0_0 a0_1 a0_2)
theorem postriderref07_Put.mono_l : ∀ k, (∀ y0 y1 y2 y3 y4 y5, LeO (postriderref07_Put.j0 k y0 y1 y2 y3 y4 y5) (postriderref07_Put.j0 (k + 1) y0 y1 y2 y3 y4 y5))
 | 0 => fun _ _ _ _ _ _ r h => by simp [postriderref07_Put.j0] at h
 | k + 1 => by
  have ih0 := postriderref07_Put.mono_l k
  ·intro y0 y1 y2 y3 y4 y5
   unfold postriderref07_Put.j0
   repeat' first
   | (with_reducible exact ih0 _ _ _ _ _ _)
   | (with_reducible exact postriderref07_Lay.mono _ _ _)
   | (with_reducible exact postriderref07_with.mono _ _ _ _ _)
   | (with_reducible exact LeO.refl _)
   | (with_reducible exact LeO.none _)
   | (with_reducible refine LeO.ite ?_ ?_)
   | (with_reducible refine LeO.bind ?_ (fun _ => ?_))
   | exact ih0 _ _ _ _ _ _
   | exact postriderref07_Lay.mono _ _ _
   | exact postriderref07_with.mono _ _ _ _ _
   | exact LeO.none _
   | refine LeO.ite ?_ ?_
   | refine LeO.bind ?_ (fun _ => ?_)
theorem postriderref07_Put.mono : ∀ a0 a1 a2 a3 a4 k, LeO (postriderref07_Put.f k a0 a1 a2 a3 a4) (postriderref07_Put.f (k + 1) a0 a1 a2 a3 a4) := by
 intro a0 a1 a2 a3 a4 k
 have ih0 := postriderref07_Put.mono_l k
 unfold postriderref07_Put.f
 repeat' first
   | (with_reducible exact ih0 _ _ _ _ _ _)
   | (with_reducible exact postriderref07_Lay.mono _ _ _)
   | (with_reducible exact postriderref07_with.mono _ _ _ _ _)
   | (with_reducible exact LeO.refl _)
   | (with_reducible exact LeO.none _)
   | (with_reducible refine LeO.ite ?_ ?_)
   | (with_reducible refine LeO.bind ?_ (fun _ => ?_))
   | exact ih0 _ _ _ _ _ _
   | exact postriderref07_Lay.mono _ _ _
   | exact postriderref07_with.mono _ _ _ _ _
   | exact LeO.none _
   | refine LeO.ite ?_ ?_
   | refine LeO.bind ?_ (fun _ => ?_)
set_option maxHeartbeats 8000000 in
set_option maxRecDepth 100000 in
theorem postriderref07_Put.calls (k : Nat) (A0_0 : Option Addr) (c0_0 : Nat) (l0_0 : List (S60)) (a0_1 : ByteArray) (a0_2 : Bool) (a1 : Int) (a2 : ByteArray) (r1 : List (S60)) (r2 : ByteArray) (r3 : Bool) (r4 : Int) (w : World) (hr0_0 : Kd.C k60 w A0_0 l0_0.length l0_0) (hc0_0 : l0_0.length ≤ c0_0) (h : postriderref07_Put.f k l0_0 a0_1 a0_2 a1 a2 = some (r1, r2, r3, r4)) :
  Calls Tryd.prog 34 #[.agg #[.slice A0_0 l0_0.length c0_0, .string a0_1, .bool a0_2], .int .i64 a1, .string a2] w fun e w' => ∃ v0_ : Value, e = .returned (.tuple #[.agg #[v0_, .string r2, .bool r3], .int .i64 r4]) ∧ Kd.R k60 60 w' w.heap.size (fun _ => True) v0_ r1 ∧ Below w.heap.size w w' := by
 have hu30 := Tryd.underlying30
 have hu60 := Tryd.underlying60
 have HR0_0 := Aside0.mk hr0_0
 have HC0_0 := Aside0.mk hc0_0
 clear hr0_0 hc0_0
 have HB := Aside0.mk (Below.refl w.heap.size w)
 have H : (if a1 < 0 then (postriderref07_Put.j0 k a1 a2 true l0_0 a0_1 a0_2) else (postriderref07_Put.j0 k a1 a2 (decide (a1 ≥ (l0_0.length : Int))) l0_0 a0_1 a0_2)) = some (r1, r2, r3, r4) := h
 clear h
 have HC4 := Aside0.mk H
 clear H
 go_enter Tryd.func34, Tryd.ntmps34
 go_upto_region 1 with (first | ((with_reducible refine gate_dst (N := 3) rfl ?_); (try (refine gate_guard (by rfl) ?_; dsimp only)); refine box_event ?hg (N := 3) ?hd (cs := #[.slice A0_0 l0_0.length c0_0, .string a0_1, .bool a0_2]) (t := 30) ?hr ?_; (case hd => rfl); (case hg => rfl); (case hr => first | (go_simp; done) | (go_simp; rfl)); intro gb305 hg w5 hbox hb; have n0_ := Aside0.mk (below_step bl hb); have n1_ := Aside0.mk (hbox); have n2_ := Aside0.mk ((by rw [hg]; exact (below_size bl) : w.heap.size ≤ gb305)); have n3_ := Aside0.mk ((by rw [hg]; exact (below_size bl) : w.heap.size ≤ gb305)); clear HB; have HB := n0_; have BK305 := n1_; have GW305 := n2_; have GE305 := n3_; clear n0_ n1_ n2_ n3_; clear hb hbox hg) | ((with_reducible refine gate_dst (N := 6) rfl ?_); (try (refine gate_guard (by rfl) ?_; dsimp only)); refine box_event ?hg (N := 6) ?hd (cs := #[.slice none 0 0, .string (⟨#[]⟩ : ByteArray), .bool false]) (t := 30) ?hr ?_; (case hd => rfl); (case hg => rfl); (case hr => first | (go_simp; done) | (go_simp; rfl)); intro gb306 hg w6 hbox hb; have n0_ := Aside0.mk (kb BK305.out hb); have n1_ := Aside0.mk (below_step bl hb); have n2_ := Aside0.mk (hbox); have n3_ := Aside0.mk ((by rw [hg]; exact (below_size bl) : w.heap.size ≤ gb306)); have n4_ := Aside0.mk ((by rw [hg]; exact (below_size bl) : w.heap.size ≤ gb306)); have n5_ := Aside0.mk ((by rw [hg]; exact Nat.ne_of_lt (blk_lt (bk BK305.out)) : gb305 ≠ gb306)); have n6_ := Aside0.mk ((by rw [hg]; exact Nat.ne_of_gt (blk_lt (bk BK305.out)) : gb306 ≠ gb305)); clear BK305; clear HB; have BK305 := n0_; have HB := n1_; have BK306 := n2_; have GW306 := n3_; have GE306 := n4_; have NB305_306 := n5_; have NB306_305 := n6_; clear n0_ n1_ n2_ n3_ n4_ n5_ n6_; clear hb hbox hg))
 (try simp only [Act.put, List.setIfInBounds_toArray, List.set_cons_zero, List.set_cons_succ])
 go_cut [19] (fun v19 wc => ∃ (kq : Nat) (x19_3 : Bool), v19 = .bool x19_3 ∧ Aside0 (postriderref07_Put.j0 kq a1 a2 x19_3 l0_0 a0_1 a0_2 = some (r1, r2, r3, r4)) ∧ Aside0 (kq ≤ k) ∧ Aside0 (wc.heap[gb305]? = some (.cells #[(.slice A0_0 l0_0.length c0_0), .string a0_1, .bool a0_2] 30 (0, 0))) ∧ Aside0 (wc.heap[gb306]? = some (.cells #[(.slice none 0 0), .string (⟨#[]⟩ : ByteArray), .bool false] 30 (0, 0))) ∧ Aside0 (Below w.heap.size w wc))
 case first =>
  have H := HC4.out
  clear HC4
  by_cases c7 : a1 < 0
  ·rw [if_pos c7] at H
   have c7b0 : decide (a1 < 0) = true := decide_eq_true c7
   clear c7
   (first | rw [c7b0] | (simp only [i64_w, i32_w]; rw [c7b0]) | skip)
   have H' := Aside0.mk H
   clear H
   go_wp2
   go_meet
   case rel => exact ⟨_, (true), (by first | rfl | (simp; done) | (simp [*]; done)), H', ⟨by first | omega | exact Nat.le_refl _⟩, ⟨by (with_reducible repeat (first | refine blk_drewN ?_ _ | refine blk_drew ?_ | refine blk_alloc ?_ _)); exact BK305.out⟩, ⟨by (with_reducible repeat (first | refine blk_drewN ?_ _ | refine blk_drew ?_ | refine blk_alloc ?_ _)); exact BK306.out⟩, ⟨by repeat (first | (with_reducible first | exact HB.out | apply below_alloc | apply pw_below_drewN | apply below_drew1 | refine below_set ?_ GE305.out | refine below_set ?_ GE306.out) | exact HB.out)⟩⟩
  ·rw [if_neg c7] at H
   have c7b0 : decide (a1 < 0) = false := decide_eq_false c7
   clear c7
   (first | rw [c7b0] | (simp only [i64_w, i32_w]; rw [c7b0]) | skip)
   have H' := Aside0.mk H
   clear H
   have hnb8 := NB305_306.out
   have hnc8 := NB306_305.out
   have hcz9_0 : w6.cell? ⟨gb305, 0, none⟩ = some (.slice A0_0 l0_0.length c0_0) := (blk_cell BK305.out 0).trans rfl
   have hcz9_1 : w6.cell? ⟨gb305, 1, none⟩ = some (.string a0_1) := (blk_cell BK305.out 1).trans rfl
   have hcz9_2 : w6.cell? ⟨gb305, 2, none⟩ = some (.bool a0_2) := (blk_cell BK305.out 2).trans rfl
   have hfz9_0 := blk_frozen BK305.out 0
   have hfz9_1 := blk_frozen BK305.out 1
   have hfz9_2 := blk_frozen BK305.out 2
   go_wp2
   go_meet
   case rel => exact ⟨_, (decide (a1 ≥ (l0_0.length : Int))), (by first | rfl | (simp; done) | (simp [*]; done)), H', ⟨by first | omega | exact Nat.le_refl _⟩, ⟨by (with_reducible repeat (first | refine blk_drewN ?_ _ | refine blk_drew ?_ | refine blk_alloc ?_ _)); exact BK305.out⟩, ⟨by (with_reducible repeat (first | refine blk_drewN ?_ _ | refine blk_drew ?_ | refine blk_alloc ?_ _)); exact BK306.out⟩, ⟨by repeat (first | (with_reducible first | exact HB.out | apply below_alloc | apply pw_below_drewN | apply below_drew1 | refine below_set ?_ GE305.out | refine below_set ?_ GE306.out) | exact HB.out)⟩⟩
 case rest =>
  clear HC4
  try clear p2
  try clear c3
  try clear c7
  try clear c7b0
  try clear c8
  try clear hcz9_0
  try clear hcz9_1
  try clear hcz9_2
  try clear hfz9_0
  try clear hfz9_1
  try clear hfz9_2
  obtain ⟨kq, x19_3, rfl, HA, HJ3, BK305, BK306, HB⟩ := hcut
  cases kq with
  | zero => exact absurd HA.out (by simp [postriderref07_Put.j0])
  | succ kj3 =>
   have H := HA.out
   clear HA
   simp only [postriderref07_Put.j0] at H
   by_cases c10 : x19_3 = true
   ·subst c10
    have H1 : (some (([] : List (S60)), (⟨#[]⟩ : ByteArray), false, 1)) = some (r1, r2, r3, r4) := by rw [if_pos rfl] at H; exact H
    clear H
    have H := H1
    clear H1
    simp only [Option.some.injEq, Prod.mk.injEq] at H
    obtain ⟨rfl, rfl, rfl, rfl⟩ := H
    have hnb11 := NB306_305.out
    have hnc11 := NB305_306.out
    have hcz12_0 : wc.cell? ⟨gb306, 0, none⟩ = some (.slice none 0 0) := (blk_cell BK306.out 0).trans rfl
    have hcz12_1 : wc.cell? ⟨gb306, 1, none⟩ = some (.string (⟨#[]⟩ : ByteArray)) := (blk_cell BK306.out 1).trans rfl
    have hcz12_2 : wc.cell? ⟨gb306, 2, none⟩ = some (.bool false) := (blk_cell BK306.out 2).trans rfl
    have hfz12_0 := blk_frozen BK306.out 0
    have hfz12_1 := blk_frozen BK306.out 1
    have hfz12_2 := blk_frozen BK306.out 2
    go_wp2
    refine bodyPost_ret (results_ct rfl _ _ gb306 30 #[.slice none 0 0, .string (⟨#[]⟩ : ByteArray), .bool false] (0, 0) _ rfl (by (with_reducible repeat (first | refine blk_drewN ?_ _ | refine blk_drew ?_ | refine blk_alloc ?_ _)); refine blk_put (cs := #[.slice none 0 0, .string (⟨#[]⟩ : ByteArray), .bool false]) ?_ 2 _ rfl; (with_reducible repeat (first | refine blk_drewN ?_ _ | refine blk_drew ?_ | refine blk_alloc ?_ _)); refine blk_put (cs := #[.slice none 0 0, .string (⟨#[]⟩ : ByteArray), .bool false]) ?_ 1 _ rfl; (with_reducible repeat (first | refine blk_drewN ?_ _ | refine blk_drew ?_ | refine blk_alloc ?_ _)); refine blk_put (cs := #[.slice none 0 0, .string (⟨#[]⟩ : ByteArray), .bool false]) ?_ 0 _ rfl; (with_reducible repeat (first | refine blk_drewN ?_ _ | refine blk_drew ?_ | refine blk_alloc ?_ _)); exact BK306.out) Tryd.underlying30 rfl (by kernel_rfl)) rfl ?_
    exact ⟨_, by first | rfl | (simp [errW_none, errW_some] <;> rfl) | (simp [*, errW_none, errW_some] <;> rfl), by first | exact Kd.R_nil _ _ _ _ _ | exact Kd.N_nil _ _ _ _ _ | exact Kd.V_nil _ _ _ _ _ | exact Kd.Q_nil _ _ _ _ _ | exact Kd.S_nil _ _ _ _ _, by repeat (first | (with_reducible first | exact HB.out | apply below_alloc | apply pw_below_drewN | apply below_drew1 | refine below_set ?_ GE305.out | refine below_set ?_ GE306.out) | exact HB.out)⟩
   ·replace c10 := Bool.eq_false_iff.mpr c10
    subst c10
    have H1 : (if 0 ≤ a1 then (if a1 < (l0_0.length : Int) then ((postriderref07_Lay.f kj3 ((rd_T60 l0_0 a1).f0) a2).bind fun bt308 => (if bt308.2.2.2 = 0 then (if ([] : List (S60)).length + l0_0.length < 2932031007402 then ((some (([] : List (S60)) ++ l0_0 : List (S60))).bind fun y313 => (if a1 < (y313.length : Int) then ((postriderref07_with.f kj3 l0_0 a0_1 a0_2 (y313.set (a1 : Int).toNat (⟨bt308.1, bt308.2.1, bt308.2.2.1⟩ : S60))).bind fun bt317 => (some (bt317.1, bt317.2.1, bt317.2.2.1, bt317.2.2.2))) else (none))) else (none)) else (some (([] : List (S60)), (⟨#[]⟩ : ByteArray), false, bt308.2.2.2)))) else (none)) else (none)) = some (r1, r2, r3, r4) := by rw [if_neg (show ¬ (false = true) by decide)] at H; exact H
    clear H
    have H := H1
    clear H1
    by_cases c13 : 0 ≤ a1
    ·rw [if_pos c13] at H
     have c13b0 : decide (0 ≤ a1) = true := decide_eq_true c13
     clear c13
     by_cases c14 : a1 < (l0_0.length : Int)
     ·rw [if_pos c14] at H
      have c14b0 : decide (a1 < (l0_0.length : Int)) = true := decide_eq_true c14
      clear c14
      replace H := Option.bind_eq_some_iff.mp H
      obtain ⟨⟨t308, t309, t310, t311⟩, A150, H⟩ := H
      replace H : (if t311 = 0 then (if ([] : List (S60)).length + l0_0.length < 2932031007402 then ((some (([] : List (S60)) ++ l0_0 : List (S60))).bind fun y313 => (if a1 < (y313.length : Int) then ((postriderref07_with.f kj3 l0_0 a0_1 a0_2 (y313.set (a1 : Int).toNat (⟨t308, t309, t310⟩ : S60))).bind fun bt317 => (some (bt317.1, bt317.2.1, bt317.2.2.1, bt317.2.2.2))) else (none))) else (none)) else (some (([] : List (S60)), (⟨#[]⟩ : ByteArray), false, t311))) = some (r1, r2, r3, r4) := H
      have A15 := Aside0.mk A150
      clear A150
      by_cases c16 : t311 = 0
      ·rw [if_pos c16] at H
       have c16b0 : (t311 == 0) = true := beq_iff_eq.mpr c16
       have c16b1 : (t311 != 0) = false := bne_eq_false_iff_eq.mpr c16
       clear c16
       by_cases c17 : ([] : List (S60)).length + l0_0.length < 2932031007402
       ·rw [if_pos c17] at H
        have LMc17 := Aside0.mk c17
        clear c17
        obtain ⟨y313, hy313⟩ : ∃ y_ : List (S60), y_ = (([] : List (S60)) ++ l0_0) := ⟨_, rfl⟩
        replace H : (if a1 < (y313.length : Int) then ((postriderref07_with.f kj3 l0_0 a0_1 a0_2 (y313.set (a1 : Int).toNat (⟨t308, t309, t310⟩ : S60))).bind fun bt317 => (some (bt317.1, bt317.2.1, bt317.2.2.1, bt317.2.2.2))) else (none)) = some (r1, r2, r3, r4) := by first | (rw [hy313]; with_reducible exact H) | (have H2_ := (Option.bind_some _ _).symm.trans H; rw [hy313]; with_reducible exact H2_) | (have H2_ := (Option.bind_some _ _).symm.trans H; with_reducible exact H2_) | with_reducible exact H | (rw [hy313]; exact H) | exact H
        have Ny313 := Aside0.mk hy313
        clear hy313
        by_cases c18 : a1 < (y313.length : Int)
        ·rw [if_pos c18] at H
         have c18b0 : decide (a1 < (y313.length : Int)) = true := decide_eq_true c18
         clear c18
         obtain ⟨y316, hy316⟩ : ∃ y_ : List (S60), y_ = (y313.set (a1 : Int).toNat (⟨t308, t309, t310⟩ : S60)) := ⟨_, rfl⟩
         replace H : ((postriderref07_with.f kj3 l0_0 a0_1 a0_2 y316).bind fun bt317 => (some (bt317.1, bt317.2.1, bt317.2.2.1, bt317.2.2.2))) = some (r1, r2, r3, r4) := by first | (rw [hy316]; with_reducible exact H) | (have H2_ := (Option.bind_some _ _).symm.trans H; rw [hy316]; with_reducible exact H2_) | (have H2_ := (Option.bind_some _ _).symm.trans H; with_reducible exact H2_) | with_reducible exact H | (rw [hy316]; exact H) | exact H
         have Ny316 := Aside0.mk hy316
         clear hy316
         replace H := Option.bind_eq_some_iff.mp H
         obtain ⟨⟨t317, t320, t321, t322⟩, A200, H⟩ := H
         replace H : (some (t317, t320, t321, t322)) = some (r1, r2, r3, r4) := H
         have A20 := Aside0.mk A200
         clear A200
         simp only [Option.some.injEq, Prod.mk.injEq] at H
         obtain ⟨rfl, rfl, rfl, rfl⟩ := H
         have hnb21 := NB305_306.out
         have hnc21 := NB306_305.out
         have hcz22_0 : wc.cell? ⟨gb305, 0, none⟩ = some (.slice A0_0 l0_0.length c0_0) := (blk_cell BK305.out 0).trans rfl
         have hcz22_1 : wc.cell? ⟨gb305, 1, none⟩ = some (.string a0_1) := (blk_cell BK305.out 1).trans rfl
         have hcz22_2 : wc.cell? ⟨gb305, 2, none⟩ = some (.bool a0_2) := (blk_cell BK305.out 2).trans rfl
         have hfz22_0 := blk_frozen BK305.out 0
         have hfz22_1 := blk_frozen BK305.out 1
         have hfz22_2 := blk_frozen BK305.out 2
         have p307 : 0 ≤ (a1 : Int) := od
         have q307 : a1 < (l0_0.length : Int) := od
         obtain ⟨ad307, e307, hx307_0, hx307_1, hx307_2⟩ := at_T60 HR0_0.out a1 p307 q307
         cases e307
         replace hx307_0 := (HB.out.cell (World.block_lt_of_cell? w _ hx307_0)).trans hx307_0
         replace hx307_1 := (HB.out.cell (World.block_lt_of_cell? w _ hx307_1)).trans hx307_1
         replace hx307_2 := (HB.out.cell (World.block_lt_of_cell? w _ hx307_2)).trans hx307_2
         replace p307 := eq_true p307
         replace q307 := eq_true q307
         go_wp2_with (first | ((with_reducible refine gate_callee (f := 30) rfl ?_); refine goesL_ (some 29) rfl rfl Tryd.func30 (by kernel_rfl) rfl #[.string ((rd_T60 l0_0 a1).f0), .string a2] rfl ml ?_; (with_reducible refine (postriderref07_Lay.calls kj3 ((rd_T60 l0_0 a1).f0) a2 t308 t309 t310 t311 _ A15.out).mono ?_); rintro e w23 ⟨rfl, hb⟩; refine ⟨_, rfl, ?_⟩; have n0_ := Aside0.mk (kb BK305.out hb); have n1_ := Aside0.mk (kb BK306.out hb); have n2_ := Aside0.mk (below_step bl hb); clear BK305; clear BK306; clear HB; have BK305 := n0_; have BK306 := n1_; have HB := n2_; clear n0_ n1_ n2_; (try clear hb); (try clear hb2); (try clear hk); (try clear hi)) | ((with_reducible refine gate_dst (N := 8) rfl ?_); (try (refine gate_guard (by rfl) ?_; dsimp only)); refine box_event ?hg (N := 8) ?hd (cs := #[.string (⟨#[]⟩ : ByteArray), .string (⟨#[]⟩ : ByteArray), .string (⟨#[]⟩ : ByteArray)]) (t := 60) ?hr ?_; (case hd => rfl); (case hg => rfl); (case hr => first | (go_simp; done) | (go_simp; rfl)); intro gb312 hg w24 hbox hb; have n0_ := Aside0.mk (kb BK305.out hb); have n1_ := Aside0.mk (kb BK306.out hb); have n2_ := Aside0.mk (below_step bl hb); have n3_ := Aside0.mk (hbox); have n4_ := Aside0.mk ((by rw [hg]; exact (below_size bl) : w.heap.size ≤ gb312)); have n5_ := Aside0.mk ((by rw [hg]; exact (below_size bl) : w.heap.size ≤ gb312)); have n6_ := Aside0.mk ((by rw [hg]; exact Nat.ne_of_lt (blk_lt (bk BK305.out)) : gb305 ≠ gb312)); have n7_ := Aside0.mk ((by rw [hg]; exact Nat.ne_of_gt (blk_lt (bk BK305.out)) : gb312 ≠ gb305)); have n8_ := Aside0.mk ((by rw [hg]; exact Nat.ne_of_lt (blk_lt (bk BK306.out)) : gb306 ≠ gb312)); have n9_ := Aside0.mk ((by rw [hg]; exact Nat.ne_of_gt (blk_lt (bk BK306.out)) : gb312 ≠ gb306)); clear BK305; clear BK306; clear HB; have BK305 := n0_; have BK306 := n1_; have HB := n2_; have BK312 := n3_; have GW312 := n4_; have GE312 := n5_; have NB305_312 := n6_; have NB312_305 := n7_; have NB306_312 := n8_; have NB312_306 := n9_; clear n0_ n1_ n2_ n3_ n4_ n5_ n6_ n7_ n8_ n9_; clear hb hbox hg; have hnb25 := NB312_305.out; have hnc25 := NB305_312.out; have hnb26 := NB312_306.out; have hnc26 := NB306_312.out; have hcz27_0 : w24.cell? ⟨gb312, 0, none⟩ = some (.string (⟨#[]⟩ : ByteArray)) := (blk_cell BK312.out 0).trans rfl; have hcz27_1 : w24.cell? ⟨gb312, 1, none⟩ = some (.string (⟨#[]⟩ : ByteArray)) := (blk_cell BK312.out 1).trans rfl; have hcz27_2 : w24.cell? ⟨gb312, 2, none⟩ = some (.string (⟨#[]⟩ : ByteArray)) := (blk_cell BK312.out 2).trans rfl; have hfz27_0 := blk_frozen BK312.out 0; have hfz27_1 := blk_frozen BK312.out 1; have hfz27_2 := blk_frozen BK312.out 2; have hcz28_0 : w24.cell? ⟨gb305, 0, none⟩ = some (.slice (some ad307) l0_0.length c0_0) := (blk_cell BK305.out 0).trans rfl; have hcz28_1 : w24.cell? ⟨gb305, 1, none⟩ = some (.string a0_1) := (blk_cell BK305.out 1).trans rfl; have hcz28_2 : w24.cell? ⟨gb305, 2, none⟩ = some (.bool a0_2) := (blk_cell BK305.out 2).trans rfl; have hfz28_0 := blk_frozen BK305.out 0; have hfz28_1 := blk_frozen BK305.out 1; have hfz28_2 := blk_frozen BK305.out 2) | ((with_reducible refine gate_builtin (b := .append) (xs := #[.tmp 36, .tmp 38]) rfl ?_); (try (refine gate_guard (by rfl) ?_; dsimp only)); at_builtin; refine Kd.R_append_rows k60 (w0 := w) w.heap.size rfl (.tmp 36) (.tmp 38) 28 60 (.agg #[(.string ⟨#[]⟩), (.string ⟨#[]⟩), (.string ⟨#[]⟩)]) 48 rfl Tryd.underlying28 info60 rfl (by decide) (by omega) (.slice none 0 0) ([] : List (S60)) l0_0 _ _ _ (fun k_ => k_ ≠ gb312) (fun _ => False) rfl rfl ?aO ?aR (fun _ _ h => h) (fun _ h => h.elim) ?aF ?aB ?aS ?aL ?_; (case aR => exact Kd.C_below HR0_0.out bl); (case aB => exact bl); (case aF => exact (fun k_ hk => Kd.freshB (g := gb312) (o := .cells #[.string t308, .string t309, .string t310] 60 (0, 0)) (by (with_reducible repeat (first | refine blk_drewN ?_ _ | refine blk_drew ?_ | refine blk_alloc ?_ _)); refine blk_put (cs := #[.string t308, .string t309, .string (⟨#[]⟩ : ByteArray)]) ?_ 2 _ rfl; (with_reducible repeat (first | refine blk_drewN ?_ _ | refine blk_drew ?_ | refine blk_alloc ?_ _)); refine blk_put (cs := #[.string t308, .string (⟨#[]⟩ : ByteArray), .string (⟨#[]⟩ : ByteArray)]) ?_ 1 _ rfl; (with_reducible repeat (first | refine blk_drewN ?_ _ | refine blk_drew ?_ | refine blk_alloc ?_ _)); refine blk_put (cs := #[.string (⟨#[]⟩ : ByteArray), .string (⟨#[]⟩ : ByteArray), .string (⟨#[]⟩ : ByteArray)]) ?_ 0 _ rfl; (with_reducible repeat (first | refine blk_drewN ?_ _ | refine blk_drew ?_ | refine blk_alloc ?_ _)); exact BK312.out) k_ hk)); (case aO => exact ((Kd.R_nil _ _ _ _ (fun k_ => k_ ≠ gb312)))); (case aS => exact (below_size bl)); (case aL => have := LMc17.out; omega); intro v314 w29 ho hb hg hat; rw [← Ny313.out] at ho; have n0_ := Aside0.mk (blk_grown (g := gb305) (o := .cells #[.slice (some ad307) l0_0.length c0_0, .string a0_1, .bool a0_2] 30 (0, 0)) (bk BK305.out) hg (by simp [Value.ownBlock])); have n1_ := Aside0.mk (blk_grown (g := gb306) (o := .cells #[.slice none 0 0, .string (⟨#[]⟩ : ByteArray), .bool false] 30 (0, 0)) (bk BK306.out) hg (by simp [Value.ownBlock])); have n2_ := Aside0.mk (blk_grown (g := gb312) (o := .cells #[.string t308, .string t309, .string t310] 60 (0, 0)) (by (with_reducible repeat (first | refine blk_drewN ?_ _ | refine blk_drew ?_ | refine blk_alloc ?_ _)); refine blk_put (cs := #[.string t308, .string t309, .string (⟨#[]⟩ : ByteArray)]) ?_ 2 _ rfl; (with_reducible repeat (first | refine blk_drewN ?_ _ | refine blk_drew ?_ | refine blk_alloc ?_ _)); refine blk_put (cs := #[.string t308, .string (⟨#[]⟩ : ByteArray), .string (⟨#[]⟩ : ByteArray)]) ?_ 1 _ rfl; (with_reducible repeat (first | refine blk_drewN ?_ _ | refine blk_drew ?_ | refine blk_alloc ?_ _)); refine blk_put (cs := #[.string (⟨#[]⟩ : ByteArray), .string (⟨#[]⟩ : ByteArray), .string (⟨#[]⟩ : ByteArray)]) ?_ 0 _ rfl; (with_reducible repeat (first | refine blk_drewN ?_ _ | refine blk_drew ?_ | refine blk_alloc ?_ _)); exact BK312.out) hg (by simp [Value.ownBlock])); have n3_ := Aside0.mk (hb); have n4_ := Aside0.mk (ho); clear BK305; clear BK306; clear BK312; clear HB; have BK305 := n0_; have BK306 := n1_; have BK312 := n2_; have HB := n3_; have HO315 := n4_; clear n0_ n1_ n2_ n3_ n4_; clear ho hb hg hat; have hcz30_0 : w29.cell? ⟨gb312, 0, none⟩ = some (.string t308) := (blk_cell BK312.out 0).trans rfl; have hcz30_1 : w29.cell? ⟨gb312, 1, none⟩ = some (.string t309) := (blk_cell BK312.out 1).trans rfl; have hcz30_2 : w29.cell? ⟨gb312, 2, none⟩ = some (.string t310) := (blk_cell BK312.out 2).trans rfl; have hfz30_0 := blk_frozen BK312.out 0; have hfz30_1 := blk_frozen BK312.out 1; have hfz30_2 := blk_frozen BK312.out 2; have p19 : 0 ≤ (a1 : Int) := od; have q19 : (a1 : Int) < ((y313.length : Int) : Int) := od; obtain ⟨go19, co19, eo19, gb19, gl19, cl19, HG19⟩ := Kd.R_form HO315.out (by omega); (first | cases eo19 | (injection eo19 with ea_ en_ ec_; (first | subst ea_ | (injection ea_ with ea_; subst ea_)); subst ec_; clear en_)); have GB19 := Aside0.mk gb19; have GG19 := Aside0.mk HG19; clear gb19 gl19 HG19; obtain ⟨ce19, hcl19, hM19, hcc19, hfr19⟩ := Kd.R_elem HO315.out z60 (a1 : Int) p19 q19; obtain rfl := k60_openM hM19; have hx19_0 : w29.cell? ⟨go19, (a1 : Int).toNat * 3, none⟩ = some (.string ((rd_T60 y313 a1).f0)) := hcc19 0 _ rfl; have hx19_1 : w29.cell? ⟨go19, (a1 : Int).toNat * 3 + 1, none⟩ = some (.string ((rd_T60 y313 a1).f1)) := hcc19 1 _ rfl; have hx19_2 : w29.cell? ⟨go19, (a1 : Int).toNat * 3 + 2, none⟩ = some (.string ((rd_T60 y313 a1).f2)) := hcc19 2 _ rfl; have hf19_0 : w29.frozen? ⟨go19, (a1 : Int).toNat * 3, none⟩ = false := hfr19 0; have hf19_1 : w29.frozen? ⟨go19, (a1 : Int).toNat * 3 + 1, none⟩ = false := hfr19 1; have hf19_2 : w29.frozen? ⟨go19, (a1 : Int).toNat * 3 + 2, none⟩ = false := hfr19 2; clear hcl19 hcc19 hfr19 hM19; replace p19 := eq_true p19; replace q19 := eq_true q19; have HX31 := Aside0.mk (show Kd.R k60 60 w29 w.heap.size (fun k_ => k_ ≠ gb312) (.slice (some ⟨go19, 0, none⟩) y313.length co19) y313 from (kr HO315.out)); obtain ⟨ce31, hcl31, hM31, hcc31, hfr31⟩ := Kd.R_elem HX31.out z60 (a1 : Int) (od) (by have h_ : (a1 : Int) < ((y313.length : Int) : Int) := od; first | exact h_ | (have e_ := (Kd.R_reads' HO315.out).1; omega) | simpa using h_); obtain rfl := k60_openM hM31; have HP31 := Kd.R_seg HX31.out (a1 : Int) (od) (by have h_ : (a1 : Int) < ((y313.length : Int) : Int) := od; first | exact h_ | (have e_ := (Kd.R_reads' HO315.out).1; omega) | simpa using h_) (seg := [.string t308, .string t309, .string t310]) (j := 0) hcl31 hcc31 (show 3 ≤ 3 from by decide) (x' := (⟨t308, t309, t310⟩ : S60)) (k60_mkM _ _ _ (⟨t308, t309, t310⟩ : S60) ) (fun _ hk => hk); have hx31_0 := hcc31 0 _ rfl; (try simp only [show (k60).sz = 3 from rfl, Nat.mul_one, Nat.add_zero] at hx31_0); have hf31_0 := hfr31 0; (try simp only [show (k60).sz = 3 from rfl, Nat.mul_one, Nat.add_zero] at hf31_0); have hx31_1 := hcc31 1 _ rfl; (try simp only [show (k60).sz = 3 from rfl, Nat.mul_one, Nat.add_zero] at hx31_1); have hf31_1 := hfr31 1; (try simp only [show (k60).sz = 3 from rfl, Nat.mul_one, Nat.add_zero] at hf31_1); have hx31_2 := hcc31 2 _ rfl; (try simp only [show (k60).sz = 3 from rfl, Nat.mul_one, Nat.add_zero] at hx31_2); have hf31_2 := hfr31 2; (try simp only [show (k60).sz = 3 from rfl, Nat.mul_one, Nat.add_zero] at hf31_2); clear hcl31 hcc31 hfr31 hM31) | ((with_reducible refine gate_store (t := 60) (p := 43) rfl ?_); refine store_event (t := 60) (p := 43) (v := ?vo_w32) (w1 := (((w29.setCell ⟨go19, (a1 : Int).toNat * 3, none⟩ (.string t308)).setCell ⟨go19, (a1 : Int).toNat * 3 + 1, none⟩ (.string t309)).setCell ⟨go19, (a1 : Int).toNat * 3 + 2, none⟩ (.string t310))) ?hg ?ho ?hn ?hr ?_; (case ho => rfl); (case hg => rfl); (case hn => rfl); (case hr => first | (go_simp; done) | (go_simp; rfl)); intro w32 hw; have hg : w29.grownBy w32 (some go19) := (by rw [hw]; exact HP31.2); have hp_ : Kd.R k60 60 w32 w.heap.size (fun k_ => k_ ≠ gb312) (.slice (some ⟨go19, 0, none⟩) y313.length co19) y316 := (by rw [hw, Ny316.out]; exact HP31.1); clear HP31; have n0_ := Aside0.mk (blk_grown (g := gb305) (o := .cells #[.slice (some ad307) l0_0.length c0_0, .string a0_1, .bool a0_2] 30 (0, 0)) (bk BK305.out) hg (Kd.R_ne HO315.out BK305.out (by decide))); have n1_ := Aside0.mk (blk_grown (g := gb306) (o := .cells #[.slice none 0 0, .string (⟨#[]⟩ : ByteArray), .bool false] 30 (0, 0)) (bk BK306.out) hg (Kd.R_ne HO315.out BK306.out (by decide))); have n2_ := Aside0.mk (blk_grown (g := gb312) (o := .cells #[.string t308, .string t309, .string t310] 60 (0, 0)) (bk BK312.out) hg (Kd.R_away HO315.out (fun _ hk => hk))); have n3_ := Aside0.mk (hp_); have n4_ := Aside0.mk ((by rw [hw]; exact below_set (below_set (below_set (HB.out) GB19.out) GB19.out) GB19.out : Below w.heap.size w w32)); clear BK305; clear BK306; clear BK312; clear HO315; clear HB; have BK305 := n0_; have BK306 := n1_; have BK312 := n2_; have HO315 := n3_; have HB := n4_; clear n0_ n1_ n2_ n3_ n4_; clear hg hw hp_; have hcz33_0 : w32.cell? ⟨gb305, 0, none⟩ = some (.slice (some ad307) l0_0.length c0_0) := (blk_cell BK305.out 0).trans rfl; have hcz33_1 : w32.cell? ⟨gb305, 1, none⟩ = some (.string a0_1) := (blk_cell BK305.out 1).trans rfl; have hcz33_2 : w32.cell? ⟨gb305, 2, none⟩ = some (.bool a0_2) := (blk_cell BK305.out 2).trans rfl; have hfz33_0 := blk_frozen BK305.out 0; have hfz33_1 := blk_frozen BK305.out 1; have hfz33_2 := blk_frozen BK305.out 2) | ((with_reducible refine gate_callee (f := 69) rfl ?_); refine goesL_ (some 46) rfl rfl Tryd.func69 (by kernel_rfl) rfl #[.agg #[.slice (some ad307) l0_0.length c0_0, .string a0_1, .bool a0_2], .slice (some ⟨go19, 0, none⟩) y313.length co19] rfl ml ?_; (with_reducible refine (postriderref07_with.calls kj3 _ _ l0_0 a0_1 a0_2 (fun k_ => some k_ = (.slice (some ⟨go19, 0, none⟩) y313.length co19 : Value).ownBlock) (.slice (some ⟨go19, 0, none⟩) y313.length co19) y316 t317 t320 t321 t322 w _ ?side1 ?side2 ?side3 ?side4 A20.out).mono ?_); (case side1 => repeat (first | (with_reducible first | exact HB.out | apply below_alloc | apply pw_below_drewN | apply below_drew1 | refine below_set ?_ GE305.out | refine below_set ?_ GE306.out | refine below_set ?_ GE312.out) | exact HB.out)); (case side2 => exact Kd.C_kept_came k60_heap HR0_0.out bl (fun k_ hs_ => (fun e_ => Kd.R_base HO315.out k_ e_.symm) hs_)); (case side3 => exact HC0_0.out); (case side4 => exact Kd.R_tight rfl HO315.out); rintro e w34 ⟨v318, rfl, ho0, hb, hkp⟩; refine ⟨_, rfl, ?_⟩; have n0_ := Aside0.mk (blk_kept (bk BK305.out) hkp (fun hs_ => (fun e_ => (Kd.R_ne HO315.out BK305.out (by decide)) e_) hs_)); have n1_ := Aside0.mk (blk_kept (bk BK306.out) hkp (fun hs_ => (fun e_ => (Kd.R_ne HO315.out BK306.out (by decide)) e_) hs_)); have n2_ := Aside0.mk (blk_kept (bk BK312.out) hkp (fun hs_ => (fun e_ => (Kd.R_away HO315.out (fun _ hk => hk)) e_) hs_)); have n3_ := Aside0.mk (Kd.R_mono (ok' := fun k_ => k_ ≠ gb312) ho0 (fun k_ hk_ => Or.elim hk_ (fun hs_ => fun e_ => (Kd.R_away HO315.out (fun _ hk => hk)) (by rw [← e_]; exact hs_)) (fun hn_ => (Kd.freshB (g := gb312) (o := .cells #[.string t308, .string t309, .string t310] 60 (0, 0)) (bk BK312.out) k_ hn_)))); have n4_ := Aside0.mk (hb); clear BK305; clear BK306; clear BK312; clear HB; clear HO315; have BK305 := n0_; have BK306 := n1_; have BK312 := n2_; have HO319 := n3_; have HB := n4_; clear n0_ n1_ n2_ n3_ n4_; (try clear hb); (try clear hkp); (try clear ho0); obtain ⟨Ao35, co35, eo35⟩ := Kd.R_slice HO319.out; subst eo35; have hcz36_0 : w34.cell? ⟨gb306, 0, none⟩ = some (.slice none 0 0) := (blk_cell BK306.out 0).trans rfl; have hcz36_1 : w34.cell? ⟨gb306, 1, none⟩ = some (.string (⟨#[]⟩ : ByteArray)) := (blk_cell BK306.out 1).trans rfl; have hcz36_2 : w34.cell? ⟨gb306, 2, none⟩ = some (.bool false) := (blk_cell BK306.out 2).trans rfl; have hfz36_0 := blk_frozen BK306.out 0; have hfz36_1 := blk_frozen BK306.out 1; have hfz36_2 := blk_frozen BK306.out 2))
         refine bodyPost_ret (results_ct rfl _ _ gb306 30 #[.slice Ao35 t317.length co35, .string t320, .bool t321] (0, 0) _ rfl (by (with_reducible repeat (first | refine blk_drewN ?_ _ | refine blk_drew ?_ | refine blk_alloc ?_ _)); refine blk_put (cs := #[.slice Ao35 t317.length co35, .string t320, .bool false]) ?_ 2 _ rfl; (with_reducible repeat (first | refine blk_drewN ?_ _ | refine blk_drew ?_ | refine blk_alloc ?_ _)); refine blk_put (cs := #[.slice Ao35 t317.length co35, .string (⟨#[]⟩ : ByteArray), .bool false]) ?_ 1 _ rfl; (with_reducible repeat (first | refine blk_drewN ?_ _ | refine blk_drew ?_ | refine blk_alloc ?_ _)); refine blk_put (cs := #[.slice none 0 0, .string (⟨#[]⟩ : ByteArray), .bool false]) ?_ 0 _ rfl; (with_reducible repeat (first | refine blk_drewN ?_ _ | refine blk_drew ?_ | refine blk_alloc ?_ _)); exact BK306.out) Tryd.underlying30 rfl (by kernel_rfl)) rfl ?_
         exact ⟨_, by first | rfl | (simp [errW_none, errW_some] <;> rfl) | (simp [*, errW_none, errW_some] <;> rfl), by (with_reducible repeat (first | apply Kd.R_alloc | apply Kd.R_drewN | apply Kd.R_drew)); exact Kd.R_mono (Kd.R_far (p := ⟨gb306, 2, none⟩) (Kd.R_far (p := ⟨gb306, 1, none⟩) (Kd.R_far (p := ⟨gb306, 0, none⟩) (Kd.R_types HO319.out BK306.out (by decide)) (fun _ hk => hk.2) (.slice Ao35 t317.length co35)) (fun _ hk => hk.2) (.string t320)) (fun _ hk => hk.2) (.bool t321)) (fun _ hk => trivial), by repeat (first | (with_reducible first | exact HB.out | apply below_alloc | apply pw_below_drewN | apply below_drew1 | refine below_set ?_ GE305.out | refine below_set ?_ GE306.out | refine below_set ?_ GE312.out) | exact HB.out)⟩
        ·rw [if_neg c18] at H
         exact absurd H (by simp)
       ·rw [if_neg c17] at H
        exact absurd H (by simp)
      ·rw [if_neg c16] at H
       have c16b0 : (t311 == 0) = false := beq_eq_false_iff_ne.mpr c16
       have c16b1 : (t311 != 0) = true := bne_iff_ne.mpr c16
       simp only [Option.some.injEq, Prod.mk.injEq] at H
       obtain ⟨rfl, rfl, rfl, rfl⟩ := H
       have hnb37 := NB305_306.out
       have hnc37 := NB306_305.out
       have hcz38_0 : wc.cell? ⟨gb305, 0, none⟩ = some (.slice A0_0 l0_0.length c0_0) := (blk_cell BK305.out 0).trans rfl
       have hcz38_1 : wc.cell? ⟨gb305, 1, none⟩ = some (.string a0_1) := (blk_cell BK305.out 1).trans rfl
       have hcz38_2 : wc.cell? ⟨gb305, 2, none⟩ = some (.bool a0_2) := (blk_cell BK305.out 2).trans rfl
       have hfz38_0 := blk_frozen BK305.out 0
       have hfz38_1 := blk_frozen BK305.out 1
       have hfz38_2 := blk_frozen BK305.out 2
       have p307 : 0 ≤ (a1 : Int) := od
       have q307 : a1 < (l0_0.length : Int) := od
       obtain ⟨ad307, e307, hx307_0, hx307_1, hx307_2⟩ := at_T60 HR0_0.out a1 p307 q307
       cases e307
       replace hx307_0 := (HB.out.cell (World.block_lt_of_cell? w _ hx307_0)).trans hx307_0
       replace hx307_1 := (HB.out.cell (World.block_lt_of_cell? w _ hx307_1)).trans hx307_1
       replace hx307_2 := (HB.out.cell (World.block_lt_of_cell? w _ hx307_2)).trans hx307_2
       replace p307 := eq_true p307
       replace q307 := eq_true q307
       go_wp2_with (first | ((with_reducible refine gate_callee (f := 30) rfl ?_); refine goesL_ (some 29) rfl rfl Tryd.func30 (by kernel_rfl) rfl #[.string ((rd_T60 l0_0 a1).f0), .string a2] rfl ml ?_; (with_reducible refine (postriderref07_Lay.calls kj3 ((rd_T60 l0_0 a1).f0) a2 t308 t309 t310 t311 _ A15.out).mono ?_); rintro e w39 ⟨rfl, hb⟩; refine ⟨_, rfl, ?_⟩; have n0_ := Aside0.mk (kb BK305.out hb); have n1_ := Aside0.mk (kb BK306.out hb); have n2_ := Aside0.mk (below_step bl hb); clear BK305; clear BK306; clear HB; have BK305 := n0_; have BK306 := n1_; have HB := n2_; clear n0_ n1_ n2_; (try clear hb); (try clear hb2); (try clear hk); (try clear hi)) | ((with_reducible refine gate_dst (N := 8) rfl ?_); (try (refine gate_guard (by rfl) ?_; dsimp only)); refine box_event ?hg (N := 8) ?hd (cs := #[.string (⟨#[]⟩ : ByteArray), .string (⟨#[]⟩ : ByteArray), .string (⟨#[]⟩ : ByteArray)]) (t := 60) ?hr ?_; (case hd => rfl); (case hg => rfl); (case hr => first | (go_simp; done) | (go_simp; rfl)); intro gb312 hg w40 hbox hb; have n0_ := Aside0.mk (kb BK305.out hb); have n1_ := Aside0.mk (kb BK306.out hb); have n2_ := Aside0.mk (below_step bl hb); have n3_ := Aside0.mk (hbox); have n4_ := Aside0.mk ((by rw [hg]; exact (below_size bl) : w.heap.size ≤ gb312)); have n5_ := Aside0.mk ((by rw [hg]; exact (below_size bl) : w.heap.size ≤ gb312)); have n6_ := Aside0.mk ((by rw [hg]; exact Nat.ne_of_lt (blk_lt (bk BK305.out)) : gb305 ≠ gb312)); have n7_ := Aside0.mk ((by rw [hg]; exact Nat.ne_of_gt (blk_lt (bk BK305.out)) : gb312 ≠ gb305)); have n8_ := Aside0.mk ((by rw [hg]; exact Nat.ne_of_lt (blk_lt (bk BK306.out)) : gb306 ≠ gb312)); have n9_ := Aside0.mk ((by rw [hg]; exact Nat.ne_of_gt (blk_lt (bk BK306.out)) : gb312 ≠ gb306)); clear BK305; clear BK306; clear HB; have BK305 := n0_; have BK306 := n1_; have HB := n2_; have BK312 := n3_; have GW312 := n4_; have GE312 := n5_; have NB305_312 := n6_; have NB312_305 := n7_; have NB306_312 := n8_; have NB312_306 := n9_; clear n0_ n1_ n2_ n3_ n4_ n5_ n6_ n7_ n8_ n9_; clear hb hbox hg; have hnb41 := NB312_305.out; have hnc41 := NB305_312.out; have hnb42 := NB312_306.out; have hnc42 := NB306_312.out; have hcz43_0 : w40.cell? ⟨gb312, 0, none⟩ = some (.string (⟨#[]⟩ : ByteArray)) := (blk_cell BK312.out 0).trans rfl; have hcz43_1 : w40.cell? ⟨gb312, 1, none⟩ = some (.string (⟨#[]⟩ : ByteArray)) := (blk_cell BK312.out 1).trans rfl; have hcz43_2 : w40.cell? ⟨gb312, 2, none⟩ = some (.string (⟨#[]⟩ : ByteArray)) := (blk_cell BK312.out 2).trans rfl; have hfz43_0 := blk_frozen BK312.out 0; have hfz43_1 := blk_frozen BK312.out 1; have hfz43_2 := blk_frozen BK312.out 2; have hcz44_0 : w40.cell? ⟨gb306, 0, none⟩ = some (.slice none 0 0) := (blk_cell BK306.out 0).trans rfl; have hcz44_1 : w40.cell? ⟨gb306, 1, none⟩ = some (.string (⟨#[]⟩ : ByteArray)) := (blk_cell BK306.out 1).trans rfl; have hcz44_2 : w40.cell? ⟨gb306, 2, none⟩ = some (.bool false) := (blk_cell BK306.out 2).trans rfl; have hfz44_0 := blk_frozen BK306.out 0; have hfz44_1 := blk_frozen BK306.out 1; have hfz44_2 := blk_frozen BK306.out 2))
       refine bodyPost_ret (results_ct rfl _ _ gb306 30 #[.slice none 0 0, .string (⟨#[]⟩ : ByteArray), .bool false] (0, 0) _ rfl (by (with_reducible repeat (first | refine blk_drewN ?_ _ | refine blk_drew ?_ | refine blk_alloc ?_ _)); refine blk_put (cs := #[.slice none 0 0, .string (⟨#[]⟩ : ByteArray), .bool false]) ?_ 2 _ rfl; (with_reducible repeat (first | refine blk_drewN ?_ _ | refine blk_drew ?_ | refine blk_alloc ?_ _)); refine blk_put (cs := #[.slice none 0 0, .string (⟨#[]⟩ : ByteArray), .bool false]) ?_ 1 _ rfl; (with_reducible repeat (first | refine blk_drewN ?_ _ | refine blk_drew ?_ | refine blk_alloc ?_ _)); refine blk_put (cs := #[.slice none 0 0, .string (⟨#[]⟩ : ByteArray), .bool false]) ?_ 0 _ rfl; (with_reducible repeat (first | refine blk_drewN ?_ _ | refine blk_drew ?_ | refine blk_alloc ?_ _)); refine blk_far ?_ NB306_312.out _; (with_reducible repeat (first | refine blk_drewN ?_ _ | refine blk_drew ?_ | refine blk_alloc ?_ _)); refine blk_far ?_ NB306_312.out _; (with_reducible repeat (first | refine blk_drewN ?_ _ | refine blk_drew ?_ | refine blk_alloc ?_ _)); refine blk_far ?_ NB306_312.out _; (with_reducible repeat (first | refine blk_drewN ?_ _ | refine blk_drew ?_ | refine blk_alloc ?_ _)); exact BK306.out) Tryd.underlying30 rfl (by kernel_rfl)) rfl ?_
       exact ⟨_, by first | rfl | (simp [errW_none, errW_some] <;> rfl) | (simp [*, errW_none, errW_some] <;> rfl), by first | exact Kd.R_nil _ _ _ _ _ | exact Kd.N_nil _ _ _ _ _ | exact Kd.V_nil _ _ _ _ _ | exact Kd.Q_nil _ _ _ _ _ | exact Kd.S_nil _ _ _ _ _, by repeat (first | (with_reducible first | exact HB.out | apply below_alloc | apply pw_below_drewN | apply below_drew1 | refine below_set ?_ GE305.out | refine below_set ?_ GE306.out | refine below_set ?_ GE312.out) | exact HB.out)⟩
     ·rw [if_neg c14] at H
      exact absurd H (by simp)
    ·rw [if_neg c13] at H
     exact absurd H (by simp)

end Go.Proofs.YtdciiahlakgikaaDoor.Q
end
