/- Walks of functions. -/
import Derived.Test.YtoigafnaoaafeaaDoorQx0
section
namespace Go.Proofs.YtoigafnaoaafeaaDoor.Q
open Go.RowKit Go.Proofs.YtoigafnaoaafeaaDoorW.PrintWords Go.Proofs.YtoigafnaoaafeaaDoorW.PrintLast Go.Proofs.YtoigafnaoaafeaaDoorW.PrintMore
attribute [local go_sem] max2_int min2_int max_two min_two max_three min_three max_four min_four   -- for this text's walks alone
set_option linter.unusedVariables false
set_option linter.unusedSimpArgs false

/-! ### stamp_ParseDate: function 21 -/
mutual
def stamp_ParseDate.j0 : Nat → Int → Int → Bool → Int → Int → Int → Int → Int → Int → Int → Option (Int × Int)
 | 0, _, _, _, _, _, _, _, _, _, _ => none
 | k + 1, x6, x7, x51, x172000, x172001, x172002, x172003, x172004, x172005, x172006 => if x51 = true then (some (0, 24)) else ((stamp_ahead.f x6).bind fun t173 => (stamp_ParseDate.l0 k x6 (wrap64 ((wrap64 (t173 + x172001)) - 1)) x7 0 x172000 x172001 x172002 x172003 x172004 x172005 x172006))
def stamp_ParseDate.l0 : Nat → Int → Int → Int → Int → Int → Int → Int → Int → Int → Int → Int → Option (Int × Int)
 | 0, _, _, _, _, _, _, _, _, _, _, _ => none
 | k + 1, x6, x8, x58, x59, x172000, x172001, x172002, x172003, x172004, x172005, x172006 => if x59 < x58 then ((stamp_length.f x6 x59).bind fun t174 => (stamp_ParseDate.l0 k x6 (wrap64 (x8 + t174)) x58 (wrap64 (x59 + 1)) x172000 x172001 x172002 x172003 x172004 x172005 x172006)) else (if (wrap64 ((wrap64 ((wrap64 ((wrap64 (x8 * 86400)) + (wrap64 (x172004 * 3600)))) + (wrap64 (x172005 * 60)))) + x172006)) > 1099511627776 then (some (0, 24)) else (if (Int.tmod (wrap64 (x8 + 4)) 7) = x172000 then (some (wrap64 ((wrap64 ((wrap64 ((wrap64 (x8 * 86400)) + (wrap64 (x172004 * 3600)))) + (wrap64 (x172005 * 60)))) + x172006), 0)) else (some (0, 24))))
end
def stamp_ParseDate.f (k : Nat) (a0 : ByteArray) : Option (Int × Int) := (stamp_parts.f k a0).bind fun bt163 => (if bt163.2.2.2.2.2.2.2 = true then (if bt163.2.2.2.1 < 1970 then (stamp_ParseDate.j0 k bt163.2.2.2.1 bt163.2.2.1 true bt163.1 bt163.2.1 bt163.2.2.1 bt163.2.2.2.1 bt163.2.2.2.2.1 bt163.2.2.2.2.2.1 bt163.2.2.2.2.2.2.1) else (if bt163.2.1 < 1 then (stamp_ParseDate.j0 k bt163.2.2.2.1 bt163.2.2.1 true bt163.1 bt163.2.1 bt163.2.2.1 bt163.2.2.2.1 bt163.2.2.2.2.1 bt163.2.2.2.2.2.1 bt163.2.2.2.2.2.2.1) else ((stamp_length.f bt163.2.2.2.1 bt163.2.2.1).bind fun t172 => (if bt163.2.1 > t172 then (stamp_ParseDate.j0 k bt163.2.2.2.1 bt163.2.2.1 true bt163.1 bt163.2.1 bt163.2.2.1 bt163.2.2.2.1 bt163.2.2.2.2.1 bt163.2.2.2.2.2.1 bt163.2.2.2.2.2.2.1) else (if bt163.2.2.2.2.1 > 23 then (stamp_ParseDate.j0 k bt163.2.2.2.1 bt163.2.2.1 true bt163.1 bt163.2.1 bt163.2.2.1 bt163.2.2.2.1 bt163.2.2.2.2.1 bt163.2.2.2.2.2.1 bt163.2.2.2.2.2.2.1) else (if bt163.2.2.2.2.2.1 > 59 then (stamp_ParseDate.j0 k bt163.2.2.2.1 bt163.2.2.1 true bt163.1 bt163.2.1 bt163.2.2.1 bt163.2.2.2.1 bt163.2.2.2.2.1 bt163.2.2.2.2.2.1 bt163.2.2.2.2.2.2.1) else (stamp_ParseDate.j0 k bt163.2.2.2.1 bt163.2.2.1 (decide (bt163.2.2.2.2.2.2.1 > 59)) bt163.1 bt163.2.1 bt163.2.2.1 bt163.2.2.2.1 bt163.2.2.2.2.1 bt163.2.2.2.2.2.1 bt163.2.2.2.2.2.2.1))))))) else (some (0, 5)))
theorem stamp_ParseDate.mono_l : ∀ k, (∀ y0 y1 y2 y3 y4 y5 y6 y7 y8 y9, LeO (stamp_ParseDate.j0 k y0 y1 y2 y3 y4 y5 y6 y7 y8 y9) (stamp_ParseDate.j0 (k + 1) y0 y1 y2 y3 y4 y5 y6 y7 y8 y9)) ∧ (∀ y0 y1 y2 y3 y4 y5 y6 y7 y8 y9 y10, LeO (stamp_ParseDate.l0 k y0 y1 y2 y3 y4 y5 y6 y7 y8 y9 y10) (stamp_ParseDate.l0 (k + 1) y0 y1 y2 y3 y4 y5 y6 y7 y8 y9 y10))
 | 0 => ⟨fun _ _ _ _ _ _ _ _ _ _ r h => by simp [stamp_ParseDate.j0] at h, fun _ _ _ _ _ _ _ _ _ _ _ r h => by simp [stamp_ParseDate.l0] at h⟩
 | k + 1 => by
  obtain ⟨ih0, ih1⟩ := stamp_ParseDate.mono_l k
  refine ⟨?_, ?_⟩
  ·intro y0 y1 y2 y3 y4 y5 y6 y7 y8 y9
   unfold stamp_ParseDate.j0
   repeat' first
   | (with_reducible exact ih0 _ _ _ _ _ _ _ _ _ _)
   | (with_reducible exact ih1 _ _ _ _ _ _ _ _ _ _ _)
   | (with_reducible exact stamp_parts.mono _ _)
   | (with_reducible exact LeO.refl _)
   | (with_reducible exact LeO.none _)
   | (with_reducible refine LeO.ite ?_ ?_)
   | (with_reducible refine LeO.bind ?_ (fun _ => ?_))
   | exact ih0 _ _ _ _ _ _ _ _ _ _
   | exact ih1 _ _ _ _ _ _ _ _ _ _ _
   | exact stamp_parts.mono _ _
   | exact LeO.none _
   | refine LeO.ite ?_ ?_
   | refine LeO.bind ?_ (fun _ => ?_)
  ·intro y0 y1 y2 y3 y4 y5 y6 y7 y8 y9 y10
   unfold stamp_ParseDate.l0
   repeat' first
   | (with_reducible exact ih0 _ _ _ _ _ _ _ _ _ _)
   | (with_reducible exact ih1 _ _ _ _ _ _ _ _ _ _ _)
   | (with_reducible exact stamp_parts.mono _ _)
   | (with_reducible exact LeO.refl _)
   | (with_reducible exact LeO.none _)
   | (with_reducible refine LeO.ite ?_ ?_)
   | (with_reducible refine LeO.bind ?_ (fun _ => ?_))
   | exact ih0 _ _ _ _ _ _ _ _ _ _
   | exact ih1 _ _ _ _ _ _ _ _ _ _ _
   | exact stamp_parts.mono _ _
   | exact LeO.none _
   | refine LeO.ite ?_ ?_
   | refine LeO.bind ?_ (fun _ => ?_)
theorem stamp_ParseDate.mono : ∀ a0 k, LeO (stamp_ParseDate.f k a0) (stamp_ParseDate.f (k + 1) a0) := by
 intro a0 k
 obtain ⟨ih0, ih1⟩ := stamp_ParseDate.mono_l k
 unfold stamp_ParseDate.f
 repeat' first
   | (with_reducible exact ih0 _ _ _ _ _ _ _ _ _ _)
   | (with_reducible exact ih1 _ _ _ _ _ _ _ _ _ _ _)
   | (with_reducible exact stamp_parts.mono _ _)
   | (with_reducible exact LeO.refl _)
   | (with_reducible exact LeO.none _)
   | (with_reducible refine LeO.ite ?_ ?_)
   | (with_reducible refine LeO.bind ?_ (fun _ => ?_))
   | exact ih0 _ _ _ _ _ _ _ _ _ _
   | exact ih1 _ _ _ _ _ _ _ _ _ _ _
   | exact stamp_parts.mono _ _
   | exact LeO.none _
   | refine LeO.ite ?_ ?_
   | refine LeO.bind ?_ (fun _ => ?_)
def stamp_ParseDate.T5 : Bool × List (List Nat × List Nat) := (true, [([], []), ([0], [0]), ([1], [1]), ([2], [2]), ([3, 2], [2, 3]), ([4, 2], [2, 4]), ([2, 5], [2, 5]), ([6, 2], [6]), ([7], [7]), ([8, 7], [7, 8]), ([7], [7]), ([7], [7]), ([10, 11, 7, 7], [7, 10, 11]), ([9, 12, 7], [7, 9, 12]), ([7, 13], [7, 13]), ([14, 12], [14]), ([15], [15]), ([16, 15], [15, 16]), ([17, 15], [15, 17]), ([15, 18], [15, 18]), ([19, 15], [19]), ([20], [20]), ([21, 20], [20, 21]), ([22, 20], [20, 22]), ([20, 23], [20, 23]), ([24, 20], [24]), ([25], [25]), ([26, 25], [25, 26]), ([27, 25], [25, 27]), ([25, 28], [25, 28])])
def stamp_ParseDate.B5 : List Nat := [0, 1, 3, 7, 15, 31, 63, 127, 255, 511, 255, 255, 3327, 8191, 16383, 32767, 65535, 131071, 262143, 524287, 1048575, 2097151, 4194303, 8388607, 16777215, 33554431, 67108863, 134217727, 268435455, 536870911]
theorem stamp_ParseDate.tab5 : rtab .any (opsOf Tryd.f21 5) = stamp_ParseDate.T5 := by kernel_rfl
theorem stamp_ParseDate.bits5 : waitsOk stamp_ParseDate.T5.2 stamp_ParseDate.B5 = true := by kernel_rfl
set_option maxHeartbeats 8000000 in
set_option maxRecDepth 100000 in
theorem stamp_ParseDate.calls (k : Nat) (a0 : ByteArray) (r1 : Int) (r2 : Int) (w : World) (hG : Glob w) (h : stamp_ParseDate.f k a0 = some (r1, r2)) :
  Calls Tryd.prog 21 #[.string a0] w fun e w' => e = .returned (.tuple #[.int .i64 r1, .int .i64 r2]) ∧ Below w.heap.size w w' := by
 have hu70 := Tryd.underlying70
 have HB := Aside0.mk (Below.refl w.heap.size w)
 have HG := Aside0.mk hG
 clear hG
 have H : ((stamp_parts.f k a0).bind fun bt163 => (if bt163.2.2.2.2.2.2.2 = true then (if bt163.2.2.2.1 < 1970 then (stamp_ParseDate.j0 k bt163.2.2.2.1 bt163.2.2.1 true bt163.1 bt163.2.1 bt163.2.2.1 bt163.2.2.2.1 bt163.2.2.2.2.1 bt163.2.2.2.2.2.1 bt163.2.2.2.2.2.2.1) else (if bt163.2.1 < 1 then (stamp_ParseDate.j0 k bt163.2.2.2.1 bt163.2.2.1 true bt163.1 bt163.2.1 bt163.2.2.1 bt163.2.2.2.1 bt163.2.2.2.2.1 bt163.2.2.2.2.2.1 bt163.2.2.2.2.2.2.1) else ((stamp_length.f bt163.2.2.2.1 bt163.2.2.1).bind fun t172 => (if bt163.2.1 > t172 then (stamp_ParseDate.j0 k bt163.2.2.2.1 bt163.2.2.1 true bt163.1 bt163.2.1 bt163.2.2.1 bt163.2.2.2.1 bt163.2.2.2.2.1 bt163.2.2.2.2.2.1 bt163.2.2.2.2.2.2.1) else (if bt163.2.2.2.2.1 > 23 then (stamp_ParseDate.j0 k bt163.2.2.2.1 bt163.2.2.1 true bt163.1 bt163.2.1 bt163.2.2.1 bt163.2.2.2.1 bt163.2.2.2.2.1 bt163.2.2.2.2.2.1 bt163.2.2.2.2.2.2.1) else (if bt163.2.2.2.2.2.1 > 59 then (stamp_ParseDate.j0 k bt163.2.2.2.1 bt163.2.2.1 true bt163.1 bt163.2.1 bt163.2.2.1 bt163.2.2.2.1 bt163.2.2.2.2.1 bt163.2.2.2.2.2.1 bt163.2.2.2.2.2.2.1) else (stamp_ParseDate.j0 k bt163.2.2.2.1 bt163.2.2.1 (decide (bt163.2.2.2.2.2.2.1 > 59)) bt163.1 bt163.2.1 bt163.2.2.1 bt163.2.2.2.1 bt163.2.2.2.2.1 bt163.2.2.2.2.2.1 bt163.2.2.2.2.2.2.1))))))) else (some (0, 5)))) = some (r1, r2) := h
 clear h
 replace H := Option.bind_eq_some_iff.mp H
 obtain ⟨⟨t163, t164, t165, t166, t167, t168, t169, t170⟩, A20, H⟩ := H
 replace H : (if t170 = true then (if t166 < 1970 then (stamp_ParseDate.j0 k t166 t165 true t163 t164 t165 t166 t167 t168 t169) else (if t164 < 1 then (stamp_ParseDate.j0 k t166 t165 true t163 t164 t165 t166 t167 t168 t169) else ((stamp_length.f t166 t165).bind fun t172 => (if t164 > t172 then (stamp_ParseDate.j0 k t166 t165 true t163 t164 t165 t166 t167 t168 t169) else (if t167 > 23 then (stamp_ParseDate.j0 k t166 t165 true t163 t164 t165 t166 t167 t168 t169) else (if t168 > 59 then (stamp_ParseDate.j0 k t166 t165 true t163 t164 t165 t166 t167 t168 t169) else (stamp_ParseDate.j0 k t166 t165 (decide (t169 > 59)) t163 t164 t165 t166 t167 t168 t169))))))) else (some (0, 5))) = some (r1, r2) := H
 have A2 := Aside0.mk A20
 clear A20
 by_cases c3 : t170 = true
 ·subst c3
  have H1 : (if t166 < 1970 then (stamp_ParseDate.j0 k t166 t165 true t163 t164 t165 t166 t167 t168 t169) else (if t164 < 1 then (stamp_ParseDate.j0 k t166 t165 true t163 t164 t165 t166 t167 t168 t169) else ((stamp_length.f t166 t165).bind fun t172 => (if t164 > t172 then (stamp_ParseDate.j0 k t166 t165 true t163 t164 t165 t166 t167 t168 t169) else (if t167 > 23 then (stamp_ParseDate.j0 k t166 t165 true t163 t164 t165 t166 t167 t168 t169) else (if t168 > 59 then (stamp_ParseDate.j0 k t166 t165 true t163 t164 t165 t166 t167 t168 t169) else (stamp_ParseDate.j0 k t166 t165 (decide (t169 > 59)) t163 t164 t165 t166 t167 t168 t169))))))) = some (r1, r2) := by rw [if_pos rfl] at H; exact H
  clear H
  have H := H1
  clear H1
  have HC4 := Aside0.mk H
  clear H
  go_enter Tryd.func21, Tryd.ntmps21
  try go_wp2_with (first | ((with_reducible refine gate_callee (f := 44) rfl ?_); refine goesL_ (some 13) rfl rfl Tryd.func44 (by kernel_rfl) rfl #[.string a0] rfl ml ?_; (with_reducible refine (stamp_parts.calls k a0 t163 t164 t165 t166 t167 t168 t169 true _ ?side1 A2.out).mono ?_); (case side1 => exact Glob.below HG.out bl); rintro e w5 ⟨rfl, hb⟩; refine ⟨_, rfl, ?_⟩; have n0_ := Aside0.mk (below_step bl hb); clear HB; have HB := n0_; clear n0_; (try clear hb); (try clear hb2); (try clear hk); (try clear hi)) | ((with_reducible refine gate_dst (N := 4) rfl ?_); refine box_event ?hg (N := 4) ?hd (cs := #[.int .i64 0, .int .i64 0, .int .i64 0, .int .i64 0, .int .i64 0, .int .i64 0, .int .i64 0]) (t := 70) ?hr ?_; (case hd => rfl); (case hg => rfl); (case hr => first | (go_simp; done) | (go_simp; rfl)); intro gb171 hg w6 hbox hb; have n0_ := Aside0.mk (below_step bl hb); have n1_ := Aside0.mk (hbox); have n2_ := Aside0.mk ((by rw [hg]; exact (below_size bl) : w.heap.size ≤ gb171)); have n3_ := Aside0.mk ((by rw [hg]; exact (below_size bl) : w.heap.size ≤ gb171)); clear HB; have HB := n0_; have BK171 := n1_; have GW171 := n2_; have GE171 := n3_; clear n0_ n1_ n2_ n3_; clear hb hbox hg; have hcz7_0 : w6.cell? ⟨gb171, 0, none⟩ = some (.int .i64 0) := (blk_cell BK171.out 0).trans rfl; have hcz7_1 : w6.cell? ⟨gb171, 1, none⟩ = some (.int .i64 0) := (blk_cell BK171.out 1).trans rfl; have hcz7_2 : w6.cell? ⟨gb171, 2, none⟩ = some (.int .i64 0) := (blk_cell BK171.out 2).trans rfl; have hcz7_3 : w6.cell? ⟨gb171, 3, none⟩ = some (.int .i64 0) := (blk_cell BK171.out 3).trans rfl; have hcz7_4 : w6.cell? ⟨gb171, 4, none⟩ = some (.int .i64 0) := (blk_cell BK171.out 4).trans rfl; have hcz7_5 : w6.cell? ⟨gb171, 5, none⟩ = some (.int .i64 0) := (blk_cell BK171.out 5).trans rfl; have hcz7_6 : w6.cell? ⟨gb171, 6, none⟩ = some (.int .i64 0) := (blk_cell BK171.out 6).trans rfl; have hfz7_0 := blk_frozen BK171.out 0; have hfz7_1 := blk_frozen BK171.out 1; have hfz7_2 := blk_frozen BK171.out 2; have hfz7_3 := blk_frozen BK171.out 3; have hfz7_4 := blk_frozen BK171.out 4; have hfz7_5 := blk_frozen BK171.out 5; have hfz7_6 := blk_frozen BK171.out 6))
  have n0_ : Aside0 ((((((((w6.setCell ⟨gb171, 0, none⟩ (.int .i64 t163)).setCell ⟨gb171, 1, none⟩ (.int .i64 t164)).setCell ⟨gb171, 2, none⟩ (.int .i64 t165)).setCell ⟨gb171, 3, none⟩ (.int .i64 t166)).setCell ⟨gb171, 4, none⟩ (.int .i64 t167)).setCell ⟨gb171, 5, none⟩ (.int .i64 t168)).setCell ⟨gb171, 6, none⟩ (.int .i64 t169)).heap[gb171]? = some (.cells #[.int .i64 t163, .int .i64 t164, .int .i64 t165, .int .i64 t166, .int .i64 t167, .int .i64 t168, .int .i64 t169] 70 (0, 0))) := ⟨by (with_reducible repeat (first | refine blk_drewN ?_ _ | refine blk_drew ?_ | refine blk_alloc ?_ _)); refine blk_put (cs := #[.int .i64 t163, .int .i64 t164, .int .i64 t165, .int .i64 t166, .int .i64 t167, .int .i64 t168, .int .i64 0]) ?_ 6 _ rfl; (with_reducible repeat (first | refine blk_drewN ?_ _ | refine blk_drew ?_ | refine blk_alloc ?_ _)); refine blk_put (cs := #[.int .i64 t163, .int .i64 t164, .int .i64 t165, .int .i64 t166, .int .i64 t167, .int .i64 0, .int .i64 0]) ?_ 5 _ rfl; (with_reducible repeat (first | refine blk_drewN ?_ _ | refine blk_drew ?_ | refine blk_alloc ?_ _)); refine blk_put (cs := #[.int .i64 t163, .int .i64 t164, .int .i64 t165, .int .i64 t166, .int .i64 0, .int .i64 0, .int .i64 0]) ?_ 4 _ rfl; (with_reducible repeat (first | refine blk_drewN ?_ _ | refine blk_drew ?_ | refine blk_alloc ?_ _)); refine blk_put (cs := #[.int .i64 t163, .int .i64 t164, .int .i64 t165, .int .i64 0, .int .i64 0, .int .i64 0, .int .i64 0]) ?_ 3 _ rfl; (with_reducible repeat (first | refine blk_drewN ?_ _ | refine blk_drew ?_ | refine blk_alloc ?_ _)); refine blk_put (cs := #[.int .i64 t163, .int .i64 t164, .int .i64 0, .int .i64 0, .int .i64 0, .int .i64 0, .int .i64 0]) ?_ 2 _ rfl; (with_reducible repeat (first | refine blk_drewN ?_ _ | refine blk_drew ?_ | refine blk_alloc ?_ _)); refine blk_put (cs := #[.int .i64 t163, .int .i64 0, .int .i64 0, .int .i64 0, .int .i64 0, .int .i64 0, .int .i64 0]) ?_ 1 _ rfl; (with_reducible repeat (first | refine blk_drewN ?_ _ | refine blk_drew ?_ | refine blk_alloc ?_ _)); refine blk_put (cs := #[.int .i64 0, .int .i64 0, .int .i64 0, .int .i64 0, .int .i64 0, .int .i64 0, .int .i64 0]) ?_ 0 _ rfl; (with_reducible repeat (first | refine blk_drewN ?_ _ | refine blk_drew ?_ | refine blk_alloc ?_ _)); exact BK171.out⟩
  have n1_ : Aside0 (Below w.heap.size w (((((((w6.setCell ⟨gb171, 0, none⟩ (.int .i64 t163)).setCell ⟨gb171, 1, none⟩ (.int .i64 t164)).setCell ⟨gb171, 2, none⟩ (.int .i64 t165)).setCell ⟨gb171, 3, none⟩ (.int .i64 t166)).setCell ⟨gb171, 4, none⟩ (.int .i64 t167)).setCell ⟨gb171, 5, none⟩ (.int .i64 t168)).setCell ⟨gb171, 6, none⟩ (.int .i64 t169))) := ⟨by repeat (first | (with_reducible first | exact HB.out | apply below_alloc | apply pw_below_drewN | apply below_drew1 | refine below_set ?_ GE171.out) | exact HB.out)⟩
  (try clear BK171)
  (try clear HB)
  generalize (((((((w6.setCell ⟨gb171, 0, none⟩ (.int .i64 t163)).setCell ⟨gb171, 1, none⟩ (.int .i64 t164)).setCell ⟨gb171, 2, none⟩ (.int .i64 t165)).setCell ⟨gb171, 3, none⟩ (.int .i64 t166)).setCell ⟨gb171, 4, none⟩ (.int .i64 t167)).setCell ⟨gb171, 5, none⟩ (.int .i64 t168)).setCell ⟨gb171, 6, none⟩ (.int .i64 t169)) = w8 at n0_ n1_ ⊢
  have BK171 := n0_
  have HB := n1_
  clear n0_ n1_
  have n0_ := Aside0.mk (blk_drew BK171.out)
  have n1_ := Aside0.mk (below_drew1 HB.out)
  clear BK171
  clear HB
  have BK171 := n0_
  have HB := n1_
  clear n0_ n1_
  refine start_ (n := 6) (S := fun w' => w'.cell? ⟨gb171, 0, none⟩ = some (.int .i64 t163) ∧ w'.cell? ⟨gb171, 1, none⟩ = some (.int .i64 t164) ∧ w'.cell? ⟨gb171, 2, none⟩ = some (.int .i64 t165) ∧ w'.cell? ⟨gb171, 3, none⟩ = some (.int .i64 t166) ∧ w'.cell? ⟨gb171, 4, none⟩ = some (.int .i64 t167) ∧ w'.cell? ⟨gb171, 5, none⟩ = some (.int .i64 t168) ∧ w'.cell? ⟨gb171, 6, none⟩ = some (.int .i64 t169)) (ds := []) #[false, false, false, false, false, false] (by kernel_rfl) rfl rfl ⟨(blk_cell BK171.out 0).trans rfl, (blk_cell BK171.out 1).trans rfl, (blk_cell BK171.out 2).trans rfl, (blk_cell BK171.out 3).trans rfl, (blk_cell BK171.out 4).trans rfl, (blk_cell BK171.out 5).trans rfl, (blk_cell BK171.out 6).trans rfl⟩ (fun hHeld => ?_)
  generalize w8.drew = w9 at BK171 HB hHeld ⊢
  refine pure_ (i := 0) (N := some 18) (v := ?_) (a' := ?_) #[true, false, false, false, false, false] rfl rfl (by kernel_rfl) (fun _ _ _ h => h) (Or.inl ⟨by rfl, ?_⟩) ?_ ?_
  rotate_left
  ·intro w'
   go_simp
   with_reducible rfl
  rotate_left
  ·simp only [Act.put, List.setIfInBounds_toArray, List.set_cons_zero, List.set_cons_succ, i64_w, i32_w]
   rfl
  refine pure_ (i := 2) (N := some 20) (v := ?_) (a' := ?_) #[true, false, true, false, false, false] rfl rfl (by kernel_rfl) (fun _ _ _ h => h) (Or.inl ⟨by rfl, ?_⟩) ?_ ?_
  rotate_left
  ·intro w'
   go_simp
   with_reducible rfl
  rotate_left
  ·simp only [Act.put, List.setIfInBounds_toArray, List.set_cons_zero, List.set_cons_succ, i64_w, i32_w]
   rfl
  refine take_ (i := 1) (N := some 19) (v := ?_) (a' := ?_) #[true, true, true, false, false, false] rfl rfl (by kernel_rfl) (fun _ _ _ h => h) (Or.inl ⟨by rfl, ?_⟩) hHeld ?_ ?_
  rotate_left
  ·rintro w' ⟨s0, s1, s2, s3, s4, s5, s6⟩
   go_simp
   with_reducible rfl
  rotate_left
  ·simp only [Act.put, List.setIfInBounds_toArray, List.set_cons_zero, List.set_cons_succ, i64_w, i32_w]
   rfl
  refine pure_ (i := 4) (N := some 6) (v := ?_) (a' := ?_) #[true, true, true, false, true, false] rfl rfl (by kernel_rfl) (fun _ _ _ h => h) (Or.inl ⟨by rfl, ?_⟩) ?_ ?_
  rotate_left
  ·intro w'
   go_simp
   with_reducible rfl
  rotate_left
  ·simp only [Act.put, List.setIfInBounds_toArray, List.set_cons_zero, List.set_cons_succ, i64_w, i32_w]
   rfl
  refine take_ (i := 3) (N := some 21) (v := ?_) (a' := ?_) #[true, true, true, true, true, false] rfl rfl (by kernel_rfl) (fun _ _ _ h => h) (Or.inl ⟨by rfl, ?_⟩) hHeld ?_ ?_
  rotate_left
  ·rintro w' ⟨s0, s1, s2, s3, s4, s5, s6⟩
   go_simp
   with_reducible rfl
  rotate_left
  ·simp only [Act.put, List.setIfInBounds_toArray, List.set_cons_zero, List.set_cons_succ, i64_w, i32_w]
   rfl
  refine pure_ (i := 5) (N := some 7) (v := ?_) (a' := ?_) #[true, true, true, true, true, true] rfl rfl (by kernel_rfl) (fun _ _ _ h => h) (Or.inl ⟨by rfl, ?_⟩) ?_ ?_
  rotate_left
  ·intro w'
   go_simp
   with_reducible rfl
  rotate_left
  ·simp only [Act.put, List.setIfInBounds_toArray, List.set_cons_zero, List.set_cons_succ, i64_w, i32_w]
   rfl
  refine done_ (by kernel_rfl) ?_
  go_upto_region 5 with (fail)
  go_cut [51] (fun v51 wc => ∃ (kq : Nat) (x51_3 : Bool), v51 = .bool x51_3 ∧ Aside0 (stamp_ParseDate.j0 kq t166 t165 x51_3 t163 t164 t165 t166 t167 t168 t169 = some (r1, r2)) ∧ Aside0 (kq ≤ k) ∧ Aside0 (wc.heap[gb171]? = some (.cells #[.int .i64 t163, .int .i64 t164, .int .i64 t165, .int .i64 t166, .int .i64 t167, .int .i64 t168, .int .i64 t169] 70 (0, 0))) ∧ Aside0 (Below w.heap.size w wc))
  case first =>
   have H := HC4.out
   clear HC4
   by_cases c10 : t166 < 1970
   ·rw [if_pos c10] at H
    have c10b0 : decide (t166 < 1970) = true := decide_eq_true c10
    clear c10
    (first | rw [c10b0] | (simp only [i64_w, i32_w]; rw [c10b0]) | skip)
    have H' := Aside0.mk H
    clear H
    try go_wp2
    have n0_ := Aside0.mk (blk_drew BK171.out)
    have n1_ := Aside0.mk (below_drew1 HB.out)
    clear BK171
    clear HB
    have BK171 := n0_
    have HB := n1_
    clear n0_ n1_
    refine start_ (n := 30) (S := fun w' => True) (ds := []) #[false, false, false, false, false, false, false, false, false, false, false, false, false, false, false, false, false, false, false, false, false, false, false, false, false, false, false, false, false, false] (by kernel_rfl) rfl rfl trivial (fun hHeld => ?_); refine with_tabW stamp_ParseDate.tab5 stamp_ParseDate.bits5 (fun HT_ HW_ => ?_)
    generalize w9.drew = w11 at BK171 HB hHeld ⊢
    refine pure_ (i := 0) (N := some 22) (v := ?_) (a' := ?_) #[true, false, false, false, false, false, false, false, false, false, false, false, false, false, false, false, false, false, false, false, false, false, false, false, false, false, false, false, false, false] rfl rfl (any_of HT_.out (by kernel_rfl)) (fun _ _ _ h => h) (Or.inl ⟨by rfl, ?_⟩) ?_ ?_
    rotate_left
    ·intro w'
     go_simp
     with_reducible rfl
    rotate_left
    ·simp only [Act.put, List.setIfInBounds_toArray, List.set_cons_zero, List.set_cons_succ, i64_w, i32_w]
     rfl
    refine pure_ (i := 1) (N := some 23) (v := ?_) (a' := ?_) #[true, true, false, false, false, false, false, false, false, false, false, false, false, false, false, false, false, false, false, false, false, false, false, false, false, false, false, false, false, false] rfl rfl (any_of HT_.out (by kernel_rfl)) (fun _ _ _ h => h) (Or.inl ⟨by rfl, ?_⟩) ?_ ?_
    rotate_left
    ·intro w'
     go_simp
     with_reducible rfl
    rotate_left
    ·simp only [Act.put, List.setIfInBounds_toArray, List.set_cons_zero, List.set_cons_succ, i64_w, i32_w]
     rfl
    refine pure_ (i := 2) (N := some 24) (v := ?_) (a' := ?_) #[true, true, true, false, false, false, false, false, false, false, false, false, false, false, false, false, false, false, false, false, false, false, false, false, false, false, false, false, false, false] rfl rfl (any_of HT_.out (by kernel_rfl)) (fun _ _ _ h => h) (Or.inl ⟨by rfl, ?_⟩) ?_ ?_
    rotate_left
    ·intro w'
     go_simp
     with_reducible rfl
    rotate_left
    ·simp only [Act.put, List.setIfInBounds_toArray, List.set_cons_zero, List.set_cons_succ, i64_w, i32_w]
     rfl
    refine pure_ (i := 3) (N := some 25) (v := undef) (a' := ?_) #[true, true, true, true, false, false, false, false, false, false, false, false, false, false, false, false, false, false, false, false, false, false, false, false, false, false, false, false, false, false] rfl rfl (any_of HT_.out (by kernel_rfl)) (fun _ _ _ h => h) (Or.inr ⟨by rfl, rfl⟩) ?_ ?_
    rotate_left
    ·simp only [Act.put, List.setIfInBounds_toArray, List.set_cons_zero, List.set_cons_succ, i64_w, i32_w]
     rfl
    refine pure_ (i := 4) (N := some 26) (v := undef) (a' := ?_) #[true, true, true, true, true, false, false, false, false, false, false, false, false, false, false, false, false, false, false, false, false, false, false, false, false, false, false, false, false, false] rfl rfl (any_of HT_.out (by kernel_rfl)) (fun _ _ _ h => h) (Or.inr ⟨by rfl, rfl⟩) ?_ ?_
    rotate_left
    ·simp only [Act.put, List.setIfInBounds_toArray, List.set_cons_zero, List.set_cons_succ, i64_w, i32_w]
     rfl
    refine pure_ (i := 5) (N := some 27) (v := undef) (a' := ?_) #[true, true, true, true, true, true, false, false, false, false, false, false, false, false, false, false, false, false, false, false, false, false, false, false, false, false, false, false, false, false] rfl rfl (any_of HT_.out (by kernel_rfl)) (fun _ _ _ h => h) (Or.inr ⟨by rfl, rfl⟩) ?_ ?_
    rotate_left
    ·simp only [Act.put, List.setIfInBounds_toArray, List.set_cons_zero, List.set_cons_succ, i64_w, i32_w]
     rfl
    refine pure_ (i := 6) (N := some 28) (v := ?_) (a' := ?_) #[true, true, true, true, true, true, true, false, false, false, false, false, false, false, false, false, false, false, false, false, false, false, false, false, false, false, false, false, false, false] rfl rfl (any_of HT_.out (by kernel_rfl)) (fun _ _ _ h => h) (Or.inl ⟨by rfl, ?_⟩) ?_ ?_
    rotate_left
    ·intro w'
     go_simp
     with_reducible rfl
    rotate_left
    ·simp only [Act.put, List.setIfInBounds_toArray, List.set_cons_zero, List.set_cons_succ, i64_w, i32_w]
     rfl
    refine pure_ (i := 7) (N := some 29) (v := ?_) (a' := ?_) #[true, true, true, true, true, true, true, true, false, false, false, false, false, false, false, false, false, false, false, false, false, false, false, false, false, false, false, false, false, false] rfl rfl (any_of HT_.out (by kernel_rfl)) (fun _ _ _ h => h) (Or.inl ⟨by rfl, ?_⟩) ?_ ?_
    rotate_left
    ·intro w'
     go_simp
     with_reducible rfl
    rotate_left
    ·simp only [Act.put, List.setIfInBounds_toArray, List.set_cons_zero, List.set_cons_succ, i64_w, i32_w]
     rfl
    refine pure_ (i := 8) (N := some 30) (v := undef) (a' := ?_) #[true, true, true, true, true, true, true, true, true, false, false, false, false, false, false, false, false, false, false, false, false, false, false, false, false, false, false, false, false, false] rfl rfl (any_of HT_.out (by kernel_rfl)) (fun _ _ _ h => h) (Or.inr ⟨by rfl, rfl⟩) ?_ ?_
    rotate_left
    ·simp only [Act.put, List.setIfInBounds_toArray, List.set_cons_zero, List.set_cons_succ, i64_w, i32_w]
     rfl
    refine pure_ (i := 9) (N := some 31) (v := undef) (a' := ?_) #[true, true, true, true, true, true, true, true, true, true, false, false, false, false, false, false, false, false, false, false, false, false, false, false, false, false, false, false, false, false] rfl rfl (any_of HT_.out (by kernel_rfl)) (fun _ _ _ h => h) (Or.inr ⟨by rfl, rfl⟩) ?_ ?_
    rotate_left
    ·simp only [Act.put, List.setIfInBounds_toArray, List.set_cons_zero, List.set_cons_succ, i64_w, i32_w]
     rfl
    refine pure_ (i := 10) (N := some 32) (v := undef) (a' := ?_) #[true, true, true, true, true, true, true, true, true, true, true, false, false, false, false, false, false, false, false, false, false, false, false, false, false, false, false, false, false, false] rfl rfl (any_of HT_.out (by kernel_rfl)) (fun _ _ _ h => h) (Or.inr ⟨by rfl, rfl⟩) ?_ ?_
    rotate_left
    ·simp only [Act.put, List.setIfInBounds_toArray, List.set_cons_zero, List.set_cons_succ, i64_w, i32_w]
     rfl
    refine pure_ (i := 11) (N := some 33) (v := undef) (a' := ?_) #[true, true, true, true, true, true, true, true, true, true, true, true, false, false, false, false, false, false, false, false, false, false, false, false, false, false, false, false, false, false] rfl rfl (any_of HT_.out (by kernel_rfl)) (fun _ _ _ h => h) (Or.inr ⟨by rfl, rfl⟩) ?_ ?_
    rotate_left
    ·simp only [Act.put, List.setIfInBounds_toArray, List.set_cons_zero, List.set_cons_succ, i64_w, i32_w]
     rfl
    refine pure_ (i := 12) (N := some 34) (v := undef) (a' := ?_) #[true, true, true, true, true, true, true, true, true, true, true, true, true, false, false, false, false, false, false, false, false, false, false, false, false, false, false, false, false, false] rfl rfl (any_of HT_.out (by kernel_rfl)) (fun _ _ _ h => h) (Or.inr ⟨by rfl, rfl⟩) ?_ ?_
    rotate_left
    ·simp only [Act.put, List.setIfInBounds_toArray, List.set_cons_zero, List.set_cons_succ, i64_w, i32_w]
     rfl
    refine pure_ (i := 13) (N := some 35) (v := undef) (a' := ?_) #[true, true, true, true, true, true, true, true, true, true, true, true, true, true, false, false, false, false, false, false, false, false, false, false, false, false, false, false, false, false] rfl rfl (any_of HT_.out (by kernel_rfl)) (fun _ _ _ h => h) (Or.inr ⟨by rfl, rfl⟩) ?_ ?_
    rotate_left
    ·simp only [Act.put, List.setIfInBounds_toArray, List.set_cons_zero, List.set_cons_succ, i64_w, i32_w]
     rfl
    refine pure_ (i := 14) (N := some 36) (v := ?_) (a' := ?_) #[true, true, true, true, true, true, true, true, true, true, true, true, true, true, true, false, false, false, false, false, false, false, false, false, false, false, false, false, false, false] rfl rfl (any_of HT_.out (by kernel_rfl)) (fun _ _ _ h => h) (Or.inl ⟨by rfl, ?_⟩) ?_ ?_
    rotate_left
    ·intro w'
     go_simp
     with_reducible rfl
    rotate_left
    ·simp only [Act.put, List.setIfInBounds_toArray, List.set_cons_zero, List.set_cons_succ, i64_w, i32_w]
     rfl
    refine pure_ (i := 15) (N := some 37) (v := ?_) (a' := ?_) #[true, true, true, true, true, true, true, true, true, true, true, true, true, true, true, true, false, false, false, false, false, false, false, false, false, false, false, false, false, false] rfl rfl (any_of HT_.out (by kernel_rfl)) (fun _ _ _ h => h) (Or.inl ⟨by rfl, ?_⟩) ?_ ?_
    rotate_left
    ·intro w'
     go_simp
     with_reducible rfl
    rotate_left
    ·simp only [Act.put, List.setIfInBounds_toArray, List.set_cons_zero, List.set_cons_succ, i64_w, i32_w]
     rfl
    refine pure_ (i := 16) (N := some 38) (v := undef) (a' := ?_) #[true, true, true, true, true, true, true, true, true, true, true, true, true, true, true, true, true, false, false, false, false, false, false, false, false, false, false, false, false, false] rfl rfl (any_of HT_.out (by kernel_rfl)) (fun _ _ _ h => h) (Or.inr ⟨by rfl, rfl⟩) ?_ ?_
    rotate_left
    ·simp only [Act.put, List.setIfInBounds_toArray, List.set_cons_zero, List.set_cons_succ, i64_w, i32_w]
     rfl
    refine pure_ (i := 17) (N := some 39) (v := undef) (a' := ?_) #[true, true, true, true, true, true, true, true, true, true, true, true, true, true, true, true, true, true, false, false, false, false, false, false, false, false, false, false, false, false] rfl rfl (any_of HT_.out (by kernel_rfl)) (fun _ _ _ h => h) (Or.inr ⟨by rfl, rfl⟩) ?_ ?_
    rotate_left
    ·simp only [Act.put, List.setIfInBounds_toArray, List.set_cons_zero, List.set_cons_succ, i64_w, i32_w]
     rfl
    refine pure_ (i := 18) (N := some 40) (v := undef) (a' := ?_) #[true, true, true, true, true, true, true, true, true, true, true, true, true, true, true, true, true, true, true, false, false, false, false, false, false, false, false, false, false, false] rfl rfl (any_of HT_.out (by kernel_rfl)) (fun _ _ _ h => h) (Or.inr ⟨by rfl, rfl⟩) ?_ ?_
    rotate_left
    ·simp only [Act.put, List.setIfInBounds_toArray, List.set_cons_zero, List.set_cons_succ, i64_w, i32_w]
     rfl
    refine pure_ (i := 19) (N := some 41) (v := ?_) (a' := ?_) #[true, true, true, true, true, true, true, true, true, true, true, true, true, true, true, true, true, true, true, true, false, false, false, false, false, false, false, false, false, false] rfl rfl (any_of HT_.out (by kernel_rfl)) (fun _ _ _ h => h) (Or.inl ⟨by rfl, ?_⟩) ?_ ?_
    rotate_left
    ·intro w'
     go_simp
     with_reducible rfl
    rotate_left
    ·simp only [Act.put, List.setIfInBounds_toArray, List.set_cons_zero, List.set_cons_succ, i64_w, i32_w]
     rfl
    refine pure_ (i := 20) (N := some 42) (v := ?_) (a' := ?_) #[true, true, true, true, true, true, true, true, true, true, true, true, true, true, true, true, true, true, true, true, true, false, false, false, false, false, false, false, false, false] rfl rfl (any_of HT_.out (by kernel_rfl)) (fun _ _ _ h => h) (Or.inl ⟨by rfl, ?_⟩) ?_ ?_
    rotate_left
    ·intro w'
     go_simp
     with_reducible rfl
    rotate_left
    ·simp only [Act.put, List.setIfInBounds_toArray, List.set_cons_zero, List.set_cons_succ, i64_w, i32_w]
     rfl
    refine pure_ (i := 21) (N := some 43) (v := undef) (a' := ?_) #[true, true, true, true, true, true, true, true, true, true, true, true, true, true, true, true, true, true, true, true, true, true, false, false, false, false, false, false, false, false] rfl rfl (any_of HT_.out (by kernel_rfl)) (fun _ _ _ h => h) (Or.inr ⟨by rfl, rfl⟩) ?_ ?_
    rotate_left
    ·simp only [Act.put, List.setIfInBounds_toArray, List.set_cons_zero, List.set_cons_succ, i64_w, i32_w]
     rfl
    refine pure_ (i := 22) (N := some 44) (v := undef) (a' := ?_) #[true, true, true, true, true, true, true, true, true, true, true, true, true, true, true, true, true, true, true, true, true, true, true, false, false, false, false, false, false, false] rfl rfl (any_of HT_.out (by kernel_rfl)) (fun _ _ _ h => h) (Or.inr ⟨by rfl, rfl⟩) ?_ ?_
    rotate_left
    ·simp only [Act.put, List.setIfInBounds_toArray, List.set_cons_zero, List.set_cons_succ, i64_w, i32_w]
     rfl
    refine pure_ (i := 23) (N := some 45) (v := undef) (a' := ?_) #[true, true, true, true, true, true, true, true, true, true, true, true, true, true, true, true, true, true, true, true, true, true, true, true, false, false, false, false, false, false] rfl rfl (any_of HT_.out (by kernel_rfl)) (fun _ _ _ h => h) (Or.inr ⟨by rfl, rfl⟩) ?_ ?_
    rotate_left
    ·simp only [Act.put, List.setIfInBounds_toArray, List.set_cons_zero, List.set_cons_succ, i64_w, i32_w]
     rfl
    refine pure_ (i := 24) (N := some 46) (v := ?_) (a' := ?_) #[true, true, true, true, true, true, true, true, true, true, true, true, true, true, true, true, true, true, true, true, true, true, true, true, true, false, false, false, false, false] rfl rfl (any_of HT_.out (by kernel_rfl)) (fun _ _ _ h => h) (Or.inl ⟨by rfl, ?_⟩) ?_ ?_
    rotate_left
    ·intro w'
     go_simp
     with_reducible rfl
    rotate_left
    ·simp only [Act.put, List.setIfInBounds_toArray, List.set_cons_zero, List.set_cons_succ, i64_w, i32_w]
     rfl
    refine pure_ (i := 25) (N := some 47) (v := ?_) (a' := ?_) #[true, true, true, true, true, true, true, true, true, true, true, true, true, true, true, true, true, true, true, true, true, true, true, true, true, true, false, false, false, false] rfl rfl (any_of HT_.out (by kernel_rfl)) (fun _ _ _ h => h) (Or.inl ⟨by rfl, ?_⟩) ?_ ?_
    rotate_left
    ·intro w'
     go_simp
     with_reducible rfl
    rotate_left
    ·simp only [Act.put, List.setIfInBounds_toArray, List.set_cons_zero, List.set_cons_succ, i64_w, i32_w]
     rfl
    refine pure_ (i := 26) (N := some 48) (v := undef) (a' := ?_) #[true, true, true, true, true, true, true, true, true, true, true, true, true, true, true, true, true, true, true, true, true, true, true, true, true, true, true, false, false, false] rfl rfl (any_of HT_.out (by kernel_rfl)) (fun _ _ _ h => h) (Or.inr ⟨by rfl, rfl⟩) ?_ ?_
    rotate_left
    ·simp only [Act.put, List.setIfInBounds_toArray, List.set_cons_zero, List.set_cons_succ, i64_w, i32_w]
     rfl
    refine pure_ (i := 27) (N := some 49) (v := undef) (a' := ?_) #[true, true, true, true, true, true, true, true, true, true, true, true, true, true, true, true, true, true, true, true, true, true, true, true, true, true, true, true, false, false] rfl rfl (any_of HT_.out (by kernel_rfl)) (fun _ _ _ h => h) (Or.inr ⟨by rfl, rfl⟩) ?_ ?_
    rotate_left
    ·simp only [Act.put, List.setIfInBounds_toArray, List.set_cons_zero, List.set_cons_succ, i64_w, i32_w]
     rfl
    refine pure_ (i := 28) (N := some 50) (v := undef) (a' := ?_) #[true, true, true, true, true, true, true, true, true, true, true, true, true, true, true, true, true, true, true, true, true, true, true, true, true, true, true, true, true, false] rfl rfl (any_of HT_.out (by kernel_rfl)) (fun _ _ _ h => h) (Or.inr ⟨by rfl, rfl⟩) ?_ ?_
    rotate_left
    ·simp only [Act.put, List.setIfInBounds_toArray, List.set_cons_zero, List.set_cons_succ, i64_w, i32_w]
     rfl
    refine pure_ (i := 29) (N := some 51) (v := ?_) (a' := ?_) #[true, true, true, true, true, true, true, true, true, true, true, true, true, true, true, true, true, true, true, true, true, true, true, true, true, true, true, true, true, true] rfl rfl (any_of HT_.out (by kernel_rfl)) (fun _ _ _ h => h) (Or.inl ⟨by rfl, ?_⟩) ?_ ?_
    rotate_left
    ·intro w'
     go_simp
     with_reducible rfl
    rotate_left
    ·simp only [Act.put, List.setIfInBounds_toArray, List.set_cons_zero, List.set_cons_succ, i64_w, i32_w]
     rfl
    refine done_ (done_of HT_.out (by kernel_rfl)) ?_
    try go_wp2
    go_meet
    case rel => exact ⟨_, (true), (by first | rfl | (simp; done) | (simp [*]; done)), H', ⟨by first | omega | exact Nat.le_refl _⟩, ⟨by (with_reducible repeat (first | refine blk_drewN ?_ _ | refine blk_drew ?_ | refine blk_alloc ?_ _)); exact BK171.out⟩, ⟨by repeat (first | (with_reducible first | exact HB.out | apply below_alloc | apply pw_below_drewN | apply below_drew1 | refine below_set ?_ GE171.out) | exact HB.out)⟩⟩
   ·rw [if_neg c10] at H
    have c10b0 : decide (t166 < 1970) = false := decide_eq_false c10
    clear c10
    (first | rw [c10b0] | (simp only [i64_w, i32_w]; rw [c10b0]) | skip)
    by_cases c12 : t164 < 1
    ·rw [if_pos c12] at H
     have c12b0 : decide (t164 < 1) = true := decide_eq_true c12
     clear c12
     have H' := Aside0.mk H
     clear H
     try go_wp2
     have n0_ := Aside0.mk (blk_drew BK171.out)
     have n1_ := Aside0.mk (below_drew1 HB.out)
     clear BK171
     clear HB
     have BK171 := n0_
     have HB := n1_
     clear n0_ n1_
     refine start_ (n := 30) (S := fun w' => w'.cell? ⟨gb171, 0, none⟩ = some (.int .i64 t163) ∧ w'.cell? ⟨gb171, 1, none⟩ = some (.int .i64 t164) ∧ w'.cell? ⟨gb171, 2, none⟩ = some (.int .i64 t165) ∧ w'.cell? ⟨gb171, 3, none⟩ = some (.int .i64 t166) ∧ w'.cell? ⟨gb171, 4, none⟩ = some (.int .i64 t167) ∧ w'.cell? ⟨gb171, 5, none⟩ = some (.int .i64 t168) ∧ w'.cell? ⟨gb171, 6, none⟩ = some (.int .i64 t169)) (ds := []) #[false, false, false, false, false, false, false, false, false, false, false, false, false, false, false, false, false, false, false, false, false, false, false, false, false, false, false, false, false, false] (by kernel_rfl) rfl rfl ⟨(blk_cell BK171.out 0).trans rfl, (blk_cell BK171.out 1).trans rfl, (blk_cell BK171.out 2).trans rfl, (blk_cell BK171.out 3).trans rfl, (blk_cell BK171.out 4).trans rfl, (blk_cell BK171.out 5).trans rfl, (blk_cell BK171.out 6).trans rfl⟩ (fun hHeld => ?_); refine with_tabW stamp_ParseDate.tab5 stamp_ParseDate.bits5 (fun HT_ HW_ => ?_)
     generalize w9.drew = w13 at BK171 HB hHeld ⊢
     refine pure_ (i := 0) (N := some 22) (v := ?_) (a' := ?_) #[true, false, false, false, false, false, false, false, false, false, false, false, false, false, false, false, false, false, false, false, false, false, false, false, false, false, false, false, false, false] rfl rfl (any_of HT_.out (by kernel_rfl)) (fun _ _ _ h => h) (Or.inl ⟨by rfl, ?_⟩) ?_ ?_
     rotate_left
     ·intro w'
      go_simp
      with_reducible rfl
     rotate_left
     ·simp only [Act.put, List.setIfInBounds_toArray, List.set_cons_zero, List.set_cons_succ, i64_w, i32_w]
      rfl
     refine pure_ (i := 1) (N := some 23) (v := ?_) (a' := ?_) #[true, true, false, false, false, false, false, false, false, false, false, false, false, false, false, false, false, false, false, false, false, false, false, false, false, false, false, false, false, false] rfl rfl (any_of HT_.out (by kernel_rfl)) (fun _ _ _ h => h) (Or.inl ⟨by rfl, ?_⟩) ?_ ?_
     rotate_left
     ·intro w'
      go_simp
      with_reducible rfl
     rotate_left
     ·simp only [Act.put, List.setIfInBounds_toArray, List.set_cons_zero, List.set_cons_succ, i64_w, i32_w]
      rfl
     refine pure_ (i := 2) (N := some 24) (v := ?_) (a' := ?_) #[true, true, true, false, false, false, false, false, false, false, false, false, false, false, false, false, false, false, false, false, false, false, false, false, false, false, false, false, false, false] rfl rfl (any_of HT_.out (by kernel_rfl)) (fun _ _ _ h => h) (Or.inl ⟨by rfl, ?_⟩) ?_ ?_
     rotate_left
     ·intro w'
      go_simp
      with_reducible rfl
     rotate_left
     ·simp only [Act.put, List.setIfInBounds_toArray, List.set_cons_zero, List.set_cons_succ, i64_w, i32_w]
      rfl
     refine pure_ (i := 3) (N := some 25) (v := ?_) (a' := ?_) #[true, true, true, true, false, false, false, false, false, false, false, false, false, false, false, false, false, false, false, false, false, false, false, false, false, false, false, false, false, false] rfl rfl (any_of HT_.out (by kernel_rfl)) (fun _ _ _ h => h) (Or.inl ⟨by rfl, ?_⟩) ?_ ?_
     rotate_left
     ·intro w'
      go_simp
      with_reducible rfl
     rotate_left
     ·simp only [Act.put, List.setIfInBounds_toArray, List.set_cons_zero, List.set_cons_succ, i64_w, i32_w]
      rfl
     refine take_ (i := 4) (N := some 26) (v := ?_) (a' := ?_) #[true, true, true, true, true, false, false, false, false, false, false, false, false, false, false, false, false, false, false, false, false, false, false, false, false, false, false, false, false, false] rfl rfl (take_ofW HT_.out HW_.out (by kernel_rfl)) (fun _ _ _ h => h) (Or.inl ⟨by rfl, ?_⟩) hHeld ?_ ?_
     rotate_left
     ·rintro w' ⟨s0, s1, s2, s3, s4, s5, s6⟩
      go_simp
      with_reducible rfl
     rotate_left
     ·simp only [Act.put, List.setIfInBounds_toArray, List.set_cons_zero, List.set_cons_succ, i64_w, i32_w]
      rfl
     refine pure_ (i := 5) (N := some 27) (v := ?_) (a' := ?_) #[true, true, true, true, true, true, false, false, false, false, false, false, false, false, false, false, false, false, false, false, false, false, false, false, false, false, false, false, false, false] rfl rfl (any_of HT_.out (by kernel_rfl)) (fun _ _ _ h => h) (Or.inl ⟨by rfl, ?_⟩) ?_ ?_
     rotate_left
     ·intro w'
      go_simp
      with_reducible rfl
     rotate_left
     ·simp only [Act.put, List.setIfInBounds_toArray, List.set_cons_zero, List.set_cons_succ, i64_w, i32_w]
      rfl
     refine pure_ (i := 6) (N := some 28) (v := ?_) (a' := ?_) #[true, true, true, true, true, true, true, false, false, false, false, false, false, false, false, false, false, false, false, false, false, false, false, false, false, false, false, false, false, false] rfl rfl (any_of HT_.out (by kernel_rfl)) (fun _ _ _ h => h) (Or.inl ⟨by rfl, ?_⟩) ?_ ?_
     rotate_left
     ·intro w'
      go_simp
      with_reducible rfl
     rotate_left
     ·simp only [Act.put, List.setIfInBounds_toArray, List.set_cons_zero, List.set_cons_succ, i64_w, i32_w]
      rfl
     refine pure_ (i := 7) (N := some 29) (v := ?_) (a' := ?_) #[true, true, true, true, true, true, true, true, false, false, false, false, false, false, false, false, false, false, false, false, false, false, false, false, false, false, false, false, false, false] rfl rfl (any_of HT_.out (by kernel_rfl)) (fun _ _ _ h => h) (Or.inl ⟨by rfl, ?_⟩) ?_ ?_
     rotate_left
     ·intro w'
      go_simp
      with_reducible rfl
     rotate_left
     ·simp only [Act.put, List.setIfInBounds_toArray, List.set_cons_zero, List.set_cons_succ, i64_w, i32_w]
      rfl
     refine pure_ (i := 8) (N := some 30) (v := undef) (a' := ?_) #[true, true, true, true, true, true, true, true, true, false, false, false, false, false, false, false, false, false, false, false, false, false, false, false, false, false, false, false, false, false] rfl rfl (any_of HT_.out (by kernel_rfl)) (fun _ _ _ h => h) (Or.inr ⟨by rfl, rfl⟩) ?_ ?_
     rotate_left
     ·simp only [Act.put, List.setIfInBounds_toArray, List.set_cons_zero, List.set_cons_succ, i64_w, i32_w]
      rfl
     refine pure_ (i := 9) (N := some 31) (v := undef) (a' := ?_) #[true, true, true, true, true, true, true, true, true, true, false, false, false, false, false, false, false, false, false, false, false, false, false, false, false, false, false, false, false, false] rfl rfl (any_of HT_.out (by kernel_rfl)) (fun _ _ _ h => h) (Or.inr ⟨by rfl, rfl⟩) ?_ ?_
     rotate_left
     ·simp only [Act.put, List.setIfInBounds_toArray, List.set_cons_zero, List.set_cons_succ, i64_w, i32_w]
      rfl
     refine pure_ (i := 10) (N := some 32) (v := undef) (a' := ?_) #[true, true, true, true, true, true, true, true, true, true, true, false, false, false, false, false, false, false, false, false, false, false, false, false, false, false, false, false, false, false] rfl rfl (any_of HT_.out (by kernel_rfl)) (fun _ _ _ h => h) (Or.inr ⟨by rfl, rfl⟩) ?_ ?_
     rotate_left
     ·simp only [Act.put, List.setIfInBounds_toArray, List.set_cons_zero, List.set_cons_succ, i64_w, i32_w]
      rfl
     refine pure_ (i := 11) (N := some 33) (v := undef) (a' := ?_) #[true, true, true, true, true, true, true, true, true, true, true, true, false, false, false, false, false, false, false, false, false, false, false, false, false, false, false, false, false, false] rfl rfl (any_of HT_.out (by kernel_rfl)) (fun _ _ _ h => h) (Or.inr ⟨by rfl, rfl⟩) ?_ ?_
     rotate_left
     ·simp only [Act.put, List.setIfInBounds_toArray, List.set_cons_zero, List.set_cons_succ, i64_w, i32_w]
      rfl
     refine pure_ (i := 12) (N := some 34) (v := undef) (a' := ?_) #[true, true, true, true, true, true, true, true, true, true, true, true, true, false, false, false, false, false, false, false, false, false, false, false, false, false, false, false, false, false] rfl rfl (any_of HT_.out (by kernel_rfl)) (fun _ _ _ h => h) (Or.inr ⟨by rfl, rfl⟩) ?_ ?_
     rotate_left
     ·simp only [Act.put, List.setIfInBounds_toArray, List.set_cons_zero, List.set_cons_succ, i64_w, i32_w]
      rfl
     refine pure_ (i := 13) (N := some 35) (v := undef) (a' := ?_) #[true, true, true, true, true, true, true, true, true, true, true, true, true, true, false, false, false, false, false, false, false, false, false, false, false, false, false, false, false, false] rfl rfl (any_of HT_.out (by kernel_rfl)) (fun _ _ _ h => h) (Or.inr ⟨by rfl, rfl⟩) ?_ ?_
     rotate_left
     ·simp only [Act.put, List.setIfInBounds_toArray, List.set_cons_zero, List.set_cons_succ, i64_w, i32_w]
      rfl
     refine pure_ (i := 14) (N := some 36) (v := ?_) (a' := ?_) #[true, true, true, true, true, true, true, true, true, true, true, true, true, true, true, false, false, false, false, false, false, false, false, false, false, false, false, false, false, false] rfl rfl (any_of HT_.out (by kernel_rfl)) (fun _ _ _ h => h) (Or.inl ⟨by rfl, ?_⟩) ?_ ?_
     rotate_left
     ·intro w'
      go_simp
      with_reducible rfl
     rotate_left
     ·simp only [Act.put, List.setIfInBounds_toArray, List.set_cons_zero, List.set_cons_succ, i64_w, i32_w]
      rfl
     refine pure_ (i := 15) (N := some 37) (v := ?_) (a' := ?_) #[true, true, true, true, true, true, true, true, true, true, true, true, true, true, true, true, false, false, false, false, false, false, false, false, false, false, false, false, false, false] rfl rfl (any_of HT_.out (by kernel_rfl)) (fun _ _ _ h => h) (Or.inl ⟨by rfl, ?_⟩) ?_ ?_
     rotate_left
     ·intro w'
      go_simp
      with_reducible rfl
     rotate_left
     ·simp only [Act.put, List.setIfInBounds_toArray, List.set_cons_zero, List.set_cons_succ, i64_w, i32_w]
      rfl
     refine pure_ (i := 16) (N := some 38) (v := undef) (a' := ?_) #[true, true, true, true, true, true, true, true, true, true, true, true, true, true, true, true, true, false, false, false, false, false, false, false, false, false, false, false, false, false] rfl rfl (any_of HT_.out (by kernel_rfl)) (fun _ _ _ h => h) (Or.inr ⟨by rfl, rfl⟩) ?_ ?_
     rotate_left
     ·simp only [Act.put, List.setIfInBounds_toArray, List.set_cons_zero, List.set_cons_succ, i64_w, i32_w]
      rfl
     refine pure_ (i := 17) (N := some 39) (v := undef) (a' := ?_) #[true, true, true, true, true, true, true, true, true, true, true, true, true, true, true, true, true, true, false, false, false, false, false, false, false, false, false, false, false, false] rfl rfl (any_of HT_.out (by kernel_rfl)) (fun _ _ _ h => h) (Or.inr ⟨by rfl, rfl⟩) ?_ ?_
     rotate_left
     ·simp only [Act.put, List.setIfInBounds_toArray, List.set_cons_zero, List.set_cons_succ, i64_w, i32_w]
      rfl
     refine pure_ (i := 18) (N := some 40) (v := undef) (a' := ?_) #[true, true, true, true, true, true, true, true, true, true, true, true, true, true, true, true, true, true, true, false, false, false, false, false, false, false, false, false, false, false] rfl rfl (any_of HT_.out (by kernel_rfl)) (fun _ _ _ h => h) (Or.inr ⟨by rfl, rfl⟩) ?_ ?_
     rotate_left
     ·simp only [Act.put, List.setIfInBounds_toArray, List.set_cons_zero, List.set_cons_succ, i64_w, i32_w]
      rfl
     refine pure_ (i := 19) (N := some 41) (v := ?_) (a' := ?_) #[true, true, true, true, true, true, true, true, true, true, true, true, true, true, true, true, true, true, true, true, false, false, false, false, false, false, false, false, false, false] rfl rfl (any_of HT_.out (by kernel_rfl)) (fun _ _ _ h => h) (Or.inl ⟨by rfl, ?_⟩) ?_ ?_
     rotate_left
     ·intro w'
      go_simp
      with_reducible rfl
     rotate_left
     ·simp only [Act.put, List.setIfInBounds_toArray, List.set_cons_zero, List.set_cons_succ, i64_w, i32_w]
      rfl
     refine pure_ (i := 20) (N := some 42) (v := ?_) (a' := ?_) #[true, true, true, true, true, true, true, true, true, true, true, true, true, true, true, true, true, true, true, true, true, false, false, false, false, false, false, false, false, false] rfl rfl (any_of HT_.out (by kernel_rfl)) (fun _ _ _ h => h) (Or.inl ⟨by rfl, ?_⟩) ?_ ?_
     rotate_left
     ·intro w'
      go_simp
      with_reducible rfl
     rotate_left
     ·simp only [Act.put, List.setIfInBounds_toArray, List.set_cons_zero, List.set_cons_succ, i64_w, i32_w]
      rfl
     refine pure_ (i := 21) (N := some 43) (v := undef) (a' := ?_) #[true, true, true, true, true, true, true, true, true, true, true, true, true, true, true, true, true, true, true, true, true, true, false, false, false, false, false, false, false, false] rfl rfl (any_of HT_.out (by kernel_rfl)) (fun _ _ _ h => h) (Or.inr ⟨by rfl, rfl⟩) ?_ ?_
     rotate_left
     ·simp only [Act.put, List.setIfInBounds_toArray, List.set_cons_zero, List.set_cons_succ, i64_w, i32_w]
      rfl
     refine pure_ (i := 22) (N := some 44) (v := undef) (a' := ?_) #[true, true, true, true, true, true, true, true, true, true, true, true, true, true, true, true, true, true, true, true, true, true, true, false, false, false, false, false, false, false] rfl rfl (any_of HT_.out (by kernel_rfl)) (fun _ _ _ h => h) (Or.inr ⟨by rfl, rfl⟩) ?_ ?_
     rotate_left
     ·simp only [Act.put, List.setIfInBounds_toArray, List.set_cons_zero, List.set_cons_succ, i64_w, i32_w]
      rfl
     refine pure_ (i := 23) (N := some 45) (v := undef) (a' := ?_) #[true, true, true, true, true, true, true, true, true, true, true, true, true, true, true, true, true, true, true, true, true, true, true, true, false, false, false, false, false, false] rfl rfl (any_of HT_.out (by kernel_rfl)) (fun _ _ _ h => h) (Or.inr ⟨by rfl, rfl⟩) ?_ ?_
     rotate_left
     ·simp only [Act.put, List.setIfInBounds_toArray, List.set_cons_zero, List.set_cons_succ, i64_w, i32_w]
      rfl
     refine pure_ (i := 24) (N := some 46) (v := ?_) (a' := ?_) #[true, true, true, true, true, true, true, true, true, true, true, true, true, true, true, true, true, true, true, true, true, true, true, true, true, false, false, false, false, false] rfl rfl (any_of HT_.out (by kernel_rfl)) (fun _ _ _ h => h) (Or.inl ⟨by rfl, ?_⟩) ?_ ?_
     rotate_left
     ·intro w'
      go_simp
      with_reducible rfl
     rotate_left
     ·simp only [Act.put, List.setIfInBounds_toArray, List.set_cons_zero, List.set_cons_succ, i64_w, i32_w]
      rfl
     refine pure_ (i := 25) (N := some 47) (v := ?_) (a' := ?_) #[true, true, true, true, true, true, true, true, true, true, true, true, true, true, true, true, true, true, true, true, true, true, true, true, true, true, false, false, false, false] rfl rfl (any_of HT_.out (by kernel_rfl)) (fun _ _ _ h => h) (Or.inl ⟨by rfl, ?_⟩) ?_ ?_
     rotate_left
     ·intro w'
      go_simp
      with_reducible rfl
     rotate_left
     ·simp only [Act.put, List.setIfInBounds_toArray, List.set_cons_zero, List.set_cons_succ, i64_w, i32_w]
      rfl
     refine pure_ (i := 26) (N := some 48) (v := undef) (a' := ?_) #[true, true, true, true, true, true, true, true, true, true, true, true, true, true, true, true, true, true, true, true, true, true, true, true, true, true, true, false, false, false] rfl rfl (any_of HT_.out (by kernel_rfl)) (fun _ _ _ h => h) (Or.inr ⟨by rfl, rfl⟩) ?_ ?_
     rotate_left
     ·simp only [Act.put, List.setIfInBounds_toArray, List.set_cons_zero, List.set_cons_succ, i64_w, i32_w]
      rfl
     refine pure_ (i := 27) (N := some 49) (v := undef) (a' := ?_) #[true, true, true, true, true, true, true, true, true, true, true, true, true, true, true, true, true, true, true, true, true, true, true, true, true, true, true, true, false, false] rfl rfl (any_of HT_.out (by kernel_rfl)) (fun _ _ _ h => h) (Or.inr ⟨by rfl, rfl⟩) ?_ ?_
     rotate_left
     ·simp only [Act.put, List.setIfInBounds_toArray, List.set_cons_zero, List.set_cons_succ, i64_w, i32_w]
      rfl
     refine pure_ (i := 28) (N := some 50) (v := undef) (a' := ?_) #[true, true, true, true, true, true, true, true, true, true, true, true, true, true, true, true, true, true, true, true, true, true, true, true, true, true, true, true, true, false] rfl rfl (any_of HT_.out (by kernel_rfl)) (fun _ _ _ h => h) (Or.inr ⟨by rfl, rfl⟩) ?_ ?_
     rotate_left
     ·simp only [Act.put, List.setIfInBounds_toArray, List.set_cons_zero, List.set_cons_succ, i64_w, i32_w]
      rfl
     refine pure_ (i := 29) (N := some 51) (v := ?_) (a' := ?_) #[true, true, true, true, true, true, true, true, true, true, true, true, true, true, true, true, true, true, true, true, true, true, true, true, true, true, true, true, true, true] rfl rfl (any_of HT_.out (by kernel_rfl)) (fun _ _ _ h => h) (Or.inl ⟨by rfl, ?_⟩) ?_ ?_
     rotate_left
     ·intro w'
      go_simp
      with_reducible rfl
     rotate_left
     ·simp only [Act.put, List.setIfInBounds_toArray, List.set_cons_zero, List.set_cons_succ, i64_w, i32_w]
      rfl
     refine done_ (done_of HT_.out (by kernel_rfl)) ?_
     try go_wp2
     go_meet
     case rel => exact ⟨_, (true), (by first | rfl | (simp; done) | (simp [*]; done)), H', ⟨by first | omega | exact Nat.le_refl _⟩, ⟨by (with_reducible repeat (first | refine blk_drewN ?_ _ | refine blk_drew ?_ | refine blk_alloc ?_ _)); exact BK171.out⟩, ⟨by repeat (first | (with_reducible first | exact HB.out | apply below_alloc | apply pw_below_drewN | apply below_drew1 | refine below_set ?_ GE171.out) | exact HB.out)⟩⟩
    ·rw [if_neg c12] at H
     have c12b0 : decide (t164 < 1) = false := decide_eq_false c12
     clear c12
     replace H := Option.bind_eq_some_iff.mp H
     obtain ⟨t172, A140, H⟩ := H
     replace H : (if t164 > t172 then (stamp_ParseDate.j0 k t166 t165 true t163 t164 t165 t166 t167 t168 t169) else (if t167 > 23 then (stamp_ParseDate.j0 k t166 t165 true t163 t164 t165 t166 t167 t168 t169) else (if t168 > 59 then (stamp_ParseDate.j0 k t166 t165 true t163 t164 t165 t166 t167 t168 t169) else (stamp_ParseDate.j0 k t166 t165 (decide (t169 > 59)) t163 t164 t165 t166 t167 t168 t169)))) = some (r1, r2) := H
     have A14 := Aside0.mk A140
     clear A140
     by_cases c15 : t164 > t172
     ·rw [if_pos c15] at H
      have c15b0 : decide (t172 < t164) = true := decide_eq_true c15
      clear c15
      have H' := Aside0.mk H
      clear H
      try go_wp2
      have n0_ := Aside0.mk (blk_drew BK171.out)
      have n1_ := Aside0.mk (below_drew1 HB.out)
      clear BK171
      clear HB
      have BK171 := n0_
      have HB := n1_
      clear n0_ n1_
      refine start_ (n := 30) (S := fun w' => w'.cell? ⟨gb171, 0, none⟩ = some (.int .i64 t163) ∧ w'.cell? ⟨gb171, 1, none⟩ = some (.int .i64 t164) ∧ w'.cell? ⟨gb171, 2, none⟩ = some (.int .i64 t165) ∧ w'.cell? ⟨gb171, 3, none⟩ = some (.int .i64 t166) ∧ w'.cell? ⟨gb171, 4, none⟩ = some (.int .i64 t167) ∧ w'.cell? ⟨gb171, 5, none⟩ = some (.int .i64 t168) ∧ w'.cell? ⟨gb171, 6, none⟩ = some (.int .i64 t169)) (ds := []) #[false, false, false, false, false, false, false, false, false, false, false, false, false, false, false, false, false, false, false, false, false, false, false, false, false, false, false, false, false, false] (by kernel_rfl) rfl rfl ⟨(blk_cell BK171.out 0).trans rfl, (blk_cell BK171.out 1).trans rfl, (blk_cell BK171.out 2).trans rfl, (blk_cell BK171.out 3).trans rfl, (blk_cell BK171.out 4).trans rfl, (blk_cell BK171.out 5).trans rfl, (blk_cell BK171.out 6).trans rfl⟩ (fun hHeld => ?_); refine with_tabW stamp_ParseDate.tab5 stamp_ParseDate.bits5 (fun HT_ HW_ => ?_)
      generalize w9.drew = w16 at BK171 HB hHeld ⊢
      refine pure_ (i := 0) (N := some 22) (v := ?_) (a' := ?_) #[true, false, false, false, false, false, false, false, false, false, false, false, false, false, false, false, false, false, false, false, false, false, false, false, false, false, false, false, false, false] rfl rfl (any_of HT_.out (by kernel_rfl)) (fun _ _ _ h => h) (Or.inl ⟨by rfl, ?_⟩) ?_ ?_
      rotate_left
      ·intro w'
       go_simp
       with_reducible rfl
      rotate_left
      ·simp only [Act.put, List.setIfInBounds_toArray, List.set_cons_zero, List.set_cons_succ, i64_w, i32_w]
       rfl
      refine pure_ (i := 1) (N := some 23) (v := ?_) (a' := ?_) #[true, true, false, false, false, false, false, false, false, false, false, false, false, false, false, false, false, false, false, false, false, false, false, false, false, false, false, false, false, false] rfl rfl (any_of HT_.out (by kernel_rfl)) (fun _ _ _ h => h) (Or.inl ⟨by rfl, ?_⟩) ?_ ?_
      rotate_left
      ·intro w'
       go_simp
       with_reducible rfl
      rotate_left
      ·simp only [Act.put, List.setIfInBounds_toArray, List.set_cons_zero, List.set_cons_succ, i64_w, i32_w]
       rfl
      refine pure_ (i := 2) (N := some 24) (v := ?_) (a' := ?_) #[true, true, true, false, false, false, false, false, false, false, false, false, false, false, false, false, false, false, false, false, false, false, false, false, false, false, false, false, false, false] rfl rfl (any_of HT_.out (by kernel_rfl)) (fun _ _ _ h => h) (Or.inl ⟨by rfl, ?_⟩) ?_ ?_
      rotate_left
      ·intro w'
       go_simp
       with_reducible rfl
      rotate_left
      ·simp only [Act.put, List.setIfInBounds_toArray, List.set_cons_zero, List.set_cons_succ, i64_w, i32_w]
       rfl
      refine pure_ (i := 3) (N := some 25) (v := ?_) (a' := ?_) #[true, true, true, true, false, false, false, false, false, false, false, false, false, false, false, false, false, false, false, false, false, false, false, false, false, false, false, false, false, false] rfl rfl (any_of HT_.out (by kernel_rfl)) (fun _ _ _ h => h) (Or.inl ⟨by rfl, ?_⟩) ?_ ?_
      rotate_left
      ·intro w'
       go_simp
       with_reducible rfl
      rotate_left
      ·simp only [Act.put, List.setIfInBounds_toArray, List.set_cons_zero, List.set_cons_succ, i64_w, i32_w]
       rfl
      refine take_ (i := 4) (N := some 26) (v := ?_) (a' := ?_) #[true, true, true, true, true, false, false, false, false, false, false, false, false, false, false, false, false, false, false, false, false, false, false, false, false, false, false, false, false, false] rfl rfl (take_ofW HT_.out HW_.out (by kernel_rfl)) (fun _ _ _ h => h) (Or.inl ⟨by rfl, ?_⟩) hHeld ?_ ?_
      rotate_left
      ·rintro w' ⟨s0, s1, s2, s3, s4, s5, s6⟩
       go_simp
       with_reducible rfl
      rotate_left
      ·simp only [Act.put, List.setIfInBounds_toArray, List.set_cons_zero, List.set_cons_succ, i64_w, i32_w]
       rfl
      refine pure_ (i := 5) (N := some 27) (v := ?_) (a' := ?_) #[true, true, true, true, true, true, false, false, false, false, false, false, false, false, false, false, false, false, false, false, false, false, false, false, false, false, false, false, false, false] rfl rfl (any_of HT_.out (by kernel_rfl)) (fun _ _ _ h => h) (Or.inl ⟨by rfl, ?_⟩) ?_ ?_
      rotate_left
      ·intro w'
       go_simp
       with_reducible rfl
      rotate_left
      ·simp only [Act.put, List.setIfInBounds_toArray, List.set_cons_zero, List.set_cons_succ, i64_w, i32_w]
       rfl
      refine pure_ (i := 6) (N := some 28) (v := ?_) (a' := ?_) #[true, true, true, true, true, true, true, false, false, false, false, false, false, false, false, false, false, false, false, false, false, false, false, false, false, false, false, false, false, false] rfl rfl (any_of HT_.out (by kernel_rfl)) (fun _ _ _ h => h) (Or.inl ⟨by rfl, ?_⟩) ?_ ?_
      rotate_left
      ·intro w'
       go_simp
       with_reducible rfl
      rotate_left
      ·simp only [Act.put, List.setIfInBounds_toArray, List.set_cons_zero, List.set_cons_succ, i64_w, i32_w]
       rfl
      refine pure_ (i := 7) (N := some 29) (v := ?_) (a' := ?_) #[true, true, true, true, true, true, true, true, false, false, false, false, false, false, false, false, false, false, false, false, false, false, false, false, false, false, false, false, false, false] rfl rfl (any_of HT_.out (by kernel_rfl)) (fun _ _ _ h => h) (Or.inl ⟨by rfl, ?_⟩) ?_ ?_
      rotate_left
      ·intro w'
       go_simp
       with_reducible rfl
      rotate_left
      ·simp only [Act.put, List.setIfInBounds_toArray, List.set_cons_zero, List.set_cons_succ, i64_w, i32_w]
       rfl
      refine pure_ (i := 8) (N := some 30) (v := ?_) (a' := ?_) #[true, true, true, true, true, true, true, true, true, false, false, false, false, false, false, false, false, false, false, false, false, false, false, false, false, false, false, false, false, false] rfl rfl (any_of HT_.out (by kernel_rfl)) (fun _ _ _ h => h) (Or.inl ⟨by rfl, ?_⟩) ?_ ?_
      rotate_left
      ·intro w'
       go_simp
       with_reducible rfl
      rotate_left
      ·simp only [Act.put, List.setIfInBounds_toArray, List.set_cons_zero, List.set_cons_succ, i64_w, i32_w]
       rfl
      refine pure_ (i := 10) (N := some 32) (v := ?_) (a' := ?_) #[true, true, true, true, true, true, true, true, true, false, true, false, false, false, false, false, false, false, false, false, false, false, false, false, false, false, false, false, false, false] rfl rfl (any_of HT_.out (by kernel_rfl)) (fun _ _ _ h => h) (Or.inl ⟨by rfl, ?_⟩) ?_ ?_
      rotate_left
      ·intro w'
       go_simp
       with_reducible rfl
      rotate_left
      ·simp only [Act.put, List.setIfInBounds_toArray, List.set_cons_zero, List.set_cons_succ, i64_w, i32_w]
       rfl
      refine pure_ (i := 11) (N := some 33) (v := ?_) (a' := ?_) #[true, true, true, true, true, true, true, true, true, false, true, true, false, false, false, false, false, false, false, false, false, false, false, false, false, false, false, false, false, false] rfl rfl (any_of HT_.out (by kernel_rfl)) (fun _ _ _ h => h) (Or.inl ⟨by rfl, ?_⟩) ?_ ?_
      rotate_left
      ·intro w'
       go_simp
       with_reducible rfl
      rotate_left
      ·simp only [Act.put, List.setIfInBounds_toArray, List.set_cons_zero, List.set_cons_succ, i64_w, i32_w]
       rfl
      refine take_ (i := 9) (N := some 31) (v := ?_) (a' := ?_) #[true, true, true, true, true, true, true, true, true, true, true, true, false, false, false, false, false, false, false, false, false, false, false, false, false, false, false, false, false, false] rfl rfl (take_ofW HT_.out HW_.out (by kernel_rfl)) (fun _ _ _ h => h) (Or.inl ⟨by rfl, ?_⟩) hHeld ?_ ?_
      rotate_left
      ·rintro w' ⟨s0, s1, s2, s3, s4, s5, s6⟩
       go_simp
       with_reducible rfl
      rotate_left
      ·simp only [Act.put, List.setIfInBounds_toArray, List.set_cons_zero, List.set_cons_succ, i64_w, i32_w]
       rfl
      refine one_ (i := 12) (N := some 34) #[true, true, true, true, true, true, true, true, true, true, true, true, true, false, false, false, false, false, false, false, false, false, false, false, false, false, false, false, false, false] rfl rfl (one_of HT_.out (by kernel_rfl)) (by decide) (fun K hK => ?_)
      refine goes_ Tryd.func27 (by kernel_rfl) rfl #[.int .i64 t166, .int .i64 t165] (by rfl) rfl rfl ml ?_
      with_reducible refine (stamp_length.calls t166 t165 t172 _ ?side1 A14.out).mono ?_
      (case side1 => exact Glob.below HG.out bl)
      rintro e w' ⟨rfl, ⟨nd, rfl⟩⟩
      refine ⟨_, rfl, ?_⟩
      refine hK.out _ _ ⟨(blk_cell BK171.out 0).trans rfl, (blk_cell BK171.out 1).trans rfl, (blk_cell BK171.out 2).trans rfl, (blk_cell BK171.out 3).trans rfl, (blk_cell BK171.out 4).trans rfl, (blk_cell BK171.out 5).trans rfl, (blk_cell BK171.out 6).trans rfl⟩ (fun hHeld => ?_)
      clear hK K
      refine norm_ (a' := ?_) ?_ ?_
      rotate_left
      ·show Act.put _ (some 34) _ = _
       simp only [Act.put, List.setIfInBounds_toArray, List.set_cons_zero, List.set_cons_succ, i64_w, i32_w]
       rfl
      refine pure_ (i := 13) (N := some 35) (v := ?_) (a' := ?_) #[true, true, true, true, true, true, true, true, true, true, true, true, true, true, false, false, false, false, false, false, false, false, false, false, false, false, false, false, false, false] rfl rfl (any_of HT_.out (by kernel_rfl)) (fun _ _ _ h => h) (Or.inl ⟨by rfl, ?_⟩) ?_ ?_
      rotate_left
      ·intro w'
       go_simp
       with_reducible rfl
      rotate_left
      ·simp only [Act.put, List.setIfInBounds_toArray, List.set_cons_zero, List.set_cons_succ, i64_w, i32_w]
       rfl
      refine pure_ (i := 14) (N := some 36) (v := ?_) (a' := ?_) #[true, true, true, true, true, true, true, true, true, true, true, true, true, true, true, false, false, false, false, false, false, false, false, false, false, false, false, false, false, false] rfl rfl (any_of HT_.out (by kernel_rfl)) (fun _ _ _ h => h) (Or.inl ⟨by rfl, ?_⟩) ?_ ?_
      rotate_left
      ·intro w'
       go_simp
       with_reducible rfl
      rotate_left
      ·simp only [Act.put, List.setIfInBounds_toArray, List.set_cons_zero, List.set_cons_succ, i64_w, i32_w]
       rfl
      refine pure_ (i := 15) (N := some 37) (v := ?_) (a' := ?_) #[true, true, true, true, true, true, true, true, true, true, true, true, true, true, true, true, false, false, false, false, false, false, false, false, false, false, false, false, false, false] rfl rfl (any_of HT_.out (by kernel_rfl)) (fun _ _ _ h => h) (Or.inl ⟨by rfl, ?_⟩) ?_ ?_
      rotate_left
      ·intro w'
       go_simp
       with_reducible rfl
      rotate_left
      ·simp only [Act.put, List.setIfInBounds_toArray, List.set_cons_zero, List.set_cons_succ, i64_w, i32_w]
       rfl
      refine pure_ (i := 16) (N := some 38) (v := undef) (a' := ?_) #[true, true, true, true, true, true, true, true, true, true, true, true, true, true, true, true, true, false, false, false, false, false, false, false, false, false, false, false, false, false] rfl rfl (any_of HT_.out (by kernel_rfl)) (fun _ _ _ h => h) (Or.inr ⟨by rfl, rfl⟩) ?_ ?_
      rotate_left
      ·simp only [Act.put, List.setIfInBounds_toArray, List.set_cons_zero, List.set_cons_succ, i64_w, i32_w]
       rfl
      refine pure_ (i := 17) (N := some 39) (v := undef) (a' := ?_) #[true, true, true, true, true, true, true, true, true, true, true, true, true, true, true, true, true, true, false, false, false, false, false, false, false, false, false, false, false, false] rfl rfl (any_of HT_.out (by kernel_rfl)) (fun _ _ _ h => h) (Or.inr ⟨by rfl, rfl⟩) ?_ ?_
      rotate_left
      ·simp only [Act.put, List.setIfInBounds_toArray, List.set_cons_zero, List.set_cons_succ, i64_w, i32_w]
       rfl
      refine pure_ (i := 18) (N := some 40) (v := undef) (a' := ?_) #[true, true, true, true, true, true, true, true, true, true, true, true, true, true, true, true, true, true, true, false, false, false, false, false, false, false, false, false, false, false] rfl rfl (any_of HT_.out (by kernel_rfl)) (fun _ _ _ h => h) (Or.inr ⟨by rfl, rfl⟩) ?_ ?_
      rotate_left
      ·simp only [Act.put, List.setIfInBounds_toArray, List.set_cons_zero, List.set_cons_succ, i64_w, i32_w]
       rfl
      refine pure_ (i := 19) (N := some 41) (v := ?_) (a' := ?_) #[true, true, true, true, true, true, true, true, true, true, true, true, true, true, true, true, true, true, true, true, false, false, false, false, false, false, false, false, false, false] rfl rfl (any_of HT_.out (by kernel_rfl)) (fun _ _ _ h => h) (Or.inl ⟨by rfl, ?_⟩) ?_ ?_
      rotate_left
      ·intro w'
       go_simp
       with_reducible rfl
      rotate_left
      ·simp only [Act.put, List.setIfInBounds_toArray, List.set_cons_zero, List.set_cons_succ, i64_w, i32_w]
       rfl
      refine pure_ (i := 20) (N := some 42) (v := ?_) (a' := ?_) #[true, true, true, true, true, true, true, true, true, true, true, true, true, true, true, true, true, true, true, true, true, false, false, false, false, false, false, false, false, false] rfl rfl (any_of HT_.out (by kernel_rfl)) (fun _ _ _ h => h) (Or.inl ⟨by rfl, ?_⟩) ?_ ?_
      rotate_left
      ·intro w'
       go_simp
       with_reducible rfl
      rotate_left
      ·simp only [Act.put, List.setIfInBounds_toArray, List.set_cons_zero, List.set_cons_succ, i64_w, i32_w]
       rfl
      refine pure_ (i := 21) (N := some 43) (v := undef) (a' := ?_) #[true, true, true, true, true, true, true, true, true, true, true, true, true, true, true, true, true, true, true, true, true, true, false, false, false, false, false, false, false, false] rfl rfl (any_of HT_.out (by kernel_rfl)) (fun _ _ _ h => h) (Or.inr ⟨by rfl, rfl⟩) ?_ ?_
      rotate_left
      ·simp only [Act.put, List.setIfInBounds_toArray, List.set_cons_zero, List.set_cons_succ, i64_w, i32_w]
       rfl
      refine pure_ (i := 22) (N := some 44) (v := undef) (a' := ?_) #[true, true, true, true, true, true, true, true, true, true, true, true, true, true, true, true, true, true, true, true, true, true, true, false, false, false, false, false, false, false] rfl rfl (any_of HT_.out (by kernel_rfl)) (fun _ _ _ h => h) (Or.inr ⟨by rfl, rfl⟩) ?_ ?_
      rotate_left
      ·simp only [Act.put, List.setIfInBounds_toArray, List.set_cons_zero, List.set_cons_succ, i64_w, i32_w]
       rfl
      refine pure_ (i := 23) (N := some 45) (v := undef) (a' := ?_) #[true, true, true, true, true, true, true, true, true, true, true, true, true, true, true, true, true, true, true, true, true, true, true, true, false, false, false, false, false, false] rfl rfl (any_of HT_.out (by kernel_rfl)) (fun _ _ _ h => h) (Or.inr ⟨by rfl, rfl⟩) ?_ ?_
      rotate_left
      ·simp only [Act.put, List.setIfInBounds_toArray, List.set_cons_zero, List.set_cons_succ, i64_w, i32_w]
       rfl
      refine pure_ (i := 24) (N := some 46) (v := ?_) (a' := ?_) #[true, true, true, true, true, true, true, true, true, true, true, true, true, true, true, true, true, true, true, true, true, true, true, true, true, false, false, false, false, false] rfl rfl (any_of HT_.out (by kernel_rfl)) (fun _ _ _ h => h) (Or.inl ⟨by rfl, ?_⟩) ?_ ?_
      rotate_left
      ·intro w'
       go_simp
       with_reducible rfl
      rotate_left
      ·simp only [Act.put, List.setIfInBounds_toArray, List.set_cons_zero, List.set_cons_succ, i64_w, i32_w]
       rfl
      refine pure_ (i := 25) (N := some 47) (v := ?_) (a' := ?_) #[true, true, true, true, true, true, true, true, true, true, true, true, true, true, true, true, true, true, true, true, true, true, true, true, true, true, false, false, false, false] rfl rfl (any_of HT_.out (by kernel_rfl)) (fun _ _ _ h => h) (Or.inl ⟨by rfl, ?_⟩) ?_ ?_
      rotate_left
      ·intro w'
       go_simp
       with_reducible rfl
      rotate_left
      ·simp only [Act.put, List.setIfInBounds_toArray, List.set_cons_zero, List.set_cons_succ, i64_w, i32_w]
       rfl
      refine pure_ (i := 26) (N := some 48) (v := undef) (a' := ?_) #[true, true, true, true, true, true, true, true, true, true, true, true, true, true, true, true, true, true, true, true, true, true, true, true, true, true, true, false, false, false] rfl rfl (any_of HT_.out (by kernel_rfl)) (fun _ _ _ h => h) (Or.inr ⟨by rfl, rfl⟩) ?_ ?_
      rotate_left
      ·simp only [Act.put, List.setIfInBounds_toArray, List.set_cons_zero, List.set_cons_succ, i64_w, i32_w]
       rfl
      refine pure_ (i := 27) (N := some 49) (v := undef) (a' := ?_) #[true, true, true, true, true, true, true, true, true, true, true, true, true, true, true, true, true, true, true, true, true, true, true, true, true, true, true, true, false, false] rfl rfl (any_of HT_.out (by kernel_rfl)) (fun _ _ _ h => h) (Or.inr ⟨by rfl, rfl⟩) ?_ ?_
      rotate_left
      ·simp only [Act.put, List.setIfInBounds_toArray, List.set_cons_zero, List.set_cons_succ, i64_w, i32_w]
       rfl
      refine pure_ (i := 28) (N := some 50) (v := undef) (a' := ?_) #[true, true, true, true, true, true, true, true, true, true, true, true, true, true, true, true, true, true, true, true, true, true, true, true, true, true, true, true, true, false] rfl rfl (any_of HT_.out (by kernel_rfl)) (fun _ _ _ h => h) (Or.inr ⟨by rfl, rfl⟩) ?_ ?_
      rotate_left
      ·simp only [Act.put, List.setIfInBounds_toArray, List.set_cons_zero, List.set_cons_succ, i64_w, i32_w]
       rfl
      refine pure_ (i := 29) (N := some 51) (v := ?_) (a' := ?_) #[true, true, true, true, true, true, true, true, true, true, true, true, true, true, true, true, true, true, true, true, true, true, true, true, true, true, true, true, true, true] rfl rfl (any_of HT_.out (by kernel_rfl)) (fun _ _ _ h => h) (Or.inl ⟨by rfl, ?_⟩) ?_ ?_
      rotate_left
      ·intro w'
       go_simp
       with_reducible rfl
      rotate_left
      ·simp only [Act.put, List.setIfInBounds_toArray, List.set_cons_zero, List.set_cons_succ, i64_w, i32_w]
       rfl
      refine done_ (done_of HT_.out (by kernel_rfl)) ?_
      try go_wp2
      go_meet
      case rel => exact ⟨_, (true), (by first | rfl | (simp; done) | (simp [*]; done)), H', ⟨by first | omega | exact Nat.le_refl _⟩, ⟨by (with_reducible repeat (first | refine blk_drewN ?_ _ | refine blk_drew ?_ | refine blk_alloc ?_ _)); exact BK171.out⟩, ⟨by repeat (first | (with_reducible first | exact HB.out | apply below_alloc | apply pw_below_drewN | apply below_drew1 | refine below_set ?_ GE171.out) | exact HB.out)⟩⟩
     ·rw [if_neg c15] at H
      have c15b0 : decide (t172 < t164) = false := decide_eq_false c15
      clear c15
      by_cases c17 : t167 > 23
      ·rw [if_pos c17] at H
       have c17b0 : decide (23 < t167) = true := decide_eq_true c17
       clear c17
       have H' := Aside0.mk H
       clear H
       try go_wp2
       have n0_ := Aside0.mk (blk_drew BK171.out)
       have n1_ := Aside0.mk (below_drew1 HB.out)
       clear BK171
       clear HB
       have BK171 := n0_
       have HB := n1_
       clear n0_ n1_
       refine start_ (n := 30) (S := fun w' => w'.cell? ⟨gb171, 0, none⟩ = some (.int .i64 t163) ∧ w'.cell? ⟨gb171, 1, none⟩ = some (.int .i64 t164) ∧ w'.cell? ⟨gb171, 2, none⟩ = some (.int .i64 t165) ∧ w'.cell? ⟨gb171, 3, none⟩ = some (.int .i64 t166) ∧ w'.cell? ⟨gb171, 4, none⟩ = some (.int .i64 t167) ∧ w'.cell? ⟨gb171, 5, none⟩ = some (.int .i64 t168) ∧ w'.cell? ⟨gb171, 6, none⟩ = some (.int .i64 t169)) (ds := []) #[false, false, false, false, false, false, false, false, false, false, false, false, false, false, false, false, false, false, false, false, false, false, false, false, false, false, false, false, false, false] (by kernel_rfl) rfl rfl ⟨(blk_cell BK171.out 0).trans rfl, (blk_cell BK171.out 1).trans rfl, (blk_cell BK171.out 2).trans rfl, (blk_cell BK171.out 3).trans rfl, (blk_cell BK171.out 4).trans rfl, (blk_cell BK171.out 5).trans rfl, (blk_cell BK171.out 6).trans rfl⟩ (fun hHeld => ?_); refine with_tabW stamp_ParseDate.tab5 stamp_ParseDate.bits5 (fun HT_ HW_ => ?_)
       generalize w9.drew = w18 at BK171 HB hHeld ⊢
       refine pure_ (i := 0) (N := some 22) (v := ?_) (a' := ?_) #[true, false, false, false, false, false, false, false, false, false, false, false, false, false, false, false, false, false, false, false, false, false, false, false, false, false, false, false, false, false] rfl rfl (any_of HT_.out (by kernel_rfl)) (fun _ _ _ h => h) (Or.inl ⟨by rfl, ?_⟩) ?_ ?_
       rotate_left
       ·intro w'
        go_simp
        with_reducible rfl
       rotate_left
       ·simp only [Act.put, List.setIfInBounds_toArray, List.set_cons_zero, List.set_cons_succ, i64_w, i32_w]
        rfl
       refine pure_ (i := 1) (N := some 23) (v := ?_) (a' := ?_) #[true, true, false, false, false, false, false, false, false, false, false, false, false, false, false, false, false, false, false, false, false, false, false, false, false, false, false, false, false, false] rfl rfl (any_of HT_.out (by kernel_rfl)) (fun _ _ _ h => h) (Or.inl ⟨by rfl, ?_⟩) ?_ ?_
       rotate_left
       ·intro w'
        go_simp
        with_reducible rfl
       rotate_left
       ·simp only [Act.put, List.setIfInBounds_toArray, List.set_cons_zero, List.set_cons_succ, i64_w, i32_w]
        rfl
       refine pure_ (i := 2) (N := some 24) (v := ?_) (a' := ?_) #[true, true, true, false, false, false, false, false, false, false, false, false, false, false, false, false, false, false, false, false, false, false, false, false, false, false, false, false, false, false] rfl rfl (any_of HT_.out (by kernel_rfl)) (fun _ _ _ h => h) (Or.inl ⟨by rfl, ?_⟩) ?_ ?_
       rotate_left
       ·intro w'
        go_simp
        with_reducible rfl
       rotate_left
       ·simp only [Act.put, List.setIfInBounds_toArray, List.set_cons_zero, List.set_cons_succ, i64_w, i32_w]
        rfl
       refine pure_ (i := 3) (N := some 25) (v := ?_) (a' := ?_) #[true, true, true, true, false, false, false, false, false, false, false, false, false, false, false, false, false, false, false, false, false, false, false, false, false, false, false, false, false, false] rfl rfl (any_of HT_.out (by kernel_rfl)) (fun _ _ _ h => h) (Or.inl ⟨by rfl, ?_⟩) ?_ ?_
       rotate_left
       ·intro w'
        go_simp
        with_reducible rfl
       rotate_left
       ·simp only [Act.put, List.setIfInBounds_toArray, List.set_cons_zero, List.set_cons_succ, i64_w, i32_w]
        rfl
       refine take_ (i := 4) (N := some 26) (v := ?_) (a' := ?_) #[true, true, true, true, true, false, false, false, false, false, false, false, false, false, false, false, false, false, false, false, false, false, false, false, false, false, false, false, false, false] rfl rfl (take_ofW HT_.out HW_.out (by kernel_rfl)) (fun _ _ _ h => h) (Or.inl ⟨by rfl, ?_⟩) hHeld ?_ ?_
       rotate_left
       ·rintro w' ⟨s0, s1, s2, s3, s4, s5, s6⟩
        go_simp
        with_reducible rfl
       rotate_left
       ·simp only [Act.put, List.setIfInBounds_toArray, List.set_cons_zero, List.set_cons_succ, i64_w, i32_w]
        rfl
       refine pure_ (i := 5) (N := some 27) (v := ?_) (a' := ?_) #[true, true, true, true, true, true, false, false, false, false, false, false, false, false, false, false, false, false, false, false, false, false, false, false, false, false, false, false, false, false] rfl rfl (any_of HT_.out (by kernel_rfl)) (fun _ _ _ h => h) (Or.inl ⟨by rfl, ?_⟩) ?_ ?_
       rotate_left
       ·intro w'
        go_simp
        with_reducible rfl
       rotate_left
       ·simp only [Act.put, List.setIfInBounds_toArray, List.set_cons_zero, List.set_cons_succ, i64_w, i32_w]
        rfl
       refine pure_ (i := 6) (N := some 28) (v := ?_) (a' := ?_) #[true, true, true, true, true, true, true, false, false, false, false, false, false, false, false, false, false, false, false, false, false, false, false, false, false, false, false, false, false, false] rfl rfl (any_of HT_.out (by kernel_rfl)) (fun _ _ _ h => h) (Or.inl ⟨by rfl, ?_⟩) ?_ ?_
       rotate_left
       ·intro w'
        go_simp
        with_reducible rfl
       rotate_left
       ·simp only [Act.put, List.setIfInBounds_toArray, List.set_cons_zero, List.set_cons_succ, i64_w, i32_w]
        rfl
       refine pure_ (i := 7) (N := some 29) (v := ?_) (a' := ?_) #[true, true, true, true, true, true, true, true, false, false, false, false, false, false, false, false, false, false, false, false, false, false, false, false, false, false, false, false, false, false] rfl rfl (any_of HT_.out (by kernel_rfl)) (fun _ _ _ h => h) (Or.inl ⟨by rfl, ?_⟩) ?_ ?_
       rotate_left
       ·intro w'
        go_simp
        with_reducible rfl
       rotate_left
       ·simp only [Act.put, List.setIfInBounds_toArray, List.set_cons_zero, List.set_cons_succ, i64_w, i32_w]
        rfl
       refine pure_ (i := 8) (N := some 30) (v := ?_) (a' := ?_) #[true, true, true, true, true, true, true, true, true, false, false, false, false, false, false, false, false, false, false, false, false, false, false, false, false, false, false, false, false, false] rfl rfl (any_of HT_.out (by kernel_rfl)) (fun _ _ _ h => h) (Or.inl ⟨by rfl, ?_⟩) ?_ ?_
       rotate_left
       ·intro w'
        go_simp
        with_reducible rfl
       rotate_left
       ·simp only [Act.put, List.setIfInBounds_toArray, List.set_cons_zero, List.set_cons_succ, i64_w, i32_w]
        rfl
       refine pure_ (i := 10) (N := some 32) (v := ?_) (a' := ?_) #[true, true, true, true, true, true, true, true, true, false, true, false, false, false, false, false, false, false, false, false, false, false, false, false, false, false, false, false, false, false] rfl rfl (any_of HT_.out (by kernel_rfl)) (fun _ _ _ h => h) (Or.inl ⟨by rfl, ?_⟩) ?_ ?_
       rotate_left
       ·intro w'
        go_simp
        with_reducible rfl
       rotate_left
       ·simp only [Act.put, List.setIfInBounds_toArray, List.set_cons_zero, List.set_cons_succ, i64_w, i32_w]
        rfl
       refine pure_ (i := 11) (N := some 33) (v := ?_) (a' := ?_) #[true, true, true, true, true, true, true, true, true, false, true, true, false, false, false, false, false, false, false, false, false, false, false, false, false, false, false, false, false, false] rfl rfl (any_of HT_.out (by kernel_rfl)) (fun _ _ _ h => h) (Or.inl ⟨by rfl, ?_⟩) ?_ ?_
       rotate_left
       ·intro w'
        go_simp
        with_reducible rfl
       rotate_left
       ·simp only [Act.put, List.setIfInBounds_toArray, List.set_cons_zero, List.set_cons_succ, i64_w, i32_w]
        rfl
       refine take_ (i := 9) (N := some 31) (v := ?_) (a' := ?_) #[true, true, true, true, true, true, true, true, true, true, true, true, false, false, false, false, false, false, false, false, false, false, false, false, false, false, false, false, false, false] rfl rfl (take_ofW HT_.out HW_.out (by kernel_rfl)) (fun _ _ _ h => h) (Or.inl ⟨by rfl, ?_⟩) hHeld ?_ ?_
       rotate_left
       ·rintro w' ⟨s0, s1, s2, s3, s4, s5, s6⟩
        go_simp
        with_reducible rfl
       rotate_left
       ·simp only [Act.put, List.setIfInBounds_toArray, List.set_cons_zero, List.set_cons_succ, i64_w, i32_w]
        rfl
       refine one_ (i := 12) (N := some 34) #[true, true, true, true, true, true, true, true, true, true, true, true, true, false, false, false, false, false, false, false, false, false, false, false, false, false, false, false, false, false] rfl rfl (one_of HT_.out (by kernel_rfl)) (by decide) (fun K hK => ?_)
       refine goes_ Tryd.func27 (by kernel_rfl) rfl #[.int .i64 t166, .int .i64 t165] (by rfl) rfl rfl ml ?_
       with_reducible refine (stamp_length.calls t166 t165 t172 _ ?side1 A14.out).mono ?_
       (case side1 => exact Glob.below HG.out bl)
       rintro e w' ⟨rfl, ⟨nd, rfl⟩⟩
       refine ⟨_, rfl, ?_⟩
       refine hK.out _ _ ⟨(blk_cell BK171.out 0).trans rfl, (blk_cell BK171.out 1).trans rfl, (blk_cell BK171.out 2).trans rfl, (blk_cell BK171.out 3).trans rfl, (blk_cell BK171.out 4).trans rfl, (blk_cell BK171.out 5).trans rfl, (blk_cell BK171.out 6).trans rfl⟩ (fun hHeld => ?_)
       clear hK K
       refine norm_ (a' := ?_) ?_ ?_
       rotate_left
       ·show Act.put _ (some 34) _ = _
        simp only [Act.put, List.setIfInBounds_toArray, List.set_cons_zero, List.set_cons_succ, i64_w, i32_w]
        rfl
       refine pure_ (i := 13) (N := some 35) (v := ?_) (a' := ?_) #[true, true, true, true, true, true, true, true, true, true, true, true, true, true, false, false, false, false, false, false, false, false, false, false, false, false, false, false, false, false] rfl rfl (any_of HT_.out (by kernel_rfl)) (fun _ _ _ h => h) (Or.inl ⟨by rfl, ?_⟩) ?_ ?_
       rotate_left
       ·intro w'
        go_simp
        with_reducible rfl
       rotate_left
       ·simp only [Act.put, List.setIfInBounds_toArray, List.set_cons_zero, List.set_cons_succ, i64_w, i32_w]
        rfl
       refine pure_ (i := 14) (N := some 36) (v := ?_) (a' := ?_) #[true, true, true, true, true, true, true, true, true, true, true, true, true, true, true, false, false, false, false, false, false, false, false, false, false, false, false, false, false, false] rfl rfl (any_of HT_.out (by kernel_rfl)) (fun _ _ _ h => h) (Or.inl ⟨by rfl, ?_⟩) ?_ ?_
       rotate_left
       ·intro w'
        go_simp
        with_reducible rfl
       rotate_left
       ·simp only [Act.put, List.setIfInBounds_toArray, List.set_cons_zero, List.set_cons_succ, i64_w, i32_w]
        rfl
       refine pure_ (i := 15) (N := some 37) (v := ?_) (a' := ?_) #[true, true, true, true, true, true, true, true, true, true, true, true, true, true, true, true, false, false, false, false, false, false, false, false, false, false, false, false, false, false] rfl rfl (any_of HT_.out (by kernel_rfl)) (fun _ _ _ h => h) (Or.inl ⟨by rfl, ?_⟩) ?_ ?_
       rotate_left
       ·intro w'
        go_simp
        with_reducible rfl
       rotate_left
       ·simp only [Act.put, List.setIfInBounds_toArray, List.set_cons_zero, List.set_cons_succ, i64_w, i32_w]
        rfl
       refine pure_ (i := 16) (N := some 38) (v := ?_) (a' := ?_) #[true, true, true, true, true, true, true, true, true, true, true, true, true, true, true, true, true, false, false, false, false, false, false, false, false, false, false, false, false, false] rfl rfl (any_of HT_.out (by kernel_rfl)) (fun _ _ _ h => h) (Or.inl ⟨by rfl, ?_⟩) ?_ ?_
       rotate_left
       ·intro w'
        go_simp
        with_reducible rfl
       rotate_left
       ·simp only [Act.put, List.setIfInBounds_toArray, List.set_cons_zero, List.set_cons_succ, i64_w, i32_w]
        rfl
       refine take_ (i := 17) (N := some 39) (v := ?_) (a' := ?_) #[true, true, true, true, true, true, true, true, true, true, true, true, true, true, true, true, true, true, false, false, false, false, false, false, false, false, false, false, false, false] rfl rfl (take_ofW HT_.out HW_.out (by kernel_rfl)) (fun _ _ _ h => h) (Or.inl ⟨by rfl, ?_⟩) hHeld ?_ ?_
       rotate_left
       ·rintro w' ⟨s0, s1, s2, s3, s4, s5, s6⟩
        go_simp
        with_reducible rfl
       rotate_left
       ·simp only [Act.put, List.setIfInBounds_toArray, List.set_cons_zero, List.set_cons_succ, i64_w, i32_w]
        rfl
       refine pure_ (i := 18) (N := some 40) (v := ?_) (a' := ?_) #[true, true, true, true, true, true, true, true, true, true, true, true, true, true, true, true, true, true, true, false, false, false, false, false, false, false, false, false, false, false] rfl rfl (any_of HT_.out (by kernel_rfl)) (fun _ _ _ h => h) (Or.inl ⟨by rfl, ?_⟩) ?_ ?_
       rotate_left
       ·intro w'
        go_simp
        with_reducible rfl
       rotate_left
       ·simp only [Act.put, List.setIfInBounds_toArray, List.set_cons_zero, List.set_cons_succ, i64_w, i32_w]
        rfl
       refine pure_ (i := 19) (N := some 41) (v := ?_) (a' := ?_) #[true, true, true, true, true, true, true, true, true, true, true, true, true, true, true, true, true, true, true, true, false, false, false, false, false, false, false, false, false, false] rfl rfl (any_of HT_.out (by kernel_rfl)) (fun _ _ _ h => h) (Or.inl ⟨by rfl, ?_⟩) ?_ ?_
       rotate_left
       ·intro w'
        go_simp
        with_reducible rfl
       rotate_left
       ·simp only [Act.put, List.setIfInBounds_toArray, List.set_cons_zero, List.set_cons_succ, i64_w, i32_w]
        rfl
       refine pure_ (i := 20) (N := some 42) (v := ?_) (a' := ?_) #[true, true, true, true, true, true, true, true, true, true, true, true, true, true, true, true, true, true, true, true, true, false, false, false, false, false, false, false, false, false] rfl rfl (any_of HT_.out (by kernel_rfl)) (fun _ _ _ h => h) (Or.inl ⟨by rfl, ?_⟩) ?_ ?_
       rotate_left
       ·intro w'
        go_simp
        with_reducible rfl
       rotate_left
       ·simp only [Act.put, List.setIfInBounds_toArray, List.set_cons_zero, List.set_cons_succ, i64_w, i32_w]
        rfl
       refine pure_ (i := 21) (N := some 43) (v := undef) (a' := ?_) #[true, true, true, true, true, true, true, true, true, true, true, true, true, true, true, true, true, true, true, true, true, true, false, false, false, false, false, false, false, false] rfl rfl (any_of HT_.out (by kernel_rfl)) (fun _ _ _ h => h) (Or.inr ⟨by rfl, rfl⟩) ?_ ?_
       rotate_left
       ·simp only [Act.put, List.setIfInBounds_toArray, List.set_cons_zero, List.set_cons_succ, i64_w, i32_w]
        rfl
       refine pure_ (i := 22) (N := some 44) (v := undef) (a' := ?_) #[true, true, true, true, true, true, true, true, true, true, true, true, true, true, true, true, true, true, true, true, true, true, true, false, false, false, false, false, false, false] rfl rfl (any_of HT_.out (by kernel_rfl)) (fun _ _ _ h => h) (Or.inr ⟨by rfl, rfl⟩) ?_ ?_
       rotate_left
       ·simp only [Act.put, List.setIfInBounds_toArray, List.set_cons_zero, List.set_cons_succ, i64_w, i32_w]
        rfl
       refine pure_ (i := 23) (N := some 45) (v := undef) (a' := ?_) #[true, true, true, true, true, true, true, true, true, true, true, true, true, true, true, true, true, true, true, true, true, true, true, true, false, false, false, false, false, false] rfl rfl (any_of HT_.out (by kernel_rfl)) (fun _ _ _ h => h) (Or.inr ⟨by rfl, rfl⟩) ?_ ?_
       rotate_left
       ·simp only [Act.put, List.setIfInBounds_toArray, List.set_cons_zero, List.set_cons_succ, i64_w, i32_w]
        rfl
       refine pure_ (i := 24) (N := some 46) (v := ?_) (a' := ?_) #[true, true, true, true, true, true, true, true, true, true, true, true, true, true, true, true, true, true, true, true, true, true, true, true, true, false, false, false, false, false] rfl rfl (any_of HT_.out (by kernel_rfl)) (fun _ _ _ h => h) (Or.inl ⟨by rfl, ?_⟩) ?_ ?_
       rotate_left
       ·intro w'
        go_simp
        with_reducible rfl
       rotate_left
       ·simp only [Act.put, List.setIfInBounds_toArray, List.set_cons_zero, List.set_cons_succ, i64_w, i32_w]
        rfl
       refine pure_ (i := 25) (N := some 47) (v := ?_) (a' := ?_) #[true, true, true, true, true, true, true, true, true, true, true, true, true, true, true, true, true, true, true, true, true, true, true, true, true, true, false, false, false, false] rfl rfl (any_of HT_.out (by kernel_rfl)) (fun _ _ _ h => h) (Or.inl ⟨by rfl, ?_⟩) ?_ ?_
       rotate_left
       ·intro w'
        go_simp
        with_reducible rfl
       rotate_left
       ·simp only [Act.put, List.setIfInBounds_toArray, List.set_cons_zero, List.set_cons_succ, i64_w, i32_w]
        rfl
       refine pure_ (i := 26) (N := some 48) (v := undef) (a' := ?_) #[true, true, true, true, true, true, true, true, true, true, true, true, true, true, true, true, true, true, true, true, true, true, true, true, true, true, true, false, false, false] rfl rfl (any_of HT_.out (by kernel_rfl)) (fun _ _ _ h => h) (Or.inr ⟨by rfl, rfl⟩) ?_ ?_
       rotate_left
       ·simp only [Act.put, List.setIfInBounds_toArray, List.set_cons_zero, List.set_cons_succ, i64_w, i32_w]
        rfl
       refine pure_ (i := 27) (N := some 49) (v := undef) (a' := ?_) #[true, true, true, true, true, true, true, true, true, true, true, true, true, true, true, true, true, true, true, true, true, true, true, true, true, true, true, true, false, false] rfl rfl (any_of HT_.out (by kernel_rfl)) (fun _ _ _ h => h) (Or.inr ⟨by rfl, rfl⟩) ?_ ?_
       rotate_left
       ·simp only [Act.put, List.setIfInBounds_toArray, List.set_cons_zero, List.set_cons_succ, i64_w, i32_w]
        rfl
       refine pure_ (i := 28) (N := some 50) (v := undef) (a' := ?_) #[true, true, true, true, true, true, true, true, true, true, true, true, true, true, true, true, true, true, true, true, true, true, true, true, true, true, true, true, true, false] rfl rfl (any_of HT_.out (by kernel_rfl)) (fun _ _ _ h => h) (Or.inr ⟨by rfl, rfl⟩) ?_ ?_
       rotate_left
       ·simp only [Act.put, List.setIfInBounds_toArray, List.set_cons_zero, List.set_cons_succ, i64_w, i32_w]
        rfl
       refine pure_ (i := 29) (N := some 51) (v := ?_) (a' := ?_) #[true, true, true, true, true, true, true, true, true, true, true, true, true, true, true, true, true, true, true, true, true, true, true, true, true, true, true, true, true, true] rfl rfl (any_of HT_.out (by kernel_rfl)) (fun _ _ _ h => h) (Or.inl ⟨by rfl, ?_⟩) ?_ ?_
       rotate_left
       ·intro w'
        go_simp
        with_reducible rfl
       rotate_left
       ·simp only [Act.put, List.setIfInBounds_toArray, List.set_cons_zero, List.set_cons_succ, i64_w, i32_w]
        rfl
       refine done_ (done_of HT_.out (by kernel_rfl)) ?_
       try go_wp2
       go_meet
       case rel => exact ⟨_, (true), (by first | rfl | (simp; done) | (simp [*]; done)), H', ⟨by first | omega | exact Nat.le_refl _⟩, ⟨by (with_reducible repeat (first | refine blk_drewN ?_ _ | refine blk_drew ?_ | refine blk_alloc ?_ _)); exact BK171.out⟩, ⟨by repeat (first | (with_reducible first | exact HB.out | apply below_alloc | apply pw_below_drewN | apply below_drew1 | refine below_set ?_ GE171.out) | exact HB.out)⟩⟩
      ·rw [if_neg c17] at H
       have c17b0 : decide (23 < t167) = false := decide_eq_false c17
       clear c17
       by_cases c19 : t168 > 59
       ·rw [if_pos c19] at H
        have c19b0 : decide (59 < t168) = true := decide_eq_true c19
        clear c19
        have H' := Aside0.mk H
        clear H
        try go_wp2
        have n0_ := Aside0.mk (blk_drew BK171.out)
        have n1_ := Aside0.mk (below_drew1 HB.out)
        clear BK171
        clear HB
        have BK171 := n0_
        have HB := n1_
        clear n0_ n1_
        refine start_ (n := 30) (S := fun w' => w'.cell? ⟨gb171, 0, none⟩ = some (.int .i64 t163) ∧ w'.cell? ⟨gb171, 1, none⟩ = some (.int .i64 t164) ∧ w'.cell? ⟨gb171, 2, none⟩ = some (.int .i64 t165) ∧ w'.cell? ⟨gb171, 3, none⟩ = some (.int .i64 t166) ∧ w'.cell? ⟨gb171, 4, none⟩ = some (.int .i64 t167) ∧ w'.cell? ⟨gb171, 5, none⟩ = some (.int .i64 t168) ∧ w'.cell? ⟨gb171, 6, none⟩ = some (.int .i64 t169)) (ds := []) #[false, false, false, false, false, false, false, false, false, false, false, false, false, false, false, false, false, false, false, false, false, false, false, false, false, false, false, false, false, false] (by kernel_rfl) rfl rfl ⟨(blk_cell BK171.out 0).trans rfl, (blk_cell BK171.out 1).trans rfl, (blk_cell BK171.out 2).trans rfl, (blk_cell BK171.out 3).trans rfl, (blk_cell BK171.out 4).trans rfl, (blk_cell BK171.out 5).trans rfl, (blk_cell BK171.out 6).trans rfl⟩ (fun hHeld => ?_); refine with_tabW stamp_ParseDate.tab5 stamp_ParseDate.bits5 (fun HT_ HW_ => ?_)
        generalize w9.drew = w20 at BK171 HB hHeld ⊢
        refine pure_ (i := 0) (N := some 22) (v := ?_) (a' := ?_) #[true, false, false, false, false, false, false, false, false, false, false, false, false, false, false, false, false, false, false, false, false, false, false, false, false, false, false, false, false, false] rfl rfl (any_of HT_.out (by kernel_rfl)) (fun _ _ _ h => h) (Or.inl ⟨by rfl, ?_⟩) ?_ ?_
        rotate_left
        ·intro w'
         go_simp
         with_reducible rfl
        rotate_left
        ·simp only [Act.put, List.setIfInBounds_toArray, List.set_cons_zero, List.set_cons_succ, i64_w, i32_w]
         rfl
        refine pure_ (i := 1) (N := some 23) (v := ?_) (a' := ?_) #[true, true, false, false, false, false, false, false, false, false, false, false, false, false, false, false, false, false, false, false, false, false, false, false, false, false, false, false, false, false] rfl rfl (any_of HT_.out (by kernel_rfl)) (fun _ _ _ h => h) (Or.inl ⟨by rfl, ?_⟩) ?_ ?_
        rotate_left
        ·intro w'
         go_simp
         with_reducible rfl
        rotate_left
        ·simp only [Act.put, List.setIfInBounds_toArray, List.set_cons_zero, List.set_cons_succ, i64_w, i32_w]
         rfl
        refine pure_ (i := 2) (N := some 24) (v := ?_) (a' := ?_) #[true, true, true, false, false, false, false, false, false, false, false, false, false, false, false, false, false, false, false, false, false, false, false, false, false, false, false, false, false, false] rfl rfl (any_of HT_.out (by kernel_rfl)) (fun _ _ _ h => h) (Or.inl ⟨by rfl, ?_⟩) ?_ ?_
        rotate_left
        ·intro w'
         go_simp
         with_reducible rfl
        rotate_left
        ·simp only [Act.put, List.setIfInBounds_toArray, List.set_cons_zero, List.set_cons_succ, i64_w, i32_w]
         rfl
        refine pure_ (i := 3) (N := some 25) (v := ?_) (a' := ?_) #[true, true, true, true, false, false, false, false, false, false, false, false, false, false, false, false, false, false, false, false, false, false, false, false, false, false, false, false, false, false] rfl rfl (any_of HT_.out (by kernel_rfl)) (fun _ _ _ h => h) (Or.inl ⟨by rfl, ?_⟩) ?_ ?_
        rotate_left
        ·intro w'
         go_simp
         with_reducible rfl
        rotate_left
        ·simp only [Act.put, List.setIfInBounds_toArray, List.set_cons_zero, List.set_cons_succ, i64_w, i32_w]
         rfl
        refine take_ (i := 4) (N := some 26) (v := ?_) (a' := ?_) #[true, true, true, true, true, false, false, false, false, false, false, false, false, false, false, false, false, false, false, false, false, false, false, false, false, false, false, false, false, false] rfl rfl (take_ofW HT_.out HW_.out (by kernel_rfl)) (fun _ _ _ h => h) (Or.inl ⟨by rfl, ?_⟩) hHeld ?_ ?_
        rotate_left
        ·rintro w' ⟨s0, s1, s2, s3, s4, s5, s6⟩
         go_simp
         with_reducible rfl
        rotate_left
        ·simp only [Act.put, List.setIfInBounds_toArray, List.set_cons_zero, List.set_cons_succ, i64_w, i32_w]
         rfl
        refine pure_ (i := 5) (N := some 27) (v := ?_) (a' := ?_) #[true, true, true, true, true, true, false, false, false, false, false, false, false, false, false, false, false, false, false, false, false, false, false, false, false, false, false, false, false, false] rfl rfl (any_of HT_.out (by kernel_rfl)) (fun _ _ _ h => h) (Or.inl ⟨by rfl, ?_⟩) ?_ ?_
        rotate_left
        ·intro w'
         go_simp
         with_reducible rfl
        rotate_left
        ·simp only [Act.put, List.setIfInBounds_toArray, List.set_cons_zero, List.set_cons_succ, i64_w, i32_w]
         rfl
        refine pure_ (i := 6) (N := some 28) (v := ?_) (a' := ?_) #[true, true, true, true, true, true, true, false, false, false, false, false, false, false, false, false, false, false, false, false, false, false, false, false, false, false, false, false, false, false] rfl rfl (any_of HT_.out (by kernel_rfl)) (fun _ _ _ h => h) (Or.inl ⟨by rfl, ?_⟩) ?_ ?_
        rotate_left
        ·intro w'
         go_simp
         with_reducible rfl
        rotate_left
        ·simp only [Act.put, List.setIfInBounds_toArray, List.set_cons_zero, List.set_cons_succ, i64_w, i32_w]
         rfl
        refine pure_ (i := 7) (N := some 29) (v := ?_) (a' := ?_) #[true, true, true, true, true, true, true, true, false, false, false, false, false, false, false, false, false, false, false, false, false, false, false, false, false, false, false, false, false, false] rfl rfl (any_of HT_.out (by kernel_rfl)) (fun _ _ _ h => h) (Or.inl ⟨by rfl, ?_⟩) ?_ ?_
        rotate_left
        ·intro w'
         go_simp
         with_reducible rfl
        rotate_left
        ·simp only [Act.put, List.setIfInBounds_toArray, List.set_cons_zero, List.set_cons_succ, i64_w, i32_w]
         rfl
        refine pure_ (i := 8) (N := some 30) (v := ?_) (a' := ?_) #[true, true, true, true, true, true, true, true, true, false, false, false, false, false, false, false, false, false, false, false, false, false, false, false, false, false, false, false, false, false] rfl rfl (any_of HT_.out (by kernel_rfl)) (fun _ _ _ h => h) (Or.inl ⟨by rfl, ?_⟩) ?_ ?_
        rotate_left
        ·intro w'
         go_simp
         with_reducible rfl
        rotate_left
        ·simp only [Act.put, List.setIfInBounds_toArray, List.set_cons_zero, List.set_cons_succ, i64_w, i32_w]
         rfl
        refine pure_ (i := 10) (N := some 32) (v := ?_) (a' := ?_) #[true, true, true, true, true, true, true, true, true, false, true, false, false, false, false, false, false, false, false, false, false, false, false, false, false, false, false, false, false, false] rfl rfl (any_of HT_.out (by kernel_rfl)) (fun _ _ _ h => h) (Or.inl ⟨by rfl, ?_⟩) ?_ ?_
        rotate_left
        ·intro w'
         go_simp
         with_reducible rfl
        rotate_left
        ·simp only [Act.put, List.setIfInBounds_toArray, List.set_cons_zero, List.set_cons_succ, i64_w, i32_w]
         rfl
        refine pure_ (i := 11) (N := some 33) (v := ?_) (a' := ?_) #[true, true, true, true, true, true, true, true, true, false, true, true, false, false, false, false, false, false, false, false, false, false, false, false, false, false, false, false, false, false] rfl rfl (any_of HT_.out (by kernel_rfl)) (fun _ _ _ h => h) (Or.inl ⟨by rfl, ?_⟩) ?_ ?_
        rotate_left
        ·intro w'
         go_simp
         with_reducible rfl
        rotate_left
        ·simp only [Act.put, List.setIfInBounds_toArray, List.set_cons_zero, List.set_cons_succ, i64_w, i32_w]
         rfl
        refine take_ (i := 9) (N := some 31) (v := ?_) (a' := ?_) #[true, true, true, true, true, true, true, true, true, true, true, true, false, false, false, false, false, false, false, false, false, false, false, false, false, false, false, false, false, false] rfl rfl (take_ofW HT_.out HW_.out (by kernel_rfl)) (fun _ _ _ h => h) (Or.inl ⟨by rfl, ?_⟩) hHeld ?_ ?_
        rotate_left
        ·rintro w' ⟨s0, s1, s2, s3, s4, s5, s6⟩
         go_simp
         with_reducible rfl
        rotate_left
        ·simp only [Act.put, List.setIfInBounds_toArray, List.set_cons_zero, List.set_cons_succ, i64_w, i32_w]
         rfl
        refine one_ (i := 12) (N := some 34) #[true, true, true, true, true, true, true, true, true, true, true, true, true, false, false, false, false, false, false, false, false, false, false, false, false, false, false, false, false, false] rfl rfl (one_of HT_.out (by kernel_rfl)) (by decide) (fun K hK => ?_)
        refine goes_ Tryd.func27 (by kernel_rfl) rfl #[.int .i64 t166, .int .i64 t165] (by rfl) rfl rfl ml ?_
        with_reducible refine (stamp_length.calls t166 t165 t172 _ ?side1 A14.out).mono ?_
        (case side1 => exact Glob.below HG.out bl)
        rintro e w' ⟨rfl, ⟨nd, rfl⟩⟩
        refine ⟨_, rfl, ?_⟩
        refine hK.out _ _ ⟨(blk_cell BK171.out 0).trans rfl, (blk_cell BK171.out 1).trans rfl, (blk_cell BK171.out 2).trans rfl, (blk_cell BK171.out 3).trans rfl, (blk_cell BK171.out 4).trans rfl, (blk_cell BK171.out 5).trans rfl, (blk_cell BK171.out 6).trans rfl⟩ (fun hHeld => ?_)
        clear hK K
        refine norm_ (a' := ?_) ?_ ?_
        rotate_left
        ·show Act.put _ (some 34) _ = _
         simp only [Act.put, List.setIfInBounds_toArray, List.set_cons_zero, List.set_cons_succ, i64_w, i32_w]
         rfl
        refine pure_ (i := 13) (N := some 35) (v := ?_) (a' := ?_) #[true, true, true, true, true, true, true, true, true, true, true, true, true, true, false, false, false, false, false, false, false, false, false, false, false, false, false, false, false, false] rfl rfl (any_of HT_.out (by kernel_rfl)) (fun _ _ _ h => h) (Or.inl ⟨by rfl, ?_⟩) ?_ ?_
        rotate_left
        ·intro w'
         go_simp
         with_reducible rfl
        rotate_left
        ·simp only [Act.put, List.setIfInBounds_toArray, List.set_cons_zero, List.set_cons_succ, i64_w, i32_w]
         rfl
        refine pure_ (i := 14) (N := some 36) (v := ?_) (a' := ?_) #[true, true, true, true, true, true, true, true, true, true, true, true, true, true, true, false, false, false, false, false, false, false, false, false, false, false, false, false, false, false] rfl rfl (any_of HT_.out (by kernel_rfl)) (fun _ _ _ h => h) (Or.inl ⟨by rfl, ?_⟩) ?_ ?_
        rotate_left
        ·intro w'
         go_simp
         with_reducible rfl
        rotate_left
        ·simp only [Act.put, List.setIfInBounds_toArray, List.set_cons_zero, List.set_cons_succ, i64_w, i32_w]
         rfl
        refine pure_ (i := 15) (N := some 37) (v := ?_) (a' := ?_) #[true, true, true, true, true, true, true, true, true, true, true, true, true, true, true, true, false, false, false, false, false, false, false, false, false, false, false, false, false, false] rfl rfl (any_of HT_.out (by kernel_rfl)) (fun _ _ _ h => h) (Or.inl ⟨by rfl, ?_⟩) ?_ ?_
        rotate_left
        ·intro w'
         go_simp
         with_reducible rfl
        rotate_left
        ·simp only [Act.put, List.setIfInBounds_toArray, List.set_cons_zero, List.set_cons_succ, i64_w, i32_w]
         rfl
        refine pure_ (i := 16) (N := some 38) (v := ?_) (a' := ?_) #[true, true, true, true, true, true, true, true, true, true, true, true, true, true, true, true, true, false, false, false, false, false, false, false, false, false, false, false, false, false] rfl rfl (any_of HT_.out (by kernel_rfl)) (fun _ _ _ h => h) (Or.inl ⟨by rfl, ?_⟩) ?_ ?_
        rotate_left
        ·intro w'
         go_simp
         with_reducible rfl
        rotate_left
        ·simp only [Act.put, List.setIfInBounds_toArray, List.set_cons_zero, List.set_cons_succ, i64_w, i32_w]
         rfl
        refine take_ (i := 17) (N := some 39) (v := ?_) (a' := ?_) #[true, true, true, true, true, true, true, true, true, true, true, true, true, true, true, true, true, true, false, false, false, false, false, false, false, false, false, false, false, false] rfl rfl (take_ofW HT_.out HW_.out (by kernel_rfl)) (fun _ _ _ h => h) (Or.inl ⟨by rfl, ?_⟩) hHeld ?_ ?_
        rotate_left
        ·rintro w' ⟨s0, s1, s2, s3, s4, s5, s6⟩
         go_simp
         with_reducible rfl
        rotate_left
        ·simp only [Act.put, List.setIfInBounds_toArray, List.set_cons_zero, List.set_cons_succ, i64_w, i32_w]
         rfl
        refine pure_ (i := 18) (N := some 40) (v := ?_) (a' := ?_) #[true, true, true, true, true, true, true, true, true, true, true, true, true, true, true, true, true, true, true, false, false, false, false, false, false, false, false, false, false, false] rfl rfl (any_of HT_.out (by kernel_rfl)) (fun _ _ _ h => h) (Or.inl ⟨by rfl, ?_⟩) ?_ ?_
        rotate_left
        ·intro w'
         go_simp
         with_reducible rfl
        rotate_left
        ·simp only [Act.put, List.setIfInBounds_toArray, List.set_cons_zero, List.set_cons_succ, i64_w, i32_w]
         rfl
        refine pure_ (i := 19) (N := some 41) (v := ?_) (a' := ?_) #[true, true, true, true, true, true, true, true, true, true, true, true, true, true, true, true, true, true, true, true, false, false, false, false, false, false, false, false, false, false] rfl rfl (any_of HT_.out (by kernel_rfl)) (fun _ _ _ h => h) (Or.inl ⟨by rfl, ?_⟩) ?_ ?_
        rotate_left
        ·intro w'
         go_simp
         with_reducible rfl
        rotate_left
        ·simp only [Act.put, List.setIfInBounds_toArray, List.set_cons_zero, List.set_cons_succ, i64_w, i32_w]
         rfl
        refine pure_ (i := 20) (N := some 42) (v := ?_) (a' := ?_) #[true, true, true, true, true, true, true, true, true, true, true, true, true, true, true, true, true, true, true, true, true, false, false, false, false, false, false, false, false, false] rfl rfl (any_of HT_.out (by kernel_rfl)) (fun _ _ _ h => h) (Or.inl ⟨by rfl, ?_⟩) ?_ ?_
        rotate_left
        ·intro w'
         go_simp
         with_reducible rfl
        rotate_left
        ·simp only [Act.put, List.setIfInBounds_toArray, List.set_cons_zero, List.set_cons_succ, i64_w, i32_w]
         rfl
        refine pure_ (i := 21) (N := some 43) (v := ?_) (a' := ?_) #[true, true, true, true, true, true, true, true, true, true, true, true, true, true, true, true, true, true, true, true, true, true, false, false, false, false, false, false, false, false] rfl rfl (any_of HT_.out (by kernel_rfl)) (fun _ _ _ h => h) (Or.inl ⟨by rfl, ?_⟩) ?_ ?_
        rotate_left
        ·intro w'
         go_simp
         with_reducible rfl
        rotate_left
        ·simp only [Act.put, List.setIfInBounds_toArray, List.set_cons_zero, List.set_cons_succ, i64_w, i32_w]
         rfl
        refine take_ (i := 22) (N := some 44) (v := ?_) (a' := ?_) #[true, true, true, true, true, true, true, true, true, true, true, true, true, true, true, true, true, true, true, true, true, true, true, false, false, false, false, false, false, false] rfl rfl (take_ofW HT_.out HW_.out (by kernel_rfl)) (fun _ _ _ h => h) (Or.inl ⟨by rfl, ?_⟩) hHeld ?_ ?_
        rotate_left
        ·rintro w' ⟨s0, s1, s2, s3, s4, s5, s6⟩
         go_simp
         with_reducible rfl
        rotate_left
        ·simp only [Act.put, List.setIfInBounds_toArray, List.set_cons_zero, List.set_cons_succ, i64_w, i32_w]
         rfl
        refine pure_ (i := 23) (N := some 45) (v := ?_) (a' := ?_) #[true, true, true, true, true, true, true, true, true, true, true, true, true, true, true, true, true, true, true, true, true, true, true, true, false, false, false, false, false, false] rfl rfl (any_of HT_.out (by kernel_rfl)) (fun _ _ _ h => h) (Or.inl ⟨by rfl, ?_⟩) ?_ ?_
        rotate_left
        ·intro w'
         go_simp
         with_reducible rfl
        rotate_left
        ·simp only [Act.put, List.setIfInBounds_toArray, List.set_cons_zero, List.set_cons_succ, i64_w, i32_w]
         rfl
        refine pure_ (i := 24) (N := some 46) (v := ?_) (a' := ?_) #[true, true, true, true, true, true, true, true, true, true, true, true, true, true, true, true, true, true, true, true, true, true, true, true, true, false, false, false, false, false] rfl rfl (any_of HT_.out (by kernel_rfl)) (fun _ _ _ h => h) (Or.inl ⟨by rfl, ?_⟩) ?_ ?_
        rotate_left
        ·intro w'
         go_simp
         with_reducible rfl
        rotate_left
        ·simp only [Act.put, List.setIfInBounds_toArray, List.set_cons_zero, List.set_cons_succ, i64_w, i32_w]
         rfl
        refine pure_ (i := 25) (N := some 47) (v := ?_) (a' := ?_) #[true, true, true, true, true, true, true, true, true, true, true, true, true, true, true, true, true, true, true, true, true, true, true, true, true, true, false, false, false, false] rfl rfl (any_of HT_.out (by kernel_rfl)) (fun _ _ _ h => h) (Or.inl ⟨by rfl, ?_⟩) ?_ ?_
        rotate_left
        ·intro w'
         go_simp
         with_reducible rfl
        rotate_left
        ·simp only [Act.put, List.setIfInBounds_toArray, List.set_cons_zero, List.set_cons_succ, i64_w, i32_w]
         rfl
        refine pure_ (i := 26) (N := some 48) (v := undef) (a' := ?_) #[true, true, true, true, true, true, true, true, true, true, true, true, true, true, true, true, true, true, true, true, true, true, true, true, true, true, true, false, false, false] rfl rfl (any_of HT_.out (by kernel_rfl)) (fun _ _ _ h => h) (Or.inr ⟨by rfl, rfl⟩) ?_ ?_
        rotate_left
        ·simp only [Act.put, List.setIfInBounds_toArray, List.set_cons_zero, List.set_cons_succ, i64_w, i32_w]
         rfl
        refine pure_ (i := 27) (N := some 49) (v := undef) (a' := ?_) #[true, true, true, true, true, true, true, true, true, true, true, true, true, true, true, true, true, true, true, true, true, true, true, true, true, true, true, true, false, false] rfl rfl (any_of HT_.out (by kernel_rfl)) (fun _ _ _ h => h) (Or.inr ⟨by rfl, rfl⟩) ?_ ?_
        rotate_left
        ·simp only [Act.put, List.setIfInBounds_toArray, List.set_cons_zero, List.set_cons_succ, i64_w, i32_w]
         rfl
        refine pure_ (i := 28) (N := some 50) (v := undef) (a' := ?_) #[true, true, true, true, true, true, true, true, true, true, true, true, true, true, true, true, true, true, true, true, true, true, true, true, true, true, true, true, true, false] rfl rfl (any_of HT_.out (by kernel_rfl)) (fun _ _ _ h => h) (Or.inr ⟨by rfl, rfl⟩) ?_ ?_
        rotate_left
        ·simp only [Act.put, List.setIfInBounds_toArray, List.set_cons_zero, List.set_cons_succ, i64_w, i32_w]
         rfl
        refine pure_ (i := 29) (N := some 51) (v := ?_) (a' := ?_) #[true, true, true, true, true, true, true, true, true, true, true, true, true, true, true, true, true, true, true, true, true, true, true, true, true, true, true, true, true, true] rfl rfl (any_of HT_.out (by kernel_rfl)) (fun _ _ _ h => h) (Or.inl ⟨by rfl, ?_⟩) ?_ ?_
        rotate_left
        ·intro w'
         go_simp
         with_reducible rfl
        rotate_left
        ·simp only [Act.put, List.setIfInBounds_toArray, List.set_cons_zero, List.set_cons_succ, i64_w, i32_w]
         rfl
        refine done_ (done_of HT_.out (by kernel_rfl)) ?_
        try go_wp2
        go_meet
        case rel => exact ⟨_, (true), (by first | rfl | (simp; done) | (simp [*]; done)), H', ⟨by first | omega | exact Nat.le_refl _⟩, ⟨by (with_reducible repeat (first | refine blk_drewN ?_ _ | refine blk_drew ?_ | refine blk_alloc ?_ _)); exact BK171.out⟩, ⟨by repeat (first | (with_reducible first | exact HB.out | apply below_alloc | apply pw_below_drewN | apply below_drew1 | refine below_set ?_ GE171.out) | exact HB.out)⟩⟩
       ·rw [if_neg c19] at H
        have c19b0 : decide (59 < t168) = false := decide_eq_false c19
        clear c19
        have H' := Aside0.mk H
        clear H
        try go_wp2
        have n0_ := Aside0.mk (blk_drew BK171.out)
        have n1_ := Aside0.mk (below_drew1 HB.out)
        clear BK171
        clear HB
        have BK171 := n0_
        have HB := n1_
        clear n0_ n1_
        refine start_ (n := 30) (S := fun w' => w'.cell? ⟨gb171, 0, none⟩ = some (.int .i64 t163) ∧ w'.cell? ⟨gb171, 1, none⟩ = some (.int .i64 t164) ∧ w'.cell? ⟨gb171, 2, none⟩ = some (.int .i64 t165) ∧ w'.cell? ⟨gb171, 3, none⟩ = some (.int .i64 t166) ∧ w'.cell? ⟨gb171, 4, none⟩ = some (.int .i64 t167) ∧ w'.cell? ⟨gb171, 5, none⟩ = some (.int .i64 t168) ∧ w'.cell? ⟨gb171, 6, none⟩ = some (.int .i64 t169)) (ds := []) #[false, false, false, false, false, false, false, false, false, false, false, false, false, false, false, false, false, false, false, false, false, false, false, false, false, false, false, false, false, false] (by kernel_rfl) rfl rfl ⟨(blk_cell BK171.out 0).trans rfl, (blk_cell BK171.out 1).trans rfl, (blk_cell BK171.out 2).trans rfl, (blk_cell BK171.out 3).trans rfl, (blk_cell BK171.out 4).trans rfl, (blk_cell BK171.out 5).trans rfl, (blk_cell BK171.out 6).trans rfl⟩ (fun hHeld => ?_); refine with_tabW stamp_ParseDate.tab5 stamp_ParseDate.bits5 (fun HT_ HW_ => ?_)
        generalize w9.drew = w21 at BK171 HB hHeld ⊢
        refine pure_ (i := 0) (N := some 22) (v := ?_) (a' := ?_) #[true, false, false, false, false, false, false, false, false, false, false, false, false, false, false, false, false, false, false, false, false, false, false, false, false, false, false, false, false, false] rfl rfl (any_of HT_.out (by kernel_rfl)) (fun _ _ _ h => h) (Or.inl ⟨by rfl, ?_⟩) ?_ ?_
        rotate_left
        ·intro w'
         go_simp
         with_reducible rfl
        rotate_left
        ·simp only [Act.put, List.setIfInBounds_toArray, List.set_cons_zero, List.set_cons_succ, i64_w, i32_w]
         rfl
        refine pure_ (i := 1) (N := some 23) (v := ?_) (a' := ?_) #[true, true, false, false, false, false, false, false, false, false, false, false, false, false, false, false, false, false, false, false, false, false, false, false, false, false, false, false, false, false] rfl rfl (any_of HT_.out (by kernel_rfl)) (fun _ _ _ h => h) (Or.inl ⟨by rfl, ?_⟩) ?_ ?_
        rotate_left
        ·intro w'
         go_simp
         with_reducible rfl
        rotate_left
        ·simp only [Act.put, List.setIfInBounds_toArray, List.set_cons_zero, List.set_cons_succ, i64_w, i32_w]
         rfl
        refine pure_ (i := 2) (N := some 24) (v := ?_) (a' := ?_) #[true, true, true, false, false, false, false, false, false, false, false, false, false, false, false, false, false, false, false, false, false, false, false, false, false, false, false, false, false, false] rfl rfl (any_of HT_.out (by kernel_rfl)) (fun _ _ _ h => h) (Or.inl ⟨by rfl, ?_⟩) ?_ ?_
        rotate_left
        ·intro w'
         go_simp
         with_reducible rfl
        rotate_left
        ·simp only [Act.put, List.setIfInBounds_toArray, List.set_cons_zero, List.set_cons_succ, i64_w, i32_w]
         rfl
        refine pure_ (i := 3) (N := some 25) (v := ?_) (a' := ?_) #[true, true, true, true, false, false, false, false, false, false, false, false, false, false, false, false, false, false, false, false, false, false, false, false, false, false, false, false, false, false] rfl rfl (any_of HT_.out (by kernel_rfl)) (fun _ _ _ h => h) (Or.inl ⟨by rfl, ?_⟩) ?_ ?_
        rotate_left
        ·intro w'
         go_simp
         with_reducible rfl
        rotate_left
        ·simp only [Act.put, List.setIfInBounds_toArray, List.set_cons_zero, List.set_cons_succ, i64_w, i32_w]
         rfl
        refine take_ (i := 4) (N := some 26) (v := ?_) (a' := ?_) #[true, true, true, true, true, false, false, false, false, false, false, false, false, false, false, false, false, false, false, false, false, false, false, false, false, false, false, false, false, false] rfl rfl (take_ofW HT_.out HW_.out (by kernel_rfl)) (fun _ _ _ h => h) (Or.inl ⟨by rfl, ?_⟩) hHeld ?_ ?_
        rotate_left
        ·rintro w' ⟨s0, s1, s2, s3, s4, s5, s6⟩
         go_simp
         with_reducible rfl
        rotate_left
        ·simp only [Act.put, List.setIfInBounds_toArray, List.set_cons_zero, List.set_cons_succ, i64_w, i32_w]
         rfl
        refine pure_ (i := 5) (N := some 27) (v := ?_) (a' := ?_) #[true, true, true, true, true, true, false, false, false, false, false, false, false, false, false, false, false, false, false, false, false, false, false, false, false, false, false, false, false, false] rfl rfl (any_of HT_.out (by kernel_rfl)) (fun _ _ _ h => h) (Or.inl ⟨by rfl, ?_⟩) ?_ ?_
        rotate_left
        ·intro w'
         go_simp
         with_reducible rfl
        rotate_left
        ·simp only [Act.put, List.setIfInBounds_toArray, List.set_cons_zero, List.set_cons_succ, i64_w, i32_w]
         rfl
        refine pure_ (i := 6) (N := some 28) (v := ?_) (a' := ?_) #[true, true, true, true, true, true, true, false, false, false, false, false, false, false, false, false, false, false, false, false, false, false, false, false, false, false, false, false, false, false] rfl rfl (any_of HT_.out (by kernel_rfl)) (fun _ _ _ h => h) (Or.inl ⟨by rfl, ?_⟩) ?_ ?_
        rotate_left
        ·intro w'
         go_simp
         with_reducible rfl
        rotate_left
        ·simp only [Act.put, List.setIfInBounds_toArray, List.set_cons_zero, List.set_cons_succ, i64_w, i32_w]
         rfl
        refine pure_ (i := 7) (N := some 29) (v := ?_) (a' := ?_) #[true, true, true, true, true, true, true, true, false, false, false, false, false, false, false, false, false, false, false, false, false, false, false, false, false, false, false, false, false, false] rfl rfl (any_of HT_.out (by kernel_rfl)) (fun _ _ _ h => h) (Or.inl ⟨by rfl, ?_⟩) ?_ ?_
        rotate_left
        ·intro w'
         go_simp
         with_reducible rfl
        rotate_left
        ·simp only [Act.put, List.setIfInBounds_toArray, List.set_cons_zero, List.set_cons_succ, i64_w, i32_w]
         rfl
        refine pure_ (i := 8) (N := some 30) (v := ?_) (a' := ?_) #[true, true, true, true, true, true, true, true, true, false, false, false, false, false, false, false, false, false, false, false, false, false, false, false, false, false, false, false, false, false] rfl rfl (any_of HT_.out (by kernel_rfl)) (fun _ _ _ h => h) (Or.inl ⟨by rfl, ?_⟩) ?_ ?_
        rotate_left
        ·intro w'
         go_simp
         with_reducible rfl
        rotate_left
        ·simp only [Act.put, List.setIfInBounds_toArray, List.set_cons_zero, List.set_cons_succ, i64_w, i32_w]
         rfl
        refine pure_ (i := 10) (N := some 32) (v := ?_) (a' := ?_) #[true, true, true, true, true, true, true, true, true, false, true, false, false, false, false, false, false, false, false, false, false, false, false, false, false, false, false, false, false, false] rfl rfl (any_of HT_.out (by kernel_rfl)) (fun _ _ _ h => h) (Or.inl ⟨by rfl, ?_⟩) ?_ ?_
        rotate_left
        ·intro w'
         go_simp
         with_reducible rfl
        rotate_left
        ·simp only [Act.put, List.setIfInBounds_toArray, List.set_cons_zero, List.set_cons_succ, i64_w, i32_w]
         rfl
        refine pure_ (i := 11) (N := some 33) (v := ?_) (a' := ?_) #[true, true, true, true, true, true, true, true, true, false, true, true, false, false, false, false, false, false, false, false, false, false, false, false, false, false, false, false, false, false] rfl rfl (any_of HT_.out (by kernel_rfl)) (fun _ _ _ h => h) (Or.inl ⟨by rfl, ?_⟩) ?_ ?_
        rotate_left
        ·intro w'
         go_simp
         with_reducible rfl
        rotate_left
        ·simp only [Act.put, List.setIfInBounds_toArray, List.set_cons_zero, List.set_cons_succ, i64_w, i32_w]
         rfl
        refine take_ (i := 9) (N := some 31) (v := ?_) (a' := ?_) #[true, true, true, true, true, true, true, true, true, true, true, true, false, false, false, false, false, false, false, false, false, false, false, false, false, false, false, false, false, false] rfl rfl (take_ofW HT_.out HW_.out (by kernel_rfl)) (fun _ _ _ h => h) (Or.inl ⟨by rfl, ?_⟩) hHeld ?_ ?_
        rotate_left
        ·rintro w' ⟨s0, s1, s2, s3, s4, s5, s6⟩
         go_simp
         with_reducible rfl
        rotate_left
        ·simp only [Act.put, List.setIfInBounds_toArray, List.set_cons_zero, List.set_cons_succ, i64_w, i32_w]
         rfl
        refine one_ (i := 12) (N := some 34) #[true, true, true, true, true, true, true, true, true, true, true, true, true, false, false, false, false, false, false, false, false, false, false, false, false, false, false, false, false, false] rfl rfl (one_of HT_.out (by kernel_rfl)) (by decide) (fun K hK => ?_)
        refine goes_ Tryd.func27 (by kernel_rfl) rfl #[.int .i64 t166, .int .i64 t165] (by rfl) rfl rfl ml ?_
        with_reducible refine (stamp_length.calls t166 t165 t172 _ ?side1 A14.out).mono ?_
        (case side1 => exact Glob.below HG.out bl)
        rintro e w' ⟨rfl, ⟨nd, rfl⟩⟩
        refine ⟨_, rfl, ?_⟩
        refine hK.out _ _ ⟨(blk_cell BK171.out 0).trans rfl, (blk_cell BK171.out 1).trans rfl, (blk_cell BK171.out 2).trans rfl, (blk_cell BK171.out 3).trans rfl, (blk_cell BK171.out 4).trans rfl, (blk_cell BK171.out 5).trans rfl, (blk_cell BK171.out 6).trans rfl⟩ (fun hHeld => ?_)
        clear hK K
        refine norm_ (a' := ?_) ?_ ?_
        rotate_left
        ·show Act.put _ (some 34) _ = _
         simp only [Act.put, List.setIfInBounds_toArray, List.set_cons_zero, List.set_cons_succ, i64_w, i32_w]
         rfl
        refine pure_ (i := 13) (N := some 35) (v := ?_) (a' := ?_) #[true, true, true, true, true, true, true, true, true, true, true, true, true, true, false, false, false, false, false, false, false, false, false, false, false, false, false, false, false, false] rfl rfl (any_of HT_.out (by kernel_rfl)) (fun _ _ _ h => h) (Or.inl ⟨by rfl, ?_⟩) ?_ ?_
        rotate_left
        ·intro w'
         go_simp
         with_reducible rfl
        rotate_left
        ·simp only [Act.put, List.setIfInBounds_toArray, List.set_cons_zero, List.set_cons_succ, i64_w, i32_w]
         rfl
        refine pure_ (i := 14) (N := some 36) (v := ?_) (a' := ?_) #[true, true, true, true, true, true, true, true, true, true, true, true, true, true, true, false, false, false, false, false, false, false, false, false, false, false, false, false, false, false] rfl rfl (any_of HT_.out (by kernel_rfl)) (fun _ _ _ h => h) (Or.inl ⟨by rfl, ?_⟩) ?_ ?_
        rotate_left
        ·intro w'
         go_simp
         with_reducible rfl
        rotate_left
        ·simp only [Act.put, List.setIfInBounds_toArray, List.set_cons_zero, List.set_cons_succ, i64_w, i32_w]
         rfl
        refine pure_ (i := 15) (N := some 37) (v := ?_) (a' := ?_) #[true, true, true, true, true, true, true, true, true, true, true, true, true, true, true, true, false, false, false, false, false, false, false, false, false, false, false, false, false, false] rfl rfl (any_of HT_.out (by kernel_rfl)) (fun _ _ _ h => h) (Or.inl ⟨by rfl, ?_⟩) ?_ ?_
        rotate_left
        ·intro w'
         go_simp
         with_reducible rfl
        rotate_left
        ·simp only [Act.put, List.setIfInBounds_toArray, List.set_cons_zero, List.set_cons_succ, i64_w, i32_w]
         rfl
        refine pure_ (i := 16) (N := some 38) (v := ?_) (a' := ?_) #[true, true, true, true, true, true, true, true, true, true, true, true, true, true, true, true, true, false, false, false, false, false, false, false, false, false, false, false, false, false] rfl rfl (any_of HT_.out (by kernel_rfl)) (fun _ _ _ h => h) (Or.inl ⟨by rfl, ?_⟩) ?_ ?_
        rotate_left
        ·intro w'
         go_simp
         with_reducible rfl
        rotate_left
        ·simp only [Act.put, List.setIfInBounds_toArray, List.set_cons_zero, List.set_cons_succ, i64_w, i32_w]
         rfl
        refine take_ (i := 17) (N := some 39) (v := ?_) (a' := ?_) #[true, true, true, true, true, true, true, true, true, true, true, true, true, true, true, true, true, true, false, false, false, false, false, false, false, false, false, false, false, false] rfl rfl (take_ofW HT_.out HW_.out (by kernel_rfl)) (fun _ _ _ h => h) (Or.inl ⟨by rfl, ?_⟩) hHeld ?_ ?_
        rotate_left
        ·rintro w' ⟨s0, s1, s2, s3, s4, s5, s6⟩
         go_simp
         with_reducible rfl
        rotate_left
        ·simp only [Act.put, List.setIfInBounds_toArray, List.set_cons_zero, List.set_cons_succ, i64_w, i32_w]
         rfl
        refine pure_ (i := 18) (N := some 40) (v := ?_) (a' := ?_) #[true, true, true, true, true, true, true, true, true, true, true, true, true, true, true, true, true, true, true, false, false, false, false, false, false, false, false, false, false, false] rfl rfl (any_of HT_.out (by kernel_rfl)) (fun _ _ _ h => h) (Or.inl ⟨by rfl, ?_⟩) ?_ ?_
        rotate_left
        ·intro w'
         go_simp
         with_reducible rfl
        rotate_left
        ·simp only [Act.put, List.setIfInBounds_toArray, List.set_cons_zero, List.set_cons_succ, i64_w, i32_w]
         rfl
        refine pure_ (i := 19) (N := some 41) (v := ?_) (a' := ?_) #[true, true, true, true, true, true, true, true, true, true, true, true, true, true, true, true, true, true, true, true, false, false, false, false, false, false, false, false, false, false] rfl rfl (any_of HT_.out (by kernel_rfl)) (fun _ _ _ h => h) (Or.inl ⟨by rfl, ?_⟩) ?_ ?_
        rotate_left
        ·intro w'
         go_simp
         with_reducible rfl
        rotate_left
        ·simp only [Act.put, List.setIfInBounds_toArray, List.set_cons_zero, List.set_cons_succ, i64_w, i32_w]
         rfl
        refine pure_ (i := 20) (N := some 42) (v := ?_) (a' := ?_) #[true, true, true, true, true, true, true, true, true, true, true, true, true, true, true, true, true, true, true, true, true, false, false, false, false, false, false, false, false, false] rfl rfl (any_of HT_.out (by kernel_rfl)) (fun _ _ _ h => h) (Or.inl ⟨by rfl, ?_⟩) ?_ ?_
        rotate_left
        ·intro w'
         go_simp
         with_reducible rfl
        rotate_left
        ·simp only [Act.put, List.setIfInBounds_toArray, List.set_cons_zero, List.set_cons_succ, i64_w, i32_w]
         rfl
        refine pure_ (i := 21) (N := some 43) (v := ?_) (a' := ?_) #[true, true, true, true, true, true, true, true, true, true, true, true, true, true, true, true, true, true, true, true, true, true, false, false, false, false, false, false, false, false] rfl rfl (any_of HT_.out (by kernel_rfl)) (fun _ _ _ h => h) (Or.inl ⟨by rfl, ?_⟩) ?_ ?_
        rotate_left
        ·intro w'
         go_simp
         with_reducible rfl
        rotate_left
        ·simp only [Act.put, List.setIfInBounds_toArray, List.set_cons_zero, List.set_cons_succ, i64_w, i32_w]
         rfl
        refine take_ (i := 22) (N := some 44) (v := ?_) (a' := ?_) #[true, true, true, true, true, true, true, true, true, true, true, true, true, true, true, true, true, true, true, true, true, true, true, false, false, false, false, false, false, false] rfl rfl (take_ofW HT_.out HW_.out (by kernel_rfl)) (fun _ _ _ h => h) (Or.inl ⟨by rfl, ?_⟩) hHeld ?_ ?_
        rotate_left
        ·rintro w' ⟨s0, s1, s2, s3, s4, s5, s6⟩
         go_simp
         with_reducible rfl
        rotate_left
        ·simp only [Act.put, List.setIfInBounds_toArray, List.set_cons_zero, List.set_cons_succ, i64_w, i32_w]
         rfl
        refine pure_ (i := 23) (N := some 45) (v := ?_) (a' := ?_) #[true, true, true, true, true, true, true, true, true, true, true, true, true, true, true, true, true, true, true, true, true, true, true, true, false, false, false, false, false, false] rfl rfl (any_of HT_.out (by kernel_rfl)) (fun _ _ _ h => h) (Or.inl ⟨by rfl, ?_⟩) ?_ ?_
        rotate_left
        ·intro w'
         go_simp
         with_reducible rfl
        rotate_left
        ·simp only [Act.put, List.setIfInBounds_toArray, List.set_cons_zero, List.set_cons_succ, i64_w, i32_w]
         rfl
        refine pure_ (i := 24) (N := some 46) (v := ?_) (a' := ?_) #[true, true, true, true, true, true, true, true, true, true, true, true, true, true, true, true, true, true, true, true, true, true, true, true, true, false, false, false, false, false] rfl rfl (any_of HT_.out (by kernel_rfl)) (fun _ _ _ h => h) (Or.inl ⟨by rfl, ?_⟩) ?_ ?_
        rotate_left
        ·intro w'
         go_simp
         with_reducible rfl
        rotate_left
        ·simp only [Act.put, List.setIfInBounds_toArray, List.set_cons_zero, List.set_cons_succ, i64_w, i32_w]
         rfl
        refine pure_ (i := 25) (N := some 47) (v := ?_) (a' := ?_) #[true, true, true, true, true, true, true, true, true, true, true, true, true, true, true, true, true, true, true, true, true, true, true, true, true, true, false, false, false, false] rfl rfl (any_of HT_.out (by kernel_rfl)) (fun _ _ _ h => h) (Or.inl ⟨by rfl, ?_⟩) ?_ ?_
        rotate_left
        ·intro w'
         go_simp
         with_reducible rfl
        rotate_left
        ·simp only [Act.put, List.setIfInBounds_toArray, List.set_cons_zero, List.set_cons_succ, i64_w, i32_w]
         rfl
        refine pure_ (i := 26) (N := some 48) (v := ?_) (a' := ?_) #[true, true, true, true, true, true, true, true, true, true, true, true, true, true, true, true, true, true, true, true, true, true, true, true, true, true, true, false, false, false] rfl rfl (any_of HT_.out (by kernel_rfl)) (fun _ _ _ h => h) (Or.inl ⟨by rfl, ?_⟩) ?_ ?_
        rotate_left
        ·intro w'
         go_simp
         with_reducible rfl
        rotate_left
        ·simp only [Act.put, List.setIfInBounds_toArray, List.set_cons_zero, List.set_cons_succ, i64_w, i32_w]
         rfl
        refine take_ (i := 27) (N := some 49) (v := ?_) (a' := ?_) #[true, true, true, true, true, true, true, true, true, true, true, true, true, true, true, true, true, true, true, true, true, true, true, true, true, true, true, true, false, false] rfl rfl (take_ofW HT_.out HW_.out (by kernel_rfl)) (fun _ _ _ h => h) (Or.inl ⟨by rfl, ?_⟩) hHeld ?_ ?_
        rotate_left
        ·rintro w' ⟨s0, s1, s2, s3, s4, s5, s6⟩
         go_simp
         with_reducible rfl
        rotate_left
        ·simp only [Act.put, List.setIfInBounds_toArray, List.set_cons_zero, List.set_cons_succ, i64_w, i32_w]
         rfl
        refine pure_ (i := 28) (N := some 50) (v := ?_) (a' := ?_) #[true, true, true, true, true, true, true, true, true, true, true, true, true, true, true, true, true, true, true, true, true, true, true, true, true, true, true, true, true, false] rfl rfl (any_of HT_.out (by kernel_rfl)) (fun _ _ _ h => h) (Or.inl ⟨by rfl, ?_⟩) ?_ ?_
        rotate_left
        ·intro w'
         go_simp
         with_reducible rfl
        rotate_left
        ·simp only [Act.put, List.setIfInBounds_toArray, List.set_cons_zero, List.set_cons_succ, i64_w, i32_w]
         rfl
        refine pure_ (i := 29) (N := some 51) (v := ?_) (a' := ?_) #[true, true, true, true, true, true, true, true, true, true, true, true, true, true, true, true, true, true, true, true, true, true, true, true, true, true, true, true, true, true] rfl rfl (any_of HT_.out (by kernel_rfl)) (fun _ _ _ h => h) (Or.inl ⟨by rfl, ?_⟩) ?_ ?_
        rotate_left
        ·intro w'
         go_simp
         with_reducible rfl
        rotate_left
        ·simp only [Act.put, List.setIfInBounds_toArray, List.set_cons_zero, List.set_cons_succ, i64_w, i32_w]
         rfl
        refine done_ (done_of HT_.out (by kernel_rfl)) ?_
        try go_wp2
        go_meet
        case rel => exact ⟨_, (decide (t169 > 59)), (by first | rfl | (simp; done) | (simp [*]; done)), H', ⟨by first | omega | exact Nat.le_refl _⟩, ⟨by (with_reducible repeat (first | refine blk_drewN ?_ _ | refine blk_drew ?_ | refine blk_alloc ?_ _)); exact BK171.out⟩, ⟨by repeat (first | (with_reducible first | exact HB.out | apply below_alloc | apply pw_below_drewN | apply below_drew1 | refine below_set ?_ GE171.out) | exact HB.out)⟩⟩
  case rest =>
   clear HC4
   try clear c1
   try clear c2
   try clear p2
   try clear c17
   try clear c17b0
   try clear c19
   try clear c19b0
   obtain ⟨kq, x51_3, rfl, HA, HJ3, BK171, HB⟩ := hcut
   cases kq with
   | zero => exact absurd HA.out (by simp [stamp_ParseDate.j0])
   | succ kj3 =>
    have H := HA.out
    clear HA
    simp only [stamp_ParseDate.j0] at H
    by_cases c22 : x51_3 = true
    ·subst c22
     have H1 : (some (0, 24)) = some (r1, r2) := by rw [if_pos rfl] at H; exact H
     clear H
     have H := H1
     clear H1
     simp only [Option.some.injEq, Prod.mk.injEq] at H
     obtain ⟨rfl, rfl⟩ := H
     go_wp2
     go_ret2
     exact ⟨by first | rfl | (simp [bneNil]; done) | (simp [errW_none, errW_some] <;> rfl) | (simp [*, errW_none, errW_some] <;> rfl), by repeat (first | (with_reducible first | exact HB.out | apply below_alloc | apply pw_below_drewN | apply below_drew1 | refine below_set ?_ GE171.out) | exact HB.out)⟩
    ·replace c22 := Bool.eq_false_iff.mpr c22
     subst c22
     have H1 : ((stamp_ahead.f t166).bind fun t173 => (stamp_ParseDate.l0 kj3 t166 (wrap64 ((wrap64 (t173 + t164)) - 1)) t165 0 t163 t164 t165 t166 t167 t168 t169)) = some (r1, r2) := by rw [if_neg (show ¬ (false = true) by decide)] at H; exact H
     clear H
     have H := H1
     clear H1
     replace H := Option.bind_eq_some_iff.mp H
     obtain ⟨t173, A230, H⟩ := H
     replace H : (stamp_ParseDate.l0 kj3 t166 (wrap64 ((wrap64 (t173 + t164)) - 1)) t165 0 t163 t164 t165 t166 t167 t168 t169) = some (r1, r2) := H
     have A23 := Aside0.mk A230
     clear A230
     have H' := Aside0.mk H
     clear H
     try go_wp2
     have n0_ := Aside0.mk (blk_drew BK171.out)
     have n1_ := Aside0.mk (below_drew1 HB.out)
     clear BK171
     clear HB
     have BK171 := n0_
     have HB := n1_
     clear n0_ n1_
     refine start_ (n := 7) (S := fun w' => w'.cell? ⟨gb171, 0, none⟩ = some (.int .i64 t163) ∧ w'.cell? ⟨gb171, 1, none⟩ = some (.int .i64 t164) ∧ w'.cell? ⟨gb171, 2, none⟩ = some (.int .i64 t165) ∧ w'.cell? ⟨gb171, 3, none⟩ = some (.int .i64 t166) ∧ w'.cell? ⟨gb171, 4, none⟩ = some (.int .i64 t167) ∧ w'.cell? ⟨gb171, 5, none⟩ = some (.int .i64 t168) ∧ w'.cell? ⟨gb171, 6, none⟩ = some (.int .i64 t169)) (ds := []) #[false, false, false, false, false, false, false] (by kernel_rfl) rfl rfl ⟨(blk_cell BK171.out 0).trans rfl, (blk_cell BK171.out 1).trans rfl, (blk_cell BK171.out 2).trans rfl, (blk_cell BK171.out 3).trans rfl, (blk_cell BK171.out 4).trans rfl, (blk_cell BK171.out 5).trans rfl, (blk_cell BK171.out 6).trans rfl⟩ (fun hHeld => ?_)
     generalize wc.drew = w24 at BK171 HB hHeld ⊢
     refine pure_ (i := 0) (N := some 52) (v := ?_) (a' := ?_) #[true, false, false, false, false, false, false] rfl rfl (by kernel_rfl) (fun _ _ _ h => h) (Or.inl ⟨by rfl, ?_⟩) ?_ ?_
     rotate_left
     ·intro w'
      go_simp
      with_reducible rfl
     rotate_left
     ·simp only [Act.put, List.setIfInBounds_toArray, List.set_cons_zero, List.set_cons_succ, i64_w, i32_w]
      rfl
     refine pure_ (i := 2) (N := some 54) (v := ?_) (a' := ?_) #[true, false, true, false, false, false, false] rfl rfl (by kernel_rfl) (fun _ _ _ h => h) (Or.inl ⟨by rfl, ?_⟩) ?_ ?_
     rotate_left
     ·intro w'
      go_simp
      with_reducible rfl
     rotate_left
     ·simp only [Act.put, List.setIfInBounds_toArray, List.set_cons_zero, List.set_cons_succ, i64_w, i32_w]
      rfl
     refine take_ (i := 3) (N := some 55) (v := ?_) (a' := ?_) #[true, false, true, true, false, false, false] rfl rfl (by kernel_rfl) (fun _ _ _ h => h) (Or.inl ⟨by rfl, ?_⟩) hHeld ?_ ?_
     rotate_left
     ·rintro w' ⟨s0, s1, s2, s3, s4, s5, s6⟩
      go_simp
      with_reducible rfl
     rotate_left
     ·simp only [Act.put, List.setIfInBounds_toArray, List.set_cons_zero, List.set_cons_succ, i64_w, i32_w]
      rfl
     refine one_ (i := 1) (N := some 53) #[true, true, true, true, false, false, false] rfl rfl (by kernel_rfl) (by decide) (fun K hK => ?_)
     refine goes_ Tryd.func26 (by kernel_rfl) rfl #[.int .i64 t166] (by rfl) rfl rfl ml ?_
     with_reducible refine (stamp_ahead.calls t166 t173 _ A23.out).mono ?_
     rintro e w' ⟨rfl, ⟨nd, rfl⟩⟩
     refine ⟨_, rfl, ?_⟩
     refine hK.out _ _ ⟨(blk_cell BK171.out 0).trans rfl, (blk_cell BK171.out 1).trans rfl, (blk_cell BK171.out 2).trans rfl, (blk_cell BK171.out 3).trans rfl, (blk_cell BK171.out 4).trans rfl, (blk_cell BK171.out 5).trans rfl, (blk_cell BK171.out 6).trans rfl⟩ (fun hHeld => ?_)
     clear hK K
     refine norm_ (a' := ?_) ?_ ?_
     rotate_left
     ·show Act.put _ (some 53) _ = _
      simp only [Act.put, List.setIfInBounds_toArray, List.set_cons_zero, List.set_cons_succ, i64_w, i32_w]
      rfl
     refine pure_ (i := 4) (N := some 56) (v := ?_) (a' := ?_) #[true, true, true, true, true, false, false] rfl rfl (by kernel_rfl) (fun _ _ _ h => h) (Or.inl ⟨by rfl, ?_⟩) ?_ ?_
     rotate_left
     ·intro w'
      go_simp
      with_reducible rfl
     rotate_left
     ·simp only [Act.put, List.setIfInBounds_toArray, List.set_cons_zero, List.set_cons_succ, i64_w, i32_w]
      rfl
     refine pure_ (i := 5) (N := some 57) (v := ?_) (a' := ?_) #[true, true, true, true, true, true, false] rfl rfl (by kernel_rfl) (fun _ _ _ h => h) (Or.inl ⟨by rfl, ?_⟩) ?_ ?_
     rotate_left
     ·intro w'
      go_simp
      with_reducible rfl
     rotate_left
     ·simp only [Act.put, List.setIfInBounds_toArray, List.set_cons_zero, List.set_cons_succ, i64_w, i32_w]
      rfl
     refine pure_ (i := 6) (N := some 8) (v := ?_) (a' := ?_) #[true, true, true, true, true, true, true] rfl rfl (by kernel_rfl) (fun _ _ _ h => h) (Or.inl ⟨by rfl, ?_⟩) ?_ ?_
     rotate_left
     ·intro w'
      go_simp
      with_reducible rfl
     rotate_left
     ·simp only [Act.put, List.setIfInBounds_toArray, List.set_cons_zero, List.set_cons_succ, i64_w, i32_w]
      rfl
     refine done_ (by kernel_rfl) ?_
     try go_wp2
     go_loopg [8, 59] kj3 (fun kq v8 v59 w' => ∃ (x8_2 : Int) (x59_2 : Int), v8 = .int .i64 x8_2 ∧ v59 = .int .i64 x59_2 ∧ Aside0 (stamp_ParseDate.l0 kq t166 x8_2 t165 x59_2 t163 t164 t165 t166 t167 t168 t169 = some (r1, r2)) ∧ Aside0 (kq ≤ kj3) ∧ Aside0 (w'.heap[gb171]? = some (.cells #[.int .i64 t163, .int .i64 t164, .int .i64 t165, .int .i64 t166, .int .i64 t167, .int .i64 t168, .int .i64 t169] 70 (0, 0))) ∧ Aside0 (Below w.heap.size w w'))
     case atStart => exact ⟨(wrap64 ((wrap64 (t173 + t164)) - 1)), (0), (by first | rfl | (simp; done) | (simp [*]; done)), (by first | rfl | (simp; done) | (simp [*]; done)), H', ⟨Nat.le_refl _⟩, ⟨by (with_reducible repeat (first | refine blk_drewN ?_ _ | refine blk_drew ?_ | refine blk_alloc ?_ _)); exact BK171.out⟩, ⟨by repeat (first | (with_reducible first | exact HB.out | apply below_alloc | apply pw_below_drewN | apply below_drew1 | refine below_set ?_ GE171.out) | exact HB.out)⟩⟩
     case round =>
      clear H'
      try clear c1
      try clear c2
      try clear p2
      try clear p6
      try clear c17
      try clear c17b0
      try clear c19
      try clear c19b0
      try clear c22
      try clear p2
      obtain ⟨x8_2, x59_2, rfl, rfl, HA, HK2, BK171, HB⟩ := hrel
      cases gk with
      | zero => exact absurd HA.out (by simp [stamp_ParseDate.l0])
      | succ k2 =>
       have H := HA.out
       clear HA
       simp only [stamp_ParseDate.l0] at H
       by_cases c25 : x59_2 < t165
       ·rw [if_pos c25] at H
        have c25b0 : decide (x59_2 < t165) = true := decide_eq_true c25
        clear c25
        replace H := Option.bind_eq_some_iff.mp H
        obtain ⟨t174, A260, H⟩ := H
        replace H : (stamp_ParseDate.l0 k2 t166 (wrap64 (x8_2 + t174)) t165 (wrap64 (x59_2 + 1)) t163 t164 t165 t166 t167 t168 t169) = some (r1, r2) := H
        have A26 := Aside0.mk A260
        clear A260
        have H' := Aside0.mk H
        clear H
        go_wp2_with (first | ((with_reducible refine gate_callee (f := 27) rfl ?_); refine goesL_ (some 65) rfl rfl Tryd.func27 (by kernel_rfl) rfl #[.int .i64 t166, .int .i64 x59_2] rfl ml ?_; (with_reducible refine (stamp_length.calls t166 x59_2 t174 _ ?side1 A26.out).mono ?_); (case side1 => exact Glob.below HG.out bl); rintro e w' ⟨rfl, ⟨nd, rfl⟩⟩; refine ⟨_, rfl, ?_⟩))
        go_roundg k2
        case measure => have := HJ3.out; have := HK2.out; omega
        case rel => exact ⟨(wrap64 (x8_2 + t174)), (wrap64 (x59_2 + 1)), (by first | rfl | (simp; done) | (simp [*]; done)), (by first | rfl | (simp; done) | (simp [*]; done)), H', ⟨by have := HJ3.out; have := HK2.out; omega⟩, ⟨by (with_reducible repeat (first | refine blk_drewN ?_ _ | refine blk_drew ?_ | refine blk_alloc ?_ _)); exact BK171.out⟩, ⟨by repeat (first | (with_reducible first | exact HB.out | apply below_alloc | apply pw_below_drewN | apply below_drew1 | refine below_set ?_ GE171.out) | exact HB.out)⟩⟩
       ·rw [if_neg c25] at H
        have c25b0 : decide (x59_2 < t165) = false := decide_eq_false c25
        clear c25
        by_cases c27 : (wrap64 ((wrap64 ((wrap64 ((wrap64 (x8_2 * 86400)) + (wrap64 (t167 * 3600)))) + (wrap64 (t168 * 60)))) + t169)) > 1099511627776
        ·rw [if_pos c27] at H
         have c27b0 : decide (1099511627776 < (wrap64 ((wrap64 ((wrap64 ((wrap64 (x8_2 * 86400)) + (wrap64 (t167 * 3600)))) + (wrap64 (t168 * 60)))) + t169))) = true := decide_eq_true c27
         clear c27
         simp only [Option.some.injEq, Prod.mk.injEq] at H
         obtain ⟨rfl, rfl⟩ := H
         have hcz28_0 : wr.cell? ⟨gb171, 0, none⟩ = some (.int .i64 t163) := (blk_cell BK171.out 0).trans rfl
         have hcz28_1 : wr.cell? ⟨gb171, 1, none⟩ = some (.int .i64 t164) := (blk_cell BK171.out 1).trans rfl
         have hcz28_2 : wr.cell? ⟨gb171, 2, none⟩ = some (.int .i64 t165) := (blk_cell BK171.out 2).trans rfl
         have hcz28_3 : wr.cell? ⟨gb171, 3, none⟩ = some (.int .i64 t166) := (blk_cell BK171.out 3).trans rfl
         have hcz28_4 : wr.cell? ⟨gb171, 4, none⟩ = some (.int .i64 t167) := (blk_cell BK171.out 4).trans rfl
         have hcz28_5 : wr.cell? ⟨gb171, 5, none⟩ = some (.int .i64 t168) := (blk_cell BK171.out 5).trans rfl
         have hcz28_6 : wr.cell? ⟨gb171, 6, none⟩ = some (.int .i64 t169) := (blk_cell BK171.out 6).trans rfl
         have hfz28_0 := blk_frozen BK171.out 0
         have hfz28_1 := blk_frozen BK171.out 1
         have hfz28_2 := blk_frozen BK171.out 2
         have hfz28_3 := blk_frozen BK171.out 3
         have hfz28_4 := blk_frozen BK171.out 4
         have hfz28_5 := blk_frozen BK171.out 5
         have hfz28_6 := blk_frozen BK171.out 6
         go_wp2
         go_ret2
         exact ⟨by first | rfl | (simp [bneNil]; done) | (simp [errW_none, errW_some] <;> rfl) | (simp [*, errW_none, errW_some] <;> rfl), by repeat (first | (with_reducible first | exact HB.out | apply below_alloc | apply pw_below_drewN | apply below_drew1 | refine below_set ?_ GE171.out) | exact HB.out)⟩
        ·rw [if_neg c27] at H
         have c27b0 : decide (1099511627776 < (wrap64 ((wrap64 ((wrap64 ((wrap64 (x8_2 * 86400)) + (wrap64 (t167 * 3600)))) + (wrap64 (t168 * 60)))) + t169))) = false := decide_eq_false c27
         clear c27
         by_cases c29 : (Int.tmod (wrap64 (x8_2 + 4)) 7) = t163
         ·rw [if_pos c29] at H
          have c29b0 : ((Int.tmod (wrap64 (x8_2 + 4)) 7) == t163) = true := beq_iff_eq.mpr c29
          have c29b1 : ((Int.tmod (wrap64 (x8_2 + 4)) 7) != t163) = false := bne_eq_false_iff_eq.mpr c29
          clear c29
          simp only [Option.some.injEq, Prod.mk.injEq] at H
          obtain ⟨rfl, rfl⟩ := H
          have hcz30_0 : wr.cell? ⟨gb171, 0, none⟩ = some (.int .i64 t163) := (blk_cell BK171.out 0).trans rfl
          have hcz30_1 : wr.cell? ⟨gb171, 1, none⟩ = some (.int .i64 t164) := (blk_cell BK171.out 1).trans rfl
          have hcz30_2 : wr.cell? ⟨gb171, 2, none⟩ = some (.int .i64 t165) := (blk_cell BK171.out 2).trans rfl
          have hcz30_3 : wr.cell? ⟨gb171, 3, none⟩ = some (.int .i64 t166) := (blk_cell BK171.out 3).trans rfl
          have hcz30_4 : wr.cell? ⟨gb171, 4, none⟩ = some (.int .i64 t167) := (blk_cell BK171.out 4).trans rfl
          have hcz30_5 : wr.cell? ⟨gb171, 5, none⟩ = some (.int .i64 t168) := (blk_cell BK171.out 5).trans rfl
          have hcz30_6 : wr.cell? ⟨gb171, 6, none⟩ = some (.int .i64 t169) := (blk_cell BK171.out 6).trans rfl
          have hfz30_0 := blk_frozen BK171.out 0
          have hfz30_1 := blk_frozen BK171.out 1
          have hfz30_2 := blk_frozen BK171.out 2
          have hfz30_3 := blk_frozen BK171.out 3
          have hfz30_4 := blk_frozen BK171.out 4
          have hfz30_5 := blk_frozen BK171.out 5
          have hfz30_6 := blk_frozen BK171.out 6
          go_wp2
          go_ret2
          exact ⟨by first | rfl | (simp [bneNil]; done) | (simp [errW_none, errW_some] <;> rfl) | (simp [*, errW_none, errW_some] <;> rfl), by repeat (first | (with_reducible first | exact HB.out | apply below_alloc | apply pw_below_drewN | apply below_drew1 | refine below_set ?_ GE171.out) | exact HB.out)⟩
         ·rw [if_neg c29] at H
          have c29b0 : ((Int.tmod (wrap64 (x8_2 + 4)) 7) == t163) = false := beq_eq_false_iff_ne.mpr c29
          have c29b1 : ((Int.tmod (wrap64 (x8_2 + 4)) 7) != t163) = true := bne_iff_ne.mpr c29
          simp only [Option.some.injEq, Prod.mk.injEq] at H
          obtain ⟨rfl, rfl⟩ := H
          have hcz31_0 : wr.cell? ⟨gb171, 0, none⟩ = some (.int .i64 t163) := (blk_cell BK171.out 0).trans rfl
          have hcz31_1 : wr.cell? ⟨gb171, 1, none⟩ = some (.int .i64 t164) := (blk_cell BK171.out 1).trans rfl
          have hcz31_2 : wr.cell? ⟨gb171, 2, none⟩ = some (.int .i64 t165) := (blk_cell BK171.out 2).trans rfl
          have hcz31_3 : wr.cell? ⟨gb171, 3, none⟩ = some (.int .i64 t166) := (blk_cell BK171.out 3).trans rfl
          have hcz31_4 : wr.cell? ⟨gb171, 4, none⟩ = some (.int .i64 t167) := (blk_cell BK171.out 4).trans rfl
          have hcz31_5 : wr.cell? ⟨gb171, 5, none⟩ = some (.int .i64 t168) := (blk_cell BK171.out 5).trans rfl
          have hcz31_6 : wr.cell? ⟨gb171, 6, none⟩ = some (.int .i64 t169) := (blk_cell BK171.out 6).trans rfl
          have hfz31_0 := blk_frozen BK171.out 0
          have hfz31_1 := blk_frozen BK171.out 1
          have hfz31_2 := blk_frozen BK171.out 2
          have hfz31_3 := blk_frozen BK171.out 3
          have hfz31_4 := blk_frozen BK171.out 4
          have hfz31_5 := blk_frozen BK171.out 5
          have hfz31_6 := blk_frozen BK171.out 6
          go_wp2
          go_ret2
          exact ⟨by first | rfl | (simp [bneNil]; done) | (simp [errW_none, errW_some] <;> rfl) | (simp [*, errW_none, errW_some] <;> rfl), by repeat (first | (with_reducible first | exact HB.out | apply below_alloc | apply pw_below_drewN | apply below_drew1 | refine below_set ?_ GE171.out) | exact HB.out)⟩
 ·replace c3 := Bool.eq_false_iff.mpr c3
  subst c3
  have H1 : (some (0, 5)) = some (r1, r2) := by rw [if_neg (show ¬ (false = true) by decide)] at H; exact H
  clear H
  have H := H1
  clear H1
  simp only [Option.some.injEq, Prod.mk.injEq] at H
  obtain ⟨rfl, rfl⟩ := H
  go_enter Tryd.func21, Tryd.ntmps21
  go_wp2_with (first | ((with_reducible refine gate_callee (f := 44) rfl ?_); refine goesL_ (some 13) rfl rfl Tryd.func44 (by kernel_rfl) rfl #[.string a0] rfl ml ?_; (with_reducible refine (stamp_parts.calls k a0 t163 t164 t165 t166 t167 t168 t169 false _ ?side1 A2.out).mono ?_); (case side1 => exact Glob.below HG.out bl); rintro e w32 ⟨rfl, hb⟩; refine ⟨_, rfl, ?_⟩; have n0_ := Aside0.mk (below_step bl hb); clear HB; have HB := n0_; clear n0_; (try clear hb); (try clear hb2); (try clear hk); (try clear hi)) | ((with_reducible refine gate_dst (N := 4) rfl ?_); refine box_event ?hg (N := 4) ?hd (cs := #[.int .i64 0, .int .i64 0, .int .i64 0, .int .i64 0, .int .i64 0, .int .i64 0, .int .i64 0]) (t := 70) ?hr ?_; (case hd => rfl); (case hg => rfl); (case hr => first | (go_simp; done) | (go_simp; rfl)); intro gb171 hg w33 hbox hb; have n0_ := Aside0.mk (below_step bl hb); have n1_ := Aside0.mk (hbox); have n2_ := Aside0.mk ((by rw [hg]; exact (below_size bl) : w.heap.size ≤ gb171)); have n3_ := Aside0.mk ((by rw [hg]; exact (below_size bl) : w.heap.size ≤ gb171)); clear HB; have HB := n0_; have BK171 := n1_; have GW171 := n2_; have GE171 := n3_; clear n0_ n1_ n2_ n3_; clear hb hbox hg; have hcz34_0 : w33.cell? ⟨gb171, 0, none⟩ = some (.int .i64 0) := (blk_cell BK171.out 0).trans rfl; have hcz34_1 : w33.cell? ⟨gb171, 1, none⟩ = some (.int .i64 0) := (blk_cell BK171.out 1).trans rfl; have hcz34_2 : w33.cell? ⟨gb171, 2, none⟩ = some (.int .i64 0) := (blk_cell BK171.out 2).trans rfl; have hcz34_3 : w33.cell? ⟨gb171, 3, none⟩ = some (.int .i64 0) := (blk_cell BK171.out 3).trans rfl; have hcz34_4 : w33.cell? ⟨gb171, 4, none⟩ = some (.int .i64 0) := (blk_cell BK171.out 4).trans rfl; have hcz34_5 : w33.cell? ⟨gb171, 5, none⟩ = some (.int .i64 0) := (blk_cell BK171.out 5).trans rfl; have hcz34_6 : w33.cell? ⟨gb171, 6, none⟩ = some (.int .i64 0) := (blk_cell BK171.out 6).trans rfl; have hfz34_0 := blk_frozen BK171.out 0; have hfz34_1 := blk_frozen BK171.out 1; have hfz34_2 := blk_frozen BK171.out 2; have hfz34_3 := blk_frozen BK171.out 3; have hfz34_4 := blk_frozen BK171.out 4; have hfz34_5 := blk_frozen BK171.out 5; have hfz34_6 := blk_frozen BK171.out 6))
  go_ret2
  exact ⟨by first | rfl | (simp [bneNil]; done) | (simp [errW_none, errW_some] <;> rfl) | (simp [*, errW_none, errW_some] <;> rfl), by repeat (first | (with_reducible first | exact HB.out | apply below_alloc | apply pw_below_drewN | apply below_drew1 | refine below_set ?_ GE171.out) | exact HB.out)⟩

end Go.Proofs.YtoigafnaoaafeaaDoor.Q
end
section
namespace Go.Proofs.YtoigafnaoaafeaaDoor.Q
open Go.RowKit Go.Proofs.YtoigafnaoaafeaaDoorW.PrintWords Go.Proofs.YtoigafnaoaafeaaDoorW.PrintLast Go.Proofs.YtoigafnaoaafeaaDoorW.PrintMore
attribute [local go_sem] max2_int min2_int max_two min_two max_three min_three max_four min_four   -- for this text's walks alone
set_option linter.unusedVariables false
set_option linter.unusedSimpArgs false

/-! ### postriderlaw09_StampKnown_map0: function 166 (by hand) -/
def skRow0 : List (Int × ByteArray) := [(0, ⟨#[84, 104, 117, 44, 32, 48, 49, 32, 74, 97, 110, 32, 49, 57, 55, 48, 32, 48, 48, 58, 48, 48, 58, 48, 48, 32, 43, 48, 48, 48, 48]⟩), (59, ⟨#[84, 104, 117, 44, 32, 48, 49, 32, 74, 97, 110, 32, 49, 57, 55, 48, 32, 48, 48, 58, 48, 48, 58, 53, 57, 32, 43, 48, 48, 48, 48]⟩), (86399, ⟨#[84, 104, 117, 44, 32, 48, 49, 32, 74, 97, 110, 32, 49, 57, 55, 48, 32, 50, 51, 58, 53, 57, 58, 53, 57, 32, 43, 48, 48, 48, 48]⟩), (68169600, ⟨#[84, 117, 101, 44, 32, 50, 57, 32, 70, 101, 98, 32, 49, 57, 55, 50, 32, 48, 48, 58, 48, 48, 58, 48, 48, 32, 43, 48, 48, 48, 48]⟩), (1000000000, ⟨#[83, 117, 110, 44, 32, 48, 57, 32, 83, 101, 112, 32, 50, 48, 48, 49, 32, 48, 49, 58, 52, 54, 58, 52, 48, 32, 43, 48, 48, 48, 48]⟩), (4107542400, ⟨#[77, 111, 110, 44, 32, 48, 49, 32, 77, 97, 114, 32, 50, 49, 48, 48, 32, 48, 48, 58, 48, 48, 58, 48, 48, 32, 43, 48, 48, 48, 48]⟩), (1234567890, ⟨#[70, 114, 105, 44, 32, 49, 51, 32, 70, 101, 98, 32, 50, 48, 48, 57, 32, 50, 51, 58, 51, 49, 58, 51, 48, 32, 43, 48, 48, 48, 48]⟩)]
def postriderlaw09_StampKnown_map0.f (k : Nat) : Option Bool := if (skRow0.all fun e => decide (stamp_Date.f k e.1 = some e.2) && decide (stamp_ParseDate.f k e.2 = some (e.1, 0))) = true then some true else none
theorem postriderlaw09_StampKnown_map0.mono : ∀ k, LeO (postriderlaw09_StampKnown_map0.f k) (postriderlaw09_StampKnown_map0.f (k + 1)) := by
  intro k r h
  unfold postriderlaw09_StampKnown_map0.f at h ⊢
  split at h
  · rename_i hs
    rw [if_pos]
    · exact h
    · refine List.all_eq_true.2 (fun e he => ?_)
      have h1 := List.all_eq_true.1 hs e he
      rw [Bool.and_eq_true, decide_eq_true_eq, decide_eq_true_eq] at h1 ⊢
      exact ⟨stamp_Date.mono _ k _ h1.1, stamp_ParseDate.mono _ k _ h1.2⟩
  · cases h


/-! ### postriderlaw09_StampKnown_map1: function 167 (by hand) -/
def skRow1 : List (ByteArray × Int) := [(⟨#[]⟩, 5), (⟨#[84, 104, 117, 44, 32, 49, 32, 74, 97, 110, 32, 49, 57, 55, 48, 32, 48, 48, 58, 48, 48, 58, 48, 48, 32, 43, 48, 48, 48, 48]⟩, 5), (⟨#[84, 104, 117, 44, 32, 48, 49, 32, 74, 97, 110, 32, 55, 48, 32, 48, 48, 58, 48, 48, 58, 48, 48, 32, 43, 48, 48, 48, 48]⟩, 5), (⟨#[84, 104, 117, 44, 32, 48, 49, 32, 74, 97, 110, 32, 49, 57, 55, 48, 32, 48, 48, 58, 48, 48, 32, 43, 48, 48, 48, 48]⟩, 5), (⟨#[84, 104, 117, 32, 48, 49, 32, 74, 97, 110, 32, 49, 57, 55, 48, 32, 48, 48, 58, 48, 48, 58, 48, 48, 32, 43, 48, 48, 48, 48]⟩, 5), (⟨#[116, 104, 117, 44, 32, 48, 49, 32, 74, 97, 110, 32, 49, 57, 55, 48, 32, 48, 48, 58, 48, 48, 58, 48, 48, 32, 43, 48, 48, 48, 48]⟩, 5), (⟨#[84, 104, 117, 44, 32, 48, 49, 32, 74, 97, 110, 32, 49, 57, 55, 48, 32, 48, 48, 58, 48, 48, 58, 48, 48, 32, 71, 77, 84]⟩, 5), (⟨#[84, 104, 117, 44, 32, 48, 49, 32, 74, 97, 110, 32, 49, 57, 55, 48, 32, 48, 48, 58, 48, 48, 58, 48, 48, 32, 43, 48, 48, 48, 48, 32]⟩, 5), (⟨#[84, 104, 117, 44, 32, 48, 49, 32, 74, 97, 110, 32, 48, 49, 57, 55, 48, 32, 48, 48, 58, 48, 48, 58, 48, 48, 32, 43, 48, 48, 48, 48]⟩, 5), (⟨#[70, 114, 105, 44, 32, 48, 49, 32, 74, 97, 110, 32, 49, 57, 55, 48, 32, 48, 48, 58, 48, 48, 58, 48, 48, 32, 43, 48, 48, 48, 48]⟩, 24), (⟨#[84, 104, 117, 44, 32, 48, 48, 32, 74, 97, 110, 32, 49, 57, 55, 48, 32, 48, 48, 58, 48, 48, 58, 48, 48, 32, 43, 48, 48, 48, 48]⟩, 24), (⟨#[84, 104, 117, 44, 32, 51, 50, 32, 74, 97, 110, 32, 49, 57, 55, 48, 32, 48, 48, 58, 48, 48, 58, 48, 48, 32, 43, 48, 48, 48, 48]⟩, 24), (⟨#[77, 111, 110, 44, 32, 50, 57, 32, 70, 101, 98, 32, 50, 49, 48, 48, 32, 48, 48, 58, 48, 48, 58, 48, 48, 32, 43, 48, 48, 48, 48]⟩, 24), (⟨#[84, 104, 117, 44, 32, 48, 49, 32, 74, 97, 110, 32, 49, 57, 55, 48, 32, 50, 52, 58, 48, 48, 58, 48, 48, 32, 43, 48, 48, 48, 48]⟩, 24), (⟨#[84, 104, 117, 44, 32, 48, 49, 32, 74, 97, 110, 32, 49, 57, 55, 48, 32, 48, 48, 58, 54, 48, 58, 48, 48, 32, 43, 48, 48, 48, 48]⟩, 24), (⟨#[84, 104, 117, 44, 32, 48, 49, 32, 74, 97, 110, 32, 49, 57, 55, 48, 32, 48, 48, 58, 48, 48, 58, 54, 48, 32, 43, 48, 48, 48, 48]⟩, 24), (⟨#[87, 101, 100, 44, 32, 51, 49, 32, 68, 101, 99, 32, 49, 57, 54, 57, 32, 50, 51, 58, 53, 57, 58, 53, 57, 32, 43, 48, 48, 48, 48]⟩, 24), (⟨#[84, 104, 117, 44, 32, 48, 49, 32, 74, 97, 110, 32, 57, 57, 57, 57, 57, 57, 57, 57, 57, 57, 32, 48, 48, 58, 48, 48, 58, 48, 48, 32, 43, 48, 48, 48, 48]⟩, 24)]
def postriderlaw09_StampKnown_map1.f (k : Nat) : Option Bool := if (skRow1.all fun e => decide (stamp_ParseDate.f k e.1 = some (0, e.2))) = true then some true else none
theorem postriderlaw09_StampKnown_map1.mono : ∀ k, LeO (postriderlaw09_StampKnown_map1.f k) (postriderlaw09_StampKnown_map1.f (k + 1)) := by
  intro k r h
  unfold postriderlaw09_StampKnown_map1.f at h ⊢
  split at h
  · rename_i hs
    rw [if_pos]
    · exact h
    · refine List.all_eq_true.2 (fun e he => ?_)
      have h1 := List.all_eq_true.1 hs e he
      rw [decide_eq_true_eq] at h1 ⊢
      exact stamp_ParseDate.mono _ k _ h1
  · cases h


/-! ### postriderlaw09_StampKnown: function 7 -/
def postriderlaw09_StampKnown.l0 : Nat → Int → ByteArray → ByteArray → ByteArray → ByteArray → ByteArray → ByteArray → ByteArray → ByteArray → Option (Bool)
 | 0, _, _, _, _, _, _, _, _, _ => none
 | k + 1, x60, x900, x901, x902, x903, x904, x905, x906, x907 => if x60 < 8 then (if x60 = 0 then ((stamp_Parse.f k x900).bind fun bt177 => (if bt177.2 = 5 then (postriderlaw09_StampKnown.l0 k (0 + 1) x900 x901 x902 x903 x904 x905 x906 x907) else (some false))) else (if x60 = 1 then ((stamp_Parse.f k x901).bind fun bt179 => (if bt179.2 = 5 then (postriderlaw09_StampKnown.l0 k (1 + 1) x900 x901 x902 x903 x904 x905 x906 x907) else (some false))) else (if x60 = 2 then ((stamp_Parse.f k x902).bind fun bt181 => (if bt181.2 = 5 then (postriderlaw09_StampKnown.l0 k (2 + 1) x900 x901 x902 x903 x904 x905 x906 x907) else (some false))) else (if x60 = 3 then ((stamp_Parse.f k x903).bind fun bt183 => (if bt183.2 = 5 then (postriderlaw09_StampKnown.l0 k (3 + 1) x900 x901 x902 x903 x904 x905 x906 x907) else (some false))) else (if x60 = 4 then ((stamp_Parse.f k x904).bind fun bt185 => (if bt185.2 = 5 then (postriderlaw09_StampKnown.l0 k (4 + 1) x900 x901 x902 x903 x904 x905 x906 x907) else (some false))) else (if x60 = 5 then ((stamp_Parse.f k x905).bind fun bt187 => (if bt187.2 = 5 then (postriderlaw09_StampKnown.l0 k (5 + 1) x900 x901 x902 x903 x904 x905 x906 x907) else (some false))) else (if x60 = 6 then ((stamp_Parse.f k x906).bind fun bt189 => (if bt189.2 = 5 then (postriderlaw09_StampKnown.l0 k (6 + 1) x900 x901 x902 x903 x904 x905 x906 x907) else (some false))) else (if x60 = 7 then ((stamp_Parse.f k x907).bind fun bt191 => (if bt191.2 = 5 then (postriderlaw09_StampKnown.l0 k (7 + 1) x900 x901 x902 x903 x904 x905 x906 x907) else (some false))) else (none))))))))) else ((stamp_Date.f k 4611686018427387904).bind fun t193 => ((stamp_ParseDate.f k t193).bind fun bt194 => (if bt194.2 = 0 then (if bt194.1 = 1099511627776 then ((stamp_Date.f k (-5)).bind fun t196 => ((stamp_Date.f k 0).bind fun t197 => (if t196.toList = t197.toList then ((stamp_Day.f (-1)).bind fun t198 => (if t198 = 0 then ((stamp_Day.f 4611686018427387904).bind fun t199 => (if t199 = 12725829 then ((stamp_Text.f (-3)).bind fun t200 => (if t200.toList = ([65, 65] : List UInt8) then ((stamp_Text.f 1024).bind fun t201 => (if t201.toList = ([65, 65] : List UInt8) then ((stamp_Age.f (-4) (-9)).bind fun t202 => (if t202 = 0 then ((stamp_Age.f 3 2).bind fun t203 => (if t203 = 1023 then ((stamp_Age.f 1025 1).bind fun t204 => (if t204 = 0 then ((postriderlaw09_wakes.f k).bind fun t205 => (some t205)) else (some false))) else (some false))) else (some false))) else (some false))) else (some false))) else (some false))) else (some false))) else (some false)))) else (some false)) else (some false))))
def postriderlaw09_StampKnown.f (k : Nat)  : Option (Bool) := (postriderlaw09_StampKnown_map0.f k).bind fun t175 => ((postriderlaw09_StampKnown_map1.f k).bind fun t176 => (postriderlaw09_StampKnown.l0 k 0 (⟨#[]⟩ : ByteArray) (⟨#[65]⟩ : ByteArray) (⟨#[65, 65, 65]⟩ : ByteArray) (⟨#[65, 49]⟩ : ByteArray) (⟨#[56, 65]⟩ : ByteArray) (⟨#[65, 32]⟩ : ByteArray) (⟨#[195, 164]⟩ : ByteArray) (⟨#[197, 191]⟩ : ByteArray)))
theorem postriderlaw09_StampKnown.mono_l : ∀ k, (∀ y0 y1 y2 y3 y4 y5 y6 y7 y8, LeO (postriderlaw09_StampKnown.l0 k y0 y1 y2 y3 y4 y5 y6 y7 y8) (postriderlaw09_StampKnown.l0 (k + 1) y0 y1 y2 y3 y4 y5 y6 y7 y8))
 | 0 => fun _ _ _ _ _ _ _ _ _ r h => by simp [postriderlaw09_StampKnown.l0] at h
 | k + 1 => by
  have ih0 := postriderlaw09_StampKnown.mono_l k
  ·intro y0 y1 y2 y3 y4 y5 y6 y7 y8
   unfold postriderlaw09_StampKnown.l0
   repeat' first
   | (with_reducible exact ih0 _ _ _ _ _ _ _ _ _)
   | (with_reducible exact postriderlaw09_StampKnown_map0.mono _)
   | (with_reducible exact postriderlaw09_StampKnown_map1.mono _)
   | (with_reducible exact postriderlaw09_wakes.mono _)
   | (with_reducible exact stamp_Date.mono _ _)
   | (with_reducible exact stamp_Parse.mono _ _)
   | (with_reducible exact stamp_ParseDate.mono _ _)
   | (with_reducible exact LeO.refl _)
   | (with_reducible exact LeO.none _)
   | (with_reducible refine LeO.ite ?_ ?_)
   | (with_reducible refine LeO.bind ?_ (fun _ => ?_))
   | exact ih0 _ _ _ _ _ _ _ _ _
   | exact postriderlaw09_StampKnown_map0.mono _
   | exact postriderlaw09_StampKnown_map1.mono _
   | exact postriderlaw09_wakes.mono _
   | exact stamp_Date.mono _ _
   | exact stamp_Parse.mono _ _
   | exact stamp_ParseDate.mono _ _
   | exact LeO.none _
   | refine LeO.ite ?_ ?_
   | refine LeO.bind ?_ (fun _ => ?_)
theorem postriderlaw09_StampKnown.mono : ∀ k, LeO (postriderlaw09_StampKnown.f k ) (postriderlaw09_StampKnown.f (k + 1) ) := by
 intro  k
 have ih0 := postriderlaw09_StampKnown.mono_l k
 unfold postriderlaw09_StampKnown.f
 repeat' first
   | (with_reducible exact ih0 _ _ _ _ _ _ _ _ _)
   | (with_reducible exact postriderlaw09_StampKnown_map0.mono _)
   | (with_reducible exact postriderlaw09_StampKnown_map1.mono _)
   | (with_reducible exact postriderlaw09_wakes.mono _)
   | (with_reducible exact stamp_Date.mono _ _)
   | (with_reducible exact stamp_Parse.mono _ _)
   | (with_reducible exact stamp_ParseDate.mono _ _)
   | (with_reducible exact LeO.refl _)
   | (with_reducible exact LeO.none _)
   | (with_reducible refine LeO.ite ?_ ?_)
   | (with_reducible refine LeO.bind ?_ (fun _ => ?_))
   | exact ih0 _ _ _ _ _ _ _ _ _
   | exact postriderlaw09_StampKnown_map0.mono _
   | exact postriderlaw09_StampKnown_map1.mono _
   | exact postriderlaw09_wakes.mono _
   | exact stamp_Date.mono _ _
   | exact stamp_Parse.mono _ _
   | exact stamp_ParseDate.mono _ _
   | exact LeO.none _
   | refine LeO.ite ?_ ?_
   | refine LeO.bind ?_ (fun _ => ?_)
set_option maxHeartbeats 8000000 in
set_option maxRecDepth 100000 in
theorem postriderlaw09_StampKnown.calls (k : Nat)  (r : Bool) (w : World) (hG : Glob w) (hT : r = true) (h : postriderlaw09_StampKnown.f k  = some r) :
  Calls Tryd.prog 7 #[] w fun e w' => e = .returned (.bool r) ∧ Below w.heap.size w w' := by
 have hu42 := Tryd.underlying42
 have HB := Aside0.mk (Below.refl w.heap.size w)
 have HG := Aside0.mk hG
 clear hG
 have HT_r := Aside0.mk hT
 clear hT
 have H : ((postriderlaw09_StampKnown_map0.f k).bind fun t175 => ((postriderlaw09_StampKnown_map1.f k).bind fun t176 => (postriderlaw09_StampKnown.l0 k 0 (⟨#[]⟩ : ByteArray) (⟨#[65]⟩ : ByteArray) (⟨#[65, 65, 65]⟩ : ByteArray) (⟨#[65, 49]⟩ : ByteArray) (⟨#[56, 65]⟩ : ByteArray) (⟨#[65, 32]⟩ : ByteArray) (⟨#[195, 164]⟩ : ByteArray) (⟨#[197, 191]⟩ : ByteArray)))) = some r := h
 clear h
 replace H := Option.bind_eq_some_iff.mp H
 obtain ⟨t175, A10, H⟩ := H
 replace H : ((postriderlaw09_StampKnown_map1.f k).bind fun t176 => (postriderlaw09_StampKnown.l0 k 0 (⟨#[]⟩ : ByteArray) (⟨#[65]⟩ : ByteArray) (⟨#[65, 65, 65]⟩ : ByteArray) (⟨#[65, 49]⟩ : ByteArray) (⟨#[56, 65]⟩ : ByteArray) (⟨#[65, 32]⟩ : ByteArray) (⟨#[195, 164]⟩ : ByteArray) (⟨#[197, 191]⟩ : ByteArray))) = some r := H
 have A1 := Aside0.mk A10
 clear A10
 replace H := Option.bind_eq_some_iff.mp H
 obtain ⟨t176, A20, H⟩ := H
 replace H : (postriderlaw09_StampKnown.l0 k 0 (⟨#[]⟩ : ByteArray) (⟨#[65]⟩ : ByteArray) (⟨#[65, 65, 65]⟩ : ByteArray) (⟨#[65, 49]⟩ : ByteArray) (⟨#[56, 65]⟩ : ByteArray) (⟨#[65, 32]⟩ : ByteArray) (⟨#[195, 164]⟩ : ByteArray) (⟨#[197, 191]⟩ : ByteArray)) = some r := H
 have A2 := Aside0.mk A20
 clear A20
 have H' := Aside0.mk H
 clear H
 go_enter Tryd.func7, Tryd.ntmps7
 have HK0 : Aside0 (∀ z ∈ skRow0, stamp_Date.f k z.1 = some z.2 ∧ stamp_ParseDate.f k z.2 = some (z.1, 0)) := ⟨fun z hz => by
   have h1 := A1.out
   unfold postriderlaw09_StampKnown_map0.f at h1
   split at h1
   · rename_i h2
     have h3 := List.all_eq_true.1 h2 z hz
     rw [Bool.and_eq_true, decide_eq_true_eq, decide_eq_true_eq] at h3
     exact h3
   · cases h1⟩
 have hmm := @run_makeMap Tryd.prog
 have lawK : Maps.Keyed Tryd.prog 2 := Maps.int_keyed Tryd.underlying2
 obtain ⟨bm, hbm⟩ : ∃ b_, b_ = w.heap.size := ⟨_, rfl⟩
 go_upto_block 0 with (first
  | (refine wpList_literal 7 40 2 9 (Operand.tmp 15) lawK Tryd.underlying40 (plainElem (H := Unit) Tryd.prog 9) w.heap.size rfl _ (insIS skRow0) (rowIS skRow0) _ ⟨⟨rfl, rfl, _, _, rfl, rfl, rfl⟩, ⟨⟨rfl, rfl, _, _, rfl, rfl, rfl⟩, ⟨⟨rfl, rfl, _, _, rfl, rfl, rfl⟩, ⟨⟨rfl, rfl, _, _, rfl, rfl, rfl⟩, ⟨⟨rfl, rfl, _, _, rfl, rfl, rfl⟩, ⟨⟨rfl, rfl, _, _, rfl, rfl, rfl⟩, ⟨⟨rfl, rfl, _, _, rfl, rfl, rfl⟩, trivial⟩⟩⟩⟩⟩⟩⟩ (rd_is Tryd.underlying2 Tryd.underlying9 _ (by decide +kernel)) (by decide) (World.ownsMap_made _ _ _ _) ?_; intro wm hown hgm; simp only [List.drop_succ_cons, List.drop_zero])
  | (at_range; refine wpList_range_own _ rfl _ 40 rfl 2 9 lawK Tryd.underlying40 _ w.heap.size _ _ rfl hown ?_; intro wn hrg0 hgn hsn))
 have hB0 : Below w.heap.size w wn := ((below_alloc HB.out _).grown hgm (Nat.le_trans HB.out.size (by simp)) (fun k_ hk_ => by cases hk_; exact HB.out.size)).grown hgn (Nat.le_trans (Nat.le_trans HB.out.size (by simp)) hgm.size) (fun k_ hk_ => by cases hk_)
 have hr0 : w.heap.size ≤ wm.heap.size := Nat.le_trans (Nat.le_trans HB.out.size (by simp)) hgm.size
 have HR0 := Aside0.mk hr0
 obtain ⟨rm, hrm⟩ : ∃ r_, r_ = wm.heap.size := ⟨_, rfl⟩
 rw [← hrm] at hrg0 HR0
 rw [← hrm]
 have HRG := Aside0.mk hrg0
 have HB0 := Aside0.mk hB0
 clear hB0 hr0 hrg0 hgn hsn hown hgm hrm
 go_frame
 go_cut [] (fun wc => Aside0 (Below w.heap.size w wc))
 case first =>
  go_wp2
  go_loopw [1] (fun _ wr => ∃ (left : Lit → Bool) (cnt : Nat), Aside0 (wr.ranges Tryd.prog 2 (plainElem (H := Unit) Tryd.prog 9) w.heap.size rm (rowIS skRow0).length (litMap (rowIS skRow0)) left cnt) ∧ Aside0 (Below w.heap.size w wr)) (fun _ wr => wr.rangeLeft w.heap.size rm)
  case atStart => exact ⟨_, _, HRG, HB0⟩
  case round =>
   clear HRG HB0
   obtain ⟨left, cnt, HRG, HB0⟩ := hrel
   go_wp2_with (at_next; refine wpList_next_ranges _ rfl _ rfl 2 lawK (plainElem (H := Unit) Tryd.prog 9) (Value.int .i64) Value.string (inv_ik Tryd.underlying2) (inv_sv Tryd.underlying9) w.heap.size rm _ _ _ _ rfl HRG.out ?_ ?_)
   · intro _ _
     go_wp2
     go_meet
     case rel => exact HB0
   · intro x c kl yd yp wx cntx hkey hlk hv hat hrgx hltx hgx hsx hen
     obtain ⟨hq, hq2⟩ := HK0.out _ (mem_is (x := x) (c := c) (y := (yd, yp)) Tryd.underlying2 Tryd.underlying9 hkey hv hat)
     have HQ := Aside0.mk hq
     have HQ2 := Aside0.mk hq2
     have hxx : (x != x) = false := by simp
     have hBx : Below w.heap.size w wx := HB0.out.grown hgx HB0.out.size (fun k_ hk_ => by cases hk_; exact HR0.out)
     have HBX := Aside0.mk hBx
     have HRX := Aside0.mk hrgx
     have HLX := Aside0.mk hltx
     have HLE := Aside0.mk HRG.out.left_eq
     have HSX := Aside0.mk hsx
     clear hkey hv hat hlk hq hq2 hrgx hltx hgx hsx hBx
     go_wp2_with (first
      | (go_at_call 14; (with_reducible refine (stamp_Date.calls k _ _ _ (Glob.below HG.out HBX.out) HQ.out).mono ?_); rintro e wz ⟨rfl, hbz⟩; have HBZ := Aside0.mk (HBX.out.trans (hbz.mono HBX.out.size)); have HBz := Aside0.mk hbz; clear hbz)
      | (go_at_call 21; (with_reducible refine (stamp_ParseDate.calls k _ _ _ _ (Glob.below HG.out HBZ.out) HQ2.out).mono ?_); rintro e wy ⟨rfl, hby_⟩; have hby := HBz.out.trans (hby_.mono HBz.out.size)))
     go_roundw
     case rel => exact ⟨_, cntx, ⟨HRX.out.kept (grown_of_below hby none) (by simp) (by simp)⟩, ⟨HBX.out.trans (hby.mono HBX.out.size)⟩⟩
     case measure => rw [(HRX.out.kept (grown_of_below hby none) (by simp) (by simp)).left_eq, HLE.out]; exact HLX.out
 clear HB HB0 HRG HR0 hmm lawK
 have HB := hcut
 have HK1 : Aside0 (∀ z ∈ skRow1, stamp_ParseDate.f k z.1 = some (0, z.2)) := ⟨fun z hz => by
   have h1 := A2.out
   unfold postriderlaw09_StampKnown_map1.f at h1
   split at h1
   · rename_i h2
     have h3 := List.all_eq_true.1 h2 z hz
     rw [decide_eq_true_eq] at h3
     exact h3
   · cases h1⟩
 have hmm := @run_makeMap Tryd.prog
 have lawK : Maps.Keyed Tryd.prog 9 := Maps.string_keyed Tryd.underlying9
 obtain ⟨bm, hbm⟩ : ∃ b_, b_ = wc.heap.size := ⟨_, rfl⟩
 go_upto_block 2 with (first
  | (refine wpList_literal 18 41 9 31 (Operand.tmp 39) lawK Tryd.underlying41 (plainElem (H := Unit) Tryd.prog 31) wc.heap.size rfl _ (insSI skRow1) (rowSI skRow1) _ ⟨⟨rfl, rfl, _, _, rfl, rfl, rfl⟩, ⟨⟨rfl, rfl, _, _, rfl, rfl, rfl⟩, ⟨⟨rfl, rfl, _, _, rfl, rfl, rfl⟩, ⟨⟨rfl, rfl, _, _, rfl, rfl, rfl⟩, ⟨⟨rfl, rfl, _, _, rfl, rfl, rfl⟩, ⟨⟨rfl, rfl, _, _, rfl, rfl, rfl⟩, ⟨⟨rfl, rfl, _, _, rfl, rfl, rfl⟩, ⟨⟨rfl, rfl, _, _, rfl, rfl, rfl⟩, ⟨⟨rfl, rfl, _, _, rfl, rfl, rfl⟩, ⟨⟨rfl, rfl, _, _, rfl, rfl, rfl⟩, ⟨⟨rfl, rfl, _, _, rfl, rfl, rfl⟩, ⟨⟨rfl, rfl, _, _, rfl, rfl, rfl⟩, ⟨⟨rfl, rfl, _, _, rfl, rfl, rfl⟩, ⟨⟨rfl, rfl, _, _, rfl, rfl, rfl⟩, ⟨⟨rfl, rfl, _, _, rfl, rfl, rfl⟩, ⟨⟨rfl, rfl, _, _, rfl, rfl, rfl⟩, ⟨⟨rfl, rfl, _, _, rfl, rfl, rfl⟩, ⟨⟨rfl, rfl, _, _, rfl, rfl, rfl⟩, trivial⟩⟩⟩⟩⟩⟩⟩⟩⟩⟩⟩⟩⟩⟩⟩⟩⟩⟩ (rd_si Tryd.underlying9 Tryd.underlying31 _ (by decide +kernel)) (by decide) (World.ownsMap_made _ _ _ _) ?_; intro wm hown hgm; simp only [List.drop_succ_cons, List.drop_zero])
  | (at_range; refine wpList_range_own _ rfl _ 41 rfl 9 31 lawK Tryd.underlying41 _ wc.heap.size _ _ rfl hown ?_; intro wn hrg0 hgn hsn))
 have hB0 : Below w.heap.size w wn := ((below_alloc HB.out _).grown hgm (Nat.le_trans HB.out.size (by simp)) (fun k_ hk_ => by cases hk_; exact HB.out.size)).grown hgn (Nat.le_trans (Nat.le_trans HB.out.size (by simp)) hgm.size) (fun k_ hk_ => by cases hk_)
 have hr0 : w.heap.size ≤ wm.heap.size := Nat.le_trans (Nat.le_trans HB.out.size (by simp)) hgm.size
 have HR0 := Aside0.mk hr0
 obtain ⟨rm, hrm⟩ : ∃ r_, r_ = wm.heap.size := ⟨_, rfl⟩
 rw [← hrm] at hrg0 HR0
 rw [← hrm]
 have HRG := Aside0.mk hrg0
 have HB0 := Aside0.mk hB0
 clear hB0 hr0 hrg0 hgn hsn hown hgm hrm
 go_frame
 go_cut [] (fun wc => Aside0 (Below w.heap.size w wc))
 case first =>
  go_wp2
  go_loopw [5] (fun _ wr => ∃ (left : Lit → Bool) (cnt : Nat), Aside0 (wr.ranges Tryd.prog 9 (plainElem (H := Unit) Tryd.prog 31) wc.heap.size rm (rowSI skRow1).length (litMap (rowSI skRow1)) left cnt) ∧ Aside0 (Below w.heap.size w wr)) (fun _ wr => wr.rangeLeft wc.heap.size rm)
  case atStart => exact ⟨_, _, HRG, HB0⟩
  case round =>
   clear HRG HB0
   obtain ⟨left, cnt, HRG, HB0⟩ := hrel
   go_wp2_with (at_next; refine wpList_next_ranges _ rfl _ rfl 9 lawK (plainElem (H := Unit) Tryd.prog 31) Value.string (Value.int .i64) (inv_s Tryd.underlying9) (inv_i Tryd.underlying31) wc.heap.size rm _ _ _ _ rfl HRG.out ?_ ?_)
   · intro _ _
     go_wp2
     go_meet
     case rel => exact HB0
   · intro x c kl yd yp wx cntx hkey hlk hv hat hrgx hltx hgx hsx hen
     have hq := HK1.out _ (mem_si (x := x) (c := c) (y := (yd, yp)) Tryd.underlying9 Tryd.underlying31 hkey hv hat)
     have HQ := Aside0.mk hq
     have hcc : (c != c) = false := by simp
     have hBx : Below w.heap.size w wx := HB0.out.grown hgx HB0.out.size (fun k_ hk_ => by cases hk_; exact HR0.out)
     have HBX := Aside0.mk hBx
     have HRX := Aside0.mk hrgx
     have HLX := Aside0.mk hltx
     have HLE := Aside0.mk HRG.out.left_eq
     have HSX := Aside0.mk hsx
     clear hkey hv hat hlk hq hrgx hltx hgx hsx hBx
     go_wp2_with (go_at_call 21; (with_reducible refine (stamp_ParseDate.calls k _ _ _ _ (Glob.below HG.out HBX.out) HQ.out).mono ?_); rintro e wy ⟨rfl, hby⟩)
     go_roundw
     case rel => exact ⟨_, cntx, ⟨HRX.out.kept (grown_of_below hby none) (by simp) (by simp)⟩, ⟨HBX.out.trans (hby.mono HBX.out.size)⟩⟩
     case measure => rw [(HRX.out.kept (grown_of_below hby none) (by simp) (by simp)).left_eq, HLE.out]; exact HLX.out
 clear HB HB0 HRG HR0 hmm lawK
 have HB := hcut
 go_wp2
 go_loopg [60] k (fun kq v60 w' => ∃ (x60_1 : Int), v60 = .int .i64 x60_1 ∧ Aside0 (postriderlaw09_StampKnown.l0 kq x60_1 (⟨#[]⟩ : ByteArray) (⟨#[65]⟩ : ByteArray) (⟨#[65, 65, 65]⟩ : ByteArray) (⟨#[65, 49]⟩ : ByteArray) (⟨#[56, 65]⟩ : ByteArray) (⟨#[65, 32]⟩ : ByteArray) (⟨#[195, 164]⟩ : ByteArray) (⟨#[197, 191]⟩ : ByteArray) = some r) ∧ Aside0 (kq ≤ k) ∧ Aside0 (Below w.heap.size w w'))
 case atStart => exact ⟨(0), (by first | rfl | (simp; done) | (simp [*]; done)), H', ⟨Nat.le_refl _⟩, ⟨by repeat (first | (with_reducible first | exact HB.out | apply below_alloc | apply pw_below_drewN | apply below_drew1) | exact HB.out)⟩⟩
 case round =>
  clear H'
  try clear c1
  try clear p1
  try clear p2
  obtain ⟨x60_1, rfl, HA, HK1, HB⟩ := hrel
  cases gk with
  | zero => exact absurd HA.out (by simp [postriderlaw09_StampKnown.l0])
  | succ k1 =>
   have H := HA.out
   clear HA
   simp only [postriderlaw09_StampKnown.l0] at H
   by_cases c5 : x60_1 < 8
   ·rw [if_pos c5] at H
    have c5b0 : decide (x60_1 < 8) = true := decide_eq_true c5
    clear c5
    by_cases c6 : x60_1 = 0
    ·subst c6
     have H1 : ((stamp_Parse.f k1 (⟨#[]⟩ : ByteArray)).bind fun bt177 => (if bt177.2 = 5 then (postriderlaw09_StampKnown.l0 k1 (0 + 1) (⟨#[]⟩ : ByteArray) (⟨#[65]⟩ : ByteArray) (⟨#[65, 65, 65]⟩ : ByteArray) (⟨#[65, 49]⟩ : ByteArray) (⟨#[56, 65]⟩ : ByteArray) (⟨#[65, 32]⟩ : ByteArray) (⟨#[195, 164]⟩ : ByteArray) (⟨#[197, 191]⟩ : ByteArray)) else (some false))) = some r := by rw [if_pos rfl] at H; exact H
     clear H
     have H := H1
     clear H1
     replace H := Option.bind_eq_some_iff.mp H
     obtain ⟨⟨t177, t178⟩, A80, H⟩ := H
     replace H : (if t178 = 5 then (postriderlaw09_StampKnown.l0 k1 (0 + 1) (⟨#[]⟩ : ByteArray) (⟨#[65]⟩ : ByteArray) (⟨#[65, 65, 65]⟩ : ByteArray) (⟨#[65, 49]⟩ : ByteArray) (⟨#[56, 65]⟩ : ByteArray) (⟨#[65, 32]⟩ : ByteArray) (⟨#[195, 164]⟩ : ByteArray) (⟨#[197, 191]⟩ : ByteArray)) else (some false)) = some r := H
     have A8 := Aside0.mk A80
     clear A80
     by_cases c9 : t178 = 5
     ·rw [if_pos c9] at H
      have c9b0 : (t178 == 5) = true := beq_iff_eq.mpr c9
      have c9b1 : (t178 != 5) = false := bne_eq_false_iff_eq.mpr c9
      clear c9
      have H' := Aside0.mk H
      clear H
      have hx7 : ∀ W_ : World, (Instr.index 42 (.agg #[.string (⟨#[]⟩ : ByteArray), .string (⟨#[65]⟩ : ByteArray), .string (⟨#[65, 65, 65]⟩ : ByteArray), .string (⟨#[65, 49]⟩ : ByteArray), .string (⟨#[56, 65]⟩ : ByteArray), .string (⟨#[65, 32]⟩ : ByteArray), .string (⟨#[195, 164]⟩ : ByteArray), .string (⟨#[197, 191]⟩ : ByteArray)]) (.int .i64 0)).run Tryd.prog W_ = .ok (.string (⟨#[]⟩ : ByteArray)) W_ := fun _ => by kernel_rfl
      go_wp2_with (first | ((with_reducible refine gate_callee (f := 18) rfl ?_); refine goesL_ (some 65) rfl rfl Tryd.func18 (by kernel_rfl) rfl #[.string (⟨#[]⟩ : ByteArray)] rfl ml ?_; (with_reducible refine (stamp_Parse.calls k1 (⟨#[]⟩ : ByteArray) t177 t178 _ A8.out).mono ?_); rintro e w' ⟨rfl, ⟨nd, rfl⟩⟩; refine ⟨_, rfl, ?_⟩))
      go_roundg k1
      case measure => have := HK1.out; omega
      case rel => exact ⟨(0 + 1), (by first | rfl | (simp; done) | (simp [*]; done)), H', ⟨by have := HK1.out; omega⟩, ⟨by repeat (first | (with_reducible first | exact HB.out | apply below_alloc | apply pw_below_drewN | apply below_drew1) | exact HB.out)⟩⟩
     ·rw [if_neg c9] at H
      have c9b0 : (t178 == 5) = false := beq_eq_false_iff_ne.mpr c9
      have c9b1 : (t178 != 5) = true := bne_iff_ne.mpr c9
      exact absurd ((Option.some.inj H).trans HT_r.out) (by decide)
    ·rw [if_neg c6] at H
     by_cases c10 : x60_1 = 1
     ·subst c10
      have H1 : ((stamp_Parse.f k1 (⟨#[65]⟩ : ByteArray)).bind fun bt179 => (if bt179.2 = 5 then (postriderlaw09_StampKnown.l0 k1 (1 + 1) (⟨#[]⟩ : ByteArray) (⟨#[65]⟩ : ByteArray) (⟨#[65, 65, 65]⟩ : ByteArray) (⟨#[65, 49]⟩ : ByteArray) (⟨#[56, 65]⟩ : ByteArray) (⟨#[65, 32]⟩ : ByteArray) (⟨#[195, 164]⟩ : ByteArray) (⟨#[197, 191]⟩ : ByteArray)) else (some false))) = some r := by rw [if_pos rfl] at H; exact H
      clear H
      have H := H1
      clear H1
      replace H := Option.bind_eq_some_iff.mp H
      obtain ⟨⟨t179, t180⟩, A120, H⟩ := H
      replace H : (if t180 = 5 then (postriderlaw09_StampKnown.l0 k1 (1 + 1) (⟨#[]⟩ : ByteArray) (⟨#[65]⟩ : ByteArray) (⟨#[65, 65, 65]⟩ : ByteArray) (⟨#[65, 49]⟩ : ByteArray) (⟨#[56, 65]⟩ : ByteArray) (⟨#[65, 32]⟩ : ByteArray) (⟨#[195, 164]⟩ : ByteArray) (⟨#[197, 191]⟩ : ByteArray)) else (some false)) = some r := H
      have A12 := Aside0.mk A120
      clear A120
      by_cases c13 : t180 = 5
      ·rw [if_pos c13] at H
       have c13b0 : (t180 == 5) = true := beq_iff_eq.mpr c13
       have c13b1 : (t180 != 5) = false := bne_eq_false_iff_eq.mpr c13
       clear c13
       have H' := Aside0.mk H
       clear H
       have hx11 : ∀ W_ : World, (Instr.index 42 (.agg #[.string (⟨#[]⟩ : ByteArray), .string (⟨#[65]⟩ : ByteArray), .string (⟨#[65, 65, 65]⟩ : ByteArray), .string (⟨#[65, 49]⟩ : ByteArray), .string (⟨#[56, 65]⟩ : ByteArray), .string (⟨#[65, 32]⟩ : ByteArray), .string (⟨#[195, 164]⟩ : ByteArray), .string (⟨#[197, 191]⟩ : ByteArray)]) (.int .i64 1)).run Tryd.prog W_ = .ok (.string (⟨#[65]⟩ : ByteArray)) W_ := fun _ => by kernel_rfl
       go_wp2_with (first | ((with_reducible refine gate_callee (f := 18) rfl ?_); refine goesL_ (some 65) rfl rfl Tryd.func18 (by kernel_rfl) rfl #[.string (⟨#[65]⟩ : ByteArray)] rfl ml ?_; (with_reducible refine (stamp_Parse.calls k1 (⟨#[65]⟩ : ByteArray) t179 t180 _ A12.out).mono ?_); rintro e w' ⟨rfl, ⟨nd, rfl⟩⟩; refine ⟨_, rfl, ?_⟩))
       go_roundg k1
       case measure => have := HK1.out; omega
       case rel => exact ⟨(1 + 1), (by first | rfl | (simp; done) | (simp [*]; done)), H', ⟨by have := HK1.out; omega⟩, ⟨by repeat (first | (with_reducible first | exact HB.out | apply below_alloc | apply pw_below_drewN | apply below_drew1) | exact HB.out)⟩⟩
      ·rw [if_neg c13] at H
       have c13b0 : (t180 == 5) = false := beq_eq_false_iff_ne.mpr c13
       have c13b1 : (t180 != 5) = true := bne_iff_ne.mpr c13
       exact absurd ((Option.some.inj H).trans HT_r.out) (by decide)
     ·rw [if_neg c10] at H
      by_cases c14 : x60_1 = 2
      ·subst c14
       have H1 : ((stamp_Parse.f k1 (⟨#[65, 65, 65]⟩ : ByteArray)).bind fun bt181 => (if bt181.2 = 5 then (postriderlaw09_StampKnown.l0 k1 (2 + 1) (⟨#[]⟩ : ByteArray) (⟨#[65]⟩ : ByteArray) (⟨#[65, 65, 65]⟩ : ByteArray) (⟨#[65, 49]⟩ : ByteArray) (⟨#[56, 65]⟩ : ByteArray) (⟨#[65, 32]⟩ : ByteArray) (⟨#[195, 164]⟩ : ByteArray) (⟨#[197, 191]⟩ : ByteArray)) else (some false))) = some r := by rw [if_pos rfl] at H; exact H
       clear H
       have H := H1
       clear H1
       replace H := Option.bind_eq_some_iff.mp H
       obtain ⟨⟨t181, t182⟩, A160, H⟩ := H
       replace H : (if t182 = 5 then (postriderlaw09_StampKnown.l0 k1 (2 + 1) (⟨#[]⟩ : ByteArray) (⟨#[65]⟩ : ByteArray) (⟨#[65, 65, 65]⟩ : ByteArray) (⟨#[65, 49]⟩ : ByteArray) (⟨#[56, 65]⟩ : ByteArray) (⟨#[65, 32]⟩ : ByteArray) (⟨#[195, 164]⟩ : ByteArray) (⟨#[197, 191]⟩ : ByteArray)) else (some false)) = some r := H
       have A16 := Aside0.mk A160
       clear A160
       by_cases c17 : t182 = 5
       ·rw [if_pos c17] at H
        have c17b0 : (t182 == 5) = true := beq_iff_eq.mpr c17
        have c17b1 : (t182 != 5) = false := bne_eq_false_iff_eq.mpr c17
        clear c17
        have H' := Aside0.mk H
        clear H
        have hx15 : ∀ W_ : World, (Instr.index 42 (.agg #[.string (⟨#[]⟩ : ByteArray), .string (⟨#[65]⟩ : ByteArray), .string (⟨#[65, 65, 65]⟩ : ByteArray), .string (⟨#[65, 49]⟩ : ByteArray), .string (⟨#[56, 65]⟩ : ByteArray), .string (⟨#[65, 32]⟩ : ByteArray), .string (⟨#[195, 164]⟩ : ByteArray), .string (⟨#[197, 191]⟩ : ByteArray)]) (.int .i64 2)).run Tryd.prog W_ = .ok (.string (⟨#[65, 65, 65]⟩ : ByteArray)) W_ := fun _ => by kernel_rfl
        go_wp2_with (first | ((with_reducible refine gate_callee (f := 18) rfl ?_); refine goesL_ (some 65) rfl rfl Tryd.func18 (by kernel_rfl) rfl #[.string (⟨#[65, 65, 65]⟩ : ByteArray)] rfl ml ?_; (with_reducible refine (stamp_Parse.calls k1 (⟨#[65, 65, 65]⟩ : ByteArray) t181 t182 _ A16.out).mono ?_); rintro e w' ⟨rfl, ⟨nd, rfl⟩⟩; refine ⟨_, rfl, ?_⟩))
        go_roundg k1
        case measure => have := HK1.out; omega
        case rel => exact ⟨(2 + 1), (by first | rfl | (simp; done) | (simp [*]; done)), H', ⟨by have := HK1.out; omega⟩, ⟨by repeat (first | (with_reducible first | exact HB.out | apply below_alloc | apply pw_below_drewN | apply below_drew1) | exact HB.out)⟩⟩
       ·rw [if_neg c17] at H
        have c17b0 : (t182 == 5) = false := beq_eq_false_iff_ne.mpr c17
        have c17b1 : (t182 != 5) = true := bne_iff_ne.mpr c17
        exact absurd ((Option.some.inj H).trans HT_r.out) (by decide)
      ·rw [if_neg c14] at H
       by_cases c18 : x60_1 = 3
       ·subst c18
        have H1 : ((stamp_Parse.f k1 (⟨#[65, 49]⟩ : ByteArray)).bind fun bt183 => (if bt183.2 = 5 then (postriderlaw09_StampKnown.l0 k1 (3 + 1) (⟨#[]⟩ : ByteArray) (⟨#[65]⟩ : ByteArray) (⟨#[65, 65, 65]⟩ : ByteArray) (⟨#[65, 49]⟩ : ByteArray) (⟨#[56, 65]⟩ : ByteArray) (⟨#[65, 32]⟩ : ByteArray) (⟨#[195, 164]⟩ : ByteArray) (⟨#[197, 191]⟩ : ByteArray)) else (some false))) = some r := by rw [if_pos rfl] at H; exact H
        clear H
        have H := H1
        clear H1
        replace H := Option.bind_eq_some_iff.mp H
        obtain ⟨⟨t183, t184⟩, A200, H⟩ := H
        replace H : (if t184 = 5 then (postriderlaw09_StampKnown.l0 k1 (3 + 1) (⟨#[]⟩ : ByteArray) (⟨#[65]⟩ : ByteArray) (⟨#[65, 65, 65]⟩ : ByteArray) (⟨#[65, 49]⟩ : ByteArray) (⟨#[56, 65]⟩ : ByteArray) (⟨#[65, 32]⟩ : ByteArray) (⟨#[195, 164]⟩ : ByteArray) (⟨#[197, 191]⟩ : ByteArray)) else (some false)) = some r := H
        have A20 := Aside0.mk A200
        clear A200
        by_cases c21 : t184 = 5
        ·rw [if_pos c21] at H
         have c21b0 : (t184 == 5) = true := beq_iff_eq.mpr c21
         have c21b1 : (t184 != 5) = false := bne_eq_false_iff_eq.mpr c21
         clear c21
         have H' := Aside0.mk H
         clear H
         have hx19 : ∀ W_ : World, (Instr.index 42 (.agg #[.string (⟨#[]⟩ : ByteArray), .string (⟨#[65]⟩ : ByteArray), .string (⟨#[65, 65, 65]⟩ : ByteArray), .string (⟨#[65, 49]⟩ : ByteArray), .string (⟨#[56, 65]⟩ : ByteArray), .string (⟨#[65, 32]⟩ : ByteArray), .string (⟨#[195, 164]⟩ : ByteArray), .string (⟨#[197, 191]⟩ : ByteArray)]) (.int .i64 3)).run Tryd.prog W_ = .ok (.string (⟨#[65, 49]⟩ : ByteArray)) W_ := fun _ => by kernel_rfl
         go_wp2_with (first | ((with_reducible refine gate_callee (f := 18) rfl ?_); refine goesL_ (some 65) rfl rfl Tryd.func18 (by kernel_rfl) rfl #[.string (⟨#[65, 49]⟩ : ByteArray)] rfl ml ?_; (with_reducible refine (stamp_Parse.calls k1 (⟨#[65, 49]⟩ : ByteArray) t183 t184 _ A20.out).mono ?_); rintro e w' ⟨rfl, ⟨nd, rfl⟩⟩; refine ⟨_, rfl, ?_⟩))
         go_roundg k1
         case measure => have := HK1.out; omega
         case rel => exact ⟨(3 + 1), (by first | rfl | (simp; done) | (simp [*]; done)), H', ⟨by have := HK1.out; omega⟩, ⟨by repeat (first | (with_reducible first | exact HB.out | apply below_alloc | apply pw_below_drewN | apply below_drew1) | exact HB.out)⟩⟩
        ·rw [if_neg c21] at H
         have c21b0 : (t184 == 5) = false := beq_eq_false_iff_ne.mpr c21
         have c21b1 : (t184 != 5) = true := bne_iff_ne.mpr c21
         exact absurd ((Option.some.inj H).trans HT_r.out) (by decide)
       ·rw [if_neg c18] at H
        by_cases c22 : x60_1 = 4
        ·subst c22
         have H1 : ((stamp_Parse.f k1 (⟨#[56, 65]⟩ : ByteArray)).bind fun bt185 => (if bt185.2 = 5 then (postriderlaw09_StampKnown.l0 k1 (4 + 1) (⟨#[]⟩ : ByteArray) (⟨#[65]⟩ : ByteArray) (⟨#[65, 65, 65]⟩ : ByteArray) (⟨#[65, 49]⟩ : ByteArray) (⟨#[56, 65]⟩ : ByteArray) (⟨#[65, 32]⟩ : ByteArray) (⟨#[195, 164]⟩ : ByteArray) (⟨#[197, 191]⟩ : ByteArray)) else (some false))) = some r := by rw [if_pos rfl] at H; exact H
         clear H
         have H := H1
         clear H1
         replace H := Option.bind_eq_some_iff.mp H
         obtain ⟨⟨t185, t186⟩, A240, H⟩ := H
         replace H : (if t186 = 5 then (postriderlaw09_StampKnown.l0 k1 (4 + 1) (⟨#[]⟩ : ByteArray) (⟨#[65]⟩ : ByteArray) (⟨#[65, 65, 65]⟩ : ByteArray) (⟨#[65, 49]⟩ : ByteArray) (⟨#[56, 65]⟩ : ByteArray) (⟨#[65, 32]⟩ : ByteArray) (⟨#[195, 164]⟩ : ByteArray) (⟨#[197, 191]⟩ : ByteArray)) else (some false)) = some r := H
         have A24 := Aside0.mk A240
         clear A240
         by_cases c25 : t186 = 5
         ·rw [if_pos c25] at H
          have c25b0 : (t186 == 5) = true := beq_iff_eq.mpr c25
          have c25b1 : (t186 != 5) = false := bne_eq_false_iff_eq.mpr c25
          clear c25
          have H' := Aside0.mk H
          clear H
          have hx23 : ∀ W_ : World, (Instr.index 42 (.agg #[.string (⟨#[]⟩ : ByteArray), .string (⟨#[65]⟩ : ByteArray), .string (⟨#[65, 65, 65]⟩ : ByteArray), .string (⟨#[65, 49]⟩ : ByteArray), .string (⟨#[56, 65]⟩ : ByteArray), .string (⟨#[65, 32]⟩ : ByteArray), .string (⟨#[195, 164]⟩ : ByteArray), .string (⟨#[197, 191]⟩ : ByteArray)]) (.int .i64 4)).run Tryd.prog W_ = .ok (.string (⟨#[56, 65]⟩ : ByteArray)) W_ := fun _ => by kernel_rfl
          go_wp2_with (first | ((with_reducible refine gate_callee (f := 18) rfl ?_); refine goesL_ (some 65) rfl rfl Tryd.func18 (by kernel_rfl) rfl #[.string (⟨#[56, 65]⟩ : ByteArray)] rfl ml ?_; (with_reducible refine (stamp_Parse.calls k1 (⟨#[56, 65]⟩ : ByteArray) t185 t186 _ A24.out).mono ?_); rintro e w' ⟨rfl, ⟨nd, rfl⟩⟩; refine ⟨_, rfl, ?_⟩))
          go_roundg k1
          case measure => have := HK1.out; omega
          case rel => exact ⟨(4 + 1), (by first | rfl | (simp; done) | (simp [*]; done)), H', ⟨by have := HK1.out; omega⟩, ⟨by repeat (first | (with_reducible first | exact HB.out | apply below_alloc | apply pw_below_drewN | apply below_drew1) | exact HB.out)⟩⟩
         ·rw [if_neg c25] at H
          have c25b0 : (t186 == 5) = false := beq_eq_false_iff_ne.mpr c25
          have c25b1 : (t186 != 5) = true := bne_iff_ne.mpr c25
          exact absurd ((Option.some.inj H).trans HT_r.out) (by decide)
        ·rw [if_neg c22] at H
         by_cases c26 : x60_1 = 5
         ·subst c26
          have H1 : ((stamp_Parse.f k1 (⟨#[65, 32]⟩ : ByteArray)).bind fun bt187 => (if bt187.2 = 5 then (postriderlaw09_StampKnown.l0 k1 (5 + 1) (⟨#[]⟩ : ByteArray) (⟨#[65]⟩ : ByteArray) (⟨#[65, 65, 65]⟩ : ByteArray) (⟨#[65, 49]⟩ : ByteArray) (⟨#[56, 65]⟩ : ByteArray) (⟨#[65, 32]⟩ : ByteArray) (⟨#[195, 164]⟩ : ByteArray) (⟨#[197, 191]⟩ : ByteArray)) else (some false))) = some r := by rw [if_pos rfl] at H; exact H
          clear H
          have H := H1
          clear H1
          replace H := Option.bind_eq_some_iff.mp H
          obtain ⟨⟨t187, t188⟩, A280, H⟩ := H
          replace H : (if t188 = 5 then (postriderlaw09_StampKnown.l0 k1 (5 + 1) (⟨#[]⟩ : ByteArray) (⟨#[65]⟩ : ByteArray) (⟨#[65, 65, 65]⟩ : ByteArray) (⟨#[65, 49]⟩ : ByteArray) (⟨#[56, 65]⟩ : ByteArray) (⟨#[65, 32]⟩ : ByteArray) (⟨#[195, 164]⟩ : ByteArray) (⟨#[197, 191]⟩ : ByteArray)) else (some false)) = some r := H
          have A28 := Aside0.mk A280
          clear A280
          by_cases c29 : t188 = 5
          ·rw [if_pos c29] at H
           have c29b0 : (t188 == 5) = true := beq_iff_eq.mpr c29
           have c29b1 : (t188 != 5) = false := bne_eq_false_iff_eq.mpr c29
           clear c29
           have H' := Aside0.mk H
           clear H
           have hx27 : ∀ W_ : World, (Instr.index 42 (.agg #[.string (⟨#[]⟩ : ByteArray), .string (⟨#[65]⟩ : ByteArray), .string (⟨#[65, 65, 65]⟩ : ByteArray), .string (⟨#[65, 49]⟩ : ByteArray), .string (⟨#[56, 65]⟩ : ByteArray), .string (⟨#[65, 32]⟩ : ByteArray), .string (⟨#[195, 164]⟩ : ByteArray), .string (⟨#[197, 191]⟩ : ByteArray)]) (.int .i64 5)).run Tryd.prog W_ = .ok (.string (⟨#[65, 32]⟩ : ByteArray)) W_ := fun _ => by kernel_rfl
           go_wp2_with (first | ((with_reducible refine gate_callee (f := 18) rfl ?_); refine goesL_ (some 65) rfl rfl Tryd.func18 (by kernel_rfl) rfl #[.string (⟨#[65, 32]⟩ : ByteArray)] rfl ml ?_; (with_reducible refine (stamp_Parse.calls k1 (⟨#[65, 32]⟩ : ByteArray) t187 t188 _ A28.out).mono ?_); rintro e w' ⟨rfl, ⟨nd, rfl⟩⟩; refine ⟨_, rfl, ?_⟩))
           go_roundg k1
           case measure => have := HK1.out; omega
           case rel => exact ⟨(5 + 1), (by first | rfl | (simp; done) | (simp [*]; done)), H', ⟨by have := HK1.out; omega⟩, ⟨by repeat (first | (with_reducible first | exact HB.out | apply below_alloc | apply pw_below_drewN | apply below_drew1) | exact HB.out)⟩⟩
          ·rw [if_neg c29] at H
           have c29b0 : (t188 == 5) = false := beq_eq_false_iff_ne.mpr c29
           have c29b1 : (t188 != 5) = true := bne_iff_ne.mpr c29
           exact absurd ((Option.some.inj H).trans HT_r.out) (by decide)
         ·rw [if_neg c26] at H
          by_cases c30 : x60_1 = 6
          ·subst c30
           have H1 : ((stamp_Parse.f k1 (⟨#[195, 164]⟩ : ByteArray)).bind fun bt189 => (if bt189.2 = 5 then (postriderlaw09_StampKnown.l0 k1 (6 + 1) (⟨#[]⟩ : ByteArray) (⟨#[65]⟩ : ByteArray) (⟨#[65, 65, 65]⟩ : ByteArray) (⟨#[65, 49]⟩ : ByteArray) (⟨#[56, 65]⟩ : ByteArray) (⟨#[65, 32]⟩ : ByteArray) (⟨#[195, 164]⟩ : ByteArray) (⟨#[197, 191]⟩ : ByteArray)) else (some false))) = some r := by rw [if_pos rfl] at H; exact H
           clear H
           have H := H1
           clear H1
           replace H := Option.bind_eq_some_iff.mp H
           obtain ⟨⟨t189, t190⟩, A320, H⟩ := H
           replace H : (if t190 = 5 then (postriderlaw09_StampKnown.l0 k1 (6 + 1) (⟨#[]⟩ : ByteArray) (⟨#[65]⟩ : ByteArray) (⟨#[65, 65, 65]⟩ : ByteArray) (⟨#[65, 49]⟩ : ByteArray) (⟨#[56, 65]⟩ : ByteArray) (⟨#[65, 32]⟩ : ByteArray) (⟨#[195, 164]⟩ : ByteArray) (⟨#[197, 191]⟩ : ByteArray)) else (some false)) = some r := H
           have A32 := Aside0.mk A320
           clear A320
           by_cases c33 : t190 = 5
           ·rw [if_pos c33] at H
            have c33b0 : (t190 == 5) = true := beq_iff_eq.mpr c33
            have c33b1 : (t190 != 5) = false := bne_eq_false_iff_eq.mpr c33
            clear c33
            have H' := Aside0.mk H
            clear H
            have hx31 : ∀ W_ : World, (Instr.index 42 (.agg #[.string (⟨#[]⟩ : ByteArray), .string (⟨#[65]⟩ : ByteArray), .string (⟨#[65, 65, 65]⟩ : ByteArray), .string (⟨#[65, 49]⟩ : ByteArray), .string (⟨#[56, 65]⟩ : ByteArray), .string (⟨#[65, 32]⟩ : ByteArray), .string (⟨#[195, 164]⟩ : ByteArray), .string (⟨#[197, 191]⟩ : ByteArray)]) (.int .i64 6)).run Tryd.prog W_ = .ok (.string (⟨#[195, 164]⟩ : ByteArray)) W_ := fun _ => by kernel_rfl
            go_wp2_with (first | ((with_reducible refine gate_callee (f := 18) rfl ?_); refine goesL_ (some 65) rfl rfl Tryd.func18 (by kernel_rfl) rfl #[.string (⟨#[195, 164]⟩ : ByteArray)] rfl ml ?_; (with_reducible refine (stamp_Parse.calls k1 (⟨#[195, 164]⟩ : ByteArray) t189 t190 _ A32.out).mono ?_); rintro e w' ⟨rfl, ⟨nd, rfl⟩⟩; refine ⟨_, rfl, ?_⟩))
            go_roundg k1
            case measure => have := HK1.out; omega
            case rel => exact ⟨(6 + 1), (by first | rfl | (simp; done) | (simp [*]; done)), H', ⟨by have := HK1.out; omega⟩, ⟨by repeat (first | (with_reducible first | exact HB.out | apply below_alloc | apply pw_below_drewN | apply below_drew1) | exact HB.out)⟩⟩
           ·rw [if_neg c33] at H
            have c33b0 : (t190 == 5) = false := beq_eq_false_iff_ne.mpr c33
            have c33b1 : (t190 != 5) = true := bne_iff_ne.mpr c33
            exact absurd ((Option.some.inj H).trans HT_r.out) (by decide)
          ·rw [if_neg c30] at H
           by_cases c34 : x60_1 = 7
           ·subst c34
            have H1 : ((stamp_Parse.f k1 (⟨#[197, 191]⟩ : ByteArray)).bind fun bt191 => (if bt191.2 = 5 then (postriderlaw09_StampKnown.l0 k1 (7 + 1) (⟨#[]⟩ : ByteArray) (⟨#[65]⟩ : ByteArray) (⟨#[65, 65, 65]⟩ : ByteArray) (⟨#[65, 49]⟩ : ByteArray) (⟨#[56, 65]⟩ : ByteArray) (⟨#[65, 32]⟩ : ByteArray) (⟨#[195, 164]⟩ : ByteArray) (⟨#[197, 191]⟩ : ByteArray)) else (some false))) = some r := by rw [if_pos rfl] at H; exact H
            clear H
            have H := H1
            clear H1
            replace H := Option.bind_eq_some_iff.mp H
            obtain ⟨⟨t191, t192⟩, A360, H⟩ := H
            replace H : (if t192 = 5 then (postriderlaw09_StampKnown.l0 k1 (7 + 1) (⟨#[]⟩ : ByteArray) (⟨#[65]⟩ : ByteArray) (⟨#[65, 65, 65]⟩ : ByteArray) (⟨#[65, 49]⟩ : ByteArray) (⟨#[56, 65]⟩ : ByteArray) (⟨#[65, 32]⟩ : ByteArray) (⟨#[195, 164]⟩ : ByteArray) (⟨#[197, 191]⟩ : ByteArray)) else (some false)) = some r := H
            have A36 := Aside0.mk A360
            clear A360
            by_cases c37 : t192 = 5
            ·rw [if_pos c37] at H
             have c37b0 : (t192 == 5) = true := beq_iff_eq.mpr c37
             have c37b1 : (t192 != 5) = false := bne_eq_false_iff_eq.mpr c37
             clear c37
             have H' := Aside0.mk H
             clear H
             have hx35 : ∀ W_ : World, (Instr.index 42 (.agg #[.string (⟨#[]⟩ : ByteArray), .string (⟨#[65]⟩ : ByteArray), .string (⟨#[65, 65, 65]⟩ : ByteArray), .string (⟨#[65, 49]⟩ : ByteArray), .string (⟨#[56, 65]⟩ : ByteArray), .string (⟨#[65, 32]⟩ : ByteArray), .string (⟨#[195, 164]⟩ : ByteArray), .string (⟨#[197, 191]⟩ : ByteArray)]) (.int .i64 7)).run Tryd.prog W_ = .ok (.string (⟨#[197, 191]⟩ : ByteArray)) W_ := fun _ => by kernel_rfl
             go_wp2_with (first | ((with_reducible refine gate_callee (f := 18) rfl ?_); refine goesL_ (some 65) rfl rfl Tryd.func18 (by kernel_rfl) rfl #[.string (⟨#[197, 191]⟩ : ByteArray)] rfl ml ?_; (with_reducible refine (stamp_Parse.calls k1 (⟨#[197, 191]⟩ : ByteArray) t191 t192 _ A36.out).mono ?_); rintro e w' ⟨rfl, ⟨nd, rfl⟩⟩; refine ⟨_, rfl, ?_⟩))
             go_roundg k1
             case measure => have := HK1.out; omega
             case rel => exact ⟨(7 + 1), (by first | rfl | (simp; done) | (simp [*]; done)), H', ⟨by have := HK1.out; omega⟩, ⟨by repeat (first | (with_reducible first | exact HB.out | apply below_alloc | apply pw_below_drewN | apply below_drew1) | exact HB.out)⟩⟩
            ·rw [if_neg c37] at H
             have c37b0 : (t192 == 5) = false := beq_eq_false_iff_ne.mpr c37
             have c37b1 : (t192 != 5) = true := bne_iff_ne.mpr c37
             exact absurd ((Option.some.inj H).trans HT_r.out) (by decide)
           ·rw [if_neg c34] at H
            exact absurd H (by simp)
   ·rw [if_neg c5] at H
    have c5b0 : decide (x60_1 < 8) = false := decide_eq_false c5
    clear c5
    replace H := Option.bind_eq_some_iff.mp H
    obtain ⟨t193, A380, H⟩ := H
    replace H : ((stamp_ParseDate.f k1 t193).bind fun bt194 => (if bt194.2 = 0 then (if bt194.1 = 1099511627776 then ((stamp_Date.f k1 (-5)).bind fun t196 => ((stamp_Date.f k1 0).bind fun t197 => (if t196.toList = t197.toList then ((stamp_Day.f (-1)).bind fun t198 => (if t198 = 0 then ((stamp_Day.f 4611686018427387904).bind fun t199 => (if t199 = 12725829 then ((stamp_Text.f (-3)).bind fun t200 => (if t200.toList = ([65, 65] : List UInt8) then ((stamp_Text.f 1024).bind fun t201 => (if t201.toList = ([65, 65] : List UInt8) then ((stamp_Age.f (-4) (-9)).bind fun t202 => (if t202 = 0 then ((stamp_Age.f 3 2).bind fun t203 => (if t203 = 1023 then ((stamp_Age.f 1025 1).bind fun t204 => (if t204 = 0 then ((postriderlaw09_wakes.f k1).bind fun t205 => (some t205)) else (some false))) else (some false))) else (some false))) else (some false))) else (some false))) else (some false))) else (some false))) else (some false)))) else (some false)) else (some false))) = some r := H
    have A38 := Aside0.mk A380
    clear A380
    replace H := Option.bind_eq_some_iff.mp H
    obtain ⟨⟨t194, t195⟩, A390, H⟩ := H
    replace H : (if t195 = 0 then (if t194 = 1099511627776 then ((stamp_Date.f k1 (-5)).bind fun t196 => ((stamp_Date.f k1 0).bind fun t197 => (if t196.toList = t197.toList then ((stamp_Day.f (-1)).bind fun t198 => (if t198 = 0 then ((stamp_Day.f 4611686018427387904).bind fun t199 => (if t199 = 12725829 then ((stamp_Text.f (-3)).bind fun t200 => (if t200.toList = ([65, 65] : List UInt8) then ((stamp_Text.f 1024).bind fun t201 => (if t201.toList = ([65, 65] : List UInt8) then ((stamp_Age.f (-4) (-9)).bind fun t202 => (if t202 = 0 then ((stamp_Age.f 3 2).bind fun t203 => (if t203 = 1023 then ((stamp_Age.f 1025 1).bind fun t204 => (if t204 = 0 then ((postriderlaw09_wakes.f k1).bind fun t205 => (some t205)) else (some false))) else (some false))) else (some false))) else (some false))) else (some false))) else (some false))) else (some false))) else (some false)))) else (some false)) else (some false)) = some r := H
    have A39 := Aside0.mk A390
    clear A390
    by_cases c40 : t195 = 0
    ·rw [if_pos c40] at H
     have c40b0 : (t195 == 0) = true := beq_iff_eq.mpr c40
     have c40b1 : (t195 != 0) = false := bne_eq_false_iff_eq.mpr c40
     clear c40
     by_cases c41 : t194 = 1099511627776
     ·rw [if_pos c41] at H
      have c41b0 : (t194 == 1099511627776) = true := beq_iff_eq.mpr c41
      have c41b1 : (t194 != 1099511627776) = false := bne_eq_false_iff_eq.mpr c41
      clear c41
      replace H := Option.bind_eq_some_iff.mp H
      obtain ⟨t196, A420, H⟩ := H
      replace H : ((stamp_Date.f k1 0).bind fun t197 => (if t196.toList = t197.toList then ((stamp_Day.f (-1)).bind fun t198 => (if t198 = 0 then ((stamp_Day.f 4611686018427387904).bind fun t199 => (if t199 = 12725829 then ((stamp_Text.f (-3)).bind fun t200 => (if t200.toList = ([65, 65] : List UInt8) then ((stamp_Text.f 1024).bind fun t201 => (if t201.toList = ([65, 65] : List UInt8) then ((stamp_Age.f (-4) (-9)).bind fun t202 => (if t202 = 0 then ((stamp_Age.f 3 2).bind fun t203 => (if t203 = 1023 then ((stamp_Age.f 1025 1).bind fun t204 => (if t204 = 0 then ((postriderlaw09_wakes.f k1).bind fun t205 => (some t205)) else (some false))) else (some false))) else (some false))) else (some false))) else (some false))) else (some false))) else (some false))) else (some false))) = some r := H
      have A42 := Aside0.mk A420
      clear A420
      replace H := Option.bind_eq_some_iff.mp H
      obtain ⟨t197, A430, H⟩ := H
      replace H : (if t196.toList = t197.toList then ((stamp_Day.f (-1)).bind fun t198 => (if t198 = 0 then ((stamp_Day.f 4611686018427387904).bind fun t199 => (if t199 = 12725829 then ((stamp_Text.f (-3)).bind fun t200 => (if t200.toList = ([65, 65] : List UInt8) then ((stamp_Text.f 1024).bind fun t201 => (if t201.toList = ([65, 65] : List UInt8) then ((stamp_Age.f (-4) (-9)).bind fun t202 => (if t202 = 0 then ((stamp_Age.f 3 2).bind fun t203 => (if t203 = 1023 then ((stamp_Age.f 1025 1).bind fun t204 => (if t204 = 0 then ((postriderlaw09_wakes.f k1).bind fun t205 => (some t205)) else (some false))) else (some false))) else (some false))) else (some false))) else (some false))) else (some false))) else (some false))) else (some false)) = some r := H
      have A43 := Aside0.mk A430
      clear A430
      by_cases c44 : t196.toList = t197.toList
      ·rw [if_pos c44] at H
       have c44b0 : (t196.toList == t197.toList) = true := beq_iff_eq.mpr c44
       have c44b1 : (t196.toList != t197.toList) = false := bne_eq_false_iff_eq.mpr c44
       clear c44
       replace H := Option.bind_eq_some_iff.mp H
       obtain ⟨t198, A450, H⟩ := H
       replace H : (if t198 = 0 then ((stamp_Day.f 4611686018427387904).bind fun t199 => (if t199 = 12725829 then ((stamp_Text.f (-3)).bind fun t200 => (if t200.toList = ([65, 65] : List UInt8) then ((stamp_Text.f 1024).bind fun t201 => (if t201.toList = ([65, 65] : List UInt8) then ((stamp_Age.f (-4) (-9)).bind fun t202 => (if t202 = 0 then ((stamp_Age.f 3 2).bind fun t203 => (if t203 = 1023 then ((stamp_Age.f 1025 1).bind fun t204 => (if t204 = 0 then ((postriderlaw09_wakes.f k1).bind fun t205 => (some t205)) else (some false))) else (some false))) else (some false))) else (some false))) else (some false))) else (some false))) else (some false)) = some r := H
       have A45 := Aside0.mk A450
       clear A450
       by_cases c46 : t198 = 0
       ·rw [if_pos c46] at H
        have c46b0 : (t198 == 0) = true := beq_iff_eq.mpr c46
        have c46b1 : (t198 != 0) = false := bne_eq_false_iff_eq.mpr c46
        clear c46
        replace H := Option.bind_eq_some_iff.mp H
        obtain ⟨t199, A470, H⟩ := H
        replace H : (if t199 = 12725829 then ((stamp_Text.f (-3)).bind fun t200 => (if t200.toList = ([65, 65] : List UInt8) then ((stamp_Text.f 1024).bind fun t201 => (if t201.toList = ([65, 65] : List UInt8) then ((stamp_Age.f (-4) (-9)).bind fun t202 => (if t202 = 0 then ((stamp_Age.f 3 2).bind fun t203 => (if t203 = 1023 then ((stamp_Age.f 1025 1).bind fun t204 => (if t204 = 0 then ((postriderlaw09_wakes.f k1).bind fun t205 => (some t205)) else (some false))) else (some false))) else (some false))) else (some false))) else (some false))) else (some false)) = some r := H
        have A47 := Aside0.mk A470
        clear A470
        by_cases c48 : t199 = 12725829
        ·rw [if_pos c48] at H
         have c48b0 : (t199 == 12725829) = true := beq_iff_eq.mpr c48
         have c48b1 : (t199 != 12725829) = false := bne_eq_false_iff_eq.mpr c48
         clear c48
         replace H := Option.bind_eq_some_iff.mp H
         obtain ⟨t200, A490, H⟩ := H
         replace H : (if t200.toList = ([65, 65] : List UInt8) then ((stamp_Text.f 1024).bind fun t201 => (if t201.toList = ([65, 65] : List UInt8) then ((stamp_Age.f (-4) (-9)).bind fun t202 => (if t202 = 0 then ((stamp_Age.f 3 2).bind fun t203 => (if t203 = 1023 then ((stamp_Age.f 1025 1).bind fun t204 => (if t204 = 0 then ((postriderlaw09_wakes.f k1).bind fun t205 => (some t205)) else (some false))) else (some false))) else (some false))) else (some false))) else (some false)) = some r := H
         have A49 := Aside0.mk A490
         clear A490
         by_cases c50 : t200.toList = ([65, 65] : List UInt8)
         ·rw [if_pos c50] at H
          have c50b0 : (t200.toList == ([65, 65] : List UInt8)) = true := beq_iff_eq.mpr c50
          have c50b1 : (t200.toList != ([65, 65] : List UInt8)) = false := bne_eq_false_iff_eq.mpr c50
          clear c50
          replace H := Option.bind_eq_some_iff.mp H
          obtain ⟨t201, A510, H⟩ := H
          replace H : (if t201.toList = ([65, 65] : List UInt8) then ((stamp_Age.f (-4) (-9)).bind fun t202 => (if t202 = 0 then ((stamp_Age.f 3 2).bind fun t203 => (if t203 = 1023 then ((stamp_Age.f 1025 1).bind fun t204 => (if t204 = 0 then ((postriderlaw09_wakes.f k1).bind fun t205 => (some t205)) else (some false))) else (some false))) else (some false))) else (some false)) = some r := H
          have A51 := Aside0.mk A510
          clear A510
          by_cases c52 : t201.toList = ([65, 65] : List UInt8)
          ·rw [if_pos c52] at H
           have c52b0 : (t201.toList == ([65, 65] : List UInt8)) = true := beq_iff_eq.mpr c52
           have c52b1 : (t201.toList != ([65, 65] : List UInt8)) = false := bne_eq_false_iff_eq.mpr c52
           clear c52
           replace H := Option.bind_eq_some_iff.mp H
           obtain ⟨t202, A530, H⟩ := H
           replace H : (if t202 = 0 then ((stamp_Age.f 3 2).bind fun t203 => (if t203 = 1023 then ((stamp_Age.f 1025 1).bind fun t204 => (if t204 = 0 then ((postriderlaw09_wakes.f k1).bind fun t205 => (some t205)) else (some false))) else (some false))) else (some false)) = some r := H
           have A53 := Aside0.mk A530
           clear A530
           by_cases c54 : t202 = 0
           ·rw [if_pos c54] at H
            have c54b0 : (t202 == 0) = true := beq_iff_eq.mpr c54
            have c54b1 : (t202 != 0) = false := bne_eq_false_iff_eq.mpr c54
            clear c54
            replace H := Option.bind_eq_some_iff.mp H
            obtain ⟨t203, A550, H⟩ := H
            replace H : (if t203 = 1023 then ((stamp_Age.f 1025 1).bind fun t204 => (if t204 = 0 then ((postriderlaw09_wakes.f k1).bind fun t205 => (some t205)) else (some false))) else (some false)) = some r := H
            have A55 := Aside0.mk A550
            clear A550
            by_cases c56 : t203 = 1023
            ·rw [if_pos c56] at H
             have c56b0 : (t203 == 1023) = true := beq_iff_eq.mpr c56
             have c56b1 : (t203 != 1023) = false := bne_eq_false_iff_eq.mpr c56
             clear c56
             replace H := Option.bind_eq_some_iff.mp H
             obtain ⟨t204, A570, H⟩ := H
             replace H : (if t204 = 0 then ((postriderlaw09_wakes.f k1).bind fun t205 => (some t205)) else (some false)) = some r := H
             have A57 := Aside0.mk A570
             clear A570
             by_cases c58 : t204 = 0
             ·rw [if_pos c58] at H
              have c58b0 : (t204 == 0) = true := beq_iff_eq.mpr c58
              have c58b1 : (t204 != 0) = false := bne_eq_false_iff_eq.mpr c58
              clear c58
              replace H := Option.bind_eq_some_iff.mp H
              obtain ⟨t205, A590, H⟩ := H
              replace H : (some t205) = some r := H
              have A59 := Aside0.mk A590
              clear A590
              obtain rfl := Option.some.inj H
              go_wp2_with (first | ((with_reducible refine gate_callee (f := 14) rfl ?_); refine goesL_ (some 72) rfl rfl Tryd.func14 (by kernel_rfl) rfl #[.int .i64 4611686018427387904] rfl ml ?_; (with_reducible refine (stamp_Date.calls k1 4611686018427387904 t193 _ ?side1 A38.out).mono ?_); (case side1 => exact Glob.below HG.out bl); rintro e w60 ⟨rfl, hb⟩; refine ⟨_, rfl, ?_⟩; have n0_ := Aside0.mk (below_step bl hb); clear HB; have HB := n0_; clear n0_; (try clear hb); (try clear hb2); (try clear hk); (try clear hi)) | ((with_reducible refine gate_callee (f := 21) rfl ?_); refine goesL_ (some 73) rfl rfl Tryd.func21 (by kernel_rfl) rfl #[.string t193] rfl ml ?_; (with_reducible refine (stamp_ParseDate.calls k1 t193 t194 t195 _ ?side1 A39.out).mono ?_); (case side1 => exact Glob.below HG.out bl); rintro e w61 ⟨rfl, hb⟩; refine ⟨_, rfl, ?_⟩; have n0_ := Aside0.mk (below_step bl hb); clear HB; have HB := n0_; clear n0_; (try clear hb); (try clear hb2); (try clear hk); (try clear hi)) | (go_at_call 14; (with_reducible refine (stamp_Date.calls k1 (-5) t196 _ ?side1 A42.out).mono ?_); (case side1 => exact Glob.below HG.out bl); rintro e w62 ⟨rfl, hb⟩; have n0_ := Aside0.mk (below_step bl hb); clear HB; have HB := n0_; clear n0_; (try clear hb); (try clear hb2); (try clear hk); (try clear hi)) | (go_at_call 14; (with_reducible refine (stamp_Date.calls k1 0 t197 _ ?side1 A43.out).mono ?_); (case side1 => exact Glob.below HG.out bl); rintro e w63 ⟨rfl, hb⟩; have n0_ := Aside0.mk (below_step bl hb); clear HB; have HB := n0_; clear n0_; (try clear hb); (try clear hb2); (try clear hk); (try clear hi)) | (go_at_call 8; (with_reducible refine (stamp_Day.calls (-1) t198 _ A45.out).mono ?_); rintro e w64 ⟨rfl, hb⟩; have n0_ := Aside0.mk (below_step bl hb); clear HB; have HB := n0_; clear n0_; (try clear hb); (try clear hb2); (try clear hk); (try clear hi)) | (go_at_call 8; (with_reducible refine (stamp_Day.calls 4611686018427387904 t199 _ A47.out).mono ?_); rintro e w65 ⟨rfl, hb⟩; have n0_ := Aside0.mk (below_step bl hb); clear HB; have HB := n0_; clear n0_; (try clear hb); (try clear hb2); (try clear hk); (try clear hi)) | (go_at_call 10; (with_reducible refine (stamp_Text.calls (-3) t200 _ A49.out).mono ?_); rintro e w66 ⟨rfl, hb⟩; have n0_ := Aside0.mk (below_step bl hb); clear HB; have HB := n0_; clear n0_; (try clear hb); (try clear hb2); (try clear hk); (try clear hi)) | (go_at_call 10; (with_reducible refine (stamp_Text.calls 1024 t201 _ A51.out).mono ?_); rintro e w67 ⟨rfl, hb⟩; have n0_ := Aside0.mk (below_step bl hb); clear HB; have HB := n0_; clear n0_; (try clear hb); (try clear hb2); (try clear hk); (try clear hi)) | (go_at_call 12; (with_reducible refine (stamp_Age.calls (-4) (-9) t202 _ A53.out).mono ?_); rintro e w68 ⟨rfl, hb⟩; have n0_ := Aside0.mk (below_step bl hb); clear HB; have HB := n0_; clear n0_; (try clear hb); (try clear hb2); (try clear hk); (try clear hi)) | (go_at_call 12; (with_reducible refine (stamp_Age.calls 3 2 t203 _ A55.out).mono ?_); rintro e w69 ⟨rfl, hb⟩; have n0_ := Aside0.mk (below_step bl hb); clear HB; have HB := n0_; clear n0_; (try clear hb); (try clear hb2); (try clear hk); (try clear hi)) | (go_at_call 12; (with_reducible refine (stamp_Age.calls 1025 1 t204 _ A57.out).mono ?_); rintro e w70 ⟨rfl, hb⟩; have n0_ := Aside0.mk (below_step bl hb); clear HB; have HB := n0_; clear n0_; (try clear hb); (try clear hb2); (try clear hk); (try clear hi)) | (go_at_call 16; (with_reducible refine (postriderlaw09_wakes.calls k1  t205 _ ?side1 A59.out).mono ?_); (case side1 => exact Glob.below HG.out bl); rintro e w71 ⟨rfl, hb⟩; have n0_ := Aside0.mk (below_step bl hb); clear HB; have HB := n0_; clear n0_; (try clear hb); (try clear hb2); (try clear hk); (try clear hi)))
              go_ret
              exact ⟨by first | rfl | (simp [bneNil]; done) | (simp [errW_none, errW_some] <;> rfl) | (simp [*, errW_none, errW_some] <;> rfl), by repeat (first | (with_reducible first | exact HB.out | apply below_alloc | apply pw_below_drewN | apply below_drew1) | exact HB.out)⟩
             ·rw [if_neg c58] at H
              have c58b0 : (t204 == 0) = false := beq_eq_false_iff_ne.mpr c58
              have c58b1 : (t204 != 0) = true := bne_iff_ne.mpr c58
              exact absurd ((Option.some.inj H).trans HT_r.out) (by decide)
            ·rw [if_neg c56] at H
             have c56b0 : (t203 == 1023) = false := beq_eq_false_iff_ne.mpr c56
             have c56b1 : (t203 != 1023) = true := bne_iff_ne.mpr c56
             exact absurd ((Option.some.inj H).trans HT_r.out) (by decide)
           ·rw [if_neg c54] at H
            have c54b0 : (t202 == 0) = false := beq_eq_false_iff_ne.mpr c54
            have c54b1 : (t202 != 0) = true := bne_iff_ne.mpr c54
            exact absurd ((Option.some.inj H).trans HT_r.out) (by decide)
          ·rw [if_neg c52] at H
           have c52b0 : (t201.toList == ([65, 65] : List UInt8)) = false := beq_eq_false_iff_ne.mpr c52
           have c52b1 : (t201.toList != ([65, 65] : List UInt8)) = true := bne_iff_ne.mpr c52
           exact absurd ((Option.some.inj H).trans HT_r.out) (by decide)
         ·rw [if_neg c50] at H
          have c50b0 : (t200.toList == ([65, 65] : List UInt8)) = false := beq_eq_false_iff_ne.mpr c50
          have c50b1 : (t200.toList != ([65, 65] : List UInt8)) = true := bne_iff_ne.mpr c50
          exact absurd ((Option.some.inj H).trans HT_r.out) (by decide)
        ·rw [if_neg c48] at H
         have c48b0 : (t199 == 12725829) = false := beq_eq_false_iff_ne.mpr c48
         have c48b1 : (t199 != 12725829) = true := bne_iff_ne.mpr c48
         exact absurd ((Option.some.inj H).trans HT_r.out) (by decide)
       ·rw [if_neg c46] at H
        have c46b0 : (t198 == 0) = false := beq_eq_false_iff_ne.mpr c46
        have c46b1 : (t198 != 0) = true := bne_iff_ne.mpr c46
        exact absurd ((Option.some.inj H).trans HT_r.out) (by decide)
      ·rw [if_neg c44] at H
       have c44b0 : (t196.toList == t197.toList) = false := beq_eq_false_iff_ne.mpr c44
       have c44b1 : (t196.toList != t197.toList) = true := bne_iff_ne.mpr c44
       exact absurd ((Option.some.inj H).trans HT_r.out) (by decide)
     ·rw [if_neg c41] at H
      have c41b0 : (t194 == 1099511627776) = false := beq_eq_false_iff_ne.mpr c41
      have c41b1 : (t194 != 1099511627776) = true := bne_iff_ne.mpr c41
      exact absurd ((Option.some.inj H).trans HT_r.out) (by decide)
    ·rw [if_neg c40] at H
     have c40b0 : (t195 == 0) = false := beq_eq_false_iff_ne.mpr c40
     have c40b1 : (t195 != 0) = true := bne_iff_ne.mpr c40
     exact absurd ((Option.some.inj H).trans HT_r.out) (by decide)

/-- THE ONE PURE STATEMENT of postriderlaw09_StampKnown: yours. -/
def postriderlaw09_StampKnown.Pure : Prop := ∃ k, postriderlaw09_StampKnown.f k  = some true
theorem postriderlaw09_StampKnown.walk (P : postriderlaw09_StampKnown.Pure)  (w : World)  (hG : Glob w) :
  Calls Tryd.prog 7 #[] w fun e w' => e = .returned (.bool true) ∧ Below w.heap.size w w' := by
 obtain ⟨k, h⟩ := P  
 refine (postriderlaw09_StampKnown.calls k  true w hG rfl h).mono ?_
 rintro e w' ⟨rfl, hd⟩
 exact ⟨rfl, hd⟩

end Go.Proofs.YtoigafnaoaafeaaDoor.Q
end
