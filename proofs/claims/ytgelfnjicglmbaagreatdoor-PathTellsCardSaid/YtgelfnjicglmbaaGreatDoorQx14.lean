/- Walks of functions. -/
import Derived.Test.YtgelfnjicglmbaaGreatDoorQx0
import Derived.Test.YtgelfnjicglmbaaGreatDoorQx11
import Derived.Test.YtgelfnjicglmbaaGreatDoorQx7
set_option linter.unusedSimpArgs false
set_option linter.unusedVariables false
open Go.RowKit Go.Proofs.YtgelfnjicglmbaaGreatDoorW.PrintWords Go.Proofs.YtgelfnjicglmbaaGreatDoorW.PrintLast Go.Proofs.YtgelfnjicglmbaaGreatDoorW.PrintMore
set_option maxHeartbeats 8000000
set_option maxRecDepth 100000
attribute [local go_sem] max2_int min2_int max_two min_two max_three min_three max_four min_four
section
namespace Go.Proofs.YtgelfnjicglmbaaGreatDoor.Q

/-! ### path_From: function 18 -/
mutual
def path_From.j0 : Nat → ByteArray → Int → Bool → Bool → Bool → List ByteArray → ByteArray → ByteArray → Option (Bool × Bool × List ByteArray × ByteArray × ByteArray × Bool × Bool × Int × Int)
 | 0, _, _, _, _, _, _, _, _ => none
 | k + 1, x6, x7, x20, x301000, x301001, x301002, x301003, x301004 => if x20 = true then (path_From.j1 k x6 5 x301000 x301001 x301002 x301003 x301004) else (path_From.j1 k x6 x7 x301000 x301001 x301002 x301003 x301004)
def path_From.j1 : Nat → ByteArray → Int → Bool → Bool → List ByteArray → ByteArray → ByteArray → Option (Bool × Bool × List ByteArray × ByteArray × ByteArray × Bool × Bool × Int × Int)
 | 0, _, _, _, _, _, _, _ => none
 | k + 1, x6, x7, x301000, x301001, x301002, x301003, x301004 => if x7 = 0 then ((path_ParseParams.f k x6).bind fun bt301 => (if bt301.2.2.2 = 0 then (some (x301000, x301001, x301002, x301003, x301004, bt301.1, bt301.2.1, bt301.2.2.1, 0)) else (some (false, false, ([] : List ByteArray), (⟨#[]⟩ : ByteArray), (⟨#[]⟩ : ByteArray), false, false, 0, bt301.2.2.2)))) else (some (false, false, ([] : List ByteArray), (⟨#[]⟩ : ByteArray), (⟨#[]⟩ : ByteArray), false, false, 0, x7))
end
def path_From.f (k : Nat) (a0 : ByteArray) : Option (Bool × Bool × List ByteArray × ByteArray × ByteArray × Bool × Bool × Int × Int) := (path_Parse.f k a0).bind fun bt291 => (if bt291.2.2.2.2.2.2 = 0 then (path_From.j0 k bt291.2.2.2.2.2.1 bt291.2.2.2.2.2.2 bt291.2.1 bt291.1 bt291.2.1 bt291.2.2.1 bt291.2.2.2.1 bt291.2.2.2.2.1) else (path_From.j0 k bt291.2.2.2.2.2.1 bt291.2.2.2.2.2.2 false bt291.1 bt291.2.1 bt291.2.2.1 bt291.2.2.2.1 bt291.2.2.2.2.1))
theorem path_From.mono_l : ∀ k, (∀ y0 y1 y2 y3 y4 y5 y6 y7, LeO (path_From.j0 k y0 y1 y2 y3 y4 y5 y6 y7) (path_From.j0 (k + 1) y0 y1 y2 y3 y4 y5 y6 y7)) ∧ (∀ y0 y1 y2 y3 y4 y5 y6, LeO (path_From.j1 k y0 y1 y2 y3 y4 y5 y6) (path_From.j1 (k + 1) y0 y1 y2 y3 y4 y5 y6))
 | 0 => ⟨fun _ _ _ _ _ _ _ _ r h => by simp [path_From.j0] at h, fun _ _ _ _ _ _ _ r h => by simp [path_From.j1] at h⟩
 | k + 1 => by
  obtain ⟨ih0, ih1⟩ := path_From.mono_l k
  refine ⟨?_, ?_⟩
  ·intro y0 y1 y2 y3 y4 y5 y6 y7
   unfold path_From.j0
   repeat' first
   | (with_reducible first | exact ih0 _ _ _ _ _ _ _ _ | exact ih1 _ _ _ _ _ _ _ | exact path_Parse.mono _ _ | exact path_ParseParams.mono _ _ | exact LeO.refl _ | exact LeO.none _ | refine LeO.ite ?_ ?_ | refine LeO.bind ?_ (fun _ => ?_))
  ·intro y0 y1 y2 y3 y4 y5 y6
   unfold path_From.j1
   repeat' first
   | (with_reducible first | exact ih0 _ _ _ _ _ _ _ _ | exact ih1 _ _ _ _ _ _ _ | exact path_Parse.mono _ _ | exact path_ParseParams.mono _ _ | exact LeO.refl _ | exact LeO.none _ | refine LeO.ite ?_ ?_ | refine LeO.bind ?_ (fun _ => ?_))
theorem path_From.mono : ∀ a0 k, LeO (path_From.f k a0) (path_From.f (k + 1) a0) := by
 intro a0 k
 obtain ⟨ih0, ih1⟩ := path_From.mono_l k
 unfold path_From.f
 repeat' first
   | (with_reducible first | exact ih0 _ _ _ _ _ _ _ _ | exact ih1 _ _ _ _ _ _ _ | exact path_Parse.mono _ _ | exact path_ParseParams.mono _ _ | exact LeO.refl _ | exact LeO.none _ | refine LeO.ite ?_ ?_ | refine LeO.bind ?_ (fun _ => ?_))
theorem path_From.calls (k : Nat) (a0 : ByteArray) (r1 : Bool) (r2 : Bool) (r3 : List ByteArray) (r4 : ByteArray) (r5 : ByteArray) (r6 : Bool) (r7 : Bool) (r8 : Int) (r9 : Int) (w : World) (hG : Glob w) (h : path_From.f k a0 = some (r1, r2, r3, r4, r5, r6, r7, r8, r9)) :
  Calls Tryz.prog 18 #[.string a0] w fun e w' => ∃ v2_ : Value, e = .returned (.tuple #[.agg #[.bool r1, .bool r2, v2_, .string r4, .string r5], .agg #[.bool r6, .bool r7, .int .i64 r8], .int .i64 r9]) ∧ Kd.R Kd.string 9 w' w.heap.size (fun _ => True) v2_ r3 ∧ Below w.heap.size w w' := by
 have hu26 := Tryz.underlying26
 have hu46 := Tryz.underlying46
 have HB := Aside0.mk (Below.refl w.heap.size w)
 have HG := Aside0.mk hG
 clear hG
 have H : ((path_Parse.f k a0).bind fun bt291 => (if bt291.2.2.2.2.2.2 = 0 then (path_From.j0 k bt291.2.2.2.2.2.1 bt291.2.2.2.2.2.2 bt291.2.1 bt291.1 bt291.2.1 bt291.2.2.1 bt291.2.2.2.1 bt291.2.2.2.2.1) else (path_From.j0 k bt291.2.2.2.2.2.1 bt291.2.2.2.2.2.2 false bt291.1 bt291.2.1 bt291.2.2.1 bt291.2.2.2.1 bt291.2.2.2.2.1))) = some (r1, r2, r3, r4, r5, r6, r7, r8, r9) := h
 clear h
 obtain ⟨⟨t291, t292, t293, t296, t297, t298, t299⟩, A20, H⟩ := Option.bind_eq_some_iff.mp H
 replace H : (if t299 = 0 then (path_From.j0 k t298 t299 t292 t291 t292 t293 t296 t297) else (path_From.j0 k t298 t299 false t291 t292 t293 t296 t297)) = some (r1, r2, r3, r4, r5, r6, r7, r8, r9) := H
 have A2 := Aside0.mk A20
 clear A20
 have HC3 := Aside0.mk H
 clear H
 go_enter Tryz.func18, Tryz.ntmps18
 go_upto_region 2 with (first | ((with_reducible refine gate_dst (N := 2) rfl ?_); refine box_event ?hg (N := 2) ?hd (cs := #[.bool false, .bool false, .slice none 0 0, .string (⟨#[]⟩ : ByteArray), .string (⟨#[]⟩ : ByteArray)]) (t := 26) ?hr ?_; (case hd => rfl); (case hg => rfl); (case hr => first | (go_simp; done) | (go_simp; rfl)); intro gb289 hg w4 hbox hb; have BK289 := Aside0.mk (hbox); have GW289 := Aside0.mk (gz hg : w.heap.size ≤ gb289); have GE289 := Aside0.mk (gz hg : w.heap.size ≤ gb289); replace HB := Aside0.mk (below_step bl hb); clear hb hbox hg) | ((with_reducible refine gate_dst (N := 3) rfl ?_); refine box_event ?hg (N := 3) ?hd (cs := #[.bool false, .bool false, .int .i64 0]) (t := 46) ?hr ?_; (case hd => rfl); (case hg => rfl); (case hr => first | (go_simp; done) | (go_simp; rfl)); intro gb290 hg w5 hbox hb; have BK290 := Aside0.mk (hbox); have GW290 := Aside0.mk (gz hg : w.heap.size ≤ gb290); have GE290 := Aside0.mk (gz hg : w.heap.size ≤ gb290); replace HB := Aside0.mk (below_step bl hb); have NB289_290 := Aside0.mk (nl hg BK289.out : gb289 ≠ gb290); have NB290_289 := Aside0.mk (ng hg BK289.out : gb290 ≠ gb289); replace BK289 := Aside0.mk (kb BK289.out hb); clear hb hbox hg) | ((with_reducible refine gate_callee (f := 13) rfl ?_); refine goesL_ (some 11) rfl rfl Tryz.func13 kf rfl #[.string a0] rfl ml ?_; (with_reducible refine (path_Parse.calls k a0 t291 t292 t293 t296 t297 t298 t299 _ ?side1 A2.out).mono ?_); (case side1 => exact Glob.below HG.out bl); rintro e w6 ⟨v294, rfl, ho0, hb⟩; refine ⟨_, rfl, ?_⟩; have HO295 := Aside0.mk (Kd.R_lower ho0 (below_size bl)); replace BK289 := Aside0.mk (kb BK289.out hb); replace BK290 := Aside0.mk (kb BK290.out hb); replace HB := Aside0.mk (below_step bl hb); (try clear hb); (try clear hb2); (try clear hk); (try clear hi); (try clear ho0)) | ((with_reducible refine gate_dst (N := 5) rfl ?_); refine box_event ?hg (N := 5) ?hd (cs := #[.bool false, .bool false, .slice none 0 0, .string (⟨#[]⟩ : ByteArray), .string (⟨#[]⟩ : ByteArray)]) (t := 26) ?hr ?_; (case hd => rfl); (case hg => rfl); (case hr => first | (go_simp; done) | (go_simp; rfl)); intro gb300 hg w7 hbox hb; replace HO295 := Aside0.mk (Kd.R_below (kr HO295.out) hb); have BK300 := Aside0.mk (hbox); have GW300 := Aside0.mk (gz hg : w.heap.size ≤ gb300); have GE300 := Aside0.mk (gz hg : w.heap.size ≤ gb300); replace HB := Aside0.mk (below_step bl hb); have NB289_300 := Aside0.mk (nl hg BK289.out : gb289 ≠ gb300); have NB300_289 := Aside0.mk (ng hg BK289.out : gb300 ≠ gb289); replace BK289 := Aside0.mk (kb BK289.out hb); have NB290_300 := Aside0.mk (nl hg BK290.out : gb290 ≠ gb300); have NB300_290 := Aside0.mk (ng hg BK290.out : gb300 ≠ gb290); replace BK290 := Aside0.mk (kb BK290.out hb); clear hb hbox hg; have hnb8 := NB300_289.out; have hnc8 := NB289_300.out; have hnb9 := NB300_290.out; have hnc9 := NB290_300.out; have hcz10_0 := cz BK300.out 0 (.bool false); have hcz10_1 := cz BK300.out 1 (.bool false); have hcz10_2 := cz BK300.out 2 (.slice none 0 0); have hcz10_3 := cz BK300.out 3 (.string (⟨#[]⟩ : ByteArray)); have hcz10_4 := cz BK300.out 4 (.string (⟨#[]⟩ : ByteArray)); have hfz10_0 := blk_frozen BK300.out 0; have hfz10_1 := blk_frozen BK300.out 1; have hfz10_2 := blk_frozen BK300.out 2; have hfz10_3 := blk_frozen BK300.out 3; have hfz10_4 := blk_frozen BK300.out 4; obtain ⟨Ao11, co11, eo11⟩ := Kd.R_slice HO295.out; subst eo11))
 (try simp only [Act.put, sA, sB, sC])
 go_cut [20] (fun v20 wc => ∃ (kq : Nat) (x20_2 : Bool), v20 = .bool x20_2 ∧ Aside0 (path_From.j0 kq t298 t299 x20_2 t291 t292 t293 t296 t297 = some (r1, r2, r3, r4, r5, r6, r7, r8, r9)) ∧ Aside0 (kq ≤ k) ∧ Aside0 (Kd.R Kd.string 9 wc w.heap.size (fun _ => True) (.slice Ao11 t293.length co11) t293) ∧ Aside0 (wc.heap[gb289]? = some (.cells #[.bool false, .bool false, (.slice none 0 0), .string (⟨#[]⟩ : ByteArray), .string (⟨#[]⟩ : ByteArray)] 26 (0, 0))) ∧ Aside0 (wc.heap[gb290]? = some (.cells #[.bool false, .bool false, .int .i64 0] 46 (0, 0))) ∧ Aside0 (wc.heap[gb300]? = some (.cells #[.bool t291, .bool t292, (.slice Ao11 t293.length co11), .string t296, .string t297] 26 (0, 0))) ∧ Aside0 (Below w.heap.size w wc))
 case first =>
  have H := HC3.out
  clear HC3
  by_cases c12 : t299 = 0
  ·rw [if_pos c12] at H
   have c12b0 : (t299 == 0) = true := beq_iff_eq.mpr c12
   have c12b1 : (t299 != 0) = false := bne_eq_false_iff_eq.mpr c12
   clear c12
   (first | rw [c12b0] | (simp only [i64_w, i32_w]; rw [c12b0]) | skip)
   have H' := Aside0.mk H
   clear H
   have hnb13 := NB300_289.out
   have hnc13 := NB289_300.out
   have hnb14 := NB300_290.out
   have hnc14 := NB290_300.out
   have hcz15_0 := cz BK300.out 0 (.bool false)
   have hcz15_1 := cz BK300.out 1 (.bool false)
   have hcz15_2 := cz BK300.out 2 (.slice none 0 0)
   have hcz15_3 := cz BK300.out 3 (.string (⟨#[]⟩ : ByteArray))
   have hcz15_4 := cz BK300.out 4 (.string (⟨#[]⟩ : ByteArray))
   have hfz15_0 := blk_frozen BK300.out 0
   have hfz15_1 := blk_frozen BK300.out 1
   have hfz15_2 := blk_frozen BK300.out 2
   have hfz15_3 := blk_frozen BK300.out 3
   have hfz15_4 := blk_frozen BK300.out 4
   go_wp2
   go_meet
   case rel => exact ⟨_, (t292), rs, H', ⟨by first | omega | exact Nat.le_refl _⟩, ⟨by (with_reducible repeat (first | apply Kd.R_alloc | apply Kd.R_drewN | apply Kd.R_drew)); exact Kd.R_mono (Kd.R_far (p := ⟨gb300, 4, none⟩) (Kd.R_far (p := ⟨gb300, 3, none⟩) (Kd.R_far (p := ⟨gb300, 2, none⟩) (Kd.R_far (p := ⟨gb300, 1, none⟩) (Kd.R_far (p := ⟨gb300, 0, none⟩) (Kd.R_types HO295.out BK300.out (by decide)) (fun _ hk => hk.2) (.bool t291)) (fun _ hk => hk.2) (.bool t292)) (fun _ hk => hk.2) (.slice Ao11 t293.length co11)) (fun _ hk => hk.2) (.string t296)) (fun _ hk => hk.2) (.string t297)) (fun _ hk => trivial)⟩, ⟨bk BK289.out⟩, ⟨bk BK290.out⟩, ⟨by (with_reducible repeat (first | refine blk_drewN ?_ _ | refine blk_drew ?_ | refine blk_alloc ?_ _)); refine blk_put (cs := #[.bool t291, .bool t292, .slice Ao11 t293.length co11, .string t296, .string (⟨#[]⟩ : ByteArray)]) ?_ 4 _ rfl; (with_reducible repeat (first | refine blk_drewN ?_ _ | refine blk_drew ?_ | refine blk_alloc ?_ _)); refine blk_put (cs := #[.bool t291, .bool t292, .slice Ao11 t293.length co11, .string (⟨#[]⟩ : ByteArray), .string (⟨#[]⟩ : ByteArray)]) ?_ 3 _ rfl; (with_reducible repeat (first | refine blk_drewN ?_ _ | refine blk_drew ?_ | refine blk_alloc ?_ _)); refine blk_put (cs := #[.bool t291, .bool t292, .slice none 0 0, .string (⟨#[]⟩ : ByteArray), .string (⟨#[]⟩ : ByteArray)]) ?_ 2 _ rfl; (with_reducible repeat (first | refine blk_drewN ?_ _ | refine blk_drew ?_ | refine blk_alloc ?_ _)); refine blk_put (cs := #[.bool t291, .bool false, .slice none 0 0, .string (⟨#[]⟩ : ByteArray), .string (⟨#[]⟩ : ByteArray)]) ?_ 1 _ rfl; (with_reducible repeat (first | refine blk_drewN ?_ _ | refine blk_drew ?_ | refine blk_alloc ?_ _)); refine blk_put (cs := #[.bool false, .bool false, .slice none 0 0, .string (⟨#[]⟩ : ByteArray), .string (⟨#[]⟩ : ByteArray)]) ?_ 0 _ rfl; (with_reducible repeat (first | refine blk_drewN ?_ _ | refine blk_drew ?_ | refine blk_alloc ?_ _)); exact BK300.out⟩, ⟨bl⟩⟩
  ·rw [if_neg c12] at H
   have c12b0 : (t299 == 0) = false := beq_eq_false_iff_ne.mpr c12
   have c12b1 : (t299 != 0) = true := bne_iff_ne.mpr c12
   (first | rw [c12b0] | (simp only [i64_w, i32_w]; rw [c12b0]) | skip)
   have H' := Aside0.mk H
   clear H
   go_wp2
   go_meet
   case rel => exact ⟨_, (false), rs, H', ⟨by first | omega | exact Nat.le_refl _⟩, ⟨by (with_reducible repeat (first | apply Kd.R_alloc | apply Kd.R_drewN | apply Kd.R_drew)); exact Kd.R_mono (Kd.R_far (p := ⟨gb300, 4, none⟩) (Kd.R_far (p := ⟨gb300, 3, none⟩) (Kd.R_far (p := ⟨gb300, 2, none⟩) (Kd.R_far (p := ⟨gb300, 1, none⟩) (Kd.R_far (p := ⟨gb300, 0, none⟩) (Kd.R_types HO295.out BK300.out (by decide)) (fun _ hk => hk.2) (.bool t291)) (fun _ hk => hk.2) (.bool t292)) (fun _ hk => hk.2) (.slice Ao11 t293.length co11)) (fun _ hk => hk.2) (.string t296)) (fun _ hk => hk.2) (.string t297)) (fun _ hk => trivial)⟩, ⟨bk BK289.out⟩, ⟨bk BK290.out⟩, ⟨by (with_reducible repeat (first | refine blk_drewN ?_ _ | refine blk_drew ?_ | refine blk_alloc ?_ _)); refine blk_put (cs := #[.bool t291, .bool t292, .slice Ao11 t293.length co11, .string t296, .string (⟨#[]⟩ : ByteArray)]) ?_ 4 _ rfl; (with_reducible repeat (first | refine blk_drewN ?_ _ | refine blk_drew ?_ | refine blk_alloc ?_ _)); refine blk_put (cs := #[.bool t291, .bool t292, .slice Ao11 t293.length co11, .string (⟨#[]⟩ : ByteArray), .string (⟨#[]⟩ : ByteArray)]) ?_ 3 _ rfl; (with_reducible repeat (first | refine blk_drewN ?_ _ | refine blk_drew ?_ | refine blk_alloc ?_ _)); refine blk_put (cs := #[.bool t291, .bool t292, .slice none 0 0, .string (⟨#[]⟩ : ByteArray), .string (⟨#[]⟩ : ByteArray)]) ?_ 2 _ rfl; (with_reducible repeat (first | refine blk_drewN ?_ _ | refine blk_drew ?_ | refine blk_alloc ?_ _)); refine blk_put (cs := #[.bool t291, .bool false, .slice none 0 0, .string (⟨#[]⟩ : ByteArray), .string (⟨#[]⟩ : ByteArray)]) ?_ 1 _ rfl; (with_reducible repeat (first | refine blk_drewN ?_ _ | refine blk_drew ?_ | refine blk_alloc ?_ _)); refine blk_put (cs := #[.bool false, .bool false, .slice none 0 0, .string (⟨#[]⟩ : ByteArray), .string (⟨#[]⟩ : ByteArray)]) ?_ 0 _ rfl; (with_reducible repeat (first | refine blk_drewN ?_ _ | refine blk_drew ?_ | refine blk_alloc ?_ _)); exact BK300.out⟩, ⟨bl⟩⟩
 case rest =>
  clear HC3
  try clear c1
  try clear p2
  try clear c8
  try clear c9
  try clear c12
  try clear c12b0
  try clear c12b1
  try clear c13
  try clear c14
  try clear hcz10_0
  try clear hcz10_1
  try clear hcz10_2
  try clear hcz10_3
  try clear hcz10_4
  try clear hcz15_0
  try clear hcz15_1
  try clear hcz15_2
  try clear hcz15_3
  try clear hcz15_4
  try clear hfz10_0
  try clear hfz10_1
  try clear hfz10_2
  try clear hfz10_3
  try clear hfz10_4
  try clear hfz15_0
  try clear hfz15_1
  try clear hfz15_2
  try clear hfz15_3
  try clear hfz15_4
  obtain ⟨kq, x20_2, rfl, HA, HJ2, HO_301002, BK289, BK290, BK300, HB⟩ := hcut
  cases kq with
  | zero => exact absurd HA.out (by simp [path_From.j0])
  | succ kj2 =>
   have H := HA.out
   clear HA
   simp only [path_From.j0] at H
   have HC16 := Aside0.mk H
   clear H
   go_upto_if 20 with (fail)
   go_cut [7] (fun v7 wc => ∃ (kq : Nat) (x7_15 : Int), v7 = .int .i64 x7_15 ∧ Aside0 (path_From.j1 kq t298 x7_15 t291 t292 t293 t296 t297 = some (r1, r2, r3, r4, r5, r6, r7, r8, r9)) ∧ Aside0 (kq ≤ kj2) ∧ Aside0 (Kd.R Kd.string 9 wc w.heap.size (fun _ => True) (.slice Ao11 t293.length co11) t293) ∧ Aside0 (wc.heap[gb289]? = some (.cells #[.bool false, .bool false, (.slice none 0 0), .string (⟨#[]⟩ : ByteArray), .string (⟨#[]⟩ : ByteArray)] 26 (0, 0))) ∧ Aside0 (wc.heap[gb290]? = some (.cells #[.bool false, .bool false, .int .i64 0] 46 (0, 0))) ∧ Aside0 (wc.heap[gb300]? = some (.cells #[.bool t291, .bool t292, (.slice Ao11 t293.length co11), .string t296, .string t297] 26 (0, 0))) ∧ Aside0 (Below w.heap.size w wc))
   case first =>
    have H := HC16.out
    clear HC16
    by_cases c17 : x20_2 = true
    ·subst c17
     replace H : (path_From.j1 kj2 t298 5 t291 t292 t293 t296 t297) = some (r1, r2, r3, r4, r5, r6, r7, r8, r9) := by rw [if_pos rfl] at H; exact H
     have H' := Aside0.mk H
     clear H
     go_wp2
     go_meet
     case rel => exact ⟨_, (5), rs, H', ⟨by have := HJ2.out; first | omega | exact Nat.le_refl _⟩, ⟨kr HO_301002.out⟩, ⟨bk BK289.out⟩, ⟨bk BK290.out⟩, ⟨bk BK300.out⟩, ⟨bl⟩⟩
    ·replace c17 := Bool.eq_false_iff.mpr c17
     subst c17
     replace H : (path_From.j1 kj2 t298 t299 t291 t292 t293 t296 t297) = some (r1, r2, r3, r4, r5, r6, r7, r8, r9) := by rw [if_neg (show ¬ (false = true) by decide)] at H; exact H
     have H' := Aside0.mk H
     clear H
     go_wp2
     go_meet
     case rel => exact ⟨_, (t299), rs, H', ⟨by have := HJ2.out; first | omega | exact Nat.le_refl _⟩, ⟨kr HO_301002.out⟩, ⟨bk BK289.out⟩, ⟨bk BK290.out⟩, ⟨bk BK300.out⟩, ⟨bl⟩⟩
   case rest =>
    clear HC16
    try clear c1
    try clear p2
    try clear c8
    try clear c9
    try clear c12
    try clear c12b0
    try clear c12b1
    try clear c13
    try clear c14
    try clear c17
    try clear hcz10_0
    try clear hcz10_1
    try clear hcz10_2
    try clear hcz10_3
    try clear hcz10_4
    try clear hcz15_0
    try clear hcz15_1
    try clear hcz15_2
    try clear hcz15_3
    try clear hcz15_4
    try clear hfz10_0
    try clear hfz10_1
    try clear hfz10_2
    try clear hfz10_3
    try clear hfz10_4
    try clear hfz15_0
    try clear hfz15_1
    try clear hfz15_2
    try clear hfz15_3
    try clear hfz15_4
    try clear p2
    obtain ⟨kq, x7_15, rfl, HA, HJ15, HO_301002, BK289, BK290, BK300, HB⟩ := hcut
    cases kq with
    | zero => exact absurd HA.out (by simp [path_From.j1])
    | succ kj15 =>
     have H := HA.out
     clear HA
     simp only [path_From.j1] at H
     by_cases c18 : x7_15 = 0
     ·rw [if_pos c18] at H
      have c18b0 : (x7_15 == 0) = true := beq_iff_eq.mpr c18
      have c18b1 : (x7_15 != 0) = false := bne_eq_false_iff_eq.mpr c18
      clear c18
      obtain ⟨⟨t301, t302, t303, t304⟩, A190, H⟩ := Option.bind_eq_some_iff.mp H
      replace H : (if t304 = 0 then (some (t291, t292, t293, t296, t297, t301, t302, t303, 0)) else (some (false, false, ([] : List ByteArray), (⟨#[]⟩ : ByteArray), (⟨#[]⟩ : ByteArray), false, false, 0, t304))) = some (r1, r2, r3, r4, r5, r6, r7, r8, r9) := H
      have A19 := Aside0.mk A190
      clear A190
      by_cases c20 : t304 = 0
      ·rw [if_pos c20] at H
       have c20b0 : (t304 == 0) = true := beq_iff_eq.mpr c20
       have c20b1 : (t304 != 0) = false := bne_eq_false_iff_eq.mpr c20
       clear c20
       simp only [Option.some.injEq, Prod.mk.injEq] at H
       obtain ⟨rfl, rfl, rfl, rfl, rfl, rfl, rfl, rfl, rfl⟩ := H
       try go_wp2_with (first | ((with_reducible refine gate_callee (f := 17) rfl ?_); refine goesL_ (some 28) rfl rfl Tryz.func17 kf rfl #[.string t298] rfl ml ?_; (with_reducible refine (path_ParseParams.calls kj15 t298 t301 t302 t303 t304 _ ?side1 A19.out).mono ?_); (case side1 => exact Glob.below HG.out bl); rintro e w21 ⟨rfl, hb⟩; refine ⟨_, rfl, ?_⟩; replace HO_301002 := Aside0.mk (Kd.R_below (kr HO_301002.out) hb); replace BK289 := Aside0.mk (kb BK289.out hb); replace BK290 := Aside0.mk (kb BK290.out hb); replace BK300 := Aside0.mk (kb BK300.out hb); replace HB := Aside0.mk (below_step bl hb); (try clear hb); (try clear hb2); (try clear hk); (try clear hi)) | ((with_reducible refine gate_dst (N := 8) rfl ?_); refine box_event ?hg (N := 8) ?hd (cs := #[.bool false, .bool false, .int .i64 0]) (t := 46) ?hr ?_; (case hd => rfl); (case hg => rfl); (case hr => first | (go_simp; done) | (go_simp; rfl)); intro gb305 hg w22 hbox hb; replace HO_301002 := Aside0.mk (Kd.R_below (kr HO_301002.out) hb); have BK305 := Aside0.mk (hbox); have GW305 := Aside0.mk (gz hg : w.heap.size ≤ gb305); have GE305 := Aside0.mk (gz hg : w.heap.size ≤ gb305); replace HB := Aside0.mk (below_step bl hb); have NB289_305 := Aside0.mk (nl hg BK289.out : gb289 ≠ gb305); have NB305_289 := Aside0.mk (ng hg BK289.out : gb305 ≠ gb289); replace BK289 := Aside0.mk (kb BK289.out hb); have NB290_305 := Aside0.mk (nl hg BK290.out : gb290 ≠ gb305); have NB305_290 := Aside0.mk (ng hg BK290.out : gb305 ≠ gb290); replace BK290 := Aside0.mk (kb BK290.out hb); have NB300_305 := Aside0.mk (nl hg BK300.out : gb300 ≠ gb305); have NB305_300 := Aside0.mk (ng hg BK300.out : gb305 ≠ gb300); replace BK300 := Aside0.mk (kb BK300.out hb); clear hb hbox hg; have hnb23 := NB305_289.out; have hnc23 := NB289_305.out; have hnb24 := NB305_290.out; have hnc24 := NB290_305.out; have hnb25 := NB305_300.out; have hnc25 := NB300_305.out; have hcz26_0 := cz BK305.out 0 (.bool false); have hcz26_1 := cz BK305.out 1 (.bool false); have hcz26_2 := cz BK305.out 2 (.int .i64 0); have hfz26_0 := blk_frozen BK305.out 0; have hfz26_1 := blk_frozen BK305.out 1; have hfz26_2 := blk_frozen BK305.out 2))
       have n0_ : Aside0 (Kd.R Kd.string 9 (((w22.setCell ⟨gb305, 0, none⟩ (.bool t301)).setCell ⟨gb305, 1, none⟩ (.bool t302)).setCell ⟨gb305, 2, none⟩ (.int .i64 t303)) w.heap.size (fun _ => True) (.slice Ao11 t293.length co11) t293) := ⟨by (with_reducible repeat (first | apply Kd.R_alloc | apply Kd.R_drewN | apply Kd.R_drew)); exact Kd.R_mono (Kd.R_far (p := ⟨gb305, 2, none⟩) (Kd.R_far (p := ⟨gb305, 1, none⟩) (Kd.R_far (p := ⟨gb305, 0, none⟩) (Kd.R_types HO_301002.out BK305.out (by decide)) (fun _ hk => hk.2) (.bool t301)) (fun _ hk => hk.2) (.bool t302)) (fun _ hk => hk.2) (.int .i64 t303)) (fun _ hk => trivial)⟩
       have n1_ : Aside0 ((((w22.setCell ⟨gb305, 0, none⟩ (.bool t301)).setCell ⟨gb305, 1, none⟩ (.bool t302)).setCell ⟨gb305, 2, none⟩ (.int .i64 t303)).heap[gb289]? = some (.cells #[.bool false, .bool false, .slice none 0 0, .string (⟨#[]⟩ : ByteArray), .string (⟨#[]⟩ : ByteArray)] 26 (0, 0))) := ⟨bk BK289.out⟩
       have n2_ : Aside0 ((((w22.setCell ⟨gb305, 0, none⟩ (.bool t301)).setCell ⟨gb305, 1, none⟩ (.bool t302)).setCell ⟨gb305, 2, none⟩ (.int .i64 t303)).heap[gb290]? = some (.cells #[.bool false, .bool false, .int .i64 0] 46 (0, 0))) := ⟨bk BK290.out⟩
       have n3_ : Aside0 ((((w22.setCell ⟨gb305, 0, none⟩ (.bool t301)).setCell ⟨gb305, 1, none⟩ (.bool t302)).setCell ⟨gb305, 2, none⟩ (.int .i64 t303)).heap[gb300]? = some (.cells #[.bool t291, .bool t292, .slice Ao11 t293.length co11, .string t296, .string t297] 26 (0, 0))) := ⟨bk BK300.out⟩
       have n4_ : Aside0 ((((w22.setCell ⟨gb305, 0, none⟩ (.bool t301)).setCell ⟨gb305, 1, none⟩ (.bool t302)).setCell ⟨gb305, 2, none⟩ (.int .i64 t303)).heap[gb305]? = some (.cells #[.bool t301, .bool t302, .int .i64 t303] 46 (0, 0))) := ⟨by (with_reducible repeat (first | refine blk_drewN ?_ _ | refine blk_drew ?_ | refine blk_alloc ?_ _)); refine blk_put (cs := #[.bool t301, .bool t302, .int .i64 0]) ?_ 2 _ rfl; (with_reducible repeat (first | refine blk_drewN ?_ _ | refine blk_drew ?_ | refine blk_alloc ?_ _)); refine blk_put (cs := #[.bool t301, .bool false, .int .i64 0]) ?_ 1 _ rfl; (with_reducible repeat (first | refine blk_drewN ?_ _ | refine blk_drew ?_ | refine blk_alloc ?_ _)); refine blk_put (cs := #[.bool false, .bool false, .int .i64 0]) ?_ 0 _ rfl; (with_reducible repeat (first | refine blk_drewN ?_ _ | refine blk_drew ?_ | refine blk_alloc ?_ _)); exact BK305.out⟩
       have n5_ : Aside0 (Below w.heap.size w (((w22.setCell ⟨gb305, 0, none⟩ (.bool t301)).setCell ⟨gb305, 1, none⟩ (.bool t302)).setCell ⟨gb305, 2, none⟩ (.int .i64 t303))) := ⟨bl⟩
       (try clear HO_301002)
       (try clear BK289)
       (try clear BK290)
       (try clear BK300)
       (try clear BK305)
       (try clear HB)
       generalize (((w22.setCell ⟨gb305, 0, none⟩ (.bool t301)).setCell ⟨gb305, 1, none⟩ (.bool t302)).setCell ⟨gb305, 2, none⟩ (.int .i64 t303)) = w27 at n0_ n1_ n2_ n3_ n4_ n5_ ⊢
       have HO_301002 := n0_
       have BK289 := n1_
       have BK290 := n2_
       have BK300 := n3_
       have BK305 := n4_
       have HB := n5_
       clear n0_ n1_ n2_ n3_ n4_ n5_
       replace HO_301002 := Aside0.mk (Kd.R_drew HO_301002.out)
       replace BK289 := Aside0.mk (blk_drew BK289.out)
       replace BK290 := Aside0.mk (blk_drew BK290.out)
       replace BK300 := Aside0.mk (blk_drew BK300.out)
       replace BK305 := Aside0.mk (blk_drew BK305.out)
       replace HB := Aside0.mk (below_drew1 HB.out)
       refine start_ (n := 5) (S := fun w' => w'.cell? ⟨gb300, 0, none⟩ = some (.bool t291) ∧ w'.cell? ⟨gb300, 1, none⟩ = some (.bool t292) ∧ w'.cell? ⟨gb300, 2, none⟩ = some (.slice Ao11 t293.length co11) ∧ w'.cell? ⟨gb300, 3, none⟩ = some (.string t296) ∧ w'.cell? ⟨gb300, 4, none⟩ = some (.string t297) ∧ w'.cell? ⟨gb305, 0, none⟩ = some (.bool t301) ∧ w'.cell? ⟨gb305, 1, none⟩ = some (.bool t302) ∧ w'.cell? ⟨gb305, 2, none⟩ = some (.int .i64 t303)) (ds := []) #[false, false, false, false, false] kf rfl rfl ⟨(blk_cell BK300.out 0).trans rfl, (blk_cell BK300.out 1).trans rfl, (blk_cell BK300.out 2).trans rfl, (blk_cell BK300.out 3).trans rfl, (blk_cell BK300.out 4).trans rfl, (blk_cell BK305.out 0).trans rfl, (blk_cell BK305.out 1).trans rfl, (blk_cell BK305.out 2).trans rfl⟩ (fun hHeld => ?_)
       generalize w27.drew = w28 at HO_301002 BK289 BK290 BK300 BK305 HB hHeld ⊢
       refine take_ (i := 0) (N := some 36) (v := ?_) (a' := ?_) #[true, false, false, false, false] rfl rfl kf (fun _ _ _ h => h) (Or.inl ⟨by rfl, ?_⟩) hHeld ?_ ?_
       rotate_left
       ·rintro w' ⟨s0, s1, s2, s3, s4, s5, s6, s7⟩
        go_simp
        with_reducible rfl
       rotate_left
       ·simp only [Act.put, sA, sB, sC, i64_w, i32_w]
        rfl
       refine take_ (i := 1) (N := some 37) (v := ?_) (a' := ?_) #[true, true, false, false, false] rfl rfl kf (fun _ _ _ h => h) (Or.inl ⟨by rfl, ?_⟩) hHeld ?_ ?_
       rotate_left
       ·rintro w' ⟨s0, s1, s2, s3, s4, s5, s6, s7⟩
        go_simp
        with_reducible rfl
       rotate_left
       ·simp only [Act.put, sA, sB, sC, i64_w, i32_w]
        rfl
       refine one_ (i := 2) (N := none) #[true, true, true, false, false] rfl rfl kf (by decide) (fun K hK => ?_)
       have hs29 : w28.cell? ⟨gb289, 0, none⟩ = some (.bool false) := (blk_cell BK289.out 0).trans rfl
       have hfs29 := blk_frozen BK289.out 0
       have hns29_1 := NB290_289.out
       have hns29_2 := NB300_289.out
       have hns29_3 := NB305_289.out
       have hms29_1 := NB289_290.out
       have hms29_2 := NB289_300.out
       have hms29_3 := NB289_305.out
       have hs30 : w28.cell? ⟨gb289, 1, none⟩ = some (.bool false) := (blk_cell BK289.out 1).trans rfl
       have hfs30 := blk_frozen BK289.out 1
       have hns30_1 := NB290_289.out
       have hns30_2 := NB300_289.out
       have hns30_3 := NB305_289.out
       have hms30_1 := NB289_290.out
       have hms30_2 := NB289_300.out
       have hms30_3 := NB289_305.out
       have hs31 : w28.cell? ⟨gb289, 2, none⟩ = some (.slice none 0 0) := (blk_cell BK289.out 2).trans rfl
       have hfs31 := blk_frozen BK289.out 2
       have hns31_1 := NB290_289.out
       have hns31_2 := NB300_289.out
       have hns31_3 := NB305_289.out
       have hms31_1 := NB289_290.out
       have hms31_2 := NB289_300.out
       have hms31_3 := NB289_305.out
       have hs32 : w28.cell? ⟨gb289, 3, none⟩ = some (.string (⟨#[]⟩ : ByteArray)) := (blk_cell BK289.out 3).trans rfl
       have hfs32 := blk_frozen BK289.out 3
       have hns32_1 := NB290_289.out
       have hns32_2 := NB300_289.out
       have hns32_3 := NB305_289.out
       have hms32_1 := NB289_290.out
       have hms32_2 := NB289_300.out
       have hms32_3 := NB289_305.out
       have hs33 : w28.cell? ⟨gb289, 4, none⟩ = some (.string (⟨#[]⟩ : ByteArray)) := (blk_cell BK289.out 4).trans rfl
       have hfs33 := blk_frozen BK289.out 4
       have hns33_1 := NB290_289.out
       have hns33_2 := NB300_289.out
       have hns33_3 := NB305_289.out
       have hms33_1 := NB289_290.out
       have hms33_2 := NB289_300.out
       have hms33_3 := NB289_305.out
       refine skip_ (w1 := ?_) (by rfl) rfl ?_ ?_
       rotate_left
       ·go_simp
        rfl
       refine hK.out _ _ ⟨((cell_far (p := ⟨gb289, _, none⟩) NB300_289.out _).trans (((cell_far (p := ⟨gb289, _, none⟩) NB300_289.out _).trans (((cell_far (p := ⟨gb289, _, none⟩) NB300_289.out _).trans (((cell_far (p := ⟨gb289, _, none⟩) NB300_289.out _).trans (((cell_far (p := ⟨gb289, _, none⟩) NB300_289.out _).trans (hHeld.1)))))))))), ((cell_far (p := ⟨gb289, _, none⟩) NB300_289.out _).trans (((cell_far (p := ⟨gb289, _, none⟩) NB300_289.out _).trans (((cell_far (p := ⟨gb289, _, none⟩) NB300_289.out _).trans (((cell_far (p := ⟨gb289, _, none⟩) NB300_289.out _).trans (((cell_far (p := ⟨gb289, _, none⟩) NB300_289.out _).trans (hHeld.2.1)))))))))), ((cell_far (p := ⟨gb289, _, none⟩) NB300_289.out _).trans (((cell_far (p := ⟨gb289, _, none⟩) NB300_289.out _).trans (((cell_far (p := ⟨gb289, _, none⟩) NB300_289.out _).trans (((cell_far (p := ⟨gb289, _, none⟩) NB300_289.out _).trans (((cell_far (p := ⟨gb289, _, none⟩) NB300_289.out _).trans (hHeld.2.2.1)))))))))), ((cell_far (p := ⟨gb289, _, none⟩) NB300_289.out _).trans (((cell_far (p := ⟨gb289, _, none⟩) NB300_289.out _).trans (((cell_far (p := ⟨gb289, _, none⟩) NB300_289.out _).trans (((cell_far (p := ⟨gb289, _, none⟩) NB300_289.out _).trans (((cell_far (p := ⟨gb289, _, none⟩) NB300_289.out _).trans (hHeld.2.2.2.1)))))))))), ((cell_far (p := ⟨gb289, _, none⟩) NB300_289.out _).trans (((cell_far (p := ⟨gb289, _, none⟩) NB300_289.out _).trans (((cell_far (p := ⟨gb289, _, none⟩) NB300_289.out _).trans (((cell_far (p := ⟨gb289, _, none⟩) NB300_289.out _).trans (((cell_far (p := ⟨gb289, _, none⟩) NB300_289.out _).trans (hHeld.2.2.2.2.1)))))))))), ((cell_far (p := ⟨gb289, _, none⟩) NB305_289.out _).trans (((cell_far (p := ⟨gb289, _, none⟩) NB305_289.out _).trans (((cell_far (p := ⟨gb289, _, none⟩) NB305_289.out _).trans (((cell_far (p := ⟨gb289, _, none⟩) NB305_289.out _).trans (((cell_far (p := ⟨gb289, _, none⟩) NB305_289.out _).trans (hHeld.2.2.2.2.2.1)))))))))), ((cell_far (p := ⟨gb289, _, none⟩) NB305_289.out _).trans (((cell_far (p := ⟨gb289, _, none⟩) NB305_289.out _).trans (((cell_far (p := ⟨gb289, _, none⟩) NB305_289.out _).trans (((cell_far (p := ⟨gb289, _, none⟩) NB305_289.out _).trans (((cell_far (p := ⟨gb289, _, none⟩) NB305_289.out _).trans (hHeld.2.2.2.2.2.2.1)))))))))), ((cell_far (p := ⟨gb289, _, none⟩) NB305_289.out _).trans (((cell_far (p := ⟨gb289, _, none⟩) NB305_289.out _).trans (((cell_far (p := ⟨gb289, _, none⟩) NB305_289.out _).trans (((cell_far (p := ⟨gb289, _, none⟩) NB305_289.out _).trans (((cell_far (p := ⟨gb289, _, none⟩) NB305_289.out _).trans (hHeld.2.2.2.2.2.2.2))))))))))⟩ (fun hHeld => ?_)
       clear hK K
       refine one_ (i := 3) (N := none) #[true, true, true, true, false] rfl rfl kf (by decide) (fun K hK => ?_)
       have hs34 : w28.cell? ⟨gb290, 0, none⟩ = some (.bool false) := (blk_cell BK290.out 0).trans rfl
       have hfs34 := blk_frozen BK290.out 0
       have hns34_0 := NB289_290.out
       have hns34_2 := NB300_290.out
       have hns34_3 := NB305_290.out
       have hms34_0 := NB290_289.out
       have hms34_2 := NB290_300.out
       have hms34_3 := NB290_305.out
       have hs35 : w28.cell? ⟨gb290, 1, none⟩ = some (.bool false) := (blk_cell BK290.out 1).trans rfl
       have hfs35 := blk_frozen BK290.out 1
       have hns35_0 := NB289_290.out
       have hns35_2 := NB300_290.out
       have hns35_3 := NB305_290.out
       have hms35_0 := NB290_289.out
       have hms35_2 := NB290_300.out
       have hms35_3 := NB290_305.out
       have hs36 : w28.cell? ⟨gb290, 2, none⟩ = some (.int .i64 0) := (blk_cell BK290.out 2).trans rfl
       have hfs36 := blk_frozen BK290.out 2
       have hns36_0 := NB289_290.out
       have hns36_2 := NB300_290.out
       have hns36_3 := NB305_290.out
       have hms36_0 := NB290_289.out
       have hms36_2 := NB290_300.out
       have hms36_3 := NB290_305.out
       refine skip_ (w1 := ?_) (by rfl) rfl ?_ ?_
       rotate_left
       ·go_simp
        rfl
       refine hK.out _ _ ⟨((cell_far (p := ⟨gb290, _, none⟩) NB300_290.out _).trans (((cell_far (p := ⟨gb290, _, none⟩) NB300_290.out _).trans (((cell_far (p := ⟨gb290, _, none⟩) NB300_290.out _).trans (hHeld.1)))))), ((cell_far (p := ⟨gb290, _, none⟩) NB300_290.out _).trans (((cell_far (p := ⟨gb290, _, none⟩) NB300_290.out _).trans (((cell_far (p := ⟨gb290, _, none⟩) NB300_290.out _).trans (hHeld.2.1)))))), ((cell_far (p := ⟨gb290, _, none⟩) NB300_290.out _).trans (((cell_far (p := ⟨gb290, _, none⟩) NB300_290.out _).trans (((cell_far (p := ⟨gb290, _, none⟩) NB300_290.out _).trans (hHeld.2.2.1)))))), ((cell_far (p := ⟨gb290, _, none⟩) NB300_290.out _).trans (((cell_far (p := ⟨gb290, _, none⟩) NB300_290.out _).trans (((cell_far (p := ⟨gb290, _, none⟩) NB300_290.out _).trans (hHeld.2.2.2.1)))))), ((cell_far (p := ⟨gb290, _, none⟩) NB300_290.out _).trans (((cell_far (p := ⟨gb290, _, none⟩) NB300_290.out _).trans (((cell_far (p := ⟨gb290, _, none⟩) NB300_290.out _).trans (hHeld.2.2.2.2.1)))))), ((cell_far (p := ⟨gb290, _, none⟩) NB305_290.out _).trans (((cell_far (p := ⟨gb290, _, none⟩) NB305_290.out _).trans (((cell_far (p := ⟨gb290, _, none⟩) NB305_290.out _).trans (hHeld.2.2.2.2.2.1)))))), ((cell_far (p := ⟨gb290, _, none⟩) NB305_290.out _).trans (((cell_far (p := ⟨gb290, _, none⟩) NB305_290.out _).trans (((cell_far (p := ⟨gb290, _, none⟩) NB305_290.out _).trans (hHeld.2.2.2.2.2.2.1)))))), ((cell_far (p := ⟨gb290, _, none⟩) NB305_290.out _).trans (((cell_far (p := ⟨gb290, _, none⟩) NB305_290.out _).trans (((cell_far (p := ⟨gb290, _, none⟩) NB305_290.out _).trans (hHeld.2.2.2.2.2.2.2))))))⟩ (fun hHeld => ?_)
       clear hK K
       refine pure_ (i := 4) (N := some 4) (v := ?_) (a' := ?_) #[true, true, true, true, true] rfl rfl kf (fun _ _ _ h => h) (Or.inl ⟨by rfl, ?_⟩) ?_ ?_
       rotate_left
       ·intro w'
        go_simp
        with_reducible rfl
       rotate_left
       ·simp only [Act.put, sA, sB, sC, i64_w, i32_w]
        rfl
       refine done_ kf ?_
       try go_wp2
       refine bodyPost_ret (results_list (rs := [.cell 2 26, .cell 3 46, .tmp 4]) rfl (by simp) (.cell gb289 26 #[.bool t291, .bool t292, .slice Ao11 t293.length co11, .string t296, .string t297] (0, 0) _ rfl (by (with_reducible repeat (first | refine blk_drewN ?_ _ | refine blk_drew ?_ | refine blk_alloc ?_ _)); refine blk_far ?_ NB289_290.out _; (with_reducible repeat (first | refine blk_drewN ?_ _ | refine blk_drew ?_ | refine blk_alloc ?_ _)); refine blk_far ?_ NB289_290.out _; (with_reducible repeat (first | refine blk_drewN ?_ _ | refine blk_drew ?_ | refine blk_alloc ?_ _)); refine blk_far ?_ NB289_290.out _; (with_reducible repeat (first | refine blk_drewN ?_ _ | refine blk_drew ?_ | refine blk_alloc ?_ _)); refine blk_put (cs := #[.bool t291, .bool t292, .slice Ao11 t293.length co11, .string t296, .string (⟨#[]⟩ : ByteArray)]) ?_ 4 _ rfl; (with_reducible repeat (first | refine blk_drewN ?_ _ | refine blk_drew ?_ | refine blk_alloc ?_ _)); refine blk_put (cs := #[.bool t291, .bool t292, .slice Ao11 t293.length co11, .string (⟨#[]⟩ : ByteArray), .string (⟨#[]⟩ : ByteArray)]) ?_ 3 _ rfl; (with_reducible repeat (first | refine blk_drewN ?_ _ | refine blk_drew ?_ | refine blk_alloc ?_ _)); refine blk_put (cs := #[.bool t291, .bool t292, .slice none 0 0, .string (⟨#[]⟩ : ByteArray), .string (⟨#[]⟩ : ByteArray)]) ?_ 2 _ rfl; (with_reducible repeat (first | refine blk_drewN ?_ _ | refine blk_drew ?_ | refine blk_alloc ?_ _)); refine blk_put (cs := #[.bool t291, .bool false, .slice none 0 0, .string (⟨#[]⟩ : ByteArray), .string (⟨#[]⟩ : ByteArray)]) ?_ 1 _ rfl; (with_reducible repeat (first | refine blk_drewN ?_ _ | refine blk_drew ?_ | refine blk_alloc ?_ _)); refine blk_put (cs := #[.bool false, .bool false, .slice none 0 0, .string (⟨#[]⟩ : ByteArray), .string (⟨#[]⟩ : ByteArray)]) ?_ 0 _ rfl; (with_reducible repeat (first | refine blk_drewN ?_ _ | refine blk_drew ?_ | refine blk_alloc ?_ _)); exact BK289.out) Tryz.underlying26 rfl kf (.cell gb290 46 #[.bool t301, .bool t302, .int .i64 t303] (0, 0) _ rfl (by (with_reducible repeat (first | refine blk_drewN ?_ _ | refine blk_drew ?_ | refine blk_alloc ?_ _)); refine blk_put (cs := #[.bool t301, .bool t302, .int .i64 0]) ?_ 2 _ rfl; (with_reducible repeat (first | refine blk_drewN ?_ _ | refine blk_drew ?_ | refine blk_alloc ?_ _)); refine blk_put (cs := #[.bool t301, .bool false, .int .i64 0]) ?_ 1 _ rfl; (with_reducible repeat (first | refine blk_drewN ?_ _ | refine blk_drew ?_ | refine blk_alloc ?_ _)); refine blk_put (cs := #[.bool false, .bool false, .int .i64 0]) ?_ 0 _ rfl; (with_reducible repeat (first | refine blk_drewN ?_ _ | refine blk_drew ?_ | refine blk_alloc ?_ _)); refine blk_far ?_ NB290_289.out _; (with_reducible repeat (first | refine blk_drewN ?_ _ | refine blk_drew ?_ | refine blk_alloc ?_ _)); refine blk_far ?_ NB290_289.out _; (with_reducible repeat (first | refine blk_drewN ?_ _ | refine blk_drew ?_ | refine blk_alloc ?_ _)); refine blk_far ?_ NB290_289.out _; (with_reducible repeat (first | refine blk_drewN ?_ _ | refine blk_drew ?_ | refine blk_alloc ?_ _)); refine blk_far ?_ NB290_289.out _; (with_reducible repeat (first | refine blk_drewN ?_ _ | refine blk_drew ?_ | refine blk_alloc ?_ _)); refine blk_far ?_ NB290_289.out _; (with_reducible repeat (first | refine blk_drewN ?_ _ | refine blk_drew ?_ | refine blk_alloc ?_ _)); exact BK290.out) Tryz.underlying46 rfl kf (.tmp .nil)))) rfl ?_
       exact ⟨_, by first | rfl | (simp [errW_none, errW_some] <;> rfl) | (simp [*, errW_none, errW_some] <;> rfl), by (with_reducible repeat (first | apply Kd.R_alloc | apply Kd.R_drewN | apply Kd.R_drew)); exact Kd.R_mono (Kd.R_far (p := ⟨gb290, 2, none⟩) (Kd.R_far (p := ⟨gb290, 1, none⟩) (Kd.R_far (p := ⟨gb290, 0, none⟩) (Kd.R_far (p := ⟨gb289, 4, none⟩) (Kd.R_far (p := ⟨gb289, 3, none⟩) (Kd.R_far (p := ⟨gb289, 2, none⟩) (Kd.R_far (p := ⟨gb289, 1, none⟩) (Kd.R_far (p := ⟨gb289, 0, none⟩) (Kd.R_types (Kd.R_types HO_301002.out BK289.out (by decide)) BK290.out (by decide)) (fun _ hk => hk.1.2) (.bool t291)) (fun _ hk => hk.1.2) (.bool t292)) (fun _ hk => hk.1.2) (.slice Ao11 t293.length co11)) (fun _ hk => hk.1.2) (.string t296)) (fun _ hk => hk.1.2) (.string t297)) (fun _ hk => hk.2) (.bool t301)) (fun _ hk => hk.2) (.bool t302)) (fun _ hk => hk.2) (.int .i64 t303)) (fun _ hk => trivial), bl⟩
      ·rw [if_neg c20] at H
       have c20b0 : (t304 == 0) = false := beq_eq_false_iff_ne.mpr c20
       have c20b1 : (t304 != 0) = true := bne_iff_ne.mpr c20
       simp only [Option.some.injEq, Prod.mk.injEq] at H
       obtain ⟨rfl, rfl, rfl, rfl, rfl, rfl, rfl, rfl, rfl⟩ := H
       go_wp2_with (first | ((with_reducible refine gate_callee (f := 17) rfl ?_); refine goesL_ (some 28) rfl rfl Tryz.func17 kf rfl #[.string t298] rfl ml ?_; (with_reducible refine (path_ParseParams.calls kj15 t298 t301 t302 t303 t304 _ ?side1 A19.out).mono ?_); (case side1 => exact Glob.below HG.out bl); rintro e w37 ⟨rfl, hb⟩; refine ⟨_, rfl, ?_⟩; replace HO_301002 := Aside0.mk (Kd.R_below (kr HO_301002.out) hb); replace BK289 := Aside0.mk (kb BK289.out hb); replace BK290 := Aside0.mk (kb BK290.out hb); replace BK300 := Aside0.mk (kb BK300.out hb); replace HB := Aside0.mk (below_step bl hb); (try clear hb); (try clear hb2); (try clear hk); (try clear hi)) | ((with_reducible refine gate_dst (N := 8) rfl ?_); refine box_event ?hg (N := 8) ?hd (cs := #[.bool false, .bool false, .int .i64 0]) (t := 46) ?hr ?_; (case hd => rfl); (case hg => rfl); (case hr => first | (go_simp; done) | (go_simp; rfl)); intro gb305 hg w38 hbox hb; replace HO_301002 := Aside0.mk (Kd.R_below (kr HO_301002.out) hb); have BK305 := Aside0.mk (hbox); have GW305 := Aside0.mk (gz hg : w.heap.size ≤ gb305); have GE305 := Aside0.mk (gz hg : w.heap.size ≤ gb305); replace HB := Aside0.mk (below_step bl hb); have NB289_305 := Aside0.mk (nl hg BK289.out : gb289 ≠ gb305); have NB305_289 := Aside0.mk (ng hg BK289.out : gb305 ≠ gb289); replace BK289 := Aside0.mk (kb BK289.out hb); have NB290_305 := Aside0.mk (nl hg BK290.out : gb290 ≠ gb305); have NB305_290 := Aside0.mk (ng hg BK290.out : gb305 ≠ gb290); replace BK290 := Aside0.mk (kb BK290.out hb); have NB300_305 := Aside0.mk (nl hg BK300.out : gb300 ≠ gb305); have NB305_300 := Aside0.mk (ng hg BK300.out : gb305 ≠ gb300); replace BK300 := Aside0.mk (kb BK300.out hb); clear hb hbox hg; have hnb39 := NB305_289.out; have hnc39 := NB289_305.out; have hnb40 := NB305_290.out; have hnc40 := NB290_305.out; have hnb41 := NB305_300.out; have hnc41 := NB300_305.out; have hcz42_0 := cz BK305.out 0 (.bool false); have hcz42_1 := cz BK305.out 1 (.bool false); have hcz42_2 := cz BK305.out 2 (.int .i64 0); have hfz42_0 := blk_frozen BK305.out 0; have hfz42_1 := blk_frozen BK305.out 1; have hfz42_2 := blk_frozen BK305.out 2; have hnb43 := NB289_290.out; have hnc43 := NB290_289.out; have hnb44 := NB289_300.out; have hnc44 := NB300_289.out; have hcz45_0 := cz BK289.out 0 (.bool false); have hcz45_1 := cz BK289.out 1 (.bool false); have hcz45_2 := cz BK289.out 2 (.slice none 0 0); have hcz45_3 := cz BK289.out 3 (.string (⟨#[]⟩ : ByteArray)); have hcz45_4 := cz BK289.out 4 (.string (⟨#[]⟩ : ByteArray)); have hfz45_0 := blk_frozen BK289.out 0; have hfz45_1 := blk_frozen BK289.out 1; have hfz45_2 := blk_frozen BK289.out 2; have hfz45_3 := blk_frozen BK289.out 3; have hfz45_4 := blk_frozen BK289.out 4; have hnb46 := NB290_300.out; have hnc46 := NB300_290.out; have hcz47_0 := cz BK290.out 0 (.bool false); have hcz47_1 := cz BK290.out 1 (.bool false); have hcz47_2 := cz BK290.out 2 (.int .i64 0); have hfz47_0 := blk_frozen BK290.out 0; have hfz47_1 := blk_frozen BK290.out 1; have hfz47_2 := blk_frozen BK290.out 2))
       refine bodyPost_ret (results_list (rs := [.cell 2 26, .cell 3 46, .tmp 4]) rfl (by simp) (.cell gb289 26 #[.bool false, .bool false, .slice none 0 0, .string (⟨#[]⟩ : ByteArray), .string (⟨#[]⟩ : ByteArray)] (0, 0) _ rfl (by (with_reducible repeat (first | refine blk_drewN ?_ _ | refine blk_drew ?_ | refine blk_alloc ?_ _)); refine blk_far ?_ NB289_290.out _; (with_reducible repeat (first | refine blk_drewN ?_ _ | refine blk_drew ?_ | refine blk_alloc ?_ _)); refine blk_far ?_ NB289_290.out _; (with_reducible repeat (first | refine blk_drewN ?_ _ | refine blk_drew ?_ | refine blk_alloc ?_ _)); refine blk_far ?_ NB289_290.out _; (with_reducible repeat (first | refine blk_drewN ?_ _ | refine blk_drew ?_ | refine blk_alloc ?_ _)); refine blk_put (cs := #[.bool false, .bool false, .slice none 0 0, .string (⟨#[]⟩ : ByteArray), .string (⟨#[]⟩ : ByteArray)]) ?_ 4 _ rfl; (with_reducible repeat (first | refine blk_drewN ?_ _ | refine blk_drew ?_ | refine blk_alloc ?_ _)); refine blk_put (cs := #[.bool false, .bool false, .slice none 0 0, .string (⟨#[]⟩ : ByteArray), .string (⟨#[]⟩ : ByteArray)]) ?_ 3 _ rfl; (with_reducible repeat (first | refine blk_drewN ?_ _ | refine blk_drew ?_ | refine blk_alloc ?_ _)); refine blk_put (cs := #[.bool false, .bool false, .slice none 0 0, .string (⟨#[]⟩ : ByteArray), .string (⟨#[]⟩ : ByteArray)]) ?_ 2 _ rfl; (with_reducible repeat (first | refine blk_drewN ?_ _ | refine blk_drew ?_ | refine blk_alloc ?_ _)); refine blk_put (cs := #[.bool false, .bool false, .slice none 0 0, .string (⟨#[]⟩ : ByteArray), .string (⟨#[]⟩ : ByteArray)]) ?_ 1 _ rfl; (with_reducible repeat (first | refine blk_drewN ?_ _ | refine blk_drew ?_ | refine blk_alloc ?_ _)); refine blk_put (cs := #[.bool false, .bool false, .slice none 0 0, .string (⟨#[]⟩ : ByteArray), .string (⟨#[]⟩ : ByteArray)]) ?_ 0 _ rfl; (with_reducible repeat (first | refine blk_drewN ?_ _ | refine blk_drew ?_ | refine blk_alloc ?_ _)); refine blk_far ?_ NB289_305.out _; (with_reducible repeat (first | refine blk_drewN ?_ _ | refine blk_drew ?_ | refine blk_alloc ?_ _)); refine blk_far ?_ NB289_305.out _; (with_reducible repeat (first | refine blk_drewN ?_ _ | refine blk_drew ?_ | refine blk_alloc ?_ _)); refine blk_far ?_ NB289_305.out _; (with_reducible repeat (first | refine blk_drewN ?_ _ | refine blk_drew ?_ | refine blk_alloc ?_ _)); exact BK289.out) Tryz.underlying26 rfl kf (.cell gb290 46 #[.bool false, .bool false, .int .i64 0] (0, 0) _ rfl (by (with_reducible repeat (first | refine blk_drewN ?_ _ | refine blk_drew ?_ | refine blk_alloc ?_ _)); refine blk_put (cs := #[.bool false, .bool false, .int .i64 0]) ?_ 2 _ rfl; (with_reducible repeat (first | refine blk_drewN ?_ _ | refine blk_drew ?_ | refine blk_alloc ?_ _)); refine blk_put (cs := #[.bool false, .bool false, .int .i64 0]) ?_ 1 _ rfl; (with_reducible repeat (first | refine blk_drewN ?_ _ | refine blk_drew ?_ | refine blk_alloc ?_ _)); refine blk_put (cs := #[.bool false, .bool false, .int .i64 0]) ?_ 0 _ rfl; (with_reducible repeat (first | refine blk_drewN ?_ _ | refine blk_drew ?_ | refine blk_alloc ?_ _)); refine blk_far ?_ NB290_289.out _; (with_reducible repeat (first | refine blk_drewN ?_ _ | refine blk_drew ?_ | refine blk_alloc ?_ _)); refine blk_far ?_ NB290_289.out _; (with_reducible repeat (first | refine blk_drewN ?_ _ | refine blk_drew ?_ | refine blk_alloc ?_ _)); refine blk_far ?_ NB290_289.out _; (with_reducible repeat (first | refine blk_drewN ?_ _ | refine blk_drew ?_ | refine blk_alloc ?_ _)); refine blk_far ?_ NB290_289.out _; (with_reducible repeat (first | refine blk_drewN ?_ _ | refine blk_drew ?_ | refine blk_alloc ?_ _)); refine blk_far ?_ NB290_289.out _; (with_reducible repeat (first | refine blk_drewN ?_ _ | refine blk_drew ?_ | refine blk_alloc ?_ _)); refine blk_far ?_ NB290_305.out _; (with_reducible repeat (first | refine blk_drewN ?_ _ | refine blk_drew ?_ | refine blk_alloc ?_ _)); refine blk_far ?_ NB290_305.out _; (with_reducible repeat (first | refine blk_drewN ?_ _ | refine blk_drew ?_ | refine blk_alloc ?_ _)); refine blk_far ?_ NB290_305.out _; (with_reducible repeat (first | refine blk_drewN ?_ _ | refine blk_drew ?_ | refine blk_alloc ?_ _)); exact BK290.out) Tryz.underlying46 rfl kf (.tmp .nil)))) rfl ?_
       exact ⟨_, by first | rfl | (simp [errW_none, errW_some] <;> rfl) | (simp [*, errW_none, errW_some] <;> rfl), by first | exact Kd.R_nil _ _ _ _ _ | exact Kd.N_nil _ _ _ _ _ | exact Kd.V_nil _ _ _ _ _ | exact Kd.Q_nil _ _ _ _ _ | exact Kd.S_nil _ _ _ _ _, bl⟩
     ·rw [if_neg c18] at H
      have c18b0 : (x7_15 == 0) = false := beq_eq_false_iff_ne.mpr c18
      have c18b1 : (x7_15 != 0) = true := bne_iff_ne.mpr c18
      simp only [Option.some.injEq, Prod.mk.injEq] at H
      obtain ⟨rfl, rfl, rfl, rfl, rfl, rfl, rfl, rfl, rfl⟩ := H
      have hnb48 := NB289_290.out
      have hnc48 := NB290_289.out
      have hnb49 := NB289_300.out
      have hnc49 := NB300_289.out
      have hcz50_0 := cz BK289.out 0 (.bool false)
      have hcz50_1 := cz BK289.out 1 (.bool false)
      have hcz50_2 := cz BK289.out 2 (.slice none 0 0)
      have hcz50_3 := cz BK289.out 3 (.string (⟨#[]⟩ : ByteArray))
      have hcz50_4 := cz BK289.out 4 (.string (⟨#[]⟩ : ByteArray))
      have hfz50_0 := blk_frozen BK289.out 0
      have hfz50_1 := blk_frozen BK289.out 1
      have hfz50_2 := blk_frozen BK289.out 2
      have hfz50_3 := blk_frozen BK289.out 3
      have hfz50_4 := blk_frozen BK289.out 4
      have hnb51 := NB290_300.out
      have hnc51 := NB300_290.out
      have hcz52_0 := cz BK290.out 0 (.bool false)
      have hcz52_1 := cz BK290.out 1 (.bool false)
      have hcz52_2 := cz BK290.out 2 (.int .i64 0)
      have hfz52_0 := blk_frozen BK290.out 0
      have hfz52_1 := blk_frozen BK290.out 1
      have hfz52_2 := blk_frozen BK290.out 2
      go_wp2
      refine bodyPost_ret (results_list (rs := [.cell 2 26, .cell 3 46, .tmp 4]) rfl (by simp) (.cell gb289 26 #[.bool false, .bool false, .slice none 0 0, .string (⟨#[]⟩ : ByteArray), .string (⟨#[]⟩ : ByteArray)] (0, 0) _ rfl (by (with_reducible repeat (first | refine blk_drewN ?_ _ | refine blk_drew ?_ | refine blk_alloc ?_ _)); refine blk_far ?_ NB289_290.out _; (with_reducible repeat (first | refine blk_drewN ?_ _ | refine blk_drew ?_ | refine blk_alloc ?_ _)); refine blk_far ?_ NB289_290.out _; (with_reducible repeat (first | refine blk_drewN ?_ _ | refine blk_drew ?_ | refine blk_alloc ?_ _)); refine blk_far ?_ NB289_290.out _; (with_reducible repeat (first | refine blk_drewN ?_ _ | refine blk_drew ?_ | refine blk_alloc ?_ _)); refine blk_put (cs := #[.bool false, .bool false, .slice none 0 0, .string (⟨#[]⟩ : ByteArray), .string (⟨#[]⟩ : ByteArray)]) ?_ 4 _ rfl; (with_reducible repeat (first | refine blk_drewN ?_ _ | refine blk_drew ?_ | refine blk_alloc ?_ _)); refine blk_put (cs := #[.bool false, .bool false, .slice none 0 0, .string (⟨#[]⟩ : ByteArray), .string (⟨#[]⟩ : ByteArray)]) ?_ 3 _ rfl; (with_reducible repeat (first | refine blk_drewN ?_ _ | refine blk_drew ?_ | refine blk_alloc ?_ _)); refine blk_put (cs := #[.bool false, .bool false, .slice none 0 0, .string (⟨#[]⟩ : ByteArray), .string (⟨#[]⟩ : ByteArray)]) ?_ 2 _ rfl; (with_reducible repeat (first | refine blk_drewN ?_ _ | refine blk_drew ?_ | refine blk_alloc ?_ _)); refine blk_put (cs := #[.bool false, .bool false, .slice none 0 0, .string (⟨#[]⟩ : ByteArray), .string (⟨#[]⟩ : ByteArray)]) ?_ 1 _ rfl; (with_reducible repeat (first | refine blk_drewN ?_ _ | refine blk_drew ?_ | refine blk_alloc ?_ _)); refine blk_put (cs := #[.bool false, .bool false, .slice none 0 0, .string (⟨#[]⟩ : ByteArray), .string (⟨#[]⟩ : ByteArray)]) ?_ 0 _ rfl; (with_reducible repeat (first | refine blk_drewN ?_ _ | refine blk_drew ?_ | refine blk_alloc ?_ _)); exact BK289.out) Tryz.underlying26 rfl kf (.cell gb290 46 #[.bool false, .bool false, .int .i64 0] (0, 0) _ rfl (by (with_reducible repeat (first | refine blk_drewN ?_ _ | refine blk_drew ?_ | refine blk_alloc ?_ _)); refine blk_put (cs := #[.bool false, .bool false, .int .i64 0]) ?_ 2 _ rfl; (with_reducible repeat (first | refine blk_drewN ?_ _ | refine blk_drew ?_ | refine blk_alloc ?_ _)); refine blk_put (cs := #[.bool false, .bool false, .int .i64 0]) ?_ 1 _ rfl; (with_reducible repeat (first | refine blk_drewN ?_ _ | refine blk_drew ?_ | refine blk_alloc ?_ _)); refine blk_put (cs := #[.bool false, .bool false, .int .i64 0]) ?_ 0 _ rfl; (with_reducible repeat (first | refine blk_drewN ?_ _ | refine blk_drew ?_ | refine blk_alloc ?_ _)); refine blk_far ?_ NB290_289.out _; (with_reducible repeat (first | refine blk_drewN ?_ _ | refine blk_drew ?_ | refine blk_alloc ?_ _)); refine blk_far ?_ NB290_289.out _; (with_reducible repeat (first | refine blk_drewN ?_ _ | refine blk_drew ?_ | refine blk_alloc ?_ _)); refine blk_far ?_ NB290_289.out _; (with_reducible repeat (first | refine blk_drewN ?_ _ | refine blk_drew ?_ | refine blk_alloc ?_ _)); refine blk_far ?_ NB290_289.out _; (with_reducible repeat (first | refine blk_drewN ?_ _ | refine blk_drew ?_ | refine blk_alloc ?_ _)); refine blk_far ?_ NB290_289.out _; (with_reducible repeat (first | refine blk_drewN ?_ _ | refine blk_drew ?_ | refine blk_alloc ?_ _)); exact BK290.out) Tryz.underlying46 rfl kf (.tmp .nil)))) rfl ?_
      exact ⟨_, by first | rfl | (simp [errW_none, errW_some] <;> rfl) | (simp [*, errW_none, errW_some] <;> rfl), by first | exact Kd.R_nil _ _ _ _ _ | exact Kd.N_nil _ _ _ _ _ | exact Kd.V_nil _ _ _ _ _ | exact Kd.Q_nil _ _ _ _ _ | exact Kd.S_nil _ _ _ _ _, bl⟩

/-! ### path_To: function 19 -/
mutual
def path_To.j0 : Nat → ByteArray → Int → Bool → Bool → Bool → List ByteArray → ByteArray → ByteArray → Option (Bool × Bool × List ByteArray × ByteArray × ByteArray × Int)
 | 0, _, _, _, _, _, _, _, _ => none
 | k + 1, x5, x6, x18, x317000, x317001, x317002, x317003, x317004 => if x18 = true then (path_To.j1 k x5 5 x317000 x317001 x317002 x317003 x317004) else (path_To.j1 k x5 x6 x317000 x317001 x317002 x317003 x317004)
def path_To.j1 : Nat → ByteArray → Int → Bool → Bool → List ByteArray → ByteArray → ByteArray → Option (Bool × Bool × List ByteArray × ByteArray × ByteArray × Int)
 | 0, _, _, _, _, _, _, _ => none
 | k + 1, x5, x6, x317000, x317001, x317002, x317003, x317004 => if x6 = 0 then (path_To.j2 k x5 x6 (x5.toList != ([] : List UInt8)) x317000 x317001 x317002 x317003 x317004) else (path_To.j2 k x5 x6 false x317000 x317001 x317002 x317003 x317004)
def path_To.j2 : Nat → ByteArray → Int → Bool → Bool → Bool → List ByteArray → ByteArray → ByteArray → Option (Bool × Bool × List ByteArray × ByteArray × ByteArray × Int)
 | 0, _, _, _, _, _, _, _, _ => none
 | k + 1, x5, x6, x24, x317000, x317001, x317002, x317003, x317004 => if x24 = true then ((path_ParseParams.f k x5).bind fun bt317 => (if bt317.2.2.2 = 0 then (if 1 = 0 then (some (x317000, x317001, x317002, x317003, x317004, 0)) else (some (false, false, ([] : List ByteArray), (⟨#[]⟩ : ByteArray), (⟨#[]⟩ : ByteArray), 1))) else (some (false, false, ([] : List ByteArray), (⟨#[]⟩ : ByteArray), (⟨#[]⟩ : ByteArray), bt317.2.2.2)))) else (if x6 = 0 then (some (x317000, x317001, x317002, x317003, x317004, 0)) else (some (false, false, ([] : List ByteArray), (⟨#[]⟩ : ByteArray), (⟨#[]⟩ : ByteArray), x6)))
end
def path_To.f (k : Nat) (a0 : ByteArray) : Option (Bool × Bool × List ByteArray × ByteArray × ByteArray × Int) := (path_Parse.f k a0).bind fun bt307 => (if bt307.2.2.2.2.2.2 = 0 then (path_To.j0 k bt307.2.2.2.2.2.1 bt307.2.2.2.2.2.2 bt307.1 bt307.1 bt307.2.1 bt307.2.2.1 bt307.2.2.2.1 bt307.2.2.2.2.1) else (path_To.j0 k bt307.2.2.2.2.2.1 bt307.2.2.2.2.2.2 false bt307.1 bt307.2.1 bt307.2.2.1 bt307.2.2.2.1 bt307.2.2.2.2.1))
theorem path_To.mono_l : ∀ k, (∀ y0 y1 y2 y3 y4 y5 y6 y7, LeO (path_To.j0 k y0 y1 y2 y3 y4 y5 y6 y7) (path_To.j0 (k + 1) y0 y1 y2 y3 y4 y5 y6 y7)) ∧ (∀ y0 y1 y2 y3 y4 y5 y6, LeO (path_To.j1 k y0 y1 y2 y3 y4 y5 y6) (path_To.j1 (k + 1) y0 y1 y2 y3 y4 y5 y6)) ∧ (∀ y0 y1 y2 y3 y4 y5 y6 y7, LeO (path_To.j2 k y0 y1 y2 y3 y4 y5 y6 y7) (path_To.j2 (k + 1) y0 y1 y2 y3 y4 y5 y6 y7))
 | 0 => ⟨fun _ _ _ _ _ _ _ _ r h => by simp [path_To.j0] at h, fun _ _ _ _ _ _ _ r h => by simp [path_To.j1] at h, fun _ _ _ _ _ _ _ _ r h => by simp [path_To.j2] at h⟩
 | k + 1 => by
  obtain ⟨ih0, ih1, ih2⟩ := path_To.mono_l k
  refine ⟨?_, ?_, ?_⟩
  ·intro y0 y1 y2 y3 y4 y5 y6 y7
   unfold path_To.j0
   repeat' first
   | (with_reducible first | exact ih0 _ _ _ _ _ _ _ _ | exact ih1 _ _ _ _ _ _ _ | exact ih2 _ _ _ _ _ _ _ _ | exact path_Parse.mono _ _ | exact path_ParseParams.mono _ _ | exact LeO.refl _ | exact LeO.none _ | refine LeO.ite ?_ ?_ | refine LeO.bind ?_ (fun _ => ?_))
  ·intro y0 y1 y2 y3 y4 y5 y6
   unfold path_To.j1
   repeat' first
   | (with_reducible first | exact ih0 _ _ _ _ _ _ _ _ | exact ih1 _ _ _ _ _ _ _ | exact ih2 _ _ _ _ _ _ _ _ | exact path_Parse.mono _ _ | exact path_ParseParams.mono _ _ | exact LeO.refl _ | exact LeO.none _ | refine LeO.ite ?_ ?_ | refine LeO.bind ?_ (fun _ => ?_))
  ·intro y0 y1 y2 y3 y4 y5 y6 y7
   unfold path_To.j2
   repeat' first
   | (with_reducible first | exact ih0 _ _ _ _ _ _ _ _ | exact ih1 _ _ _ _ _ _ _ | exact ih2 _ _ _ _ _ _ _ _ | exact path_Parse.mono _ _ | exact path_ParseParams.mono _ _ | exact LeO.refl _ | exact LeO.none _ | refine LeO.ite ?_ ?_ | refine LeO.bind ?_ (fun _ => ?_))
theorem path_To.mono : ∀ a0 k, LeO (path_To.f k a0) (path_To.f (k + 1) a0) := by
 intro a0 k
 obtain ⟨ih0, ih1, ih2⟩ := path_To.mono_l k
 unfold path_To.f
 repeat' first
   | (with_reducible first | exact ih0 _ _ _ _ _ _ _ _ | exact ih1 _ _ _ _ _ _ _ | exact ih2 _ _ _ _ _ _ _ _ | exact path_Parse.mono _ _ | exact path_ParseParams.mono _ _ | exact LeO.refl _ | exact LeO.none _ | refine LeO.ite ?_ ?_ | refine LeO.bind ?_ (fun _ => ?_))
theorem path_To.calls (k : Nat) (a0 : ByteArray) (r1 : Bool) (r2 : Bool) (r3 : List ByteArray) (r4 : ByteArray) (r5 : ByteArray) (r6 : Int) (w : World) (hG : Glob w) (h : path_To.f k a0 = some (r1, r2, r3, r4, r5, r6)) :
  Calls Tryz.prog 19 #[.string a0] w fun e w' => ∃ v2_ : Value, e = .returned (.tuple #[.agg #[.bool r1, .bool r2, v2_, .string r4, .string r5], .int .i64 r6]) ∧ Kd.R Kd.string 9 w' w.heap.size (fun _ => True) v2_ r3 ∧ Below w.heap.size w w' := by
 have hu26 := Tryz.underlying26
 have HB := Aside0.mk (Below.refl w.heap.size w)
 have HG := Aside0.mk hG
 clear hG
 have H : ((path_Parse.f k a0).bind fun bt307 => (if bt307.2.2.2.2.2.2 = 0 then (path_To.j0 k bt307.2.2.2.2.2.1 bt307.2.2.2.2.2.2 bt307.1 bt307.1 bt307.2.1 bt307.2.2.1 bt307.2.2.2.1 bt307.2.2.2.2.1) else (path_To.j0 k bt307.2.2.2.2.2.1 bt307.2.2.2.2.2.2 false bt307.1 bt307.2.1 bt307.2.2.1 bt307.2.2.2.1 bt307.2.2.2.2.1))) = some (r1, r2, r3, r4, r5, r6) := h
 clear h
 obtain ⟨⟨t307, t308, t309, t312, t313, t314, t315⟩, A20, H⟩ := Option.bind_eq_some_iff.mp H
 replace H : (if t315 = 0 then (path_To.j0 k t314 t315 t307 t307 t308 t309 t312 t313) else (path_To.j0 k t314 t315 false t307 t308 t309 t312 t313)) = some (r1, r2, r3, r4, r5, r6) := H
 have A2 := Aside0.mk A20
 clear A20
 have HC3 := Aside0.mk H
 clear H
 go_enter Tryz.func19, Tryz.ntmps19
 go_upto_region 2 with (first | ((with_reducible refine gate_dst (N := 2) rfl ?_); refine box_event ?hg (N := 2) ?hd (cs := #[.bool false, .bool false, .slice none 0 0, .string (⟨#[]⟩ : ByteArray), .string (⟨#[]⟩ : ByteArray)]) (t := 26) ?hr ?_; (case hd => rfl); (case hg => rfl); (case hr => first | (go_simp; done) | (go_simp; rfl)); intro gb306 hg w4 hbox hb; have BK306 := Aside0.mk (hbox); have GW306 := Aside0.mk (gz hg : w.heap.size ≤ gb306); have GE306 := Aside0.mk (gz hg : w.heap.size ≤ gb306); replace HB := Aside0.mk (below_step bl hb); clear hb hbox hg) | ((with_reducible refine gate_callee (f := 13) rfl ?_); refine goesL_ (some 9) rfl rfl Tryz.func13 kf rfl #[.string a0] rfl ml ?_; (with_reducible refine (path_Parse.calls k a0 t307 t308 t309 t312 t313 t314 t315 _ ?side1 A2.out).mono ?_); (case side1 => exact Glob.below HG.out bl); rintro e w5 ⟨v310, rfl, ho0, hb⟩; refine ⟨_, rfl, ?_⟩; have HO311 := Aside0.mk (Kd.R_lower ho0 (below_size bl)); replace BK306 := Aside0.mk (kb BK306.out hb); replace HB := Aside0.mk (below_step bl hb); (try clear hb); (try clear hb2); (try clear hk); (try clear hi); (try clear ho0)) | ((with_reducible refine gate_dst (N := 4) rfl ?_); refine box_event ?hg (N := 4) ?hd (cs := #[.bool false, .bool false, .slice none 0 0, .string (⟨#[]⟩ : ByteArray), .string (⟨#[]⟩ : ByteArray)]) (t := 26) ?hr ?_; (case hd => rfl); (case hg => rfl); (case hr => first | (go_simp; done) | (go_simp; rfl)); intro gb316 hg w6 hbox hb; replace HO311 := Aside0.mk (Kd.R_below (kr HO311.out) hb); have BK316 := Aside0.mk (hbox); have GW316 := Aside0.mk (gz hg : w.heap.size ≤ gb316); have GE316 := Aside0.mk (gz hg : w.heap.size ≤ gb316); replace HB := Aside0.mk (below_step bl hb); have NB306_316 := Aside0.mk (nl hg BK306.out : gb306 ≠ gb316); have NB316_306 := Aside0.mk (ng hg BK306.out : gb316 ≠ gb306); replace BK306 := Aside0.mk (kb BK306.out hb); clear hb hbox hg; have hnb7 := NB316_306.out; have hnc7 := NB306_316.out; have hcz8_0 := cz BK316.out 0 (.bool false); have hcz8_1 := cz BK316.out 1 (.bool false); have hcz8_2 := cz BK316.out 2 (.slice none 0 0); have hcz8_3 := cz BK316.out 3 (.string (⟨#[]⟩ : ByteArray)); have hcz8_4 := cz BK316.out 4 (.string (⟨#[]⟩ : ByteArray)); have hfz8_0 := blk_frozen BK316.out 0; have hfz8_1 := blk_frozen BK316.out 1; have hfz8_2 := blk_frozen BK316.out 2; have hfz8_3 := blk_frozen BK316.out 3; have hfz8_4 := blk_frozen BK316.out 4; obtain ⟨Ao9, co9, eo9⟩ := Kd.R_slice HO311.out; subst eo9))
 (try simp only [Act.put, sA, sB, sC])
 go_cut [18] (fun v18 wc => ∃ (kq : Nat) (x18_2 : Bool), v18 = .bool x18_2 ∧ Aside0 (path_To.j0 kq t314 t315 x18_2 t307 t308 t309 t312 t313 = some (r1, r2, r3, r4, r5, r6)) ∧ Aside0 (kq ≤ k) ∧ Aside0 (Kd.R Kd.string 9 wc w.heap.size (fun _ => True) (.slice Ao9 t309.length co9) t309) ∧ Aside0 (wc.heap[gb306]? = some (.cells #[.bool false, .bool false, (.slice none 0 0), .string (⟨#[]⟩ : ByteArray), .string (⟨#[]⟩ : ByteArray)] 26 (0, 0))) ∧ Aside0 (wc.heap[gb316]? = some (.cells #[.bool t307, .bool t308, (.slice Ao9 t309.length co9), .string t312, .string t313] 26 (0, 0))) ∧ Aside0 (Below w.heap.size w wc))
 case first =>
  have H := HC3.out
  clear HC3
  by_cases c10 : t315 = 0
  ·rw [if_pos c10] at H
   have c10b0 : (t315 == 0) = true := beq_iff_eq.mpr c10
   have c10b1 : (t315 != 0) = false := bne_eq_false_iff_eq.mpr c10
   clear c10
   (first | rw [c10b0] | (simp only [i64_w, i32_w]; rw [c10b0]) | skip)
   have H' := Aside0.mk H
   clear H
   have hnb11 := NB316_306.out
   have hnc11 := NB306_316.out
   have hcz12_0 := cz BK316.out 0 (.bool false)
   have hcz12_1 := cz BK316.out 1 (.bool false)
   have hcz12_2 := cz BK316.out 2 (.slice none 0 0)
   have hcz12_3 := cz BK316.out 3 (.string (⟨#[]⟩ : ByteArray))
   have hcz12_4 := cz BK316.out 4 (.string (⟨#[]⟩ : ByteArray))
   have hfz12_0 := blk_frozen BK316.out 0
   have hfz12_1 := blk_frozen BK316.out 1
   have hfz12_2 := blk_frozen BK316.out 2
   have hfz12_3 := blk_frozen BK316.out 3
   have hfz12_4 := blk_frozen BK316.out 4
   go_wp2
   go_meet
   case rel => exact ⟨_, (t307), rs, H', ⟨by first | omega | exact Nat.le_refl _⟩, ⟨by (with_reducible repeat (first | apply Kd.R_alloc | apply Kd.R_drewN | apply Kd.R_drew)); exact Kd.R_mono (Kd.R_far (p := ⟨gb316, 4, none⟩) (Kd.R_far (p := ⟨gb316, 3, none⟩) (Kd.R_far (p := ⟨gb316, 2, none⟩) (Kd.R_far (p := ⟨gb316, 1, none⟩) (Kd.R_far (p := ⟨gb316, 0, none⟩) (Kd.R_types HO311.out BK316.out (by decide)) (fun _ hk => hk.2) (.bool t307)) (fun _ hk => hk.2) (.bool t308)) (fun _ hk => hk.2) (.slice Ao9 t309.length co9)) (fun _ hk => hk.2) (.string t312)) (fun _ hk => hk.2) (.string t313)) (fun _ hk => trivial)⟩, ⟨bk BK306.out⟩, ⟨by (with_reducible repeat (first | refine blk_drewN ?_ _ | refine blk_drew ?_ | refine blk_alloc ?_ _)); refine blk_put (cs := #[.bool t307, .bool t308, .slice Ao9 t309.length co9, .string t312, .string (⟨#[]⟩ : ByteArray)]) ?_ 4 _ rfl; (with_reducible repeat (first | refine blk_drewN ?_ _ | refine blk_drew ?_ | refine blk_alloc ?_ _)); refine blk_put (cs := #[.bool t307, .bool t308, .slice Ao9 t309.length co9, .string (⟨#[]⟩ : ByteArray), .string (⟨#[]⟩ : ByteArray)]) ?_ 3 _ rfl; (with_reducible repeat (first | refine blk_drewN ?_ _ | refine blk_drew ?_ | refine blk_alloc ?_ _)); refine blk_put (cs := #[.bool t307, .bool t308, .slice none 0 0, .string (⟨#[]⟩ : ByteArray), .string (⟨#[]⟩ : ByteArray)]) ?_ 2 _ rfl; (with_reducible repeat (first | refine blk_drewN ?_ _ | refine blk_drew ?_ | refine blk_alloc ?_ _)); refine blk_put (cs := #[.bool t307, .bool false, .slice none 0 0, .string (⟨#[]⟩ : ByteArray), .string (⟨#[]⟩ : ByteArray)]) ?_ 1 _ rfl; (with_reducible repeat (first | refine blk_drewN ?_ _ | refine blk_drew ?_ | refine blk_alloc ?_ _)); refine blk_put (cs := #[.bool false, .bool false, .slice none 0 0, .string (⟨#[]⟩ : ByteArray), .string (⟨#[]⟩ : ByteArray)]) ?_ 0 _ rfl; (with_reducible repeat (first | refine blk_drewN ?_ _ | refine blk_drew ?_ | refine blk_alloc ?_ _)); exact BK316.out⟩, ⟨bl⟩⟩
  ·rw [if_neg c10] at H
   have c10b0 : (t315 == 0) = false := beq_eq_false_iff_ne.mpr c10
   have c10b1 : (t315 != 0) = true := bne_iff_ne.mpr c10
   (first | rw [c10b0] | (simp only [i64_w, i32_w]; rw [c10b0]) | skip)
   have H' := Aside0.mk H
   clear H
   go_wp2
   go_meet
   case rel => exact ⟨_, (false), rs, H', ⟨by first | omega | exact Nat.le_refl _⟩, ⟨by (with_reducible repeat (first | apply Kd.R_alloc | apply Kd.R_drewN | apply Kd.R_drew)); exact Kd.R_mono (Kd.R_far (p := ⟨gb316, 4, none⟩) (Kd.R_far (p := ⟨gb316, 3, none⟩) (Kd.R_far (p := ⟨gb316, 2, none⟩) (Kd.R_far (p := ⟨gb316, 1, none⟩) (Kd.R_far (p := ⟨gb316, 0, none⟩) (Kd.R_types HO311.out BK316.out (by decide)) (fun _ hk => hk.2) (.bool t307)) (fun _ hk => hk.2) (.bool t308)) (fun _ hk => hk.2) (.slice Ao9 t309.length co9)) (fun _ hk => hk.2) (.string t312)) (fun _ hk => hk.2) (.string t313)) (fun _ hk => trivial)⟩, ⟨bk BK306.out⟩, ⟨by (with_reducible repeat (first | refine blk_drewN ?_ _ | refine blk_drew ?_ | refine blk_alloc ?_ _)); refine blk_put (cs := #[.bool t307, .bool t308, .slice Ao9 t309.length co9, .string t312, .string (⟨#[]⟩ : ByteArray)]) ?_ 4 _ rfl; (with_reducible repeat (first | refine blk_drewN ?_ _ | refine blk_drew ?_ | refine blk_alloc ?_ _)); refine blk_put (cs := #[.bool t307, .bool t308, .slice Ao9 t309.length co9, .string (⟨#[]⟩ : ByteArray), .string (⟨#[]⟩ : ByteArray)]) ?_ 3 _ rfl; (with_reducible repeat (first | refine blk_drewN ?_ _ | refine blk_drew ?_ | refine blk_alloc ?_ _)); refine blk_put (cs := #[.bool t307, .bool t308, .slice none 0 0, .string (⟨#[]⟩ : ByteArray), .string (⟨#[]⟩ : ByteArray)]) ?_ 2 _ rfl; (with_reducible repeat (first | refine blk_drewN ?_ _ | refine blk_drew ?_ | refine blk_alloc ?_ _)); refine blk_put (cs := #[.bool t307, .bool false, .slice none 0 0, .string (⟨#[]⟩ : ByteArray), .string (⟨#[]⟩ : ByteArray)]) ?_ 1 _ rfl; (with_reducible repeat (first | refine blk_drewN ?_ _ | refine blk_drew ?_ | refine blk_alloc ?_ _)); refine blk_put (cs := #[.bool false, .bool false, .slice none 0 0, .string (⟨#[]⟩ : ByteArray), .string (⟨#[]⟩ : ByteArray)]) ?_ 0 _ rfl; (with_reducible repeat (first | refine blk_drewN ?_ _ | refine blk_drew ?_ | refine blk_alloc ?_ _)); exact BK316.out⟩, ⟨bl⟩⟩
 case rest =>
  clear HC3
  try clear c1
  try clear p2
  try clear c7
  try clear c10
  try clear c10b0
  try clear c10b1
  try clear c11
  try clear hcz12_0
  try clear hcz12_1
  try clear hcz12_2
  try clear hcz12_3
  try clear hcz12_4
  try clear hcz8_0
  try clear hcz8_1
  try clear hcz8_2
  try clear hcz8_3
  try clear hcz8_4
  try clear hfz12_0
  try clear hfz12_1
  try clear hfz12_2
  try clear hfz12_3
  try clear hfz12_4
  try clear hfz8_0
  try clear hfz8_1
  try clear hfz8_2
  try clear hfz8_3
  try clear hfz8_4
  obtain ⟨kq, x18_2, rfl, HA, HJ2, HO_317002, BK306, BK316, HB⟩ := hcut
  cases kq with
  | zero => exact absurd HA.out (by simp [path_To.j0])
  | succ kj2 =>
   have H := HA.out
   clear HA
   simp only [path_To.j0] at H
   have HC13 := Aside0.mk H
   clear H
   go_upto_if 18 with (fail)
   go_cut [6] (fun v6 wc => ∃ (kq : Nat) (x6_12 : Int), v6 = .int .i64 x6_12 ∧ Aside0 (path_To.j1 kq t314 x6_12 t307 t308 t309 t312 t313 = some (r1, r2, r3, r4, r5, r6)) ∧ Aside0 (kq ≤ kj2) ∧ Aside0 (Kd.R Kd.string 9 wc w.heap.size (fun _ => True) (.slice Ao9 t309.length co9) t309) ∧ Aside0 (wc.heap[gb306]? = some (.cells #[.bool false, .bool false, (.slice none 0 0), .string (⟨#[]⟩ : ByteArray), .string (⟨#[]⟩ : ByteArray)] 26 (0, 0))) ∧ Aside0 (wc.heap[gb316]? = some (.cells #[.bool t307, .bool t308, (.slice Ao9 t309.length co9), .string t312, .string t313] 26 (0, 0))) ∧ Aside0 (Below w.heap.size w wc))
   case first =>
    have H := HC13.out
    clear HC13
    by_cases c14 : x18_2 = true
    ·subst c14
     replace H : (path_To.j1 kj2 t314 5 t307 t308 t309 t312 t313) = some (r1, r2, r3, r4, r5, r6) := by rw [if_pos rfl] at H; exact H
     have H' := Aside0.mk H
     clear H
     go_wp2
     go_meet
     case rel => exact ⟨_, (5), rs, H', ⟨by have := HJ2.out; first | omega | exact Nat.le_refl _⟩, ⟨kr HO_317002.out⟩, ⟨bk BK306.out⟩, ⟨bk BK316.out⟩, ⟨bl⟩⟩
    ·replace c14 := Bool.eq_false_iff.mpr c14
     subst c14
     replace H : (path_To.j1 kj2 t314 t315 t307 t308 t309 t312 t313) = some (r1, r2, r3, r4, r5, r6) := by rw [if_neg (show ¬ (false = true) by decide)] at H; exact H
     have H' := Aside0.mk H
     clear H
     go_wp2
     go_meet
     case rel => exact ⟨_, (t315), rs, H', ⟨by have := HJ2.out; first | omega | exact Nat.le_refl _⟩, ⟨kr HO_317002.out⟩, ⟨bk BK306.out⟩, ⟨bk BK316.out⟩, ⟨bl⟩⟩
   case rest =>
    clear HC13
    try clear c1
    try clear p2
    try clear c7
    try clear c10
    try clear c10b0
    try clear c10b1
    try clear c11
    try clear c13
    try clear c14
    try clear hcz12_0
    try clear hcz12_1
    try clear hcz12_2
    try clear hcz12_3
    try clear hcz12_4
    try clear hcz8_0
    try clear hcz8_1
    try clear hcz8_2
    try clear hcz8_3
    try clear hcz8_4
    try clear hfz12_0
    try clear hfz12_1
    try clear hfz12_2
    try clear hfz12_3
    try clear hfz12_4
    try clear hfz8_0
    try clear hfz8_1
    try clear hfz8_2
    try clear hfz8_3
    try clear hfz8_4
    try clear p2
    obtain ⟨kq, x6_12, rfl, HA, HJ12, HO_317002, BK306, BK316, HB⟩ := hcut
    cases kq with
    | zero => exact absurd HA.out (by simp [path_To.j1])
    | succ kj12 =>
     have H := HA.out
     clear HA
     simp only [path_To.j1] at H
     have HC15 := Aside0.mk H
     clear H
     go_upto_region 4 with (fail)
     go_cut [24] (fun v24 wc => ∃ (kq : Nat) (x24_14 : Bool), v24 = .bool x24_14 ∧ Aside0 (path_To.j2 kq t314 x6_12 x24_14 t307 t308 t309 t312 t313 = some (r1, r2, r3, r4, r5, r6)) ∧ Aside0 (kq ≤ kj12) ∧ Aside0 (Kd.R Kd.string 9 wc w.heap.size (fun _ => True) (.slice Ao9 t309.length co9) t309) ∧ Aside0 (wc.heap[gb306]? = some (.cells #[.bool false, .bool false, (.slice none 0 0), .string (⟨#[]⟩ : ByteArray), .string (⟨#[]⟩ : ByteArray)] 26 (0, 0))) ∧ Aside0 (wc.heap[gb316]? = some (.cells #[.bool t307, .bool t308, (.slice Ao9 t309.length co9), .string t312, .string t313] 26 (0, 0))) ∧ Aside0 (Below w.heap.size w wc))
     case first =>
      have H := HC15.out
      clear HC15
      by_cases c16 : x6_12 = 0
      ·rw [if_pos c16] at H
       have c16b0 : (x6_12 == 0) = true := beq_iff_eq.mpr c16
       have c16b1 : (x6_12 != 0) = false := bne_eq_false_iff_eq.mpr c16
       clear c16
       (first | rw [c16b0] | (simp only [i64_w, i32_w]; rw [c16b0]) | skip)
       have H' := Aside0.mk H
       clear H
       go_wp2
       go_meet
       case rel => exact ⟨_, ((t314.toList != ([] : List UInt8))), rs, H', ⟨by have := HJ2.out; have := HJ12.out; first | omega | exact Nat.le_refl _⟩, ⟨kr HO_317002.out⟩, ⟨bk BK306.out⟩, ⟨bk BK316.out⟩, ⟨bl⟩⟩
      ·rw [if_neg c16] at H
       have c16b0 : (x6_12 == 0) = false := beq_eq_false_iff_ne.mpr c16
       have c16b1 : (x6_12 != 0) = true := bne_iff_ne.mpr c16
       (first | rw [c16b0] | (simp only [i64_w, i32_w]; rw [c16b0]) | skip)
       have H' := Aside0.mk H
       clear H
       go_wp2
       go_meet
       case rel => exact ⟨_, (false), rs, H', ⟨by have := HJ2.out; have := HJ12.out; first | omega | exact Nat.le_refl _⟩, ⟨kr HO_317002.out⟩, ⟨bk BK306.out⟩, ⟨bk BK316.out⟩, ⟨bl⟩⟩
     case rest =>
      clear HC15
      try clear c1
      try clear p2
      try clear c7
      try clear c10
      try clear c10b0
      try clear c10b1
      try clear c11
      try clear c13
      try clear c14
      try clear c16
      try clear c16b0
      try clear c16b1
      try clear hcz12_0
      try clear hcz12_1
      try clear hcz12_2
      try clear hcz12_3
      try clear hcz12_4
      try clear hcz8_0
      try clear hcz8_1
      try clear hcz8_2
      try clear hcz8_3
      try clear hcz8_4
      try clear hfz12_0
      try clear hfz12_1
      try clear hfz12_2
      try clear hfz12_3
      try clear hfz12_4
      try clear hfz8_0
      try clear hfz8_1
      try clear hfz8_2
      try clear hfz8_3
      try clear hfz8_4
      try clear p2
      obtain ⟨kq, x24_14, rfl, HA, HJ14, HO_317002, BK306, BK316, HB⟩ := hcut
      cases kq with
      | zero => exact absurd HA.out (by simp [path_To.j2])
      | succ kj14 =>
       have H := HA.out
       clear HA
       simp only [path_To.j2] at H
       by_cases c17 : x24_14 = true
       ·subst c17
        replace H : ((path_ParseParams.f kj14 t314).bind fun bt317 => (if bt317.2.2.2 = 0 then (if 1 = 0 then (some (t307, t308, t309, t312, t313, 0)) else (some (false, false, ([] : List ByteArray), (⟨#[]⟩ : ByteArray), (⟨#[]⟩ : ByteArray), 1))) else (some (false, false, ([] : List ByteArray), (⟨#[]⟩ : ByteArray), (⟨#[]⟩ : ByteArray), bt317.2.2.2)))) = some (r1, r2, r3, r4, r5, r6) := by rw [if_pos rfl] at H; exact H
        obtain ⟨⟨t317, t318, t319, t320⟩, A180, H⟩ := Option.bind_eq_some_iff.mp H
        replace H : (if t320 = 0 then (if 1 = 0 then (some (t307, t308, t309, t312, t313, 0)) else (some (false, false, ([] : List ByteArray), (⟨#[]⟩ : ByteArray), (⟨#[]⟩ : ByteArray), 1))) else (some (false, false, ([] : List ByteArray), (⟨#[]⟩ : ByteArray), (⟨#[]⟩ : ByteArray), t320))) = some (r1, r2, r3, r4, r5, r6) := H
        have A18 := Aside0.mk A180
        clear A180
        by_cases c19 : t320 = 0
        ·rw [if_pos c19] at H
         have c19b0 : (t320 == 0) = true := beq_iff_eq.mpr c19
         have c19b1 : (t320 != 0) = false := bne_eq_false_iff_eq.mpr c19
         clear c19
         by_cases c20 : 1 = 0
         ·exact absurd c20 (by decide)
         ·rw [if_neg c20] at H
          have c20b0 : (1 == 0) = false := beq_eq_false_iff_ne.mpr c20
          have c20b1 : (1 != 0) = true := bne_iff_ne.mpr c20
          simp only [Option.some.injEq, Prod.mk.injEq] at H
          obtain ⟨rfl, rfl, rfl, rfl, rfl, rfl⟩ := H
          go_wp2_with (first | ((with_reducible refine gate_callee (f := 17) rfl ?_); refine goesL_ (some 27) rfl rfl Tryz.func17 kf rfl #[.string t314] rfl ml ?_; (with_reducible refine (path_ParseParams.calls kj14 t314 t317 t318 t319 t320 _ ?side1 A18.out).mono ?_); (case side1 => exact Glob.below HG.out bl); rintro e w25 ⟨rfl, hb⟩; refine ⟨_, rfl, ?_⟩; replace HO_317002 := Aside0.mk (Kd.R_below (kr HO_317002.out) hb); replace BK306 := Aside0.mk (kb BK306.out hb); replace BK316 := Aside0.mk (kb BK316.out hb); replace HB := Aside0.mk (below_step bl hb); (try clear hb); (try clear hb2); (try clear hk); (try clear hi); have hnb26 := NB306_316.out; have hnc26 := NB316_306.out; have hcz27_0 := cz BK306.out 0 (.bool false); have hcz27_1 := cz BK306.out 1 (.bool false); have hcz27_2 := cz BK306.out 2 (.slice none 0 0); have hcz27_3 := cz BK306.out 3 (.string (⟨#[]⟩ : ByteArray)); have hcz27_4 := cz BK306.out 4 (.string (⟨#[]⟩ : ByteArray)); have hfz27_0 := blk_frozen BK306.out 0; have hfz27_1 := blk_frozen BK306.out 1; have hfz27_2 := blk_frozen BK306.out 2; have hfz27_3 := blk_frozen BK306.out 3; have hfz27_4 := blk_frozen BK306.out 4))
          refine bodyPost_ret (results_ct rfl _ _ gb306 26 #[.bool false, .bool false, .slice none 0 0, .string (⟨#[]⟩ : ByteArray), .string (⟨#[]⟩ : ByteArray)] (0, 0) _ rfl (by (with_reducible repeat (first | refine blk_drewN ?_ _ | refine blk_drew ?_ | refine blk_alloc ?_ _)); refine blk_put (cs := #[.bool false, .bool false, .slice none 0 0, .string (⟨#[]⟩ : ByteArray), .string (⟨#[]⟩ : ByteArray)]) ?_ 4 _ rfl; (with_reducible repeat (first | refine blk_drewN ?_ _ | refine blk_drew ?_ | refine blk_alloc ?_ _)); refine blk_put (cs := #[.bool false, .bool false, .slice none 0 0, .string (⟨#[]⟩ : ByteArray), .string (⟨#[]⟩ : ByteArray)]) ?_ 3 _ rfl; (with_reducible repeat (first | refine blk_drewN ?_ _ | refine blk_drew ?_ | refine blk_alloc ?_ _)); refine blk_put (cs := #[.bool false, .bool false, .slice none 0 0, .string (⟨#[]⟩ : ByteArray), .string (⟨#[]⟩ : ByteArray)]) ?_ 2 _ rfl; (with_reducible repeat (first | refine blk_drewN ?_ _ | refine blk_drew ?_ | refine blk_alloc ?_ _)); refine blk_put (cs := #[.bool false, .bool false, .slice none 0 0, .string (⟨#[]⟩ : ByteArray), .string (⟨#[]⟩ : ByteArray)]) ?_ 1 _ rfl; (with_reducible repeat (first | refine blk_drewN ?_ _ | refine blk_drew ?_ | refine blk_alloc ?_ _)); refine blk_put (cs := #[.bool false, .bool false, .slice none 0 0, .string (⟨#[]⟩ : ByteArray), .string (⟨#[]⟩ : ByteArray)]) ?_ 0 _ rfl; (with_reducible repeat (first | refine blk_drewN ?_ _ | refine blk_drew ?_ | refine blk_alloc ?_ _)); exact BK306.out) Tryz.underlying26 rfl kf) rfl ?_
          exact ⟨_, by first | rfl | (simp [errW_none, errW_some] <;> rfl) | (simp [*, errW_none, errW_some] <;> rfl), by first | exact Kd.R_nil _ _ _ _ _ | exact Kd.N_nil _ _ _ _ _ | exact Kd.V_nil _ _ _ _ _ | exact Kd.Q_nil _ _ _ _ _ | exact Kd.S_nil _ _ _ _ _, bl⟩
        ·rw [if_neg c19] at H
         have c19b0 : (t320 == 0) = false := beq_eq_false_iff_ne.mpr c19
         have c19b1 : (t320 != 0) = true := bne_iff_ne.mpr c19
         simp only [Option.some.injEq, Prod.mk.injEq] at H
         obtain ⟨rfl, rfl, rfl, rfl, rfl, rfl⟩ := H
         go_wp2_with (first | ((with_reducible refine gate_callee (f := 17) rfl ?_); refine goesL_ (some 27) rfl rfl Tryz.func17 kf rfl #[.string t314] rfl ml ?_; (with_reducible refine (path_ParseParams.calls kj14 t314 t317 t318 t319 t320 _ ?side1 A18.out).mono ?_); (case side1 => exact Glob.below HG.out bl); rintro e w28 ⟨rfl, hb⟩; refine ⟨_, rfl, ?_⟩; replace HO_317002 := Aside0.mk (Kd.R_below (kr HO_317002.out) hb); replace BK306 := Aside0.mk (kb BK306.out hb); replace BK316 := Aside0.mk (kb BK316.out hb); replace HB := Aside0.mk (below_step bl hb); (try clear hb); (try clear hb2); (try clear hk); (try clear hi); have hnb29 := NB306_316.out; have hnc29 := NB316_306.out; have hcz30_0 := cz BK306.out 0 (.bool false); have hcz30_1 := cz BK306.out 1 (.bool false); have hcz30_2 := cz BK306.out 2 (.slice none 0 0); have hcz30_3 := cz BK306.out 3 (.string (⟨#[]⟩ : ByteArray)); have hcz30_4 := cz BK306.out 4 (.string (⟨#[]⟩ : ByteArray)); have hfz30_0 := blk_frozen BK306.out 0; have hfz30_1 := blk_frozen BK306.out 1; have hfz30_2 := blk_frozen BK306.out 2; have hfz30_3 := blk_frozen BK306.out 3; have hfz30_4 := blk_frozen BK306.out 4))
         refine bodyPost_ret (results_ct rfl _ _ gb306 26 #[.bool false, .bool false, .slice none 0 0, .string (⟨#[]⟩ : ByteArray), .string (⟨#[]⟩ : ByteArray)] (0, 0) _ rfl (by (with_reducible repeat (first | refine blk_drewN ?_ _ | refine blk_drew ?_ | refine blk_alloc ?_ _)); refine blk_put (cs := #[.bool false, .bool false, .slice none 0 0, .string (⟨#[]⟩ : ByteArray), .string (⟨#[]⟩ : ByteArray)]) ?_ 4 _ rfl; (with_reducible repeat (first | refine blk_drewN ?_ _ | refine blk_drew ?_ | refine blk_alloc ?_ _)); refine blk_put (cs := #[.bool false, .bool false, .slice none 0 0, .string (⟨#[]⟩ : ByteArray), .string (⟨#[]⟩ : ByteArray)]) ?_ 3 _ rfl; (with_reducible repeat (first | refine blk_drewN ?_ _ | refine blk_drew ?_ | refine blk_alloc ?_ _)); refine blk_put (cs := #[.bool false, .bool false, .slice none 0 0, .string (⟨#[]⟩ : ByteArray), .string (⟨#[]⟩ : ByteArray)]) ?_ 2 _ rfl; (with_reducible repeat (first | refine blk_drewN ?_ _ | refine blk_drew ?_ | refine blk_alloc ?_ _)); refine blk_put (cs := #[.bool false, .bool false, .slice none 0 0, .string (⟨#[]⟩ : ByteArray), .string (⟨#[]⟩ : ByteArray)]) ?_ 1 _ rfl; (with_reducible repeat (first | refine blk_drewN ?_ _ | refine blk_drew ?_ | refine blk_alloc ?_ _)); refine blk_put (cs := #[.bool false, .bool false, .slice none 0 0, .string (⟨#[]⟩ : ByteArray), .string (⟨#[]⟩ : ByteArray)]) ?_ 0 _ rfl; (with_reducible repeat (first | refine blk_drewN ?_ _ | refine blk_drew ?_ | refine blk_alloc ?_ _)); exact BK306.out) Tryz.underlying26 rfl kf) rfl ?_
         exact ⟨_, by first | rfl | (simp [errW_none, errW_some] <;> rfl) | (simp [*, errW_none, errW_some] <;> rfl), by first | exact Kd.R_nil _ _ _ _ _ | exact Kd.N_nil _ _ _ _ _ | exact Kd.V_nil _ _ _ _ _ | exact Kd.Q_nil _ _ _ _ _ | exact Kd.S_nil _ _ _ _ _, bl⟩
       ·replace c17 := Bool.eq_false_iff.mpr c17
        subst c17
        replace H : (if x6_12 = 0 then (some (t307, t308, t309, t312, t313, 0)) else (some (false, false, ([] : List ByteArray), (⟨#[]⟩ : ByteArray), (⟨#[]⟩ : ByteArray), x6_12))) = some (r1, r2, r3, r4, r5, r6) := by rw [if_neg (show ¬ (false = true) by decide)] at H; exact H
        by_cases c31 : x6_12 = 0
        ·rw [if_pos c31] at H
         have c31b0 : (x6_12 == 0) = true := beq_iff_eq.mpr c31
         have c31b1 : (x6_12 != 0) = false := bne_eq_false_iff_eq.mpr c31
         clear c31
         simp only [Option.some.injEq, Prod.mk.injEq] at H
         obtain ⟨rfl, rfl, rfl, rfl, rfl, rfl⟩ := H
         have hnb32 := NB316_306.out
         have hnc32 := NB306_316.out
         have hcz33_0 := cz BK316.out 0 (.bool t307)
         have hcz33_1 := cz BK316.out 1 (.bool t308)
         have hcz33_2 := cz BK316.out 2 (.slice Ao9 t309.length co9)
         have hcz33_3 := cz BK316.out 3 (.string t312)
         have hcz33_4 := cz BK316.out 4 (.string t313)
         have hfz33_0 := blk_frozen BK316.out 0
         have hfz33_1 := blk_frozen BK316.out 1
         have hfz33_2 := blk_frozen BK316.out 2
         have hfz33_3 := blk_frozen BK316.out 3
         have hfz33_4 := blk_frozen BK316.out 4
         have hcz34_0 := cz BK306.out 0 (.bool false)
         have hcz34_1 := cz BK306.out 1 (.bool false)
         have hcz34_2 := cz BK306.out 2 (.slice none 0 0)
         have hcz34_3 := cz BK306.out 3 (.string (⟨#[]⟩ : ByteArray))
         have hcz34_4 := cz BK306.out 4 (.string (⟨#[]⟩ : ByteArray))
         have hfz34_0 := blk_frozen BK306.out 0
         have hfz34_1 := blk_frozen BK306.out 1
         have hfz34_2 := blk_frozen BK306.out 2
         have hfz34_3 := blk_frozen BK306.out 3
         have hfz34_4 := blk_frozen BK306.out 4
         go_wp2
         refine bodyPost_ret (results_ct rfl _ _ gb306 26 #[.bool t307, .bool t308, .slice Ao9 t309.length co9, .string t312, .string t313] (0, 0) _ rfl (by (with_reducible repeat (first | refine blk_drewN ?_ _ | refine blk_drew ?_ | refine blk_alloc ?_ _)); refine blk_put (cs := #[.bool t307, .bool t308, .slice Ao9 t309.length co9, .string t312, .string (⟨#[]⟩ : ByteArray)]) ?_ 4 _ rfl; (with_reducible repeat (first | refine blk_drewN ?_ _ | refine blk_drew ?_ | refine blk_alloc ?_ _)); refine blk_put (cs := #[.bool t307, .bool t308, .slice Ao9 t309.length co9, .string (⟨#[]⟩ : ByteArray), .string (⟨#[]⟩ : ByteArray)]) ?_ 3 _ rfl; (with_reducible repeat (first | refine blk_drewN ?_ _ | refine blk_drew ?_ | refine blk_alloc ?_ _)); refine blk_put (cs := #[.bool t307, .bool t308, .slice none 0 0, .string (⟨#[]⟩ : ByteArray), .string (⟨#[]⟩ : ByteArray)]) ?_ 2 _ rfl; (with_reducible repeat (first | refine blk_drewN ?_ _ | refine blk_drew ?_ | refine blk_alloc ?_ _)); refine blk_put (cs := #[.bool t307, .bool false, .slice none 0 0, .string (⟨#[]⟩ : ByteArray), .string (⟨#[]⟩ : ByteArray)]) ?_ 1 _ rfl; (with_reducible repeat (first | refine blk_drewN ?_ _ | refine blk_drew ?_ | refine blk_alloc ?_ _)); refine blk_put (cs := #[.bool false, .bool false, .slice none 0 0, .string (⟨#[]⟩ : ByteArray), .string (⟨#[]⟩ : ByteArray)]) ?_ 0 _ rfl; (with_reducible repeat (first | refine blk_drewN ?_ _ | refine blk_drew ?_ | refine blk_alloc ?_ _)); exact BK306.out) Tryz.underlying26 rfl kf) rfl ?_
         exact ⟨_, by first | rfl | (simp [errW_none, errW_some] <;> rfl) | (simp [*, errW_none, errW_some] <;> rfl), by (with_reducible repeat (first | apply Kd.R_alloc | apply Kd.R_drewN | apply Kd.R_drew)); exact Kd.R_mono (Kd.R_far (p := ⟨gb306, 4, none⟩) (Kd.R_far (p := ⟨gb306, 3, none⟩) (Kd.R_far (p := ⟨gb306, 2, none⟩) (Kd.R_far (p := ⟨gb306, 1, none⟩) (Kd.R_far (p := ⟨gb306, 0, none⟩) (Kd.R_types HO_317002.out BK306.out (by decide)) (fun _ hk => hk.2) (.bool t307)) (fun _ hk => hk.2) (.bool t308)) (fun _ hk => hk.2) (.slice Ao9 t309.length co9)) (fun _ hk => hk.2) (.string t312)) (fun _ hk => hk.2) (.string t313)) (fun _ hk => trivial), bl⟩
        ·rw [if_neg c31] at H
         have c31b0 : (x6_12 == 0) = false := beq_eq_false_iff_ne.mpr c31
         have c31b1 : (x6_12 != 0) = true := bne_iff_ne.mpr c31
         simp only [Option.some.injEq, Prod.mk.injEq] at H
         obtain ⟨rfl, rfl, rfl, rfl, rfl, rfl⟩ := H
         have hnb35 := NB306_316.out
         have hnc35 := NB316_306.out
         have hcz36_0 := cz BK306.out 0 (.bool false)
         have hcz36_1 := cz BK306.out 1 (.bool false)
         have hcz36_2 := cz BK306.out 2 (.slice none 0 0)
         have hcz36_3 := cz BK306.out 3 (.string (⟨#[]⟩ : ByteArray))
         have hcz36_4 := cz BK306.out 4 (.string (⟨#[]⟩ : ByteArray))
         have hfz36_0 := blk_frozen BK306.out 0
         have hfz36_1 := blk_frozen BK306.out 1
         have hfz36_2 := blk_frozen BK306.out 2
         have hfz36_3 := blk_frozen BK306.out 3
         have hfz36_4 := blk_frozen BK306.out 4
         go_wp2
         refine bodyPost_ret (results_ct rfl _ _ gb306 26 #[.bool false, .bool false, .slice none 0 0, .string (⟨#[]⟩ : ByteArray), .string (⟨#[]⟩ : ByteArray)] (0, 0) _ rfl (by (with_reducible repeat (first | refine blk_drewN ?_ _ | refine blk_drew ?_ | refine blk_alloc ?_ _)); refine blk_put (cs := #[.bool false, .bool false, .slice none 0 0, .string (⟨#[]⟩ : ByteArray), .string (⟨#[]⟩ : ByteArray)]) ?_ 4 _ rfl; (with_reducible repeat (first | refine blk_drewN ?_ _ | refine blk_drew ?_ | refine blk_alloc ?_ _)); refine blk_put (cs := #[.bool false, .bool false, .slice none 0 0, .string (⟨#[]⟩ : ByteArray), .string (⟨#[]⟩ : ByteArray)]) ?_ 3 _ rfl; (with_reducible repeat (first | refine blk_drewN ?_ _ | refine blk_drew ?_ | refine blk_alloc ?_ _)); refine blk_put (cs := #[.bool false, .bool false, .slice none 0 0, .string (⟨#[]⟩ : ByteArray), .string (⟨#[]⟩ : ByteArray)]) ?_ 2 _ rfl; (with_reducible repeat (first | refine blk_drewN ?_ _ | refine blk_drew ?_ | refine blk_alloc ?_ _)); refine blk_put (cs := #[.bool false, .bool false, .slice none 0 0, .string (⟨#[]⟩ : ByteArray), .string (⟨#[]⟩ : ByteArray)]) ?_ 1 _ rfl; (with_reducible repeat (first | refine blk_drewN ?_ _ | refine blk_drew ?_ | refine blk_alloc ?_ _)); refine blk_put (cs := #[.bool false, .bool false, .slice none 0 0, .string (⟨#[]⟩ : ByteArray), .string (⟨#[]⟩ : ByteArray)]) ?_ 0 _ rfl; (with_reducible repeat (first | refine blk_drewN ?_ _ | refine blk_drew ?_ | refine blk_alloc ?_ _)); exact BK306.out) Tryz.underlying26 rfl kf) rfl ?_
         exact ⟨_, by first | rfl | (simp [errW_none, errW_some] <;> rfl) | (simp [*, errW_none, errW_some] <;> rfl), by first | exact Kd.R_nil _ _ _ _ _ | exact Kd.N_nil _ _ _ _ _ | exact Kd.V_nil _ _ _ _ _ | exact Kd.Q_nil _ _ _ _ _ | exact Kd.S_nil _ _ _ _ _, bl⟩

end Go.Proofs.YtgelfnjicglmbaaGreatDoor.Q
end
section
namespace Go.Proofs.YtgelfnjicglmbaaGreatDoor.Q

attribute [local go_sem high] eqA24
/-! ### postriderlaw06_tells: function 11 -/
def postriderlaw06_tells.f (k : Nat)  : Option (Bool) := (path_From.f k (⟨#[60, 97, 64, 98, 46, 99, 62, 32, 83, 73, 90, 69, 61, 53]⟩ : ByteArray)).bind fun bt321 => ((path_From.f k (⟨#[60, 64, 120, 44, 64, 121, 58, 97, 64, 98, 46, 99, 62]⟩ : ByteArray)).bind fun bt334 => ((path_From.f k (⟨#[60, 62]⟩ : ByteArray)).bind fun bt347 => ((path_To.f k (⟨#[60, 112, 111, 115, 116, 77, 97, 115, 116, 101, 114, 62]⟩ : ByteArray)).bind fun bt360 => ((path_To.f k (⟨#[60, 62]⟩ : ByteArray)).bind fun bt369 => (if bt321.2.2.2.2.2.2.2.2 = 0 then (if (bt321.2.2.2.1.toList == ([97] : List UInt8) && (bt321.2.2.2.2.1.toList == ([98, 46, 99] : List UInt8))) = true then (if bt321.2.2.2.2.2.2.2.1 = 5 then (if bt321.2.2.2.2.2.1 = true then (if bt334.2.2.2.2.2.2.2.2 = 0 then (if (bt334.2.2.1.length : Int) = 2 then (if 1 < (bt334.2.2.1.length : Int) then (if (rdOf ByteArray.empty bt334.2.2.1 1).toList = ([121] : List UInt8) then (if bt347.2.2.2.2.2.2.2.2 = 0 then (if bt347.1 = true then (if bt360.2.2.2.2.2 = 0 then (if bt360.2.1 = true then (some (bt369.2.2.2.2.2 == 5)) else (some false)) else (some false)) else (some false)) else (some false)) else (some false)) else (none)) else (some false)) else (some false)) else (some false)) else (some false)) else (some false)) else (some false))))))
theorem postriderlaw06_tells.mono : ∀ k, LeO (postriderlaw06_tells.f k ) (postriderlaw06_tells.f (k + 1) ) := by
 intro  k
 unfold postriderlaw06_tells.f
 repeat' first
   | (with_reducible first | exact path_From.mono _ _ | exact path_To.mono _ _ | exact LeO.refl _ | exact LeO.none _ | refine LeO.ite ?_ ?_ | refine LeO.bind ?_ (fun _ => ?_))
theorem postriderlaw06_tells.calls (k : Nat)  (r : Bool) (w : World) (hG : Glob w) (hT : r = true) (h : postriderlaw06_tells.f k  = some r) :
  Calls Tryz.prog 11 #[] w fun e w' => e = .returned (.bool r) ∧ Below w.heap.size w w' := by
 have hu26 := Tryz.underlying26
 have hu46 := Tryz.underlying46
 have hu24 := Tryz.underlying24
 have HB := Aside0.mk (Below.refl w.heap.size w)
 have HG := Aside0.mk hG
 clear hG
 have HT_r := Aside0.mk hT
 clear hT
 have H : ((path_From.f k (⟨#[60, 97, 64, 98, 46, 99, 62, 32, 83, 73, 90, 69, 61, 53]⟩ : ByteArray)).bind fun bt321 => ((path_From.f k (⟨#[60, 64, 120, 44, 64, 121, 58, 97, 64, 98, 46, 99, 62]⟩ : ByteArray)).bind fun bt334 => ((path_From.f k (⟨#[60, 62]⟩ : ByteArray)).bind fun bt347 => ((path_To.f k (⟨#[60, 112, 111, 115, 116, 77, 97, 115, 116, 101, 114, 62]⟩ : ByteArray)).bind fun bt360 => ((path_To.f k (⟨#[60, 62]⟩ : ByteArray)).bind fun bt369 => (if bt321.2.2.2.2.2.2.2.2 = 0 then (if (bt321.2.2.2.1.toList == ([97] : List UInt8) && (bt321.2.2.2.2.1.toList == ([98, 46, 99] : List UInt8))) = true then (if bt321.2.2.2.2.2.2.2.1 = 5 then (if bt321.2.2.2.2.2.1 = true then (if bt334.2.2.2.2.2.2.2.2 = 0 then (if (bt334.2.2.1.length : Int) = 2 then (if 1 < (bt334.2.2.1.length : Int) then (if (rdOf ByteArray.empty bt334.2.2.1 1).toList = ([121] : List UInt8) then (if bt347.2.2.2.2.2.2.2.2 = 0 then (if bt347.1 = true then (if bt360.2.2.2.2.2 = 0 then (if bt360.2.1 = true then (some (bt369.2.2.2.2.2 == 5)) else (some false)) else (some false)) else (some false)) else (some false)) else (some false)) else (none)) else (some false)) else (some false)) else (some false)) else (some false)) else (some false)) else (some false))))))) = some r := h
 clear h
 obtain ⟨⟨t321, t322, t323, t326, t327, t328, t329, t330, t331⟩, A10, H⟩ := Option.bind_eq_some_iff.mp H
 replace H : ((path_From.f k (⟨#[60, 64, 120, 44, 64, 121, 58, 97, 64, 98, 46, 99, 62]⟩ : ByteArray)).bind fun bt334 => ((path_From.f k (⟨#[60, 62]⟩ : ByteArray)).bind fun bt347 => ((path_To.f k (⟨#[60, 112, 111, 115, 116, 77, 97, 115, 116, 101, 114, 62]⟩ : ByteArray)).bind fun bt360 => ((path_To.f k (⟨#[60, 62]⟩ : ByteArray)).bind fun bt369 => (if t331 = 0 then (if (t326.toList == ([97] : List UInt8) && (t327.toList == ([98, 46, 99] : List UInt8))) = true then (if t330 = 5 then (if t328 = true then (if bt334.2.2.2.2.2.2.2.2 = 0 then (if (bt334.2.2.1.length : Int) = 2 then (if 1 < (bt334.2.2.1.length : Int) then (if (rdOf ByteArray.empty bt334.2.2.1 1).toList = ([121] : List UInt8) then (if bt347.2.2.2.2.2.2.2.2 = 0 then (if bt347.1 = true then (if bt360.2.2.2.2.2 = 0 then (if bt360.2.1 = true then (some (bt369.2.2.2.2.2 == 5)) else (some false)) else (some false)) else (some false)) else (some false)) else (some false)) else (none)) else (some false)) else (some false)) else (some false)) else (some false)) else (some false)) else (some false)))))) = some r := H
 have A1 := Aside0.mk A10
 clear A10
 obtain ⟨⟨t334, t335, t336, t339, t340, t341, t342, t343, t344⟩, A20, H⟩ := Option.bind_eq_some_iff.mp H
 replace H : ((path_From.f k (⟨#[60, 62]⟩ : ByteArray)).bind fun bt347 => ((path_To.f k (⟨#[60, 112, 111, 115, 116, 77, 97, 115, 116, 101, 114, 62]⟩ : ByteArray)).bind fun bt360 => ((path_To.f k (⟨#[60, 62]⟩ : ByteArray)).bind fun bt369 => (if t331 = 0 then (if (t326.toList == ([97] : List UInt8) && (t327.toList == ([98, 46, 99] : List UInt8))) = true then (if t330 = 5 then (if t328 = true then (if t344 = 0 then (if (t336.length : Int) = 2 then (if 1 < (t336.length : Int) then (if (rdOf ByteArray.empty t336 1).toList = ([121] : List UInt8) then (if bt347.2.2.2.2.2.2.2.2 = 0 then (if bt347.1 = true then (if bt360.2.2.2.2.2 = 0 then (if bt360.2.1 = true then (some (bt369.2.2.2.2.2 == 5)) else (some false)) else (some false)) else (some false)) else (some false)) else (some false)) else (none)) else (some false)) else (some false)) else (some false)) else (some false)) else (some false)) else (some false))))) = some r := H
 have A2 := Aside0.mk A20
 clear A20
 obtain ⟨⟨t347, t348, t349, t352, t353, t354, t355, t356, t357⟩, A30, H⟩ := Option.bind_eq_some_iff.mp H
 replace H : ((path_To.f k (⟨#[60, 112, 111, 115, 116, 77, 97, 115, 116, 101, 114, 62]⟩ : ByteArray)).bind fun bt360 => ((path_To.f k (⟨#[60, 62]⟩ : ByteArray)).bind fun bt369 => (if t331 = 0 then (if (t326.toList == ([97] : List UInt8) && (t327.toList == ([98, 46, 99] : List UInt8))) = true then (if t330 = 5 then (if t328 = true then (if t344 = 0 then (if (t336.length : Int) = 2 then (if 1 < (t336.length : Int) then (if (rdOf ByteArray.empty t336 1).toList = ([121] : List UInt8) then (if t357 = 0 then (if t347 = true then (if bt360.2.2.2.2.2 = 0 then (if bt360.2.1 = true then (some (bt369.2.2.2.2.2 == 5)) else (some false)) else (some false)) else (some false)) else (some false)) else (some false)) else (none)) else (some false)) else (some false)) else (some false)) else (some false)) else (some false)) else (some false)))) = some r := H
 have A3 := Aside0.mk A30
 clear A30
 obtain ⟨⟨t360, t361, t362, t365, t366, t367⟩, A40, H⟩ := Option.bind_eq_some_iff.mp H
 replace H : ((path_To.f k (⟨#[60, 62]⟩ : ByteArray)).bind fun bt369 => (if t331 = 0 then (if (t326.toList == ([97] : List UInt8) && (t327.toList == ([98, 46, 99] : List UInt8))) = true then (if t330 = 5 then (if t328 = true then (if t344 = 0 then (if (t336.length : Int) = 2 then (if 1 < (t336.length : Int) then (if (rdOf ByteArray.empty t336 1).toList = ([121] : List UInt8) then (if t357 = 0 then (if t347 = true then (if t367 = 0 then (if t361 = true then (some (bt369.2.2.2.2.2 == 5)) else (some false)) else (some false)) else (some false)) else (some false)) else (some false)) else (none)) else (some false)) else (some false)) else (some false)) else (some false)) else (some false)) else (some false))) = some r := H
 have A4 := Aside0.mk A40
 clear A40
 obtain ⟨⟨t369, t370, t371, t374, t375, t376⟩, A50, H⟩ := Option.bind_eq_some_iff.mp H
 replace H : (if t331 = 0 then (if (t326.toList == ([97] : List UInt8) && (t327.toList == ([98, 46, 99] : List UInt8))) = true then (if t330 = 5 then (if t328 = true then (if t344 = 0 then (if (t336.length : Int) = 2 then (if 1 < (t336.length : Int) then (if (rdOf ByteArray.empty t336 1).toList = ([121] : List UInt8) then (if t357 = 0 then (if t347 = true then (if t367 = 0 then (if t361 = true then (some (t376 == 5)) else (some false)) else (some false)) else (some false)) else (some false)) else (some false)) else (none)) else (some false)) else (some false)) else (some false)) else (some false)) else (some false)) else (some false)) = some r := H
 have A5 := Aside0.mk A50
 clear A50
 by_cases c6 : t331 = 0
 ·rw [if_pos c6] at H
  have c6b0 : (t331 == 0) = true := beq_iff_eq.mpr c6
  have c6b1 : (t331 != 0) = false := bne_eq_false_iff_eq.mpr c6
  clear c6
  by_cases c7 : (t326.toList == ([97] : List UInt8) && (t327.toList == ([98, 46, 99] : List UInt8))) = true
  ·rw [if_pos c7] at H
   have c7b0 : (t326.toList == ([97] : List UInt8) && (t327.toList == ([98, 46, 99] : List UInt8))) = true := c7
   (try (have c7b1 : decide (t326.toList = ([97] : List UInt8) && (t327.toList == ([98, 46, 99] : List UInt8))) = true := by simpa using c7))
   (try (have c7b2 : (t326.toList == ([97] : List UInt8) && (t327.toList == ([98, 46, 99] : List UInt8))) = true := by simpa using c7))
   clear c7
   by_cases c8 : t330 = 5
   ·rw [if_pos c8] at H
    have c8b0 : (t330 == 5) = true := beq_iff_eq.mpr c8
    have c8b1 : (t330 != 5) = false := bne_eq_false_iff_eq.mpr c8
    clear c8
    by_cases c9 : t328 = true
    ·subst c9
     replace H : (if t344 = 0 then (if (t336.length : Int) = 2 then (if 1 < (t336.length : Int) then (if (rdOf ByteArray.empty t336 1).toList = ([121] : List UInt8) then (if t357 = 0 then (if t347 = true then (if t367 = 0 then (if t361 = true then (some (t376 == 5)) else (some false)) else (some false)) else (some false)) else (some false)) else (some false)) else (none)) else (some false)) else (some false)) = some r := by rw [if_pos rfl] at H; exact H
     by_cases c10 : t344 = 0
     ·rw [if_pos c10] at H
      have c10b0 : (t344 == 0) = true := beq_iff_eq.mpr c10
      have c10b1 : (t344 != 0) = false := bne_eq_false_iff_eq.mpr c10
      clear c10
      by_cases c11 : (t336.length : Int) = 2
      ·rw [if_pos c11] at H
       have c11b0 : ((t336.length : Int) == 2) = true := beq_iff_eq.mpr c11
       have c11b1 : ((t336.length : Int) != 2) = false := bne_eq_false_iff_eq.mpr c11
       clear c11
       by_cases c12 : 1 < (t336.length : Int)
       rotate_left
       ·rw [if_neg c12] at H
        exact ab H
       rw [if_pos c12] at H
       have c12b0 : decide (1 < (t336.length : Int)) = true := decide_eq_true c12
       have c12b1 : decide (1 < t336.length) = true := decide_eq_true (by omega)
       clear c12
       by_cases c13 : (rdOf ByteArray.empty t336 1).toList = ([121] : List UInt8)
       ·rw [if_pos c13] at H
        have c13b0 : ((rdOf ByteArray.empty t336 1).toList == ([121] : List UInt8)) = true := beq_iff_eq.mpr c13
        have c13b1 : ((rdOf ByteArray.empty t336 1).toList != ([121] : List UInt8)) = false := bne_eq_false_iff_eq.mpr c13
        clear c13
        by_cases c14 : t357 = 0
        ·rw [if_pos c14] at H
         have c14b0 : (t357 == 0) = true := beq_iff_eq.mpr c14
         have c14b1 : (t357 != 0) = false := bne_eq_false_iff_eq.mpr c14
         clear c14
         by_cases c15 : t347 = true
         ·subst c15
          replace H : (if t367 = 0 then (if t361 = true then (some (t376 == 5)) else (some false)) else (some false)) = some r := by rw [if_pos rfl] at H; exact H
          by_cases c16 : t367 = 0
          ·rw [if_pos c16] at H
           have c16b0 : (t367 == 0) = true := beq_iff_eq.mpr c16
           have c16b1 : (t367 != 0) = false := bne_eq_false_iff_eq.mpr c16
           clear c16
           by_cases c17 : t361 = true
           ·subst c17
            replace H : (some (t376 == 5)) = some r := by rw [if_pos rfl] at H; exact H
            obtain rfl := Option.some.inj H
            go_enter Tryz.func11, Tryz.ntmps11
            go_wp2_with (first | ((with_reducible refine gate_callee (f := 18) rfl ?_); refine goesL_ (some 15) rfl rfl Tryz.func18 kf rfl #[.string (⟨#[60, 97, 64, 98, 46, 99, 62, 32, 83, 73, 90, 69, 61, 53]⟩ : ByteArray)] rfl ml ?_; (with_reducible refine (path_From.calls k (⟨#[60, 97, 64, 98, 46, 99, 62, 32, 83, 73, 90, 69, 61, 53]⟩ : ByteArray) t321 t322 t323 t326 t327 true t329 t330 t331 _ ?side1 A1.out).mono ?_); (case side1 => exact Glob.below HG.out bl); rintro e w18 ⟨v324, rfl, ho0, hb⟩; refine ⟨_, rfl, ?_⟩; have HO325 := Aside0.mk (Kd.R_lower ho0 (below_size bl)); replace HB := Aside0.mk (below_step bl hb); (try clear hb); (try clear hb2); (try clear hk); (try clear hi); (try clear ho0)) | ((with_reducible refine gate_dst (N := 1) rfl ?_); (try (refine gate_guard (by rfl) ?_; dsimp only)); refine box_event ?hg (N := 1) ?hd (cs := #[.bool false, .bool false, .slice none 0 0, .string (⟨#[]⟩ : ByteArray), .string (⟨#[]⟩ : ByteArray)]) (t := 26) ?hr ?_; (case hd => rfl); (case hg => rfl); (case hr => first | (go_simp; done) | (go_simp; rfl)); intro gb332 hg w19 hbox hb; replace HO325 := Aside0.mk (Kd.R_below (kr HO325.out) hb); have BK332 := Aside0.mk (hbox); have GW332 := Aside0.mk (gz hg : w.heap.size ≤ gb332); have GE332 := Aside0.mk (gz hg : w.heap.size ≤ gb332); replace HB := Aside0.mk (below_step bl hb); clear hb hbox hg) | ((with_reducible refine gate_dst (N := 2) rfl ?_); (try (refine gate_guard (by rfl) ?_; dsimp only)); refine box_event ?hg (N := 2) ?hd (cs := #[.bool false, .bool false, .int .i64 0]) (t := 46) ?hr ?_; (case hd => rfl); (case hg => rfl); (case hr => first | (go_simp; done) | (go_simp; rfl)); intro gb333 hg w20 hbox hb; replace HO325 := Aside0.mk (Kd.R_below (kr HO325.out) hb); have BK333 := Aside0.mk (hbox); have GW333 := Aside0.mk (gz hg : w.heap.size ≤ gb333); have GE333 := Aside0.mk (gz hg : w.heap.size ≤ gb333); replace HB := Aside0.mk (below_step bl hb); have NB332_333 := Aside0.mk (nl hg BK332.out : gb332 ≠ gb333); have NB333_332 := Aside0.mk (ng hg BK332.out : gb333 ≠ gb332); replace BK332 := Aside0.mk (kb BK332.out hb); clear hb hbox hg; have hnb21 := NB332_333.out; have hnc21 := NB333_332.out; have hcz22_0 := cz BK332.out 0 (.bool false); have hcz22_1 := cz BK332.out 1 (.bool false); have hcz22_2 := cz BK332.out 2 (.slice none 0 0); have hcz22_3 := cz BK332.out 3 (.string (⟨#[]⟩ : ByteArray)); have hcz22_4 := cz BK332.out 4 (.string (⟨#[]⟩ : ByteArray)); have hfz22_0 := blk_frozen BK332.out 0; have hfz22_1 := blk_frozen BK332.out 1; have hfz22_2 := blk_frozen BK332.out 2; have hfz22_3 := blk_frozen BK332.out 3; have hfz22_4 := blk_frozen BK332.out 4; obtain ⟨Ao23, co23, eo23⟩ := Kd.R_slice HO325.out; subst eo23; have hcz24_0 := cz BK333.out 0 (.bool false); have hcz24_1 := cz BK333.out 1 (.bool false); have hcz24_2 := cz BK333.out 2 (.int .i64 0); have hfz24_0 := blk_frozen BK333.out 0; have hfz24_1 := blk_frozen BK333.out 1; have hfz24_2 := blk_frozen BK333.out 2) | ((with_reducible refine gate_callee (f := 18) rfl ?_); refine goesL_ (some 20) rfl rfl Tryz.func18 kf rfl #[.string (⟨#[60, 64, 120, 44, 64, 121, 58, 97, 64, 98, 46, 99, 62]⟩ : ByteArray)] rfl ml ?_; (with_reducible refine (path_From.calls k (⟨#[60, 64, 120, 44, 64, 121, 58, 97, 64, 98, 46, 99, 62]⟩ : ByteArray) t334 t335 t336 t339 t340 t341 t342 t343 t344 _ ?side1 A2.out).mono ?_); (case side1 => exact Glob.below HG.out bl); rintro e w25 ⟨v337, rfl, ho0, hb⟩; refine ⟨_, rfl, ?_⟩; have HO338 := Aside0.mk (Kd.R_lower (Kd.R_new' ho0 (Kd.R_lt (by (with_reducible repeat (first | apply Kd.R_alloc | apply Kd.R_drewN | apply Kd.R_drew)); exact (Kd.R_mono (Kd.R_mono (Kd.R_far (p := ⟨gb333, 2, none⟩) (Kd.R_far (p := ⟨gb333, 1, none⟩) (Kd.R_far (p := ⟨gb333, 0, none⟩) (Kd.R_far (p := ⟨gb332, 4, none⟩) (Kd.R_far (p := ⟨gb332, 3, none⟩) (Kd.R_far (p := ⟨gb332, 2, none⟩) (Kd.R_far (p := ⟨gb332, 1, none⟩) (Kd.R_far (p := ⟨gb332, 0, none⟩) (Kd.R_types (Kd.R_types HO325.out BK332.out (by decide)) BK333.out (by decide)) (fun _ hk => hk.1.2) (.bool t321)) (fun _ hk => hk.1.2) (.bool t322)) (fun _ hk => hk.1.2) (.slice Ao23 t323.length co23)) (fun _ hk => hk.1.2) (.string t326)) (fun _ hk => hk.1.2) (.string t327)) (fun _ hk => hk.2) (.bool true)) (fun _ hk => hk.2) (.bool t329)) (fun _ hk => hk.2) (.int .i64 t330)) (fun _ h_ => h_.1)) (fun _ h_ => h_.1))))) (below_size bl)); replace HO325 := Aside0.mk (Kd.R_elder' (by (with_reducible repeat (first | apply Kd.R_alloc | apply Kd.R_drewN | apply Kd.R_drew)); exact (Kd.R_mono (Kd.R_mono (Kd.R_far (p := ⟨gb333, 2, none⟩) (Kd.R_far (p := ⟨gb333, 1, none⟩) (Kd.R_far (p := ⟨gb333, 0, none⟩) (Kd.R_far (p := ⟨gb332, 4, none⟩) (Kd.R_far (p := ⟨gb332, 3, none⟩) (Kd.R_far (p := ⟨gb332, 2, none⟩) (Kd.R_far (p := ⟨gb332, 1, none⟩) (Kd.R_far (p := ⟨gb332, 0, none⟩) (Kd.R_types (Kd.R_types HO325.out BK332.out (by decide)) BK333.out (by decide)) (fun _ hk => hk.1.2) (.bool t321)) (fun _ hk => hk.1.2) (.bool t322)) (fun _ hk => hk.1.2) (.slice Ao23 t323.length co23)) (fun _ hk => hk.1.2) (.string t326)) (fun _ hk => hk.1.2) (.string t327)) (fun _ hk => hk.2) (.bool true)) (fun _ hk => hk.2) (.bool t329)) (fun _ hk => hk.2) (.int .i64 t330)) (fun _ h_ => h_.1)) (fun _ h_ => h_.1))) (Kd.R_base ho0) hb); replace BK332 := Aside0.mk (blk_below (g := gb332) (o := .cells #[.bool t321, .bool t322, .slice Ao23 t323.length co23, .string t326, .string t327] 26 (0, 0)) (by (with_reducible repeat (first | refine blk_drewN ?_ _ | refine blk_drew ?_ | refine blk_alloc ?_ _)); refine blk_far ?_ NB332_333.out _; (with_reducible repeat (first | refine blk_drewN ?_ _ | refine blk_drew ?_ | refine blk_alloc ?_ _)); refine blk_far ?_ NB332_333.out _; (with_reducible repeat (first | refine blk_drewN ?_ _ | refine blk_drew ?_ | refine blk_alloc ?_ _)); refine blk_far ?_ NB332_333.out _; (with_reducible repeat (first | refine blk_drewN ?_ _ | refine blk_drew ?_ | refine blk_alloc ?_ _)); refine blk_put (cs := #[.bool t321, .bool t322, .slice Ao23 t323.length co23, .string t326, .string (⟨#[]⟩ : ByteArray)]) ?_ 4 _ rfl; (with_reducible repeat (first | refine blk_drewN ?_ _ | refine blk_drew ?_ | refine blk_alloc ?_ _)); refine blk_put (cs := #[.bool t321, .bool t322, .slice Ao23 t323.length co23, .string (⟨#[]⟩ : ByteArray), .string (⟨#[]⟩ : ByteArray)]) ?_ 3 _ rfl; (with_reducible repeat (first | refine blk_drewN ?_ _ | refine blk_drew ?_ | refine blk_alloc ?_ _)); refine blk_put (cs := #[.bool t321, .bool t322, .slice none 0 0, .string (⟨#[]⟩ : ByteArray), .string (⟨#[]⟩ : ByteArray)]) ?_ 2 _ rfl; (with_reducible repeat (first | refine blk_drewN ?_ _ | refine blk_drew ?_ | refine blk_alloc ?_ _)); refine blk_put (cs := #[.bool t321, .bool false, .slice none 0 0, .string (⟨#[]⟩ : ByteArray), .string (⟨#[]⟩ : ByteArray)]) ?_ 1 _ rfl; (with_reducible repeat (first | refine blk_drewN ?_ _ | refine blk_drew ?_ | refine blk_alloc ?_ _)); refine blk_put (cs := #[.bool false, .bool false, .slice none 0 0, .string (⟨#[]⟩ : ByteArray), .string (⟨#[]⟩ : ByteArray)]) ?_ 0 _ rfl; (with_reducible repeat (first | refine blk_drewN ?_ _ | refine blk_drew ?_ | refine blk_alloc ?_ _)); exact BK332.out) hb); replace BK333 := Aside0.mk (blk_below (g := gb333) (o := .cells #[.bool true, .bool t329, .int .i64 t330] 46 (0, 0)) (by (with_reducible repeat (first | refine blk_drewN ?_ _ | refine blk_drew ?_ | refine blk_alloc ?_ _)); refine blk_put (cs := #[.bool true, .bool t329, .int .i64 0]) ?_ 2 _ rfl; (with_reducible repeat (first | refine blk_drewN ?_ _ | refine blk_drew ?_ | refine blk_alloc ?_ _)); refine blk_put (cs := #[.bool true, .bool false, .int .i64 0]) ?_ 1 _ rfl; (with_reducible repeat (first | refine blk_drewN ?_ _ | refine blk_drew ?_ | refine blk_alloc ?_ _)); refine blk_put (cs := #[.bool false, .bool false, .int .i64 0]) ?_ 0 _ rfl; (with_reducible repeat (first | refine blk_drewN ?_ _ | refine blk_drew ?_ | refine blk_alloc ?_ _)); refine blk_far ?_ NB333_332.out _; (with_reducible repeat (first | refine blk_drewN ?_ _ | refine blk_drew ?_ | refine blk_alloc ?_ _)); refine blk_far ?_ NB333_332.out _; (with_reducible repeat (first | refine blk_drewN ?_ _ | refine blk_drew ?_ | refine blk_alloc ?_ _)); refine blk_far ?_ NB333_332.out _; (with_reducible repeat (first | refine blk_drewN ?_ _ | refine blk_drew ?_ | refine blk_alloc ?_ _)); refine blk_far ?_ NB333_332.out _; (with_reducible repeat (first | refine blk_drewN ?_ _ | refine blk_drew ?_ | refine blk_alloc ?_ _)); refine blk_far ?_ NB333_332.out _; (with_reducible repeat (first | refine blk_drewN ?_ _ | refine blk_drew ?_ | refine blk_alloc ?_ _)); exact BK333.out) hb); replace HB := Aside0.mk (below_step bl hb); (try clear hb); (try clear hb2); (try clear hk); (try clear hi); (try clear ho0)) | ((with_reducible refine gate_dst (N := 4) rfl ?_); (try (refine gate_guard (by rfl) ?_; dsimp only)); refine box_event ?hg (N := 4) ?hd (cs := #[.bool false, .bool false, .slice none 0 0, .string (⟨#[]⟩ : ByteArray), .string (⟨#[]⟩ : ByteArray)]) (t := 26) ?hr ?_; (case hd => rfl); (case hg => rfl); (case hr => first | (go_simp; done) | (go_simp; rfl)); intro gb345 hg w26 hbox hb; replace HO325 := Aside0.mk (Kd.R_below (kr HO325.out) hb); replace HO338 := Aside0.mk (Kd.R_below (kr HO338.out) hb); have BK345 := Aside0.mk (hbox); have GW345 := Aside0.mk (gz hg : w.heap.size ≤ gb345); have GE345 := Aside0.mk (gz hg : w.heap.size ≤ gb345); replace HB := Aside0.mk (below_step bl hb); have NB332_345 := Aside0.mk (nl hg BK332.out : gb332 ≠ gb345); have NB345_332 := Aside0.mk (ng hg BK332.out : gb345 ≠ gb332); replace BK332 := Aside0.mk (kb BK332.out hb); have NB333_345 := Aside0.mk (nl hg BK333.out : gb333 ≠ gb345); have NB345_333 := Aside0.mk (ng hg BK333.out : gb345 ≠ gb333); replace BK333 := Aside0.mk (kb BK333.out hb); clear hb hbox hg) | ((with_reducible refine gate_dst (N := 5) rfl ?_); (try (refine gate_guard (by rfl) ?_; dsimp only)); refine box_event ?hg (N := 5) ?hd (cs := #[.bool false, .bool false, .int .i64 0]) (t := 46) ?hr ?_; (case hd => rfl); (case hg => rfl); (case hr => first | (go_simp; done) | (go_simp; rfl)); intro gb346 hg w27 hbox hb; replace HO325 := Aside0.mk (Kd.R_below (kr HO325.out) hb); replace HO338 := Aside0.mk (Kd.R_below (kr HO338.out) hb); have BK346 := Aside0.mk (hbox); have GW346 := Aside0.mk (gz hg : w.heap.size ≤ gb346); have GE346 := Aside0.mk (gz hg : w.heap.size ≤ gb346); replace HB := Aside0.mk (below_step bl hb); have NB332_346 := Aside0.mk (nl hg BK332.out : gb332 ≠ gb346); have NB346_332 := Aside0.mk (ng hg BK332.out : gb346 ≠ gb332); replace BK332 := Aside0.mk (kb BK332.out hb); have NB333_346 := Aside0.mk (nl hg BK333.out : gb333 ≠ gb346); have NB346_333 := Aside0.mk (ng hg BK333.out : gb346 ≠ gb333); replace BK333 := Aside0.mk (kb BK333.out hb); have NB345_346 := Aside0.mk (nl hg BK345.out : gb345 ≠ gb346); have NB346_345 := Aside0.mk (ng hg BK345.out : gb346 ≠ gb345); replace BK345 := Aside0.mk (kb BK345.out hb); clear hb hbox hg; have hnb28 := NB345_332.out; have hnc28 := NB332_345.out; have hnb29 := NB345_333.out; have hnc29 := NB333_345.out; have hnb30 := NB345_346.out; have hnc30 := NB346_345.out; have hcz31_0 := cz BK345.out 0 (.bool false); have hcz31_1 := cz BK345.out 1 (.bool false); have hcz31_2 := cz BK345.out 2 (.slice none 0 0); have hcz31_3 := cz BK345.out 3 (.string (⟨#[]⟩ : ByteArray)); have hcz31_4 := cz BK345.out 4 (.string (⟨#[]⟩ : ByteArray)); have hfz31_0 := blk_frozen BK345.out 0; have hfz31_1 := blk_frozen BK345.out 1; have hfz31_2 := blk_frozen BK345.out 2; have hfz31_3 := blk_frozen BK345.out 3; have hfz31_4 := blk_frozen BK345.out 4; obtain ⟨Ao32, co32, eo32⟩ := Kd.R_slice HO338.out; subst eo32; have hnb33 := NB346_332.out; have hnc33 := NB332_346.out; have hnb34 := NB346_333.out; have hnc34 := NB333_346.out; have hcz35_0 := cz BK346.out 0 (.bool false); have hcz35_1 := cz BK346.out 1 (.bool false); have hcz35_2 := cz BK346.out 2 (.int .i64 0); have hfz35_0 := blk_frozen BK346.out 0; have hfz35_1 := blk_frozen BK346.out 1; have hfz35_2 := blk_frozen BK346.out 2) | ((with_reducible refine gate_callee (f := 18) rfl ?_); refine goesL_ (some 25) rfl rfl Tryz.func18 kf rfl #[.string (⟨#[60, 62]⟩ : ByteArray)] rfl ml ?_; (with_reducible refine (path_From.calls k (⟨#[60, 62]⟩ : ByteArray) true t348 t349 t352 t353 t354 t355 t356 t357 _ ?side1 A3.out).mono ?_); (case side1 => exact Glob.below HG.out bl); rintro e w36 ⟨v350, rfl, ho0, hb⟩; refine ⟨_, rfl, ?_⟩; have HO351 := Aside0.mk (Kd.R_lower (Kd.R_new' (Kd.R_new' ho0 (Kd.R_lt (by (with_reducible repeat (first | apply Kd.R_alloc | apply Kd.R_drewN | apply Kd.R_drew)); exact (Kd.R_mono (Kd.R_mono (Kd.R_far (p := ⟨gb346, 2, none⟩) (Kd.R_far (p := ⟨gb346, 1, none⟩) (Kd.R_far (p := ⟨gb346, 0, none⟩) (Kd.R_far (p := ⟨gb345, 4, none⟩) (Kd.R_far (p := ⟨gb345, 3, none⟩) (Kd.R_far (p := ⟨gb345, 2, none⟩) (Kd.R_far (p := ⟨gb345, 1, none⟩) (Kd.R_far (p := ⟨gb345, 0, none⟩) (Kd.R_types (Kd.R_types HO325.out BK345.out (by decide)) BK346.out (by decide)) (fun _ hk => hk.1.2) (.bool t334)) (fun _ hk => hk.1.2) (.bool t335)) (fun _ hk => hk.1.2) (.slice Ao32 t336.length co32)) (fun _ hk => hk.1.2) (.string t339)) (fun _ hk => hk.1.2) (.string t340)) (fun _ hk => hk.2) (.bool t341)) (fun _ hk => hk.2) (.bool t342)) (fun _ hk => hk.2) (.int .i64 t343)) (fun _ h_ => h_.1)) (fun _ h_ => h_.1))))) (Kd.R_lt (by (with_reducible repeat (first | apply Kd.R_alloc | apply Kd.R_drewN | apply Kd.R_drew)); exact (Kd.R_mono (Kd.R_mono (Kd.R_far (p := ⟨gb346, 2, none⟩) (Kd.R_far (p := ⟨gb346, 1, none⟩) (Kd.R_far (p := ⟨gb346, 0, none⟩) (Kd.R_far (p := ⟨gb345, 4, none⟩) (Kd.R_far (p := ⟨gb345, 3, none⟩) (Kd.R_far (p := ⟨gb345, 2, none⟩) (Kd.R_far (p := ⟨gb345, 1, none⟩) (Kd.R_far (p := ⟨gb345, 0, none⟩) (Kd.R_types (Kd.R_types HO338.out BK345.out (by decide)) BK346.out (by decide)) (fun _ hk => hk.1.2) (.bool t334)) (fun _ hk => hk.1.2) (.bool t335)) (fun _ hk => hk.1.2) (.slice Ao32 t336.length co32)) (fun _ hk => hk.1.2) (.string t339)) (fun _ hk => hk.1.2) (.string t340)) (fun _ hk => hk.2) (.bool t341)) (fun _ hk => hk.2) (.bool t342)) (fun _ hk => hk.2) (.int .i64 t343)) (fun _ h_ => h_.1)) (fun _ h_ => h_.1))))) (below_size bl)); replace HO325 := Aside0.mk (Kd.R_elder' (by (with_reducible repeat (first | apply Kd.R_alloc | apply Kd.R_drewN | apply Kd.R_drew)); exact (Kd.R_mono (Kd.R_mono (Kd.R_far (p := ⟨gb346, 2, none⟩) (Kd.R_far (p := ⟨gb346, 1, none⟩) (Kd.R_far (p := ⟨gb346, 0, none⟩) (Kd.R_far (p := ⟨gb345, 4, none⟩) (Kd.R_far (p := ⟨gb345, 3, none⟩) (Kd.R_far (p := ⟨gb345, 2, none⟩) (Kd.R_far (p := ⟨gb345, 1, none⟩) (Kd.R_far (p := ⟨gb345, 0, none⟩) (Kd.R_types (Kd.R_types HO325.out BK345.out (by decide)) BK346.out (by decide)) (fun _ hk => hk.1.2) (.bool t334)) (fun _ hk => hk.1.2) (.bool t335)) (fun _ hk => hk.1.2) (.slice Ao32 t336.length co32)) (fun _ hk => hk.1.2) (.string t339)) (fun _ hk => hk.1.2) (.string t340)) (fun _ hk => hk.2) (.bool t341)) (fun _ hk => hk.2) (.bool t342)) (fun _ hk => hk.2) (.int .i64 t343)) (fun _ h_ => h_.1)) (fun _ h_ => h_.1))) (Kd.R_base ho0) hb); replace HO338 := Aside0.mk (Kd.R_elder' (by (with_reducible repeat (first | apply Kd.R_alloc | apply Kd.R_drewN | apply Kd.R_drew)); exact (Kd.R_mono (Kd.R_mono (Kd.R_far (p := ⟨gb346, 2, none⟩) (Kd.R_far (p := ⟨gb346, 1, none⟩) (Kd.R_far (p := ⟨gb346, 0, none⟩) (Kd.R_far (p := ⟨gb345, 4, none⟩) (Kd.R_far (p := ⟨gb345, 3, none⟩) (Kd.R_far (p := ⟨gb345, 2, none⟩) (Kd.R_far (p := ⟨gb345, 1, none⟩) (Kd.R_far (p := ⟨gb345, 0, none⟩) (Kd.R_types (Kd.R_types HO338.out BK345.out (by decide)) BK346.out (by decide)) (fun _ hk => hk.1.2) (.bool t334)) (fun _ hk => hk.1.2) (.bool t335)) (fun _ hk => hk.1.2) (.slice Ao32 t336.length co32)) (fun _ hk => hk.1.2) (.string t339)) (fun _ hk => hk.1.2) (.string t340)) (fun _ hk => hk.2) (.bool t341)) (fun _ hk => hk.2) (.bool t342)) (fun _ hk => hk.2) (.int .i64 t343)) (fun _ h_ => h_.1)) (fun _ h_ => h_.1))) (Kd.R_base ho0) hb); replace BK332 := Aside0.mk (kb BK332.out hb); replace BK333 := Aside0.mk (kb BK333.out hb); replace BK345 := Aside0.mk (blk_below (g := gb345) (o := .cells #[.bool t334, .bool t335, .slice Ao32 t336.length co32, .string t339, .string t340] 26 (0, 0)) (by (with_reducible repeat (first | refine blk_drewN ?_ _ | refine blk_drew ?_ | refine blk_alloc ?_ _)); refine blk_far ?_ NB345_346.out _; (with_reducible repeat (first | refine blk_drewN ?_ _ | refine blk_drew ?_ | refine blk_alloc ?_ _)); refine blk_far ?_ NB345_346.out _; (with_reducible repeat (first | refine blk_drewN ?_ _ | refine blk_drew ?_ | refine blk_alloc ?_ _)); refine blk_far ?_ NB345_346.out _; (with_reducible repeat (first | refine blk_drewN ?_ _ | refine blk_drew ?_ | refine blk_alloc ?_ _)); refine blk_put (cs := #[.bool t334, .bool t335, .slice Ao32 t336.length co32, .string t339, .string (⟨#[]⟩ : ByteArray)]) ?_ 4 _ rfl; (with_reducible repeat (first | refine blk_drewN ?_ _ | refine blk_drew ?_ | refine blk_alloc ?_ _)); refine blk_put (cs := #[.bool t334, .bool t335, .slice Ao32 t336.length co32, .string (⟨#[]⟩ : ByteArray), .string (⟨#[]⟩ : ByteArray)]) ?_ 3 _ rfl; (with_reducible repeat (first | refine blk_drewN ?_ _ | refine blk_drew ?_ | refine blk_alloc ?_ _)); refine blk_put (cs := #[.bool t334, .bool t335, .slice none 0 0, .string (⟨#[]⟩ : ByteArray), .string (⟨#[]⟩ : ByteArray)]) ?_ 2 _ rfl; (with_reducible repeat (first | refine blk_drewN ?_ _ | refine blk_drew ?_ | refine blk_alloc ?_ _)); refine blk_put (cs := #[.bool t334, .bool false, .slice none 0 0, .string (⟨#[]⟩ : ByteArray), .string (⟨#[]⟩ : ByteArray)]) ?_ 1 _ rfl; (with_reducible repeat (first | refine blk_drewN ?_ _ | refine blk_drew ?_ | refine blk_alloc ?_ _)); refine blk_put (cs := #[.bool false, .bool false, .slice none 0 0, .string (⟨#[]⟩ : ByteArray), .string (⟨#[]⟩ : ByteArray)]) ?_ 0 _ rfl; (with_reducible repeat (first | refine blk_drewN ?_ _ | refine blk_drew ?_ | refine blk_alloc ?_ _)); exact BK345.out) hb); replace BK346 := Aside0.mk (blk_below (g := gb346) (o := .cells #[.bool t341, .bool t342, .int .i64 t343] 46 (0, 0)) (by (with_reducible repeat (first | refine blk_drewN ?_ _ | refine blk_drew ?_ | refine blk_alloc ?_ _)); refine blk_put (cs := #[.bool t341, .bool t342, .int .i64 0]) ?_ 2 _ rfl; (with_reducible repeat (first | refine blk_drewN ?_ _ | refine blk_drew ?_ | refine blk_alloc ?_ _)); refine blk_put (cs := #[.bool t341, .bool false, .int .i64 0]) ?_ 1 _ rfl; (with_reducible repeat (first | refine blk_drewN ?_ _ | refine blk_drew ?_ | refine blk_alloc ?_ _)); refine blk_put (cs := #[.bool false, .bool false, .int .i64 0]) ?_ 0 _ rfl; (with_reducible repeat (first | refine blk_drewN ?_ _ | refine blk_drew ?_ | refine blk_alloc ?_ _)); refine blk_far ?_ NB346_345.out _; (with_reducible repeat (first | refine blk_drewN ?_ _ | refine blk_drew ?_ | refine blk_alloc ?_ _)); refine blk_far ?_ NB346_345.out _; (with_reducible repeat (first | refine blk_drewN ?_ _ | refine blk_drew ?_ | refine blk_alloc ?_ _)); refine blk_far ?_ NB346_345.out _; (with_reducible repeat (first | refine blk_drewN ?_ _ | refine blk_drew ?_ | refine blk_alloc ?_ _)); refine blk_far ?_ NB346_345.out _; (with_reducible repeat (first | refine blk_drewN ?_ _ | refine blk_drew ?_ | refine blk_alloc ?_ _)); refine blk_far ?_ NB346_345.out _; (with_reducible repeat (first | refine blk_drewN ?_ _ | refine blk_drew ?_ | refine blk_alloc ?_ _)); exact BK346.out) hb); replace HB := Aside0.mk (below_step bl hb); (try clear hb); (try clear hb2); (try clear hk); (try clear hi); (try clear ho0)) | ((with_reducible refine gate_dst (N := 7) rfl ?_); (try (refine gate_guard (by rfl) ?_; dsimp only)); refine box_event ?hg (N := 7) ?hd (cs := #[.bool false, .bool false, .slice none 0 0, .string (⟨#[]⟩ : ByteArray), .string (⟨#[]⟩ : ByteArray)]) (t := 26) ?hr ?_; (case hd => rfl); (case hg => rfl); (case hr => first | (go_simp; done) | (go_simp; rfl)); intro gb358 hg w37 hbox hb; replace HO325 := Aside0.mk (Kd.R_below (kr HO325.out) hb); replace HO338 := Aside0.mk (Kd.R_below (kr HO338.out) hb); replace HO351 := Aside0.mk (Kd.R_below (kr HO351.out) hb); have BK358 := Aside0.mk (hbox); have GW358 := Aside0.mk (gz hg : w.heap.size ≤ gb358); have GE358 := Aside0.mk (gz hg : w.heap.size ≤ gb358); replace HB := Aside0.mk (below_step bl hb); have NB332_358 := Aside0.mk (nl hg BK332.out : gb332 ≠ gb358); have NB358_332 := Aside0.mk (ng hg BK332.out : gb358 ≠ gb332); replace BK332 := Aside0.mk (kb BK332.out hb); have NB333_358 := Aside0.mk (nl hg BK333.out : gb333 ≠ gb358); have NB358_333 := Aside0.mk (ng hg BK333.out : gb358 ≠ gb333); replace BK333 := Aside0.mk (kb BK333.out hb); have NB345_358 := Aside0.mk (nl hg BK345.out : gb345 ≠ gb358); have NB358_345 := Aside0.mk (ng hg BK345.out : gb358 ≠ gb345); replace BK345 := Aside0.mk (kb BK345.out hb); have NB346_358 := Aside0.mk (nl hg BK346.out : gb346 ≠ gb358); have NB358_346 := Aside0.mk (ng hg BK346.out : gb358 ≠ gb346); replace BK346 := Aside0.mk (kb BK346.out hb); clear hb hbox hg) | ((with_reducible refine gate_dst (N := 8) rfl ?_); (try (refine gate_guard (by rfl) ?_; dsimp only)); refine box_event ?hg (N := 8) ?hd (cs := #[.bool false, .bool false, .int .i64 0]) (t := 46) ?hr ?_; (case hd => rfl); (case hg => rfl); (case hr => first | (go_simp; done) | (go_simp; rfl)); intro gb359 hg w38 hbox hb; replace HO325 := Aside0.mk (Kd.R_below (kr HO325.out) hb); replace HO338 := Aside0.mk (Kd.R_below (kr HO338.out) hb); replace HO351 := Aside0.mk (Kd.R_below (kr HO351.out) hb); have BK359 := Aside0.mk (hbox); have GW359 := Aside0.mk (gz hg : w.heap.size ≤ gb359); have GE359 := Aside0.mk (gz hg : w.heap.size ≤ gb359); replace HB := Aside0.mk (below_step bl hb); have NB332_359 := Aside0.mk (nl hg BK332.out : gb332 ≠ gb359); have NB359_332 := Aside0.mk (ng hg BK332.out : gb359 ≠ gb332); replace BK332 := Aside0.mk (kb BK332.out hb); have NB333_359 := Aside0.mk (nl hg BK333.out : gb333 ≠ gb359); have NB359_333 := Aside0.mk (ng hg BK333.out : gb359 ≠ gb333); replace BK333 := Aside0.mk (kb BK333.out hb); have NB345_359 := Aside0.mk (nl hg BK345.out : gb345 ≠ gb359); have NB359_345 := Aside0.mk (ng hg BK345.out : gb359 ≠ gb345); replace BK345 := Aside0.mk (kb BK345.out hb); have NB346_359 := Aside0.mk (nl hg BK346.out : gb346 ≠ gb359); have NB359_346 := Aside0.mk (ng hg BK346.out : gb359 ≠ gb346); replace BK346 := Aside0.mk (kb BK346.out hb); have NB358_359 := Aside0.mk (nl hg BK358.out : gb358 ≠ gb359); have NB359_358 := Aside0.mk (ng hg BK358.out : gb359 ≠ gb358); replace BK358 := Aside0.mk (kb BK358.out hb); clear hb hbox hg; have hnb39 := NB358_332.out; have hnc39 := NB332_358.out; have hnb40 := NB358_333.out; have hnc40 := NB333_358.out; have hnb41 := NB358_345.out; have hnc41 := NB345_358.out; have hnb42 := NB358_346.out; have hnc42 := NB346_358.out; have hnb43 := NB358_359.out; have hnc43 := NB359_358.out; have hcz44_0 := cz BK358.out 0 (.bool false); have hcz44_1 := cz BK358.out 1 (.bool false); have hcz44_2 := cz BK358.out 2 (.slice none 0 0); have hcz44_3 := cz BK358.out 3 (.string (⟨#[]⟩ : ByteArray)); have hcz44_4 := cz BK358.out 4 (.string (⟨#[]⟩ : ByteArray)); have hfz44_0 := blk_frozen BK358.out 0; have hfz44_1 := blk_frozen BK358.out 1; have hfz44_2 := blk_frozen BK358.out 2; have hfz44_3 := blk_frozen BK358.out 3; have hfz44_4 := blk_frozen BK358.out 4; obtain ⟨Ao45, co45, eo45⟩ := Kd.R_slice HO351.out; subst eo45; have hnb46 := NB359_332.out; have hnc46 := NB332_359.out; have hnb47 := NB359_333.out; have hnc47 := NB333_359.out; have hnb48 := NB359_345.out; have hnc48 := NB345_359.out; have hnb49 := NB359_346.out; have hnc49 := NB346_359.out; have hcz50_0 := cz BK359.out 0 (.bool false); have hcz50_1 := cz BK359.out 1 (.bool false); have hcz50_2 := cz BK359.out 2 (.int .i64 0); have hfz50_0 := blk_frozen BK359.out 0; have hfz50_1 := blk_frozen BK359.out 1; have hfz50_2 := blk_frozen BK359.out 2) | ((with_reducible refine gate_callee (f := 19) rfl ?_); refine goesL_ (some 30) rfl rfl Tryz.func19 kf rfl #[.string (⟨#[60, 112, 111, 115, 116, 77, 97, 115, 116, 101, 114, 62]⟩ : ByteArray)] rfl ml ?_; (with_reducible refine (path_To.calls k (⟨#[60, 112, 111, 115, 116, 77, 97, 115, 116, 101, 114, 62]⟩ : ByteArray) t360 true t362 t365 t366 t367 _ ?side1 A4.out).mono ?_); (case side1 => exact Glob.below HG.out bl); rintro e w51 ⟨v363, rfl, ho0, hb⟩; refine ⟨_, rfl, ?_⟩; have HO364 := Aside0.mk (Kd.R_lower (Kd.R_new' (Kd.R_new' (Kd.R_new' ho0 (Kd.R_lt (by (with_reducible repeat (first | apply Kd.R_alloc | apply Kd.R_drewN | apply Kd.R_drew)); exact (Kd.R_mono (Kd.R_mono (Kd.R_far (p := ⟨gb359, 2, none⟩) (Kd.R_far (p := ⟨gb359, 1, none⟩) (Kd.R_far (p := ⟨gb359, 0, none⟩) (Kd.R_far (p := ⟨gb358, 4, none⟩) (Kd.R_far (p := ⟨gb358, 3, none⟩) (Kd.R_far (p := ⟨gb358, 2, none⟩) (Kd.R_far (p := ⟨gb358, 1, none⟩) (Kd.R_far (p := ⟨gb358, 0, none⟩) (Kd.R_types (Kd.R_types HO325.out BK358.out (by decide)) BK359.out (by decide)) (fun _ hk => hk.1.2) (.bool true)) (fun _ hk => hk.1.2) (.bool t348)) (fun _ hk => hk.1.2) (.slice Ao45 t349.length co45)) (fun _ hk => hk.1.2) (.string t352)) (fun _ hk => hk.1.2) (.string t353)) (fun _ hk => hk.2) (.bool t354)) (fun _ hk => hk.2) (.bool t355)) (fun _ hk => hk.2) (.int .i64 t356)) (fun _ h_ => h_.1)) (fun _ h_ => h_.1))))) (Kd.R_lt (by (with_reducible repeat (first | apply Kd.R_alloc | apply Kd.R_drewN | apply Kd.R_drew)); exact (Kd.R_mono (Kd.R_mono (Kd.R_far (p := ⟨gb359, 2, none⟩) (Kd.R_far (p := ⟨gb359, 1, none⟩) (Kd.R_far (p := ⟨gb359, 0, none⟩) (Kd.R_far (p := ⟨gb358, 4, none⟩) (Kd.R_far (p := ⟨gb358, 3, none⟩) (Kd.R_far (p := ⟨gb358, 2, none⟩) (Kd.R_far (p := ⟨gb358, 1, none⟩) (Kd.R_far (p := ⟨gb358, 0, none⟩) (Kd.R_types (Kd.R_types HO338.out BK358.out (by decide)) BK359.out (by decide)) (fun _ hk => hk.1.2) (.bool true)) (fun _ hk => hk.1.2) (.bool t348)) (fun _ hk => hk.1.2) (.slice Ao45 t349.length co45)) (fun _ hk => hk.1.2) (.string t352)) (fun _ hk => hk.1.2) (.string t353)) (fun _ hk => hk.2) (.bool t354)) (fun _ hk => hk.2) (.bool t355)) (fun _ hk => hk.2) (.int .i64 t356)) (fun _ h_ => h_.1)) (fun _ h_ => h_.1))))) (Kd.R_lt (by (with_reducible repeat (first | apply Kd.R_alloc | apply Kd.R_drewN | apply Kd.R_drew)); exact (Kd.R_mono (Kd.R_mono (Kd.R_far (p := ⟨gb359, 2, none⟩) (Kd.R_far (p := ⟨gb359, 1, none⟩) (Kd.R_far (p := ⟨gb359, 0, none⟩) (Kd.R_far (p := ⟨gb358, 4, none⟩) (Kd.R_far (p := ⟨gb358, 3, none⟩) (Kd.R_far (p := ⟨gb358, 2, none⟩) (Kd.R_far (p := ⟨gb358, 1, none⟩) (Kd.R_far (p := ⟨gb358, 0, none⟩) (Kd.R_types (Kd.R_types HO351.out BK358.out (by decide)) BK359.out (by decide)) (fun _ hk => hk.1.2) (.bool true)) (fun _ hk => hk.1.2) (.bool t348)) (fun _ hk => hk.1.2) (.slice Ao45 t349.length co45)) (fun _ hk => hk.1.2) (.string t352)) (fun _ hk => hk.1.2) (.string t353)) (fun _ hk => hk.2) (.bool t354)) (fun _ hk => hk.2) (.bool t355)) (fun _ hk => hk.2) (.int .i64 t356)) (fun _ h_ => h_.1)) (fun _ h_ => h_.1))))) (below_size bl)); replace HO325 := Aside0.mk (Kd.R_elder' (by (with_reducible repeat (first | apply Kd.R_alloc | apply Kd.R_drewN | apply Kd.R_drew)); exact (Kd.R_mono (Kd.R_mono (Kd.R_far (p := ⟨gb359, 2, none⟩) (Kd.R_far (p := ⟨gb359, 1, none⟩) (Kd.R_far (p := ⟨gb359, 0, none⟩) (Kd.R_far (p := ⟨gb358, 4, none⟩) (Kd.R_far (p := ⟨gb358, 3, none⟩) (Kd.R_far (p := ⟨gb358, 2, none⟩) (Kd.R_far (p := ⟨gb358, 1, none⟩) (Kd.R_far (p := ⟨gb358, 0, none⟩) (Kd.R_types (Kd.R_types HO325.out BK358.out (by decide)) BK359.out (by decide)) (fun _ hk => hk.1.2) (.bool true)) (fun _ hk => hk.1.2) (.bool t348)) (fun _ hk => hk.1.2) (.slice Ao45 t349.length co45)) (fun _ hk => hk.1.2) (.string t352)) (fun _ hk => hk.1.2) (.string t353)) (fun _ hk => hk.2) (.bool t354)) (fun _ hk => hk.2) (.bool t355)) (fun _ hk => hk.2) (.int .i64 t356)) (fun _ h_ => h_.1)) (fun _ h_ => h_.1))) (Kd.R_base ho0) hb); replace HO338 := Aside0.mk (Kd.R_elder' (by (with_reducible repeat (first | apply Kd.R_alloc | apply Kd.R_drewN | apply Kd.R_drew)); exact (Kd.R_mono (Kd.R_mono (Kd.R_far (p := ⟨gb359, 2, none⟩) (Kd.R_far (p := ⟨gb359, 1, none⟩) (Kd.R_far (p := ⟨gb359, 0, none⟩) (Kd.R_far (p := ⟨gb358, 4, none⟩) (Kd.R_far (p := ⟨gb358, 3, none⟩) (Kd.R_far (p := ⟨gb358, 2, none⟩) (Kd.R_far (p := ⟨gb358, 1, none⟩) (Kd.R_far (p := ⟨gb358, 0, none⟩) (Kd.R_types (Kd.R_types HO338.out BK358.out (by decide)) BK359.out (by decide)) (fun _ hk => hk.1.2) (.bool true)) (fun _ hk => hk.1.2) (.bool t348)) (fun _ hk => hk.1.2) (.slice Ao45 t349.length co45)) (fun _ hk => hk.1.2) (.string t352)) (fun _ hk => hk.1.2) (.string t353)) (fun _ hk => hk.2) (.bool t354)) (fun _ hk => hk.2) (.bool t355)) (fun _ hk => hk.2) (.int .i64 t356)) (fun _ h_ => h_.1)) (fun _ h_ => h_.1))) (Kd.R_base ho0) hb); replace HO351 := Aside0.mk (Kd.R_elder' (by (with_reducible repeat (first | apply Kd.R_alloc | apply Kd.R_drewN | apply Kd.R_drew)); exact (Kd.R_mono (Kd.R_mono (Kd.R_far (p := ⟨gb359, 2, none⟩) (Kd.R_far (p := ⟨gb359, 1, none⟩) (Kd.R_far (p := ⟨gb359, 0, none⟩) (Kd.R_far (p := ⟨gb358, 4, none⟩) (Kd.R_far (p := ⟨gb358, 3, none⟩) (Kd.R_far (p := ⟨gb358, 2, none⟩) (Kd.R_far (p := ⟨gb358, 1, none⟩) (Kd.R_far (p := ⟨gb358, 0, none⟩) (Kd.R_types (Kd.R_types HO351.out BK358.out (by decide)) BK359.out (by decide)) (fun _ hk => hk.1.2) (.bool true)) (fun _ hk => hk.1.2) (.bool t348)) (fun _ hk => hk.1.2) (.slice Ao45 t349.length co45)) (fun _ hk => hk.1.2) (.string t352)) (fun _ hk => hk.1.2) (.string t353)) (fun _ hk => hk.2) (.bool t354)) (fun _ hk => hk.2) (.bool t355)) (fun _ hk => hk.2) (.int .i64 t356)) (fun _ h_ => h_.1)) (fun _ h_ => h_.1))) (Kd.R_base ho0) hb); replace BK332 := Aside0.mk (kb BK332.out hb); replace BK333 := Aside0.mk (kb BK333.out hb); replace BK345 := Aside0.mk (kb BK345.out hb); replace BK346 := Aside0.mk (kb BK346.out hb); replace BK358 := Aside0.mk (blk_below (g := gb358) (o := .cells #[.bool true, .bool t348, .slice Ao45 t349.length co45, .string t352, .string t353] 26 (0, 0)) (by (with_reducible repeat (first | refine blk_drewN ?_ _ | refine blk_drew ?_ | refine blk_alloc ?_ _)); refine blk_far ?_ NB358_359.out _; (with_reducible repeat (first | refine blk_drewN ?_ _ | refine blk_drew ?_ | refine blk_alloc ?_ _)); refine blk_far ?_ NB358_359.out _; (with_reducible repeat (first | refine blk_drewN ?_ _ | refine blk_drew ?_ | refine blk_alloc ?_ _)); refine blk_far ?_ NB358_359.out _; (with_reducible repeat (first | refine blk_drewN ?_ _ | refine blk_drew ?_ | refine blk_alloc ?_ _)); refine blk_put (cs := #[.bool true, .bool t348, .slice Ao45 t349.length co45, .string t352, .string (⟨#[]⟩ : ByteArray)]) ?_ 4 _ rfl; (with_reducible repeat (first | refine blk_drewN ?_ _ | refine blk_drew ?_ | refine blk_alloc ?_ _)); refine blk_put (cs := #[.bool true, .bool t348, .slice Ao45 t349.length co45, .string (⟨#[]⟩ : ByteArray), .string (⟨#[]⟩ : ByteArray)]) ?_ 3 _ rfl; (with_reducible repeat (first | refine blk_drewN ?_ _ | refine blk_drew ?_ | refine blk_alloc ?_ _)); refine blk_put (cs := #[.bool true, .bool t348, .slice none 0 0, .string (⟨#[]⟩ : ByteArray), .string (⟨#[]⟩ : ByteArray)]) ?_ 2 _ rfl; (with_reducible repeat (first | refine blk_drewN ?_ _ | refine blk_drew ?_ | refine blk_alloc ?_ _)); refine blk_put (cs := #[.bool true, .bool false, .slice none 0 0, .string (⟨#[]⟩ : ByteArray), .string (⟨#[]⟩ : ByteArray)]) ?_ 1 _ rfl; (with_reducible repeat (first | refine blk_drewN ?_ _ | refine blk_drew ?_ | refine blk_alloc ?_ _)); refine blk_put (cs := #[.bool false, .bool false, .slice none 0 0, .string (⟨#[]⟩ : ByteArray), .string (⟨#[]⟩ : ByteArray)]) ?_ 0 _ rfl; (with_reducible repeat (first | refine blk_drewN ?_ _ | refine blk_drew ?_ | refine blk_alloc ?_ _)); exact BK358.out) hb); replace BK359 := Aside0.mk (blk_below (g := gb359) (o := .cells #[.bool t354, .bool t355, .int .i64 t356] 46 (0, 0)) (by (with_reducible repeat (first | refine blk_drewN ?_ _ | refine blk_drew ?_ | refine blk_alloc ?_ _)); refine blk_put (cs := #[.bool t354, .bool t355, .int .i64 0]) ?_ 2 _ rfl; (with_reducible repeat (first | refine blk_drewN ?_ _ | refine blk_drew ?_ | refine blk_alloc ?_ _)); refine blk_put (cs := #[.bool t354, .bool false, .int .i64 0]) ?_ 1 _ rfl; (with_reducible repeat (first | refine blk_drewN ?_ _ | refine blk_drew ?_ | refine blk_alloc ?_ _)); refine blk_put (cs := #[.bool false, .bool false, .int .i64 0]) ?_ 0 _ rfl; (with_reducible repeat (first | refine blk_drewN ?_ _ | refine blk_drew ?_ | refine blk_alloc ?_ _)); refine blk_far ?_ NB359_358.out _; (with_reducible repeat (first | refine blk_drewN ?_ _ | refine blk_drew ?_ | refine blk_alloc ?_ _)); refine blk_far ?_ NB359_358.out _; (with_reducible repeat (first | refine blk_drewN ?_ _ | refine blk_drew ?_ | refine blk_alloc ?_ _)); refine blk_far ?_ NB359_358.out _; (with_reducible repeat (first | refine blk_drewN ?_ _ | refine blk_drew ?_ | refine blk_alloc ?_ _)); refine blk_far ?_ NB359_358.out _; (with_reducible repeat (first | refine blk_drewN ?_ _ | refine blk_drew ?_ | refine blk_alloc ?_ _)); refine blk_far ?_ NB359_358.out _; (with_reducible repeat (first | refine blk_drewN ?_ _ | refine blk_drew ?_ | refine blk_alloc ?_ _)); exact BK359.out) hb); replace HB := Aside0.mk (below_step bl hb); (try clear hb); (try clear hb2); (try clear hk); (try clear hi); (try clear ho0)) | ((with_reducible refine gate_dst (N := 10) rfl ?_); (try (refine gate_guard (by rfl) ?_; dsimp only)); refine box_event ?hg (N := 10) ?hd (cs := #[.bool false, .bool false, .slice none 0 0, .string (⟨#[]⟩ : ByteArray), .string (⟨#[]⟩ : ByteArray)]) (t := 26) ?hr ?_; (case hd => rfl); (case hg => rfl); (case hr => first | (go_simp; done) | (go_simp; rfl)); intro gb368 hg w52 hbox hb; replace HO325 := Aside0.mk (Kd.R_below (kr HO325.out) hb); replace HO338 := Aside0.mk (Kd.R_below (kr HO338.out) hb); replace HO351 := Aside0.mk (Kd.R_below (kr HO351.out) hb); replace HO364 := Aside0.mk (Kd.R_below (kr HO364.out) hb); have BK368 := Aside0.mk (hbox); have GW368 := Aside0.mk (gz hg : w.heap.size ≤ gb368); have GE368 := Aside0.mk (gz hg : w.heap.size ≤ gb368); replace HB := Aside0.mk (below_step bl hb); have NB332_368 := Aside0.mk (nl hg BK332.out : gb332 ≠ gb368); have NB368_332 := Aside0.mk (ng hg BK332.out : gb368 ≠ gb332); replace BK332 := Aside0.mk (kb BK332.out hb); have NB333_368 := Aside0.mk (nl hg BK333.out : gb333 ≠ gb368); have NB368_333 := Aside0.mk (ng hg BK333.out : gb368 ≠ gb333); replace BK333 := Aside0.mk (kb BK333.out hb); have NB345_368 := Aside0.mk (nl hg BK345.out : gb345 ≠ gb368); have NB368_345 := Aside0.mk (ng hg BK345.out : gb368 ≠ gb345); replace BK345 := Aside0.mk (kb BK345.out hb); have NB346_368 := Aside0.mk (nl hg BK346.out : gb346 ≠ gb368); have NB368_346 := Aside0.mk (ng hg BK346.out : gb368 ≠ gb346); replace BK346 := Aside0.mk (kb BK346.out hb); have NB358_368 := Aside0.mk (nl hg BK358.out : gb358 ≠ gb368); have NB368_358 := Aside0.mk (ng hg BK358.out : gb368 ≠ gb358); replace BK358 := Aside0.mk (kb BK358.out hb); have NB359_368 := Aside0.mk (nl hg BK359.out : gb359 ≠ gb368); have NB368_359 := Aside0.mk (ng hg BK359.out : gb368 ≠ gb359); replace BK359 := Aside0.mk (kb BK359.out hb); clear hb hbox hg; have hnb53 := NB368_332.out; have hnc53 := NB332_368.out; have hnb54 := NB368_333.out; have hnc54 := NB333_368.out; have hnb55 := NB368_345.out; have hnc55 := NB345_368.out; have hnb56 := NB368_346.out; have hnc56 := NB346_368.out; have hnb57 := NB368_358.out; have hnc57 := NB358_368.out; have hnb58 := NB368_359.out; have hnc58 := NB359_368.out; have hcz59_0 := cz BK368.out 0 (.bool false); have hcz59_1 := cz BK368.out 1 (.bool false); have hcz59_2 := cz BK368.out 2 (.slice none 0 0); have hcz59_3 := cz BK368.out 3 (.string (⟨#[]⟩ : ByteArray)); have hcz59_4 := cz BK368.out 4 (.string (⟨#[]⟩ : ByteArray)); have hfz59_0 := blk_frozen BK368.out 0; have hfz59_1 := blk_frozen BK368.out 1; have hfz59_2 := blk_frozen BK368.out 2; have hfz59_3 := blk_frozen BK368.out 3; have hfz59_4 := blk_frozen BK368.out 4; obtain ⟨Ao60, co60, eo60⟩ := Kd.R_slice HO364.out; subst eo60) | ((with_reducible refine gate_callee (f := 19) rfl ?_); refine goesL_ (some 34) rfl rfl Tryz.func19 kf rfl #[.string (⟨#[60, 62]⟩ : ByteArray)] rfl ml ?_; (with_reducible refine (path_To.calls k (⟨#[60, 62]⟩ : ByteArray) t369 t370 t371 t374 t375 t376 _ ?side1 A5.out).mono ?_); (case side1 => exact Glob.below HG.out bl); rintro e w61 ⟨v372, rfl, ho0, hb⟩; refine ⟨_, rfl, ?_⟩; have HO373 := Aside0.mk (Kd.R_lower (Kd.R_new' (Kd.R_new' (Kd.R_new' (Kd.R_new' ho0 (Kd.R_lt (by (with_reducible repeat (first | apply Kd.R_alloc | apply Kd.R_drewN | apply Kd.R_drew)); exact (Kd.R_mono (Kd.R_far (p := ⟨gb368, 4, none⟩) (Kd.R_far (p := ⟨gb368, 3, none⟩) (Kd.R_far (p := ⟨gb368, 2, none⟩) (Kd.R_far (p := ⟨gb368, 1, none⟩) (Kd.R_far (p := ⟨gb368, 0, none⟩) (Kd.R_types HO325.out BK368.out (by decide)) (fun _ hk => hk.2) (.bool t360)) (fun _ hk => hk.2) (.bool true)) (fun _ hk => hk.2) (.slice Ao60 t362.length co60)) (fun _ hk => hk.2) (.string t365)) (fun _ hk => hk.2) (.string t366)) (fun _ h_ => h_.1))))) (Kd.R_lt (by (with_reducible repeat (first | apply Kd.R_alloc | apply Kd.R_drewN | apply Kd.R_drew)); exact (Kd.R_mono (Kd.R_far (p := ⟨gb368, 4, none⟩) (Kd.R_far (p := ⟨gb368, 3, none⟩) (Kd.R_far (p := ⟨gb368, 2, none⟩) (Kd.R_far (p := ⟨gb368, 1, none⟩) (Kd.R_far (p := ⟨gb368, 0, none⟩) (Kd.R_types HO338.out BK368.out (by decide)) (fun _ hk => hk.2) (.bool t360)) (fun _ hk => hk.2) (.bool true)) (fun _ hk => hk.2) (.slice Ao60 t362.length co60)) (fun _ hk => hk.2) (.string t365)) (fun _ hk => hk.2) (.string t366)) (fun _ h_ => h_.1))))) (Kd.R_lt (by (with_reducible repeat (first | apply Kd.R_alloc | apply Kd.R_drewN | apply Kd.R_drew)); exact (Kd.R_mono (Kd.R_far (p := ⟨gb368, 4, none⟩) (Kd.R_far (p := ⟨gb368, 3, none⟩) (Kd.R_far (p := ⟨gb368, 2, none⟩) (Kd.R_far (p := ⟨gb368, 1, none⟩) (Kd.R_far (p := ⟨gb368, 0, none⟩) (Kd.R_types HO351.out BK368.out (by decide)) (fun _ hk => hk.2) (.bool t360)) (fun _ hk => hk.2) (.bool true)) (fun _ hk => hk.2) (.slice Ao60 t362.length co60)) (fun _ hk => hk.2) (.string t365)) (fun _ hk => hk.2) (.string t366)) (fun _ h_ => h_.1))))) (Kd.R_lt (by (with_reducible repeat (first | apply Kd.R_alloc | apply Kd.R_drewN | apply Kd.R_drew)); exact (Kd.R_mono (Kd.R_far (p := ⟨gb368, 4, none⟩) (Kd.R_far (p := ⟨gb368, 3, none⟩) (Kd.R_far (p := ⟨gb368, 2, none⟩) (Kd.R_far (p := ⟨gb368, 1, none⟩) (Kd.R_far (p := ⟨gb368, 0, none⟩) (Kd.R_types HO364.out BK368.out (by decide)) (fun _ hk => hk.2) (.bool t360)) (fun _ hk => hk.2) (.bool true)) (fun _ hk => hk.2) (.slice Ao60 t362.length co60)) (fun _ hk => hk.2) (.string t365)) (fun _ hk => hk.2) (.string t366)) (fun _ h_ => h_.1))))) (below_size bl)); replace HO325 := Aside0.mk (Kd.R_elder' (by (with_reducible repeat (first | apply Kd.R_alloc | apply Kd.R_drewN | apply Kd.R_drew)); exact (Kd.R_mono (Kd.R_far (p := ⟨gb368, 4, none⟩) (Kd.R_far (p := ⟨gb368, 3, none⟩) (Kd.R_far (p := ⟨gb368, 2, none⟩) (Kd.R_far (p := ⟨gb368, 1, none⟩) (Kd.R_far (p := ⟨gb368, 0, none⟩) (Kd.R_types HO325.out BK368.out (by decide)) (fun _ hk => hk.2) (.bool t360)) (fun _ hk => hk.2) (.bool true)) (fun _ hk => hk.2) (.slice Ao60 t362.length co60)) (fun _ hk => hk.2) (.string t365)) (fun _ hk => hk.2) (.string t366)) (fun _ h_ => h_.1))) (Kd.R_base ho0) hb); replace HO338 := Aside0.mk (Kd.R_elder' (by (with_reducible repeat (first | apply Kd.R_alloc | apply Kd.R_drewN | apply Kd.R_drew)); exact (Kd.R_mono (Kd.R_far (p := ⟨gb368, 4, none⟩) (Kd.R_far (p := ⟨gb368, 3, none⟩) (Kd.R_far (p := ⟨gb368, 2, none⟩) (Kd.R_far (p := ⟨gb368, 1, none⟩) (Kd.R_far (p := ⟨gb368, 0, none⟩) (Kd.R_types HO338.out BK368.out (by decide)) (fun _ hk => hk.2) (.bool t360)) (fun _ hk => hk.2) (.bool true)) (fun _ hk => hk.2) (.slice Ao60 t362.length co60)) (fun _ hk => hk.2) (.string t365)) (fun _ hk => hk.2) (.string t366)) (fun _ h_ => h_.1))) (Kd.R_base ho0) hb); replace HO351 := Aside0.mk (Kd.R_elder' (by (with_reducible repeat (first | apply Kd.R_alloc | apply Kd.R_drewN | apply Kd.R_drew)); exact (Kd.R_mono (Kd.R_far (p := ⟨gb368, 4, none⟩) (Kd.R_far (p := ⟨gb368, 3, none⟩) (Kd.R_far (p := ⟨gb368, 2, none⟩) (Kd.R_far (p := ⟨gb368, 1, none⟩) (Kd.R_far (p := ⟨gb368, 0, none⟩) (Kd.R_types HO351.out BK368.out (by decide)) (fun _ hk => hk.2) (.bool t360)) (fun _ hk => hk.2) (.bool true)) (fun _ hk => hk.2) (.slice Ao60 t362.length co60)) (fun _ hk => hk.2) (.string t365)) (fun _ hk => hk.2) (.string t366)) (fun _ h_ => h_.1))) (Kd.R_base ho0) hb); replace HO364 := Aside0.mk (Kd.R_elder' (by (with_reducible repeat (first | apply Kd.R_alloc | apply Kd.R_drewN | apply Kd.R_drew)); exact (Kd.R_mono (Kd.R_far (p := ⟨gb368, 4, none⟩) (Kd.R_far (p := ⟨gb368, 3, none⟩) (Kd.R_far (p := ⟨gb368, 2, none⟩) (Kd.R_far (p := ⟨gb368, 1, none⟩) (Kd.R_far (p := ⟨gb368, 0, none⟩) (Kd.R_types HO364.out BK368.out (by decide)) (fun _ hk => hk.2) (.bool t360)) (fun _ hk => hk.2) (.bool true)) (fun _ hk => hk.2) (.slice Ao60 t362.length co60)) (fun _ hk => hk.2) (.string t365)) (fun _ hk => hk.2) (.string t366)) (fun _ h_ => h_.1))) (Kd.R_base ho0) hb); replace BK332 := Aside0.mk (kb BK332.out hb); replace BK333 := Aside0.mk (kb BK333.out hb); replace BK345 := Aside0.mk (kb BK345.out hb); replace BK346 := Aside0.mk (kb BK346.out hb); replace BK358 := Aside0.mk (kb BK358.out hb); replace BK359 := Aside0.mk (kb BK359.out hb); replace BK368 := Aside0.mk (blk_below (g := gb368) (o := .cells #[.bool t360, .bool true, .slice Ao60 t362.length co60, .string t365, .string t366] 26 (0, 0)) (by (with_reducible repeat (first | refine blk_drewN ?_ _ | refine blk_drew ?_ | refine blk_alloc ?_ _)); refine blk_put (cs := #[.bool t360, .bool true, .slice Ao60 t362.length co60, .string t365, .string (⟨#[]⟩ : ByteArray)]) ?_ 4 _ rfl; (with_reducible repeat (first | refine blk_drewN ?_ _ | refine blk_drew ?_ | refine blk_alloc ?_ _)); refine blk_put (cs := #[.bool t360, .bool true, .slice Ao60 t362.length co60, .string (⟨#[]⟩ : ByteArray), .string (⟨#[]⟩ : ByteArray)]) ?_ 3 _ rfl; (with_reducible repeat (first | refine blk_drewN ?_ _ | refine blk_drew ?_ | refine blk_alloc ?_ _)); refine blk_put (cs := #[.bool t360, .bool true, .slice none 0 0, .string (⟨#[]⟩ : ByteArray), .string (⟨#[]⟩ : ByteArray)]) ?_ 2 _ rfl; (with_reducible repeat (first | refine blk_drewN ?_ _ | refine blk_drew ?_ | refine blk_alloc ?_ _)); refine blk_put (cs := #[.bool t360, .bool false, .slice none 0 0, .string (⟨#[]⟩ : ByteArray), .string (⟨#[]⟩ : ByteArray)]) ?_ 1 _ rfl; (with_reducible repeat (first | refine blk_drewN ?_ _ | refine blk_drew ?_ | refine blk_alloc ?_ _)); refine blk_put (cs := #[.bool false, .bool false, .slice none 0 0, .string (⟨#[]⟩ : ByteArray), .string (⟨#[]⟩ : ByteArray)]) ?_ 0 _ rfl; (with_reducible repeat (first | refine blk_drewN ?_ _ | refine blk_drew ?_ | refine blk_alloc ?_ _)); exact BK368.out) hb); replace HB := Aside0.mk (below_step bl hb); (try clear hb); (try clear hb2); (try clear hk); (try clear hi); (try clear ho0)) | ((with_reducible refine gate_dst (N := 12) rfl ?_); (try (refine gate_guard (by rfl) ?_; dsimp only)); refine box_event ?hg (N := 12) ?hd (cs := #[.bool false, .bool false, .slice none 0 0, .string (⟨#[]⟩ : ByteArray), .string (⟨#[]⟩ : ByteArray)]) (t := 26) ?hr ?_; (case hd => rfl); (case hg => rfl); (case hr => first | (go_simp; done) | (go_simp; rfl)); intro gb377 hg w62 hbox hb; replace HO325 := Aside0.mk (Kd.R_below (kr HO325.out) hb); replace HO338 := Aside0.mk (Kd.R_below (kr HO338.out) hb); replace HO351 := Aside0.mk (Kd.R_below (kr HO351.out) hb); replace HO364 := Aside0.mk (Kd.R_below (kr HO364.out) hb); replace HO373 := Aside0.mk (Kd.R_below (kr HO373.out) hb); have BK377 := Aside0.mk (hbox); have GW377 := Aside0.mk (gz hg : w.heap.size ≤ gb377); have GE377 := Aside0.mk (gz hg : w.heap.size ≤ gb377); replace HB := Aside0.mk (below_step bl hb); have NB332_377 := Aside0.mk (nl hg BK332.out : gb332 ≠ gb377); have NB377_332 := Aside0.mk (ng hg BK332.out : gb377 ≠ gb332); replace BK332 := Aside0.mk (kb BK332.out hb); have NB333_377 := Aside0.mk (nl hg BK333.out : gb333 ≠ gb377); have NB377_333 := Aside0.mk (ng hg BK333.out : gb377 ≠ gb333); replace BK333 := Aside0.mk (kb BK333.out hb); have NB345_377 := Aside0.mk (nl hg BK345.out : gb345 ≠ gb377); have NB377_345 := Aside0.mk (ng hg BK345.out : gb377 ≠ gb345); replace BK345 := Aside0.mk (kb BK345.out hb); have NB346_377 := Aside0.mk (nl hg BK346.out : gb346 ≠ gb377); have NB377_346 := Aside0.mk (ng hg BK346.out : gb377 ≠ gb346); replace BK346 := Aside0.mk (kb BK346.out hb); have NB358_377 := Aside0.mk (nl hg BK358.out : gb358 ≠ gb377); have NB377_358 := Aside0.mk (ng hg BK358.out : gb377 ≠ gb358); replace BK358 := Aside0.mk (kb BK358.out hb); have NB359_377 := Aside0.mk (nl hg BK359.out : gb359 ≠ gb377); have NB377_359 := Aside0.mk (ng hg BK359.out : gb377 ≠ gb359); replace BK359 := Aside0.mk (kb BK359.out hb); have NB368_377 := Aside0.mk (nl hg BK368.out : gb368 ≠ gb377); have NB377_368 := Aside0.mk (ng hg BK368.out : gb377 ≠ gb368); replace BK368 := Aside0.mk (kb BK368.out hb); clear hb hbox hg; have hnb63 := NB377_332.out; have hnc63 := NB332_377.out; have hnb64 := NB377_333.out; have hnc64 := NB333_377.out; have hnb65 := NB377_345.out; have hnc65 := NB345_377.out; have hnb66 := NB377_346.out; have hnc66 := NB346_377.out; have hnb67 := NB377_358.out; have hnc67 := NB358_377.out; have hnb68 := NB377_359.out; have hnc68 := NB359_377.out; have hnb69 := NB377_368.out; have hnc69 := NB368_377.out; have hcz70_0 := cz BK377.out 0 (.bool false); have hcz70_1 := cz BK377.out 1 (.bool false); have hcz70_2 := cz BK377.out 2 (.slice none 0 0); have hcz70_3 := cz BK377.out 3 (.string (⟨#[]⟩ : ByteArray)); have hcz70_4 := cz BK377.out 4 (.string (⟨#[]⟩ : ByteArray)); have hfz70_0 := blk_frozen BK377.out 0; have hfz70_1 := blk_frozen BK377.out 1; have hfz70_2 := blk_frozen BK377.out 2; have hfz70_3 := blk_frozen BK377.out 3; have hfz70_4 := blk_frozen BK377.out 4; obtain ⟨Ao71, co71, eo71⟩ := Kd.R_slice HO373.out; subst eo71; have hcz72_0 := cz BK332.out 0 (.bool t321); have hcz72_1 := cz BK332.out 1 (.bool t322); have hcz72_2 := cz BK332.out 2 (.slice Ao23 t323.length co23); have hcz72_3 := cz BK332.out 3 (.string t326); have hcz72_4 := cz BK332.out 4 (.string t327); have hfz72_0 := blk_frozen BK332.out 0; have hfz72_1 := blk_frozen BK332.out 1; have hfz72_2 := blk_frozen BK332.out 2; have hfz72_3 := blk_frozen BK332.out 3; have hfz72_4 := blk_frozen BK332.out 4; have hcz73_0 := cz BK333.out 0 (.bool true); have hcz73_1 := cz BK333.out 1 (.bool t329); have hcz73_2 := cz BK333.out 2 (.int .i64 t330); have hfz73_0 := blk_frozen BK333.out 0; have hfz73_1 := blk_frozen BK333.out 1; have hfz73_2 := blk_frozen BK333.out 2; have hcz74_0 := cz BK345.out 0 (.bool t334); have hcz74_1 := cz BK345.out 1 (.bool t335); have hcz74_2 := cz BK345.out 2 (.slice Ao32 t336.length co32); have hcz74_3 := cz BK345.out 3 (.string t339); have hcz74_4 := cz BK345.out 4 (.string t340); have hfz74_0 := blk_frozen BK345.out 0; have hfz74_1 := blk_frozen BK345.out 1; have hfz74_2 := blk_frozen BK345.out 2; have hfz74_3 := blk_frozen BK345.out 3; have hfz74_4 := blk_frozen BK345.out 4; have p378 : 0 ≤ (1 : Int) := (by omega); have q378 : 1 < (t336.length : Int) := od; obtain ⟨ad378, e378, hx378_0⟩ := Kd.at_string (Kd.R_reads' HO338.out).2.2 1 p378 q378; cases e378; (try simp only [show (1 : Int).toNat = 1 from rfl, Nat.reduceMul, Nat.reduceEqDiff, Go.Addr.add, ↓reduceIte] at hx378_0); have qi378 : (1 < t336.length) = True := eq_true (by omega); (try rw [show ((1 : Int)).toNat = 1 from rfl] at hx378_0); have hn378_0 : ad378.block ≠ gb377 := Kd.own_blk (Kd.R_ne HO338.out BK377.out (by decide)); have hn378_1 : ad378.block ≠ gb377 := Kd.own_blk (Kd.R_ne HO338.out BK377.out (by decide)); have hn378_2 : ad378.block ≠ gb377 := Kd.own_blk (Kd.R_ne HO338.out BK377.out (by decide)); have hn378_3 : ad378.block ≠ gb377 := Kd.own_blk (Kd.R_ne HO338.out BK377.out (by decide)); have hn378_4 : ad378.block ≠ gb377 := Kd.own_blk (Kd.R_ne HO338.out BK377.out (by decide)); replace hx378_0 := (cell_far (p := ⟨gb377, 0, none⟩) (by first | (rw [add_block]; exact hn378_0) | (show (Addr.add _ _).block ≠ _; rw [add_block]; exact hn378_0) | exact hn378_0) (.bool t369)).trans hx378_0; replace hx378_0 := (cell_far (p := ⟨gb377, 1, none⟩) (by first | (rw [add_block]; exact hn378_1) | (show (Addr.add _ _).block ≠ _; rw [add_block]; exact hn378_1) | exact hn378_1) (.bool t370)).trans hx378_0; replace hx378_0 := (cell_far (p := ⟨gb377, 2, none⟩) (by first | (rw [add_block]; exact hn378_2) | (show (Addr.add _ _).block ≠ _; rw [add_block]; exact hn378_2) | exact hn378_2) (.slice Ao71 t371.length co71)).trans hx378_0; replace hx378_0 := (cell_far (p := ⟨gb377, 3, none⟩) (by first | (rw [add_block]; exact hn378_3) | (show (Addr.add _ _).block ≠ _; rw [add_block]; exact hn378_3) | exact hn378_3) (.string t374)).trans hx378_0; replace hx378_0 := (cell_far (p := ⟨gb377, 4, none⟩) (by first | (rw [add_block]; exact hn378_4) | (show (Addr.add _ _).block ≠ _; rw [add_block]; exact hn378_4) | exact hn378_4) (.string t375)).trans hx378_0; clear hn378_0 hn378_1; clear hn378_2 hn378_3; clear hn378_4; replace p378 := eq_true p378; replace q378 := eq_true q378; have hcz75_0 := cz BK358.out 0 (.bool true); have hcz75_1 := cz BK358.out 1 (.bool t348); have hcz75_2 := cz BK358.out 2 (.slice Ao45 t349.length co45); have hcz75_3 := cz BK358.out 3 (.string t352); have hcz75_4 := cz BK358.out 4 (.string t353); have hfz75_0 := blk_frozen BK358.out 0; have hfz75_1 := blk_frozen BK358.out 1; have hfz75_2 := blk_frozen BK358.out 2; have hfz75_3 := blk_frozen BK358.out 3; have hfz75_4 := blk_frozen BK358.out 4; have hcz76_0 := cz BK368.out 0 (.bool t360); have hcz76_1 := cz BK368.out 1 (.bool true); have hcz76_2 := cz BK368.out 2 (.slice Ao60 t362.length co60); have hcz76_3 := cz BK368.out 3 (.string t365); have hcz76_4 := cz BK368.out 4 (.string t366); have hfz76_0 := blk_frozen BK368.out 0; have hfz76_1 := blk_frozen BK368.out 1; have hfz76_2 := blk_frozen BK368.out 2; have hfz76_3 := blk_frozen BK368.out 3; have hfz76_4 := blk_frozen BK368.out 4))
            go_ret
            exact ⟨rf, bl⟩
           ·replace c17 := Bool.eq_false_iff.mpr c17
            subst c17
            replace H : (some false) = some r := by rw [if_neg (show ¬ (false = true) by decide)] at H; exact H
            exact absurd ((Option.some.inj H).trans HT_r.out) (by decide)
          ·rw [if_neg c16] at H
           have c16b0 : (t367 == 0) = false := beq_eq_false_iff_ne.mpr c16
           have c16b1 : (t367 != 0) = true := bne_iff_ne.mpr c16
           exact absurd ((Option.some.inj H).trans HT_r.out) (by decide)
         ·replace c15 := Bool.eq_false_iff.mpr c15
          subst c15
          replace H : (some false) = some r := by rw [if_neg (show ¬ (false = true) by decide)] at H; exact H
          exact absurd ((Option.some.inj H).trans HT_r.out) (by decide)
        ·rw [if_neg c14] at H
         have c14b0 : (t357 == 0) = false := beq_eq_false_iff_ne.mpr c14
         have c14b1 : (t357 != 0) = true := bne_iff_ne.mpr c14
         exact absurd ((Option.some.inj H).trans HT_r.out) (by decide)
       ·rw [if_neg c13] at H
        have c13b0 : ((rdOf ByteArray.empty t336 1).toList == ([121] : List UInt8)) = false := beq_eq_false_iff_ne.mpr c13
        have c13b1 : ((rdOf ByteArray.empty t336 1).toList != ([121] : List UInt8)) = true := bne_iff_ne.mpr c13
        exact absurd ((Option.some.inj H).trans HT_r.out) (by decide)
      ·rw [if_neg c11] at H
       have c11b0 : ((t336.length : Int) == 2) = false := beq_eq_false_iff_ne.mpr c11
       have c11b1 : ((t336.length : Int) != 2) = true := bne_iff_ne.mpr c11
       exact absurd ((Option.some.inj H).trans HT_r.out) (by decide)
     ·rw [if_neg c10] at H
      have c10b0 : (t344 == 0) = false := beq_eq_false_iff_ne.mpr c10
      have c10b1 : (t344 != 0) = true := bne_iff_ne.mpr c10
      exact absurd ((Option.some.inj H).trans HT_r.out) (by decide)
    ·replace c9 := Bool.eq_false_iff.mpr c9
     subst c9
     replace H : (some false) = some r := by rw [if_neg (show ¬ (false = true) by decide)] at H; exact H
     exact absurd ((Option.some.inj H).trans HT_r.out) (by decide)
   ·rw [if_neg c8] at H
    have c8b0 : (t330 == 5) = false := beq_eq_false_iff_ne.mpr c8
    have c8b1 : (t330 != 5) = true := bne_iff_ne.mpr c8
    exact absurd ((Option.some.inj H).trans HT_r.out) (by decide)
  ·rw [if_neg c7] at H
   have c7b0 : (t326.toList == ([97] : List UInt8) && (t327.toList == ([98, 46, 99] : List UInt8))) = false := by simpa using c7
   (try (have c7b1 : decide (t326.toList = ([97] : List UInt8) && (t327.toList == ([98, 46, 99] : List UInt8))) = false := by simpa using c7))
   (try (have c7b2 : (t326.toList == ([97] : List UInt8) && (t327.toList == ([98, 46, 99] : List UInt8))) = false := by simpa using c7))
   (try (have c7b3 : ¬ (t326.toList = ([97] : List UInt8) && (t327.toList == ([98, 46, 99] : List UInt8))) := by simpa using c7))
   clear c7
   exact absurd ((Option.some.inj H).trans HT_r.out) (by decide)
 ·rw [if_neg c6] at H
  have c6b0 : (t331 == 0) = false := beq_eq_false_iff_ne.mpr c6
  have c6b1 : (t331 != 0) = true := bne_iff_ne.mpr c6
  exact absurd ((Option.some.inj H).trans HT_r.out) (by decide)

/-! ### postriderlaw06_PathTells: function 3 -/
def postriderlaw06_PathTells.f (k : Nat) (a0_0 : Bool) (a0_1 : Bool) (l0_2 : List ByteArray) (a0_3 : ByteArray) (a0_4 : ByteArray) : Option (Bool) := if 0 ≤ (mn (a0_3.size : Int) 300) then (if (mn (a0_3.size : Int) 300) ≤ (a0_3.size : Int) then (if 0 ≤ (mn (a0_4.size : Int) 300) then (if (mn (a0_4.size : Int) 300) ≤ (a0_4.size : Int) then ((path_Path_Text.f k a0_0 a0_1 l0_2 (a0_3.extract 0 ((mn (a0_3.size : Int) 300) : Int).toNat) (a0_4.extract 0 ((mn (a0_4.size : Int) 300) : Int).toNat)).bind fun t380 => ((postriderlaw06_Of.f a0_0 a0_1 l0_2 (a0_3.extract 0 ((mn (a0_3.size : Int) 300) : Int).toNat) (a0_4.extract 0 ((mn (a0_4.size : Int) 300) : Int).toNat)).bind fun bt381 => ((postriderref06_Text.f k bt381.1 bt381.2.1 bt381.2.2.1 bt381.2.2.2.1 bt381.2.2.2.2).bind fun t388 => (if t380.toList = t388.toList then ((postriderlaw06_tells.f k).bind fun t389 => (some t389)) else (some false))))) else (none)) else (none)) else (none)) else (none)
theorem postriderlaw06_PathTells.mono : ∀ a0 a1 a2 a3 a4 k, LeO (postriderlaw06_PathTells.f k a0 a1 a2 a3 a4) (postriderlaw06_PathTells.f (k + 1) a0 a1 a2 a3 a4) := by
 intro a0 a1 a2 a3 a4 k
 unfold postriderlaw06_PathTells.f
 repeat' first
   | (with_reducible first | exact path_Path_Text.mono _ _ _ _ _ _ | exact postriderlaw06_tells.mono _ | exact postriderref06_Text.mono _ _ _ _ _ _ | exact LeO.refl _ | exact LeO.none _ | refine LeO.ite ?_ ?_ | refine LeO.bind ?_ (fun _ => ?_))
def postriderlaw06_PathTells.T1 : Bool × List (List Nat × List Nat) := (true, [([], []), ([0], [0]), ([1], [1]), ([], []), ([3], [3]), ([4], [4]), ([5], [5]), ([6], [6]), ([2, 7], [2, 7]), ([], []), ([9], [9]), ([10], [10]), ([], []), ([12], [12]), ([13], [13]), ([14], [14]), ([15], [15]), ([11, 16], [11, 16]), ([8, 17], [8, 17]), ([0, 1, 2, 3, 4, 5, 6, 7, 8, 9, 10, 11, 12, 13, 14, 15, 16, 17, 18], []), ([19, 18, 0, 1, 2, 3, 4, 5, 6, 7, 8, 9, 10, 11, 12, 13, 14, 15, 16, 17, 18], [18, 19])])
def postriderlaw06_PathTells.B1 : List Nat := [0, 1, 3, 0, 8, 24, 56, 120, 255, 0, 512, 1536, 0, 4096, 12288, 28672, 61440, 130560, 262143, 524287, 1048575]
theorem postriderlaw06_PathTells.tab1 : rtab .any (opsOf Tryz.f3 1) = postriderlaw06_PathTells.T1 := by kernel_rfl
theorem postriderlaw06_PathTells.bits1 : waitsOk postriderlaw06_PathTells.T1.2 postriderlaw06_PathTells.B1 = true := by kernel_rfl
def postriderlaw06_PathTells.T2 : Bool × List (List Nat × List Nat) := (true, [([], []), ([0], [0]), ([], []), ([2, 1], [2]), ([3, 3], [3]), ([1, 4], [1, 4]), ([5, 4], [5]), ([6, 6], [6]), ([6, 7], [6, 7]), ([8, 7, 0, 1, 2, 3, 4, 5, 6, 7, 8], [8])])
def postriderlaw06_PathTells.B2 : List Nat := [0, 1, 0, 7, 15, 31, 63, 127, 255, 511]
theorem postriderlaw06_PathTells.tab2 : rtab .any (opsOf Tryz.f3 2) = postriderlaw06_PathTells.T2 := by kernel_rfl
theorem postriderlaw06_PathTells.bits2 : waitsOk postriderlaw06_PathTells.T2.2 postriderlaw06_PathTells.B2 = true := by kernel_rfl
theorem postriderlaw06_PathTells.calls (k : Nat) (a0_0 : Bool) (a0_1 : Bool) (A0_2 : Option Addr) (c0_2 : Nat) (l0_2 : List ByteArray) (a0_3 : ByteArray) (a0_4 : ByteArray) (r : Bool) (w : World) (hr0_2 : Kd.C Kd.string w A0_2 l0_2.length l0_2) (hc0_2 : l0_2.length ≤ c0_2) (hG : Glob w) (hT : r = true) (h : postriderlaw06_PathTells.f k a0_0 a0_1 l0_2 a0_3 a0_4 = some r) :
  Calls Tryz.prog 3 #[.agg #[.bool a0_0, .bool a0_1, .slice A0_2 l0_2.length c0_2, .string a0_3, .string a0_4]] w fun e w' => e = .returned (.bool r) ∧ Below w.heap.size w w' := by
 have hu26 := Tryz.underlying26
 have hu24 := Tryz.underlying24
 have HR0_2 := Aside0.mk hr0_2
 have HC0_2 := Aside0.mk hc0_2
 clear hr0_2 hc0_2
 have HB := Aside0.mk (Below.refl w.heap.size w)
 have HG := Aside0.mk hG
 clear hG
 have HT_r := Aside0.mk hT
 clear hT
 have H : (if 0 ≤ (mn (a0_3.size : Int) 300) then (if (mn (a0_3.size : Int) 300) ≤ (a0_3.size : Int) then (if 0 ≤ (mn (a0_4.size : Int) 300) then (if (mn (a0_4.size : Int) 300) ≤ (a0_4.size : Int) then ((path_Path_Text.f k a0_0 a0_1 l0_2 (a0_3.extract 0 ((mn (a0_3.size : Int) 300) : Int).toNat) (a0_4.extract 0 ((mn (a0_4.size : Int) 300) : Int).toNat)).bind fun t380 => ((postriderlaw06_Of.f a0_0 a0_1 l0_2 (a0_3.extract 0 ((mn (a0_3.size : Int) 300) : Int).toNat) (a0_4.extract 0 ((mn (a0_4.size : Int) 300) : Int).toNat)).bind fun bt381 => ((postriderref06_Text.f k bt381.1 bt381.2.1 bt381.2.2.1 bt381.2.2.2.1 bt381.2.2.2.2).bind fun t388 => (if t380.toList = t388.toList then ((postriderlaw06_tells.f k).bind fun t389 => (some t389)) else (some false))))) else (none)) else (none)) else (none)) else (none)) = some r := h
 clear h
 obtain ⟨ji2, hji2⟩ : ∃ j_ : Int, (mn (a0_3.size : Int) 300) = j_ := ⟨_, rfl⟩
 replace H : (if 0 ≤ (ji2) then (if (ji2) ≤ (a0_3.size : Int) then (if 0 ≤ (mn (a0_4.size : Int) 300) then (if (mn (a0_4.size : Int) 300) ≤ (a0_4.size : Int) then ((path_Path_Text.f k a0_0 a0_1 l0_2 (a0_3.extract 0 ((ji2) : Int).toNat) (a0_4.extract 0 ((mn (a0_4.size : Int) 300) : Int).toNat)).bind fun t380 => ((postriderlaw06_Of.f a0_0 a0_1 l0_2 (a0_3.extract 0 ((ji2) : Int).toNat) (a0_4.extract 0 ((mn (a0_4.size : Int) 300) : Int).toNat)).bind fun bt381 => ((postriderref06_Text.f k bt381.1 bt381.2.1 bt381.2.2.1 bt381.2.2.2.1 bt381.2.2.2.2).bind fun t388 => (if t380.toList = t388.toList then ((postriderlaw06_tells.f k).bind fun t389 => (some t389)) else (some false))))) else (none)) else (none)) else (none)) else (none)) = some r := by first | (rw [hji2] at H; exact H) | (simp only [hji2] at H ⊢; exact H)
 (try (have hji2h : ji2 ≤ 300 := by (rw [← hji2]; unfold mn; (repeat' split) <;> omega)))
 (try (have hji2g : ji2 ≤ 64 := by omega))
 (try (have hji2l : 0 ≤ ji2 := by (rw [← hji2]; unfold mn; (repeat' split) <;> omega)))
 (try (have hji2m : 0 ≤ ji2 := by omega))
 have hji2_ : (if 300 < (a0_3.size : Int) then 300 else (a0_3.size : Int)) = ji2 := hji2
 by_cases c3 : 0 ≤ (ji2)
 rotate_left
 ·rw [if_neg c3] at H
  exact ab H
 rw [if_pos c3] at H
 have c3b0 := eq_true c3
 have c3b1 : decide (0 ≤ (ji2)) = true := decide_eq_true c3
 clear c3
 by_cases c4 : (ji2) ≤ (a0_3.size : Int)
 rotate_left
 ·rw [if_neg c4] at H
  exact ab H
 rw [if_pos c4] at H
 have c4b0 := eq_true c4
 have c4b1 : decide ((ji2) ≤ (a0_3.size : Int)) = true := decide_eq_true c4
 clear c4
 obtain ⟨js5, hjs5⟩ : ∃ j_ : ByteArray, (a0_3.extract 0 ((ji2) : Int).toNat) = j_ := ⟨_, rfl⟩
 replace H : (if 0 ≤ (mn (a0_4.size : Int) 300) then (if (mn (a0_4.size : Int) 300) ≤ (a0_4.size : Int) then ((path_Path_Text.f k a0_0 a0_1 l0_2 js5 (a0_4.extract 0 ((mn (a0_4.size : Int) 300) : Int).toNat)).bind fun t380 => ((postriderlaw06_Of.f a0_0 a0_1 l0_2 js5 (a0_4.extract 0 ((mn (a0_4.size : Int) 300) : Int).toNat)).bind fun bt381 => ((postriderref06_Text.f k bt381.1 bt381.2.1 bt381.2.2.1 bt381.2.2.2.1 bt381.2.2.2.2).bind fun t388 => (if t380.toList = t388.toList then ((postriderlaw06_tells.f k).bind fun t389 => (some t389)) else (some false))))) else (none)) else (none)) = some r := by first | (rw [hjs5] at H; exact H) | (simp only [hjs5] at H ⊢; exact H)
 obtain ⟨ji6, hji6⟩ : ∃ j_ : Int, (mn (a0_4.size : Int) 300) = j_ := ⟨_, rfl⟩
 replace H : (if 0 ≤ (ji6) then (if (ji6) ≤ (a0_4.size : Int) then ((path_Path_Text.f k a0_0 a0_1 l0_2 js5 (a0_4.extract 0 ((ji6) : Int).toNat)).bind fun t380 => ((postriderlaw06_Of.f a0_0 a0_1 l0_2 js5 (a0_4.extract 0 ((ji6) : Int).toNat)).bind fun bt381 => ((postriderref06_Text.f k bt381.1 bt381.2.1 bt381.2.2.1 bt381.2.2.2.1 bt381.2.2.2.2).bind fun t388 => (if t380.toList = t388.toList then ((postriderlaw06_tells.f k).bind fun t389 => (some t389)) else (some false))))) else (none)) else (none)) = some r := by first | (rw [hji6] at H; exact H) | (simp only [hji6] at H ⊢; exact H)
 (try (have hji6h : ji6 ≤ 300 := by (rw [← hji6]; unfold mn; (repeat' split) <;> omega)))
 (try (have hji6g : ji6 ≤ 64 := by omega))
 (try (have hji6l : 0 ≤ ji6 := by (rw [← hji6]; unfold mn; (repeat' split) <;> omega)))
 (try (have hji6m : 0 ≤ ji6 := by omega))
 have hji6_ : (if 300 < (a0_4.size : Int) then 300 else (a0_4.size : Int)) = ji6 := hji6
 by_cases c7 : 0 ≤ (ji6)
 rotate_left
 ·rw [if_neg c7] at H
  exact ab H
 rw [if_pos c7] at H
 have c7b0 := eq_true c7
 have c7b1 : decide (0 ≤ (ji6)) = true := decide_eq_true c7
 clear c7
 by_cases c8 : (ji6) ≤ (a0_4.size : Int)
 rotate_left
 ·rw [if_neg c8] at H
  exact ab H
 rw [if_pos c8] at H
 have c8b0 := eq_true c8
 have c8b1 : decide ((ji6) ≤ (a0_4.size : Int)) = true := decide_eq_true c8
 clear c8
 obtain ⟨js9, hjs9⟩ : ∃ j_ : ByteArray, (a0_4.extract 0 ((ji6) : Int).toNat) = j_ := ⟨_, rfl⟩
 replace H : ((path_Path_Text.f k a0_0 a0_1 l0_2 js5 js9).bind fun t380 => ((postriderlaw06_Of.f a0_0 a0_1 l0_2 js5 js9).bind fun bt381 => ((postriderref06_Text.f k bt381.1 bt381.2.1 bt381.2.2.1 bt381.2.2.2.1 bt381.2.2.2.2).bind fun t388 => (if t380.toList = t388.toList then ((postriderlaw06_tells.f k).bind fun t389 => (some t389)) else (some false))))) = some r := by first | (rw [hjs9] at H; exact H) | (simp only [hjs9] at H ⊢; exact H)
 obtain ⟨t380, A100, H⟩ := Option.bind_eq_some_iff.mp H
 replace H : ((postriderlaw06_Of.f a0_0 a0_1 l0_2 js5 js9).bind fun bt381 => ((postriderref06_Text.f k bt381.1 bt381.2.1 bt381.2.2.1 bt381.2.2.2.1 bt381.2.2.2.2).bind fun t388 => (if t380.toList = t388.toList then ((postriderlaw06_tells.f k).bind fun t389 => (some t389)) else (some false)))) = some r := H
 have A10 := Aside0.mk A100
 clear A100
 obtain ⟨⟨t381, t382, t383, t386, t387⟩, A110, H⟩ := Option.bind_eq_some_iff.mp H
 replace H : ((postriderref06_Text.f k t381 t382 t383 t386 t387).bind fun t388 => (if t380.toList = t388.toList then ((postriderlaw06_tells.f k).bind fun t389 => (some t389)) else (some false))) = some r := H
 have A11 := Aside0.mk A110
 clear A110
 obtain ⟨t388, A120, H⟩ := Option.bind_eq_some_iff.mp H
 replace H : (if t380.toList = t388.toList then ((postriderlaw06_tells.f k).bind fun t389 => (some t389)) else (some false)) = some r := H
 have A12 := Aside0.mk A120
 clear A120
 by_cases c13 : t380.toList = t388.toList
 ·rw [if_pos c13] at H
  have c13b0 : (t380.toList == t388.toList) = true := beq_iff_eq.mpr c13
  have c13b1 : (t380.toList != t388.toList) = false := bne_eq_false_iff_eq.mpr c13
  clear c13
  obtain ⟨t389, A140, H⟩ := Option.bind_eq_some_iff.mp H
  replace H : (some t389) = some r := H
  have A14 := Aside0.mk A140
  clear A140
  obtain rfl := Option.some.inj H
  go_enter Tryz.func3, Tryz.ntmps3
  try go_wp2_with (first | ((with_reducible refine gate_dst (N := 1) rfl ?_); refine box_event ?hg (N := 1) ?hd (cs := #[.bool a0_0, .bool a0_1, .slice A0_2 l0_2.length c0_2, .string a0_3, .string a0_4]) (t := 26) ?hr ?_; (case hd => rfl); (case hg => rfl); (case hr => first | (go_simp; done) | (go_simp; rfl)); intro gb379 hg w15 hbox hb; have BK379 := Aside0.mk (hbox); have GW379 := Aside0.mk (gz hg : w.heap.size ≤ gb379); have GE379 := Aside0.mk (gz hg : w.heap.size ≤ gb379); replace HB := Aside0.mk (below_step bl hb); clear hb hbox hg))
  replace BK379 := Aside0.mk (blk_drew BK379.out)
  replace HB := Aside0.mk (below_drew1 HB.out)
  refine start_ (n := 21) (S := fun w' => w'.cell? ⟨gb379, 0, none⟩ = some (.bool a0_0) ∧ w'.cell? ⟨gb379, 1, none⟩ = some (.bool a0_1) ∧ w'.cell? ⟨gb379, 2, none⟩ = some (.slice A0_2 l0_2.length c0_2) ∧ w'.cell? ⟨gb379, 3, none⟩ = some (.string a0_3) ∧ w'.cell? ⟨gb379, 4, none⟩ = some (.string a0_4)) (ds := [20]) #[false, false, false, false, false, false, false, false, false, false, false, false, false, false, false, false, false, false, false, false, false] kf rfl rfl ⟨(blk_cell BK379.out 0).trans rfl, (blk_cell BK379.out 1).trans rfl, (blk_cell BK379.out 2).trans rfl, (blk_cell BK379.out 3).trans rfl, (blk_cell BK379.out 4).trans rfl⟩ (fun hHeld => ?_); refine with_tabW postriderlaw06_PathTells.tab1 postriderlaw06_PathTells.bits1 (fun HT_ HW_ => ?_)
  generalize w15.drew = w16 at BK379 HB hHeld ⊢
  refine pure_ (i := 0) (N := some 3) (v := ?_) (a' := ?_) #[true, false, false, false, false, false, false, false, false, false, false, false, false, false, false, false, false, false, false, false, false] rfl rfl (any_of HT_.out kf) (fun _ _ _ h => h) (Or.inl ⟨by rfl, ?_⟩) ?_ ?_
  rotate_left
  ·intro w'
   go_simp
   with_reducible rfl
  rotate_left
  ·simp only [Act.put, sA, sB, sC, i64_w, i32_w]
   rfl
  refine pure_ (i := 1) (N := some 4) (v := ?_) (a' := ?_) #[true, true, false, false, false, false, false, false, false, false, false, false, false, false, false, false, false, false, false, false, false] rfl rfl (any_of HT_.out kf) (fun _ _ _ h => h) (Or.inl ⟨by rfl, ?_⟩) ?_ ?_
  rotate_left
  ·intro w'
   go_simp
   with_reducible rfl
  rotate_left
  ·simp only [Act.put, sA, sB, sC, i64_w, i32_w]
   rfl
  refine pure_ (i := 3) (N := some 6) (v := ?_) (a' := ?_) #[true, true, false, true, false, false, false, false, false, false, false, false, false, false, false, false, false, false, false, false, false] rfl rfl (any_of HT_.out kf) (fun _ _ _ h => h) (Or.inl ⟨by rfl, ?_⟩) ?_ ?_
  rotate_left
  ·intro w'
   go_simp
   with_reducible rfl
  rotate_left
  ·simp only [Act.put, sA, sB, sC, i64_w, i32_w]
   rfl
  refine pure_ (i := 4) (N := some 7) (v := ?_) (a' := ?_) #[true, true, false, true, true, false, false, false, false, false, false, false, false, false, false, false, false, false, false, false, false] rfl rfl (any_of HT_.out kf) (fun _ _ _ h => h) (Or.inl ⟨by rfl, ?_⟩) ?_ ?_
  rotate_left
  ·intro w'
   go_simp
   with_reducible rfl
  rotate_left
  ·simp only [Act.put, sA, sB, sC, i64_w, i32_w]
   rfl
  refine pure_ (i := 9) (N := some 12) (v := ?_) (a' := ?_) #[true, true, false, true, true, false, false, false, false, true, false, false, false, false, false, false, false, false, false, false, false] rfl rfl (any_of HT_.out kf) (fun _ _ _ h => h) (Or.inl ⟨by rfl, ?_⟩) ?_ ?_
  rotate_left
  ·intro w'
   go_simp
   with_reducible rfl
  rotate_left
  ·simp only [Act.put, sA, sB, sC, i64_w, i32_w]
   rfl
  refine pure_ (i := 10) (N := some 13) (v := ?_) (a' := ?_) #[true, true, false, true, true, false, false, false, false, true, true, false, false, false, false, false, false, false, false, false, false] rfl rfl (any_of HT_.out kf) (fun _ _ _ h => h) (Or.inl ⟨by rfl, ?_⟩) ?_ ?_
  rotate_left
  ·intro w'
   go_simp
   with_reducible rfl
  rotate_left
  ·simp only [Act.put, sA, sB, sC, i64_w, i32_w]
   rfl
  refine pure_ (i := 12) (N := some 15) (v := ?_) (a' := ?_) #[true, true, false, true, true, false, false, false, false, true, true, false, true, false, false, false, false, false, false, false, false] rfl rfl (any_of HT_.out kf) (fun _ _ _ h => h) (Or.inl ⟨by rfl, ?_⟩) ?_ ?_
  rotate_left
  ·intro w'
   go_simp
   with_reducible rfl
  rotate_left
  ·simp only [Act.put, sA, sB, sC, i64_w, i32_w]
   rfl
  refine pure_ (i := 13) (N := some 16) (v := ?_) (a' := ?_) #[true, true, false, true, true, false, false, false, false, true, true, false, true, true, false, false, false, false, false, false, false] rfl rfl (any_of HT_.out kf) (fun _ _ _ h => h) (Or.inl ⟨by rfl, ?_⟩) ?_ ?_
  rotate_left
  ·intro w'
   go_simp
   with_reducible rfl
  rotate_left
  ·simp only [Act.put, sA, sB, sC, i64_w, i32_w]
   rfl
  refine take_ (i := 2) (N := some 5) (v := ?_) (a' := ?_) #[true, true, true, true, true, false, false, false, false, true, true, false, true, true, false, false, false, false, false, false, false] rfl rfl (take_ofW HT_.out HW_.out kf) (fun _ _ _ h => h) (Or.inl ⟨by rfl, ?_⟩) hHeld ?_ ?_
  rotate_left
  ·rintro w' ⟨s0, s1, s2, s3, s4⟩
   go_simp
   with_reducible rfl
  rotate_left
  ·simp only [Act.put, sA, sB, sC, i64_w, i32_w]
   rfl
  refine take_ (i := 5) (N := some 8) (v := ?_) (a' := ?_) #[true, true, true, true, true, true, false, false, false, true, true, false, true, true, false, false, false, false, false, false, false] rfl rfl (take_ofW HT_.out HW_.out kf) (fun _ _ _ h => h) (Or.inl ⟨by rfl, ?_⟩) hHeld ?_ ?_
  rotate_left
  ·rintro w' ⟨s0, s1, s2, s3, s4⟩
   go_simp
   with_reducible rfl
  rotate_left
  ·simp only [Act.put, sA, sB, sC, i64_w, i32_w]
   rfl
  refine pure_ (i := 6) (N := some 9) (v := ?_) (a' := ?_) #[true, true, true, true, true, true, true, false, false, true, true, false, true, true, false, false, false, false, false, false, false] rfl rfl (any_of HT_.out kf) (fun _ _ _ h => h) (Or.inl ⟨by rfl, ?_⟩) ?_ ?_
  rotate_left
  ·intro w'
   go_simp
   with_reducible rfl
  rotate_left
  ·simp only [Act.put, sA, sB, sC, i64_w, i32_w]
   rfl
  refine pure_ (i := 7) (N := some 10) (v := ?_) (a' := ?_) #[true, true, true, true, true, true, true, true, false, true, true, false, true, true, false, false, false, false, false, false, false] rfl rfl (any_of HT_.out kf) (fun _ _ _ h => h) (Or.inl ⟨by rfl, ?_⟩) ?_ ?_
  rotate_left
  ·intro w'
   go_simp
   with_reducible rfl
  rotate_left
  ·simp only [Act.put, sA, sB, sC, i64_w, i32_w]
   rfl
  refine pure_ (i := 8) (N := some 11) (v := ?_) (a' := ?_) #[true, true, true, true, true, true, true, true, true, true, true, false, true, true, false, false, false, false, false, false, false] rfl rfl (any_of HT_.out kf) (fun _ _ _ h => h) (Or.inl ⟨by rfl, ?_⟩) ?_ ?_
  rotate_left
  ·intro w'
   go_simp
   with_reducible rfl
  rotate_left
  ·simp only [Act.put, sA, sB, sC, i64_w, i32_w]
   rfl
  refine take_ (i := 11) (N := some 14) (v := ?_) (a' := ?_) #[true, true, true, true, true, true, true, true, true, true, true, true, true, true, false, false, false, false, false, false, false] rfl rfl (take_ofW HT_.out HW_.out kf) (fun _ _ _ h => h) (Or.inl ⟨by rfl, ?_⟩) hHeld ?_ ?_
  rotate_left
  ·rintro w' ⟨s0, s1, s2, s3, s4⟩
   go_simp
   with_reducible rfl
  rotate_left
  ·simp only [Act.put, sA, sB, sC, i64_w, i32_w]
   rfl
  refine take_ (i := 14) (N := some 17) (v := ?_) (a' := ?_) #[true, true, true, true, true, true, true, true, true, true, true, true, true, true, true, false, false, false, false, false, false] rfl rfl (take_ofW HT_.out HW_.out kf) (fun _ _ _ h => h) (Or.inl ⟨by rfl, ?_⟩) hHeld ?_ ?_
  rotate_left
  ·rintro w' ⟨s0, s1, s2, s3, s4⟩
   go_simp
   with_reducible rfl
  rotate_left
  ·simp only [Act.put, sA, sB, sC, i64_w, i32_w]
   rfl
  refine pure_ (i := 15) (N := some 18) (v := ?_) (a' := ?_) #[true, true, true, true, true, true, true, true, true, true, true, true, true, true, true, true, false, false, false, false, false] rfl rfl (any_of HT_.out kf) (fun _ _ _ h => h) (Or.inl ⟨by rfl, ?_⟩) ?_ ?_
  rotate_left
  ·intro w'
   go_simp
   with_reducible rfl
  rotate_left
  ·simp only [Act.put, sA, sB, sC, i64_w, i32_w]
   rfl
  refine pure_ (i := 16) (N := some 19) (v := ?_) (a' := ?_) #[true, true, true, true, true, true, true, true, true, true, true, true, true, true, true, true, true, false, false, false, false] rfl rfl (any_of HT_.out kf) (fun _ _ _ h => h) (Or.inl ⟨by rfl, ?_⟩) ?_ ?_
  rotate_left
  ·intro w'
   go_simp
   with_reducible rfl
  rotate_left
  ·simp only [Act.put, sA, sB, sC, i64_w, i32_w]
   rfl
  refine pure_ (i := 17) (N := some 20) (v := ?_) (a' := ?_) #[true, true, true, true, true, true, true, true, true, true, true, true, true, true, true, true, true, true, false, false, false] rfl rfl (any_of HT_.out kf) (fun _ _ _ h => h) (Or.inl ⟨by rfl, ?_⟩) ?_ ?_
  rotate_left
  ·intro w'
   go_simp
   with_reducible rfl
  rotate_left
  ·simp only [Act.put, sA, sB, sC, i64_w, i32_w]
   rfl
  refine pure_ (i := 18) (N := some 21) (v := ?_) (a' := ?_) #[true, true, true, true, true, true, true, true, true, true, true, true, true, true, true, true, true, true, true, false, false] rfl rfl (any_of HT_.out kf) (fun _ _ _ h => h) (Or.inl ⟨by rfl, ?_⟩) ?_ ?_
  rotate_left
  ·intro w'
   go_simp
   with_reducible rfl
  rotate_left
  ·simp only [Act.put, sA, sB, sC, i64_w, i32_w]
   rfl
  refine pure_ (i := 19) (N := some 22) (v := ?_) (a' := ?_) #[true, true, true, true, true, true, true, true, true, true, true, true, true, true, true, true, true, true, true, true, false] rfl rfl (any_of HT_.out kf) (fun _ _ _ h => h) (Or.inl ⟨by rfl, ?_⟩) ?_ ?_
  rotate_left
  ·intro w'
   go_simp
   with_reducible rfl
  rotate_left
  ·simp only [Act.put, sA, sB, sC, i64_w, i32_w]
   rfl
  refine last_ (i := 20) (N := none) #[true, true, true, true, true, true, true, true, true, true, true, true, true, true, true, true, true, true, true, true, true] rfl rfl (one_of HT_.out kf) (by decide) (fun K hK => ?_)
  have hs17 : w16.cell? ⟨gb379, 3, none⟩ = some (.string a0_3) := (blk_cell BK379.out 3).trans rfl
  have hfs17 := blk_frozen BK379.out 3
  have hs18 : w16.cell? ⟨gb379, 4, none⟩ = some (.string a0_4) := (blk_cell BK379.out 4).trans rfl
  have hfs18 := blk_frozen BK379.out 4
  refine skip_ (w1 := ?_) (by rfl) rfl ?_ ?_
  rotate_left
  ·go_simp
   rfl
  refine hK.out _ _ ?_
  clear hK K
  refine done_ (done_of HT_.out kf) ?_
  try go_wp2
  have n0_ : Aside0 (((w16.setCell ⟨gb379, 3, none⟩ (.string js5)).setCell ⟨gb379, 4, none⟩ (.string js9)).heap[gb379]? = some (.cells #[.bool a0_0, .bool a0_1, .slice A0_2 l0_2.length c0_2, .string js5, .string js9] 26 (0, 0))) := ⟨by (with_reducible repeat (first | refine blk_drewN ?_ _ | refine blk_drew ?_ | refine blk_alloc ?_ _)); refine blk_put (cs := #[.bool a0_0, .bool a0_1, .slice A0_2 l0_2.length c0_2, .string js5, .string a0_4]) ?_ 4 _ rfl; (with_reducible repeat (first | refine blk_drewN ?_ _ | refine blk_drew ?_ | refine blk_alloc ?_ _)); refine blk_put (cs := #[.bool a0_0, .bool a0_1, .slice A0_2 l0_2.length c0_2, .string a0_3, .string a0_4]) ?_ 3 _ rfl; (with_reducible repeat (first | refine blk_drewN ?_ _ | refine blk_drew ?_ | refine blk_alloc ?_ _)); exact BK379.out⟩
  have n1_ : Aside0 (Below w.heap.size w ((w16.setCell ⟨gb379, 3, none⟩ (.string js5)).setCell ⟨gb379, 4, none⟩ (.string js9))) := ⟨bl⟩
  (try clear BK379)
  (try clear HB)
  generalize ((w16.setCell ⟨gb379, 3, none⟩ (.string js5)).setCell ⟨gb379, 4, none⟩ (.string js9)) = w19 at n0_ n1_ ⊢
  have BK379 := n0_
  have HB := n1_
  clear n0_ n1_
  replace BK379 := Aside0.mk (blk_drew BK379.out)
  replace HB := Aside0.mk (below_drew1 HB.out)
  refine start_ (n := 10) (S := fun w' => w'.cell? ⟨gb379, 0, none⟩ = some (.bool a0_0) ∧ w'.cell? ⟨gb379, 1, none⟩ = some (.bool a0_1) ∧ w'.cell? ⟨gb379, 2, none⟩ = some (.slice A0_2 l0_2.length c0_2) ∧ w'.cell? ⟨gb379, 3, none⟩ = some (.string js5) ∧ w'.cell? ⟨gb379, 4, none⟩ = some (.string js9)) (ds := []) #[false, false, false, false, false, false, false, false, false, false] kf rfl rfl ⟨(blk_cell BK379.out 0).trans rfl, (blk_cell BK379.out 1).trans rfl, (blk_cell BK379.out 2).trans rfl, (blk_cell BK379.out 3).trans rfl, (blk_cell BK379.out 4).trans rfl⟩ (fun hHeld => ?_); refine with_tabW postriderlaw06_PathTells.tab2 postriderlaw06_PathTells.bits2 (fun HT_ HW_ => ?_)
  generalize w19.drew = w20 at BK379 HB hHeld ⊢
  refine take_ (i := 0) (N := some 23) (v := ?_) (a' := ?_) #[true, false, false, false, false, false, false, false, false, false] rfl rfl (take_ofW HT_.out HW_.out kf) (fun _ _ _ h => h) (Or.inl ⟨by rfl, ?_⟩) hHeld ?_ ?_
  rotate_left
  ·rintro w' ⟨s0, s1, s2, s3, s4⟩
   go_simp
   with_reducible rfl
  rotate_left
  ·simp only [Act.put, sA, sB, sC, i64_w, i32_w]
   rfl
  refine take_ (i := 2) (N := some 25) (v := ?_) (a' := ?_) #[true, false, true, false, false, false, false, false, false, false] rfl rfl (take_ofW HT_.out HW_.out kf) (fun _ _ _ h => h) (Or.inl ⟨by rfl, ?_⟩) hHeld ?_ ?_
  rotate_left
  ·rintro w' ⟨s0, s1, s2, s3, s4⟩
   go_simp
   with_reducible rfl
  rotate_left
  ·simp only [Act.put, sA, sB, sC, i64_w, i32_w]
   rfl
  refine one_ (i := 1) (N := some 24) #[true, true, true, false, false, false, false, false, false, false] rfl rfl (one_of HT_.out kf) (by decide) (fun K hK => ?_)
  refine goes_ Tryz.func8 kf rfl #[.agg #[.bool a0_0, .bool a0_1, .slice A0_2 l0_2.length c0_2, .string js5, .string js9]] (by rfl) rfl rfl ml ?_
  with_reducible refine (path_Path_Text.calls k a0_0 a0_1 _ _ l0_2 js5 js9 t380 _ ?side1 ?side2 ?side3 A10.out).mono ?_
  (case side1 => repeat (first | exact (Kd.C_below HR0_2.out HB.out) | (with_reducible refine Kd.C_alloc ?_ _) | (with_reducible refine Kd.C_drewN ?_ _) | (with_reducible refine Kd.C_drew ?_)))
  (case side2 => exact HC0_2.out)
  (case side3 => exact Glob.below HG.out bl)
  rintro e w21 ⟨rfl, hb⟩
  refine ⟨_, rfl, ?_⟩
  replace BK379 := Aside0.mk (kb BK379.out hb)
  replace HB := Aside0.mk (below_step bl hb)
  (try clear hb)
  (try clear hb2)
  (try clear hk)
  (try clear hi)
  refine hK.out _ _ ⟨(blk_cell BK379.out 0).trans rfl, (blk_cell BK379.out 1).trans rfl, (blk_cell BK379.out 2).trans rfl, (blk_cell BK379.out 3).trans rfl, (blk_cell BK379.out 4).trans rfl⟩ (fun hHeld => ?_)
  clear hK K
  refine norm_ (a' := ?_) ?_ ?_
  rotate_left
  ·show Act.put _ (some 24) _ = _
   simp only [Act.put, sA, sB, sC, i64_w, i32_w]
   rfl
  refine one_ (i := 3) (N := some 26) #[true, true, true, true, false, false, false, false, false, false] rfl rfl (one_of HT_.out kf) (by decide) (fun K hK => ?_)
  refine goes_ Tryz.func10 kf rfl #[.agg #[.bool a0_0, .bool a0_1, .slice A0_2 l0_2.length c0_2, .string js5, .string js9]] (by rfl) rfl rfl ml ?_
  with_reducible refine (postriderlaw06_Of.calls a0_0 a0_1 (fun k_ => k_ < w.heap.size) _ _ l0_2 js5 js9 t381 t382 t383 t386 t387 _ ?side1 A11.out).mono ?_
  (case side1 => exact Kd.V_mk HC0_2.out (Kd.F_below (Kd.C_F Kd.heap_string HR0_2.out) bl))
  rintro e w22 ⟨v384, rfl, ho0, hb⟩
  refine ⟨_, rfl, ?_⟩
  have HO385 := Aside0.mk (Kd.V_lower (Kd.V_mono (ok' := fun k_ => k_ ≠ gb379) ho0 (fun k_ hk_ => Or.elim hk_ (fun hs_ => fun e_ => Nat.not_le.2 hs_ (by rw [e_]; exact GW379.out)) (fun hn_ => (Kd.freshB (g := gb379) (o := .cells #[.bool a0_0, .bool a0_1, .slice A0_2 l0_2.length c0_2, .string js5, .string js9] 26 (0, 0)) (bk BK379.out) k_ hn_)))) (below_size bl))
  replace BK379 := Aside0.mk (kb BK379.out hb)
  replace HB := Aside0.mk (below_step bl hb)
  (try clear hb)
  (try clear hb2)
  (try clear hk)
  (try clear hi)
  (try clear ho0)
  obtain ⟨Ao23, co23, eo23⟩ := Kd.V_slice HO385.out
  (first | subst eo23 | (injection eo23 with f1_ f2_ f3_; have f4_ := f1_.symm; have f5_ := f3_.symm; clear f1_ f2_ f3_; subst f4_; subst f5_))
  refine hK.out _ _ ⟨(blk_cell BK379.out 0).trans rfl, (blk_cell BK379.out 1).trans rfl, (blk_cell BK379.out 2).trans rfl, (blk_cell BK379.out 3).trans rfl, (blk_cell BK379.out 4).trans rfl⟩ (fun hHeld => ?_)
  clear hK K
  refine norm_ (a' := ?_) ?_ ?_
  rotate_left
  ·show Act.put _ (some 26) _ = _
   simp only [Act.put, sA, sB, sC, i64_w, i32_w]
   rfl
  refine one_ (i := 4) (N := some 27) #[true, true, true, true, true, false, false, false, false, false] rfl rfl (one_of HT_.out kf) (by decide) (fun K hK => ?_)
  refine goes_ Tryz.func9 kf rfl #[.agg #[.bool t381, .bool t382, .slice Ao23 t383.length co23, .string t386, .string t387]] (by rfl) rfl rfl ml ?_
  with_reducible refine (postriderref06_Text.calls k t381 t382 _ _ t383 t386 t387 t388 _ ?side1 ?side2 A12.out).mono ?_
  (case side1 => repeat (first | exact (Kd.V_reads' HO385.out).2.2 | (with_reducible refine Kd.C_alloc ?_ _) | (with_reducible refine Kd.C_drewN ?_ _) | (with_reducible refine Kd.C_drew ?_)))
  (case side2 => exact (Kd.V_reads' HO385.out).2.1)
  rintro e w24 ⟨rfl, hb⟩
  refine ⟨_, rfl, ?_⟩
  replace HO385 := Aside0.mk (Kd.V_below (by (with_reducible repeat (first | apply Kd.V_alloc | apply Kd.V_drewN | apply Kd.V_drew)); exact HO385.out) hb)
  replace BK379 := Aside0.mk (kb BK379.out hb)
  replace HB := Aside0.mk (below_step bl hb)
  (try clear hb)
  (try clear hb2)
  (try clear hk)
  (try clear hi)
  refine hK.out _ _ ⟨(blk_cell BK379.out 0).trans rfl, (blk_cell BK379.out 1).trans rfl, (blk_cell BK379.out 2).trans rfl, (blk_cell BK379.out 3).trans rfl, (blk_cell BK379.out 4).trans rfl⟩ (fun hHeld => ?_)
  clear hK K
  refine norm_ (a' := ?_) ?_ ?_
  rotate_left
  ·show Act.put _ (some 27) _ = _
   simp only [Act.put, sA, sB, sC, i64_w, i32_w]
   rfl
  refine pure_ (i := 5) (N := some 28) (v := ?_) (a' := ?_) #[true, true, true, true, true, true, false, false, false, false] rfl rfl (any_of HT_.out kf) (fun _ _ _ h => h) (Or.inl ⟨by rfl, ?_⟩) ?_ ?_
  rotate_left
  ·intro w'
   go_simp
   with_reducible rfl
  rotate_left
  ·simp only [Act.put, sA, sB, sC, i64_w, i32_w]
   rfl
  refine pure_ (i := 6) (N := some 29) (v := ?_) (a' := ?_) #[true, true, true, true, true, true, true, false, false, false] rfl rfl (any_of HT_.out kf) (fun _ _ _ h => h) (Or.inl ⟨by rfl, ?_⟩) ?_ ?_
  rotate_left
  ·intro w'
   go_simp
   with_reducible rfl
  rotate_left
  ·simp only [Act.put, sA, sB, sC, i64_w, i32_w]
   rfl
  refine one_ (i := 7) (N := some 30) #[true, true, true, true, true, true, true, true, false, false] rfl rfl (one_of HT_.out kf) (by decide) (fun K hK => ?_)
  refine goes_ Tryz.func11 kf rfl #[] (by rfl) rfl rfl ml ?_
  with_reducible refine (postriderlaw06_tells.calls k  t389 _ ?side1 ?side2 A14.out).mono ?_
  (case side1 => exact Glob.below HG.out bl)
  (case side2 => first | rfl | exact HT_r.out)
  rintro e w25 ⟨rfl, hb⟩
  refine ⟨_, rfl, ?_⟩
  replace HO385 := Aside0.mk (Kd.V_below (by (with_reducible repeat (first | apply Kd.V_alloc | apply Kd.V_drewN | apply Kd.V_drew)); exact HO385.out) hb)
  replace BK379 := Aside0.mk (kb BK379.out hb)
  replace HB := Aside0.mk (below_step bl hb)
  (try clear hb)
  (try clear hb2)
  (try clear hk)
  (try clear hi)
  refine hK.out _ _ ⟨(blk_cell BK379.out 0).trans rfl, (blk_cell BK379.out 1).trans rfl, (blk_cell BK379.out 2).trans rfl, (blk_cell BK379.out 3).trans rfl, (blk_cell BK379.out 4).trans rfl⟩ (fun hHeld => ?_)
  clear hK K
  refine norm_ (a' := ?_) ?_ ?_
  rotate_left
  ·show Act.put _ (some 30) _ = _
   simp only [Act.put, sA, sB, sC, i64_w, i32_w]
   rfl
  refine pure_ (i := 8) (N := some 31) (v := ?_) (a' := ?_) #[true, true, true, true, true, true, true, true, true, false] rfl rfl (any_of HT_.out kf) (fun _ _ _ h => h) (Or.inl ⟨by rfl, ?_⟩) ?_ ?_
  rotate_left
  ·intro w'
   go_simp
   with_reducible rfl
  rotate_left
  ·simp only [Act.put, sA, sB, sC, i64_w, i32_w]
   rfl
  refine pure_ (i := 9) (N := some 2) (v := ?_) (a' := ?_) #[true, true, true, true, true, true, true, true, true, true] rfl rfl (any_of HT_.out kf) (fun _ _ _ h => h) (Or.inl ⟨by rfl, ?_⟩) ?_ ?_
  rotate_left
  ·intro w'
   go_simp
   with_reducible rfl
  rotate_left
  ·simp only [Act.put, sA, sB, sC, i64_w, i32_w]
   rfl
  refine done_ (done_of HT_.out kf) ?_
  try go_wp2
  go_ret
  exact ⟨by first | rfl | (simp [bneNil]; done) | (simp [errW_none, errW_some] <;> rfl) | (simp only [← hji2, ← hji6]; first | rfl | (simp [errW_none, errW_some] <;> rfl)) | (simp [*, errW_none, errW_some] <;> rfl), bl⟩
 ·rw [if_neg c13] at H
  have c13b0 : (t380.toList == t388.toList) = false := beq_eq_false_iff_ne.mpr c13
  have c13b1 : (t380.toList != t388.toList) = true := bne_iff_ne.mpr c13
  exact absurd ((Option.some.inj H).trans HT_r.out) (by decide)

/-- THE ONE PURE STATEMENT of postriderlaw06_PathTells: yours. -/
def postriderlaw06_PathTells.Pure : Prop := ∀ (a0_0 : Bool) (a0_1 : Bool) (l0_2 : List ByteArray) (a0_3 : ByteArray) (a0_4 : ByteArray), l0_2.length ≤ maxLen → (∀ y_ ∈ l0_2, y_.size ≤ maxLen) → a0_3.size ≤ maxLen → a0_4.size ≤ maxLen → ∃ k, postriderlaw06_PathTells.f k a0_0 a0_1 l0_2 a0_3 a0_4 = some true
theorem postriderlaw06_PathTells.walk (P : postriderlaw06_PathTells.Pure) (a0_0 : Bool) (a0_1 : Bool) (A0_2 : Option Addr) (c0_2 : Nat) (l0_2 : List ByteArray) (a0_3 : ByteArray) (a0_4 : ByteArray) (w : World) (hr0_2 : Kd.C Kd.string w A0_2 l0_2.length l0_2) (hc0_2 : l0_2.length ≤ c0_2) (hm0_2 : l0_2.length ≤ maxLen) (hw0_2 : ∀ y_ ∈ l0_2, y_.size ≤ maxLen) (w0_3 : a0_3.size ≤ maxLen) (w0_4 : a0_4.size ≤ maxLen) (hG : Glob w) :
  Calls Tryz.prog 3 #[.agg #[.bool a0_0, .bool a0_1, .slice A0_2 l0_2.length c0_2, .string a0_3, .string a0_4]] w fun e w' => e = .returned (.bool true) ∧ Below w.heap.size w w' := by
 obtain ⟨k, h⟩ := P a0_0 a0_1 l0_2 a0_3 a0_4 hm0_2 hw0_2 w0_3 w0_4
 refine (postriderlaw06_PathTells.calls k a0_0 a0_1 _ _ l0_2 a0_3 a0_4 true w hr0_2 hc0_2 hG rfl h).mono ?_
 rintro e w' ⟨rfl, hd⟩
 exact ⟨rfl, hd⟩

end Go.Proofs.YtgelfnjicglmbaaGreatDoor.Q
end
